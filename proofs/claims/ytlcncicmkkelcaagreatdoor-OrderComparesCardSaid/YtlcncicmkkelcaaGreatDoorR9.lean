/- Valid names and the plain type, walked. (Parts of one proof, put together.) -/
import Derived.Test.YtlcncicmkkelcaaGreatDoorR8
set_option linter.unusedSimpArgs false
set_option linter.unusedVariables false
set_option linter.deprecated false

/- Valid names and the plain type, walked. -/
namespace Go.Vs.Tryz
open Go Go.Vs
variable {A : Oracle}

/-- A sign of a name. -/
def charOk (c : UInt8) : Bool := (97 ≤ c.toNat && c.toNat ≤ 122) || (65 ≤ c.toNat && c.toNat ≤ 90) || (48 ≤ c.toNat && c.toNat ≤ 57) || c.toNat == 95
def keyWords : List Str := [[100, 97, 116, 97], [108, 101, 116], [114, 101, 99], [105, 110], [99, 97, 115, 101], [111, 102], [101, 110, 100]]
/-- A name whose first letter is from lo to hi. -/
def nameOk (lo hi : Nat) (s : Str) : Prop := s.length ≤ 12 ∧ (∃ c, s[0]? = some c ∧ lo ≤ c.toNat ∧ c.toNat ≤ hi) ∧ (∀ c ∈ s, charOk c = true) ∧ s ∉ keyWords

theorem name170 (lo hi : Nat) (s : Str) (h : nameOk lo hi s) : (K A).call 157 [strV s, .sc (.c (.int .u8 lo)), .sc (.c (.int .u8 hi))] [] = some (boolV true, []) := by
  refine fn_of (vf := v157) (by kernel_rfl) rfl (by simp) ?_
  obtain ⟨h1, ⟨c, hc, h2, h3⟩, h4, h5⟩ := h
  simp only [keyWords, List.mem_cons, List.not_mem_nil, or_false, not_or] at h5
  obtain ⟨k1, k2, k3, k4, k5, k6, k7⟩ := h5
  have hl : 0 < s.length := (List.getElem?_eq_some_iff.1 hc).1
  have e1 : ¬ (s.length : Int) < 1 := by omega
  have e2 : ¬ (12 : Int) < s.length := by omega
  have e3 : ¬ (c.toNat : Int) < lo := by omega
  have e4 : ¬ (hi : Int) < c.toNat := by omega
  unfold v157
  simp (disch := first | omega | (simp; done) | (simp; omega)) [e1, e2, e3, e4, hc, -getElem?_pos]
  refine wp_loopI (fun i t => t = ⟨[(0, strV s), (31, intV s.length), (32, intV i)], []⟩) s.length (by simp) ?_ ?_
  · rintro i t hi rfl
    obtain ⟨d, hd⟩ := get_of_lt hi
    have hdo := h4 d (List.mem_of_getElem? hd)
    simp only [charOk, Bool.or_eq_true, Bool.and_eq_true, decide_eq_true_eq, beq_iff_eq] at hdo
    unfold l157_0
    by_cases a1 : 97 ≤ d.toNat
    · by_cases a2 : d.toNat ≤ 122
      · have b1 : (97 : Int) ≤ d.toNat := by omega
        have b2 : (d.toNat : Int) ≤ 122 := by omega
        simp (disch := first | omega | (simp; done) | (simp; omega)) [hi, hd, b1, b2, -getElem?_pos]
      · omega
    · have b1 : ¬ (97 : Int) ≤ d.toNat := by omega
      by_cases a3 : 65 ≤ d.toNat
      · have b3 : (65 : Int) ≤ d.toNat := by omega
        by_cases a4 : d.toNat ≤ 90
        · have b4 : (d.toNat : Int) ≤ 90 := by omega
          simp (disch := first | omega | (simp; done) | (simp; omega)) [hi, hd, b1, b3, b4, -getElem?_pos]
        · have b4 : ¬ (d.toNat : Int) ≤ 90 := by omega
          have b5 : (d.toNat : Int) = 95 := by omega
          simp (disch := first | omega | (simp; done) | (simp; omega)) [hi, hd, b5, -getElem?_pos]
      · have b3 : ¬ (65 : Int) ≤ d.toNat := by omega
        have b4 : ¬ (d.toNat : Int) < 48 := by omega
        have b5 : ¬ (57 : Int) < d.toNat := by omega
        simp (disch := first | omega | (simp; done) | (simp; omega)) [hi, hd, b1, b3, b4, b5, -getElem?_pos]
  · rintro t rfl
    unfold l157_0
    simp (disch := first | omega | (simp; done) | (simp; omega)) [k1, k2, k3, k4, k5, k6, k7, -getElem?_pos]

theorem lower109 (s : Str) (h : nameOk 97 122 s) : (K A).call 111 [strV s] [] = some (boolV true, []) := by
  have h1 : (K A).call 157 [strV s, .sc (.c (.int .u8 97)), .sc (.c (.int .u8 122))] [] = some (boolV true, []) := name170 (A := A) 97 122 s h
  have hs : ¬ s = [] := by
    rintro rfl
    obtain ⟨_, ⟨c, hc, _⟩, _⟩ := h
    cases hc
  have hv : (K A).call 112 [tyV (.mk 5 s 0 0 [])] [] = some (boolV true, []) := by
    refine fn_of (vf := v112) (by kernel_rfl) rfl (by simp) ?_
    unfold v112
    simp (disch := first | omega | (simp; done) | (simp; omega)) [h1, hs, Ty.kind, Ty.name, Ty.id, Ty.home, Ty.args, -getElem?_pos]
  refine fn_of (vf := v111) (by kernel_rfl) rfl (by simp) ?_
  simp [tyV, Ty.row, Ty.rows] at hv
  unfold v111
  simp (disch := first | omega | (simp; done) | (simp; omega)) [hv, -getElem?_pos]

theorem upper108 (s : Str) (h : nameOk 65 90 s) : (K A).call 110 [strV s] [] = some (boolV true, []) := by
  have h1 : (K A).call 157 [strV s, .sc (.c (.int .u8 65)), .sc (.c (.int .u8 90))] [] = some (boolV true, []) := name170 (A := A) 65 90 s h
  have hs : ¬ s = [] := by
    rintro rfl
    obtain ⟨_, ⟨c, hc, _⟩, _⟩ := h
    cases hc
  have hne : ¬ s = [45, 62] := by
    rintro rfl
    obtain ⟨_, ⟨c, hc, h2, h3⟩, _⟩ := h
    cases hc
    simp at h2
  have hv : (K A).call 112 [tyV (.mk 4 s 0 0 [])] [] = some (boolV true, []) := by
    have hcon : (K A).call 158 [strV s, intV 0] [] = some (boolV true, []) := by
      refine fn_of (vf := v158) (by kernel_rfl) rfl (by simp) ?_
      unfold v158
      by_cases hi : s = [73, 110, 116]
      · simp (disch := first | omega | (simp; done) | (simp; omega)) [hi, -getElem?_pos]
      · simp (disch := first | omega | (simp; done) | (simp; omega)) [hne, hi, h1, -getElem?_pos]
    have hall : (K A).call 159 [.sc (.c (.sl [])), .sc (.c (.fn 160 [] []))] [] = some (boolV false, []) := lim_of (n := 10) (by kernel_rfl)
    refine fn_of (vf := v112) (by kernel_rfl) rfl (by simp) ?_
    unfold v112
    simp (disch := first | omega | (simp; done) | (simp; omega)) [hcon, hall, hs, Ty.kind, Ty.name, Ty.id, Ty.home, Ty.args, -getElem?_pos]
  refine fn_of (vf := v110) (by kernel_rfl) rfl (by simp) ?_
  simp [tyV, Ty.row, Ty.rows] at hv
  unfold v110
  simp (disch := first | omega | (simp; done) | (simp; omega)) [hv, -getElem?_pos]
end Go.Vs.Tryz

/- Terms: their heads, arguments and sizes; which are well made (plain). -/
namespace Go.Vs.Tryz
open Go Go.Vs

def spineF (e : Exp) (l : List (Exp × List Exp)) : Exp × List Exp :=
  if e.kind = 5 then match e.kids, l with
    | [_, x], r :: _ => (r.1, r.2 ++ [x])
    | _, _ => (e, [])
  else (e, [])
/-- The head and the arguments. -/
def spine (e : Exp) : Exp × List Exp := e.fold spineF
theorem spine_app {e f x : Exp} (h : e.kind = 5) (hk : e.kids = [f, x]) : spine e = ((spine f).1, (spine f).2 ++ [x]) := by
  unfold spine
  rw [Exp.fold_eq]
  simp [spineF, h, hk, Exp.children]
theorem spine_no {e : Exp} (h : e.kind ≠ 5) : spine e = (e, []) := by
  unfold spine
  rw [Exp.fold_eq]
  simp [spineF, h]

/-- The size of a term. -/
def sizeM (e : Exp) : Nat := e.fold fun e l => if e.kind = 5 then l.sum else if e.kind = 8 then 1 + (l.drop 1).sum else 1 + l.sum
theorem sizeM_eq (e : Exp) : sizeM e = if e.kind = 5 then (e.children.map sizeM).sum else if e.kind = 8 then 1 + ((e.children.map sizeM).drop 1).sum else 1 + (e.children.map sizeM).sum := by
  unfold sizeM
  rw [Exp.fold_eq]

/-- A node of a term. -/
def good1 (e : Exp) : Prop := e.pos = 0 ∧ e.num = 0 ∧ e.ty = tz ∧
  ((e.kind = 1 ∧ nameOk 97 122 e.name ∧ e.kids = [] ∧ e.arms = []) ∨ (e.kind = 2 ∧ nameOk 65 90 e.name ∧ e.kids = [] ∧ e.arms = []) ∨
    (e.kind = 4 ∧ nameOk 97 122 e.name ∧ (∃ x, e.kids = [x]) ∧ e.arms = []) ∨
    (e.kind = 5 ∧ e.name = [] ∧ (∃ f x, e.kids = [f, x] ∧ (f.kind = 1 ∨ f.kind = 2 ∨ f.kind = 5)) ∧ e.arms = []) ∨
    (e.kind = 8 ∧ e.name = [] ∧ (∃ x, e.kids = [x] ∧ x.kind = 1) ∧ e.arms ≠ [] ∧ ∀ a ∈ e.arms, a.1.pos = 0 ∧ nameOk 65 90 a.1.con ∧ a.1.vars.length ≤ 4 ∧ ∀ v ∈ a.1.vars, nameOk 97 122 v))
def good (e : Exp) : Prop := e.fold fun e l => good1 e ∧ ∀ p ∈ l, p
theorem good_eq (e : Exp) : good e = (good1 e ∧ ∀ x ∈ e.children, good x) := by
  have := Exp.fold_eq (fun e (l : List Prop) => good1 e ∧ ∀ p ∈ l, p) e
  unfold good
  rw [this]
  simp only [List.forall_mem_map]
theorem good.one {e : Exp} (h : good e) : good1 e := by rw [good_eq] at h; exact h.1
theorem good.child {e x : Exp} (h : good e) (hx : x ∈ e.children) : good x := by rw [good_eq] at h; exact h.2 x hx

/-- The five kinds of terms. -/
theorem good.cases {e : Exp} (h : good e) : (e.kind = 1 ∧ nameOk 97 122 e.name ∧ e.kids = [] ∧ e.arms = []) ∨ (e.kind = 2 ∧ nameOk 65 90 e.name ∧ e.kids = [] ∧ e.arms = []) ∨
    (e.kind = 4 ∧ nameOk 97 122 e.name ∧ (∃ x, e.kids = [x] ∧ good x) ∧ e.arms = []) ∨
    (e.kind = 5 ∧ e.name = [] ∧ (∃ f x, e.kids = [f, x] ∧ (f.kind = 1 ∨ f.kind = 2 ∨ f.kind = 5) ∧ good f ∧ good x) ∧ e.arms = []) ∨
    (e.kind = 8 ∧ e.name = [] ∧ (∃ x, e.kids = [x] ∧ x.kind = 1 ∧ good x) ∧ e.arms ≠ [] ∧ ∀ a ∈ e.arms, a.1.pos = 0 ∧ nameOk 65 90 a.1.con ∧ a.1.vars.length ≤ 4 ∧ (∀ v ∈ a.1.vars, nameOk 97 122 v) ∧ good a.2) := by
  obtain ⟨_, _, _, h1⟩ := h.one
  rcases h1 with h1 | h1 | ⟨a, b, ⟨x, hx⟩, c⟩ | ⟨a, b, ⟨f, x, hx, hf⟩, c⟩ | ⟨a, b, ⟨x, hx, hk⟩, c, d⟩
  · exact .inl h1
  · exact .inr (.inl h1)
  · exact .inr (.inr (.inl ⟨a, b, ⟨x, hx, h.child (by simp [Exp.children, hx])⟩, c⟩))
  · exact .inr (.inr (.inr (.inl ⟨a, b, ⟨f, x, hx, hf, h.child (by simp [Exp.children, hx]), h.child (by simp [Exp.children, hx])⟩, c⟩)))
  · refine .inr (.inr (.inr (.inr ⟨a, b, ⟨x, hx, hk, h.child (by simp [Exp.children, hx])⟩, c, fun y hy => ?_⟩)))
    obtain ⟨p, q, r, s⟩ := d y hy
    exact ⟨p, q, r, s, h.child (by simp only [Exp.children, List.mem_append, List.mem_map]; exact .inr ⟨y, hy, rfl⟩)⟩

theorem arm_mem {e : Exp} {a : ArmH × Exp} (h : a ∈ e.arms) : a.2 ∈ e.children := List.mem_append_right _ (List.mem_map_of_mem h)

/-- What the spine of a term is made of: a variable or a constructor, and smaller terms; the sizes. -/
theorem spine_good (e : Exp) : good e → (e.kind = 1 ∨ e.kind = 2 ∨ e.kind = 5) → ((spine e).1.kind = 1 ∨ (spine e).1.kind = 2) ∧ good (spine e).1 ∧ (∀ x ∈ (spine e).2, good x) ∧
    sizeM e = 1 + ((spine e).2.map sizeM).sum ∧ 1 + ((spine e).2.map Exp.weight).sum + (spine e).2.length ≤ e.weight := by
  induction e using Exp.ind with
  | h e ih =>
    intro hg hk
    by_cases h5 : e.kind = 5
    · rcases hg.cases with h | h | h | ⟨_, _, ⟨f, x, hfx, hf, gf, gx⟩, ha⟩ | h
      · omega
      · omega
      · omega
      · have hc : e.children = [f, x] := by simp [Exp.children, hfx, ha]
        obtain ⟨h1, h2, h3, h4, h6⟩ := ih f (by simp [hc]) gf hf
        rw [spine_app h5 hfx, sizeM_eq, if_pos h5, hc, e.weight_eq, ha, hc]
        refine ⟨h1, h2, ?_, ?_, ?_⟩
        · intro y hy
          rcases List.mem_append.1 hy with hy | hy
          · exact h3 y hy
          · simp only [List.mem_singleton] at hy
            exact hy ▸ gx
        · simp [h4]; omega
        · simp; omega
      · omega
    · rw [spine_no h5]
      have hk2 : e.kind = 1 ∨ e.kind = 2 := by omega
      have hk8 : e.kind ≠ 8 := by omega
      refine ⟨hk2, hg, by simp, ?_, by simpa using e.weight_pos⟩
      have hc : e.children = [] := by
        rcases hg.cases with h | h | h | h | h
        · simp [Exp.children, h.2.2.1, h.2.2.2]
        · simp [Exp.children, h.2.2.1, h.2.2.2]
        · omega
        · omega
        · omega
      rw [sizeM_eq, if_neg h5, if_neg hk8, hc]

theorem sizeM_le (e : Exp) : sizeM e ≤ e.weight := by
  induction e using Exp.ind with
  | h e ih =>
    have h1 : (e.children.map sizeM).sum ≤ (e.children.map Exp.weight).sum := sum_le ih
    have h2 : ((e.children.map sizeM).drop 1).sum ≤ (e.children.map sizeM).sum := by
      have : (e.children.map sizeM).sum = ((e.children.map sizeM).take 1).sum + ((e.children.map sizeM).drop 1).sum := by rw [← List.sum_append, List.take_append_drop]
      omega
    rw [sizeM_eq, e.weight_eq]
    split
    · omega
    · split <;> omega
end Go.Vs.Tryz

/- Spine and Size by the program, walked. -/
namespace Go.Vs.Tryz
open Go Go.Vs
variable {A : Oracle}

abbrev expsV (l : List Exp) : V := .sc (.c (.sl (Exp.rows l)))

theorem reverse107' (l : List Exp) (h : l.length ≤ 1073741824) : (K A).call 109 [.sc (.arr 0 l.length)] [.arr 11 (wr (Exp.rows l)) 0] = some (.tu [], [.arr 11 (wr (Exp.rows l.reverse)) 0]) := by
  obtain ⟨_, rfl, h2⟩ := reverse107 (A := A) l h
  rw [swapTo_rev] at h2
  exact h2

def SpineI (e : Exp) (i : Nat) (s : St) : Prop := ∃ cur acc, good cur ∧ (cur.kind = 1 ∨ cur.kind = 2 ∨ cur.kind = 5) ∧ acc.length = i ∧ spine e = ((spine cur).1, (spine cur).2 ++ acc.reverse) ∧
  s = ⟨[(1, .sc (.ptr 64 0)), (2, .sc (.ptr 128 0)), (4, .sc (.arr 257 i))], [(64, some (.box (wc cur.row))), (128, some (.box [zi, zi, zs, zi, .nil, .nil, zi, zs, zi, zi, .nil])), (257, some (.arr 11 (wr (Exp.rows acc)) 0))]⟩

theorem spine73 (e : Exp) (hg : good e) (hk : e.kind = 1 ∨ e.kind = 2 ∨ e.kind = 5) (hl : e.weight ≤ 1073741824) : (K A).call 62 [expV e] [] = some (.tu [expV (spine e).1, expsV (spine e).2], []) := by
  refine fn_of (vf := v62) (by kernel_rfl) rfl (by simp) ?_
  obtain ⟨s1, s2, s3, s4, s5⟩ := spine_good e hg hk
  unfold v62
  simp (disch := first | omega | (simp; done) | (simp; omega)) [-getElem?_pos]
  refine wp_loopI (SpineI e) (spine e).2.length ⟨e, [], hg, hk, rfl, by simp, by simp⟩ ?_ ?_
  · rintro i s hi ⟨cur, acc, hc, hck, ha, hs, rfl⟩
    have h5 : cur.kind = 5 := by
      by_cases h5 : cur.kind = 5
      · exact h5
      · rw [hs, spine_no h5] at hi
        simp [ha] at hi
    rcases hc.cases with h | h | h | ⟨_, _, ⟨f, x, hfx, hf, gf, gx⟩, har⟩ | h
    · omega
    · omega
    · omega
    · unfold l62_0
      simp (disch := first | omega | (simp; done) | (simp; omega)) [h5, hfx, ha, List.getElem?_cons_zero, -getElem?_pos]
      refine ⟨f, acc ++ [x], gf, hf, by simp [ha], ?_, by simp [ha]⟩
      rw [hs, spine_app h5 hfx]
      simp
    · omega
  · rintro s ⟨cur, acc, hc, hck, ha, hs, rfl⟩
    have h5 : ¬ cur.kind = 5 := by
      intro h5
      rcases hc.cases with h | h | h | ⟨_, _, ⟨f, x, hfx, hf, gf, gx⟩, har⟩ | h
      · omega
      · omega
      · omega
      · rw [hs, spine_app h5 hfx] at ha
        simp at ha
        omega
      · omega
    have hr : (spine e).2 = acc.reverse := by rw [hs, spine_no h5]; simp
    have hc1 : (spine e).1 = cur := by rw [hs, spine_no h5]
    have hv := reverse107' (A := A) acc (by omega)
    unfold l62_0
    simp (disch := first | omega | (simp; done) | (simp; omega)) [h5, hv, hr, hc1, -getElem?_pos]

theorem _root_.Go.Vs.Exp.indW {P : Exp → Prop} (h : ∀ e, (∀ x : Exp, x.weight < e.weight → P x) → P e) (e : Exp) : P e := (measure Exp.weight).wf.induction e h

theorem size32 (e : Exp) : good e → e.weight ≤ 1073741824 → (K A).call 41 [expV e] [] = some (intV (sizeM e), []) := by
  induction e using Exp.indW with
  | h e ih =>
  intro hg hl
  refine fn_of (vf := v41) (by kernel_rfl) rfl (by simp) ?_
  have hle := sizeM_le e
  rcases hg.cases with ⟨h, _, hk, ha⟩ | ⟨h, _, hk, ha⟩ | ⟨h, _, ⟨x, hk, gx⟩, ha⟩ | ⟨h, _, ⟨f, x, hfx, hf, gf, gx⟩, ha⟩ | ⟨h, _, ⟨x, hk, hx1, gx⟩, ha, hall⟩
  · unfold v41
    simp (disch := first | omega | (simp; done) | (simp; omega)) [h, sizeM_eq e, Exp.children, hk, ha, -getElem?_pos]
  · unfold v41
    simp (disch := first | omega | (simp; done) | (simp; omega)) [h, sizeM_eq e, Exp.children, hk, ha, -getElem?_pos]
  · have hxw := Exp.child_lt (e := e) (x := x) (by simp [Exp.children, hk])
    have hx := ih x hxw gx (by omega)
    have hxl := sizeM_le x
    have hs : sizeM e = 1 + sizeM x := by rw [sizeM_eq]; simp [h, Exp.children, hk, ha]
    unfold v41
    simp (disch := first | omega | (simp; done) | (simp; omega)) [h, hk, -getElem?_pos]
    refine wp_loop (fun i => ⟨[(3, intV (1 + (([x].take i).map sizeM).sum : Nat)), (17, expsV [x]), (18, intV 1), (19, intV i)], [(64, some (.box (wc e.row)))]⟩) 1 ?_ ?_ ?_
    · simp
    · intro i hi
      obtain rfl : i = 0 := by omega
      unfold l41_0
      simp (disch := first | omega | (simp; done) | (simp; omega)) [hx, List.getElem?_cons_zero, -getElem?_pos]
    · unfold l41_0
      simp (disch := first | omega | (simp; done) | (simp; omega)) [hs, -getElem?_pos]
  · obtain ⟨s1, s2, s3, s4, s5⟩ := spine_good e hg (by omega)
    have hsp := spine73 (A := A) e hg (by omega) hl
    generalize hL : (spine e).2 = l at s3 s4 s5 hsp
    have sum_i : ∀ i, ((l.take i).map sizeM).sum ≤ (l.map sizeM).sum := fun i => by rw [List.map_take]; exact sum_take
    unfold v41
    simp (disch := first | omega | (simp; done) | (simp; omega)) [h, hsp, -getElem?_pos]
    refine wp_loop (fun i => ⟨[(3, intV (1 + ((l.take i).map sizeM).sum : Nat)), (50, expsV l), (51, intV l.length), (52, intV i)], []⟩) l.length ?_ ?_ ?_
    · simp
    · intro i hi
      obtain ⟨y, hy⟩ := get_of_lt hi
      have hym : y ∈ l := List.mem_of_getElem? hy
      have hyw : y.weight ≤ (l.map Exp.weight).sum := sum_mem (f := Exp.weight) hym
      have hrec := ih y (by omega) (s3 y hym) (by omega)
      have h1 := sum_i (i + 1)
      rw [take_next hy] at h1 ⊢
      simp only [List.map_append, List.sum_append, List.map_cons, List.map_nil, List.sum_cons, List.sum_nil] at h1 ⊢
      unfold l41_2
      simp (disch := first | omega | (simp; done) | (simp; omega)) [hi, hy, hrec, -getElem?_pos]
      rw [List.map_take] at h1
      rw [wrap_in _ (by omega)]
      omega
    · unfold l41_2
      simp (disch := first | omega | (simp; done) | (simp; omega)) [s4, -getElem?_pos]
  · have hs : sizeM e = 1 + (e.arms.map fun a => sizeM a.2).sum := by rw [sizeM_eq]; simp [h, Exp.children, hk, Function.comp_def]
    have sum_i : ∀ i, ((e.arms.take i).map fun a => sizeM a.2).sum ≤ (e.arms.map fun a => sizeM a.2).sum := fun i => by rw [List.map_take]; exact sum_take
    have hal : e.arms.length ≤ 1073741824 := by have := e.children_le; rw [e.children_len] at this; omega
    unfold v41
    simp (disch := first | omega | (simp; done) | (simp; omega)) [h, -getElem?_pos]
    refine wp_loop (fun i => ⟨[(3, intV (1 + ((e.arms.take i).map fun a => sizeM a.2).sum : Nat)), (31, .sc (.c (.sl (Exp.armRows e.arms)))), (32, intV e.arms.length), (33, intV i)], [(64, some (.box (wc e.row)))]⟩) e.arms.length ?_ ?_ ?_
    · simp
    · intro i hi
      obtain ⟨y, hy⟩ := get_of_lt hi
      have hym : y ∈ e.arms := List.mem_of_getElem? hy
      have hyw := Exp.child_lt (arm_mem hym)
      have hrec := ih y.2 hyw (hall y hym).2.2.2.2 (by omega)
      have h1 := sum_i (i + 1)
      rw [take_next hy] at h1 ⊢
      simp only [List.map_append, List.sum_append, List.map_cons, List.map_nil, List.sum_cons, List.sum_nil] at h1 ⊢
      unfold l41_1
      simp (disch := first | omega | (simp; done) | (simp; omega)) [hi, hy, hrec, -getElem?_pos]
      rw [List.map_take] at h1
      rw [wrap_in _ (by omega)]
      omega
    · unfold l41_1
      simp (disch := first | omega | (simp; done) | (simp; omega)) [hs, -getElem?_pos]
end Go.Vs.Tryz

/- How two terms compare (plain). -/
namespace Go.Vs.Tryz
open Go Go.Vs

def conExp (s : Str) : Exp := .mk 2 0 s 0 [] [] tz
def kid0 (e : Exp) : Exp := (e.kids[0]?).getD e
def con0 (e : Exp) : Exp := conExp (((e.arms[0]?).map fun a => a.1.con).getD [])
/-- How two terms compare, by the ranks of heads. -/
def cmpF (rank : List Str → Exp → Int) : Nat → List Str → List Str → Exp → Exp → Int
  | 0, _, _, _, _ => 0
  | n + 1, l, m, a, b => orI [cmpI (sizeM a) (sizeM b), cmpI (kindM a) (kindM b),
      if a.kind = 4 then cmpF rank n (l ++ [a.name]) (m ++ [b.name]) (kid0 a) (kid0 b)
      else if a.kind = 8 then orI (cmpI (rank l (kid0 a)) (rank m (kid0 b)) :: cmpI (rank l (con0 a)) (rank m (con0 b)) ::
        (List.zipWith (fun p q => cmpF rank n (l ++ p.1.vars) (m ++ q.1.vars) p.2 q.2) a.arms b.arms ++ [cmpI a.arms.length b.arms.length]))
      else orI [cmpI (rank l (spine a).1) (rank m (spine b).1), cmpI (spine a).2.length (spine b).2.length, orI (List.zipWith (cmpF rank n l m) (spine a).2 (spine b).2)]]
end Go.Vs.Tryz
