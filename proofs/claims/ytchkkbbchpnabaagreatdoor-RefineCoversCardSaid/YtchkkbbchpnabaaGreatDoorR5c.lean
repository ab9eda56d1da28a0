/- Equal types by both, walked: they answer whether the types are the same. -/
import Derived.Test.YtchkkbbchpnabaaGreatDoorR4c
import Derived.Test.YtchkkbbchpnabaaGreatDoorR3c
set_option linter.unusedSimpArgs false
set_option linter.unusedVariables false
set_option linter.deprecated false

/- Equal types by both, walked: they answer whether the types are the same. -/
namespace Go.Vs.Tryz
open Go Go.Vs
variable {A : Oracle}

def IffB (P : Prop) (r : V × List Obj) : Prop := ∃ b : Bool, (b = true ↔ P) ∧ r = (boolV b, [])
theorem IffB.yes {P : Prop} (h : P) : IffB P (boolV true, []) := ⟨true, by simp [h], rfl⟩
theorem IffB.no {P : Prop} (h : ¬ P) : IffB P (boolV false, []) := ⟨false, by simp [h], rfl⟩
theorem Ty.ext {a b : Ty} (h1 : a.kind = b.kind) (h2 : a.name = b.name) (h3 : a.id = b.id) (h4 : a.home = b.home) (h5 : a.args = b.args) : a = b := by
  cases a; cases b; grind [Ty.kind, Ty.name, Ty.id, Ty.home, Ty.args]
theorem list_eq {α : Type} {l m : List α} (hn : l.length = m.length) (h : ∀ (i : Nat) (x y : α), l[i]? = some x → m[i]? = some y → x = y) : l = m := by
  refine List.ext_getElem? fun i => ?_
  grind

theorem teq134 (l m : List Ty) (hl : l.length ≤ 687194767360) (ih : ∀ x ∈ l, ∀ b, ∃ r, IffB (x = b) r ∧ (K A).call 42 [tyV x, tyV b] [] = some r) : ∃ r, IffB (l = m) r ∧ (K A).call 45 [tysV l, tysV m] [] = some r := by
  refine fn_ofE _ (vf := v45) (by rfl) rfl (by simp) ?_
  unfold v45
  by_cases hn : l.length = m.length
  · simp (disch := first | omega | (simp; done) | (simp; omega)) [hn]
    refine wp_loopI (fun i s => (∀ (j : Nat) x y, j < i → l[j]? = some x → m[j]? = some y → x = y) ∧ s = ⟨[(0, tysV l), (1, tysV m), (5, intV i)], []⟩) l.length ⟨by omega, by simp⟩ ?_ ?_
    · rintro i s hi ⟨hs, rfl⟩
      obtain ⟨x, hx⟩ := get_of_lt hi
      obtain ⟨y, hy⟩ := get_of_lt (l := m) (i := i) (by omega)
      obtain ⟨_, ⟨b, hb, rfl⟩, hc⟩ := ih x (List.mem_of_getElem? hx) y
      unfold l45_0
      cases b with
      | true =>
        have hxy : x = y := hb.1 rfl
        simp (disch := first | omega | (simp; done) | (simp; omega)) [hi, hx, hy, hc, -getElem?_pos]
        grind
      | false =>
        have hne : l ≠ m := by
          grind
        simp (disch := first | omega | (simp; done) | (simp; omega)) [hi, hx, hy, hc, -getElem?_pos]
        exact IffB.no hne
    · rintro s ⟨hs, rfl⟩
      have he : l = m := list_eq hn fun i x y hx hy => hs i x y (List.getElem?_eq_some_iff.1 hx).1 hx hy
      unfold l45_0
      simp (disch := first | omega | (simp; done) | (simp; omega))
      exact IffB.yes he
  · have hn' : ¬ (l.length : Int) = m.length := by omega
    have hne : l ≠ m := fun h => hn (by rw [h])
    simp (disch := first | omega | (simp; done) | (simp; omega)) [hn, hn']
    exact IffB.no hne

set_option maxHeartbeats 2000000 in
theorem teq85 : ∀ (n : Nat) (a b : Ty), a.size ≤ n → n ≤ 687194767360 → ∃ r, IffB (a = b) r ∧ (K A).call 42 [tyV a, tyV b] [] = some r := by
  intro n
  induction n with
  | zero =>
    intro a b ha
    have := a.size_pos
    omega
  | succ n ih =>
    intro a b ha hn
    have hal := a.args_lt
    obtain ⟨_, ⟨v, hv, rfl⟩, hc⟩ := teq134 (A := A) a.args b.args (by omega) (fun x hx b => ih x b (by have := Ty.arg_lt hx; omega) (by omega))
    refine fn_ofE _ (vf := v42) (by rfl) rfl (by simp) ?_
    unfold v42
    by_cases h1 : a.kind = b.kind
    · by_cases h2 : a.name = b.name
      · by_cases h3 : a.id = b.id
        · by_cases h4 : a.home = b.home
          · simp (disch := first | omega | (simp; done) | (simp; omega)) [h1, h2, h3, h4, hc]
            exact ⟨v, hv.trans ⟨fun h5 => Ty.ext h1 h2 h3 h4 h5, fun h => by rw [h]⟩, rfl⟩
          · simp (disch := first | omega | (simp; done) | (simp; omega)) [h1, h2, h3, h4, hc]
            grind [IffB.no]
        · simp (disch := first | omega | (simp; done) | (simp; omega)) [h1, h2, h3, hc]
          grind [IffB.no]
      · simp (disch := first | omega | (simp; done) | (simp; omega)) [h1, h2, hc]
        grind [IffB.no]
    · simp (disch := first | omega | (simp; done) | (simp; omega)) [h1, hc]
      grind [IffB.no]

end Go.Vs.Tryz

/- Equal up to the names that are bound, by the reference, walked. -/
namespace Go.Vs.Tryz
open Go Go.Vs
variable {A : Oracle}

def tyBd (e : Exp) : Prop := e.fold fun e l => e.ty.size ≤ 687194767360 ∧ ∀ p ∈ l, p
theorem tyBd_eq (e : Exp) : tyBd e = (e.ty.size ≤ 687194767360 ∧ ∀ x ∈ e.children, tyBd x) := by
  have := Exp.fold_eq (fun e (l : List Prop) => e.ty.size ≤ 687194767360 ∧ ∀ p ∈ l, p) e
  unfold tyBd
  rw [this]
  simp only [List.forall_mem_map]
theorem tyBd.one {e : Exp} (h : tyBd e) : e.ty.size ≤ 687194767360 := by rw [tyBd_eq] at h; exact h.1
theorem tyBd.child {e x : Exp} (h : tyBd e) (hx : x ∈ e.children) : tyBd x := by rw [tyBd_eq] at h; exact h.2 x hx

end Go.Vs.Tryz

/- Terms: their heads, arguments and sizes; which are well made (plain). -/
namespace Go.Vs.Tryz
open Go Go.Vs

def spineF (e : Exp) (l : List (Exp × List Exp)) : Exp × List Exp :=
  if e.kind = 5 then match e.kids, l with
    | [_, x], r :: _ => (r.1, r.2 ++ [x])
    | _, _ => (e, [])
  else (e, [])
/-- The head and the arguments. -/
def spine (e : Exp) : Exp × List Exp := e.fold spineF
theorem spine_app {e f x : Exp} (h : e.kind = 5) (hk : e.kids = [f, x]) : spine e = ((spine f).1, (spine f).2 ++ [x]) := by
  unfold spine
  rw [Exp.fold_eq]
  simp [spineF, h, hk, Exp.children]
theorem spine_no {e : Exp} (h : e.kind ≠ 5) : spine e = (e, []) := by
  unfold spine
  rw [Exp.fold_eq]
  simp [spineF, h]

/-- The size of a term. -/
def sizeM (e : Exp) : Nat := e.fold fun e l => if e.kind = 5 then l.sum else if e.kind = 8 then 1 + (l.drop 1).sum else 1 + l.sum
theorem sizeM_eq (e : Exp) : sizeM e = if e.kind = 5 then (e.children.map sizeM).sum else if e.kind = 8 then 1 + ((e.children.map sizeM).drop 1).sum else 1 + (e.children.map sizeM).sum := by
  unfold sizeM
  rw [Exp.fold_eq]

/-- A node of a term. -/
def good1 (e : Exp) : Prop := e.pos = 0 ∧ e.num = 0 ∧ e.ty = tz ∧
  ((e.kind = 1 ∧ nameOk 97 122 e.name ∧ e.kids = [] ∧ e.arms = []) ∨ (e.kind = 2 ∧ nameOk 65 90 e.name ∧ e.kids = [] ∧ e.arms = []) ∨
    (e.kind = 4 ∧ nameOk 97 122 e.name ∧ (∃ x, e.kids = [x]) ∧ e.arms = []) ∨
    (e.kind = 5 ∧ e.name = [] ∧ (∃ f x, e.kids = [f, x] ∧ (f.kind = 1 ∨ f.kind = 2 ∨ f.kind = 5)) ∧ e.arms = []) ∨
    (e.kind = 8 ∧ e.name = [] ∧ (∃ x, e.kids = [x] ∧ x.kind = 1) ∧ e.arms ≠ [] ∧ ∀ a ∈ e.arms, a.1.pos = 0 ∧ nameOk 65 90 a.1.con ∧ a.1.vars.length ≤ 4 ∧ ∀ v ∈ a.1.vars, nameOk 97 122 v))
def good (e : Exp) : Prop := e.fold fun e l => good1 e ∧ ∀ p ∈ l, p
theorem good_eq (e : Exp) : good e = (good1 e ∧ ∀ x ∈ e.children, good x) := by
  have := Exp.fold_eq (fun e (l : List Prop) => good1 e ∧ ∀ p ∈ l, p) e
  unfold good
  rw [this]
  simp only [List.forall_mem_map]
theorem good.one {e : Exp} (h : good e) : good1 e := by rw [good_eq] at h; exact h.1
theorem good.child {e x : Exp} (h : good e) (hx : x ∈ e.children) : good x := by rw [good_eq] at h; exact h.2 x hx

/-- The five kinds of terms. -/
theorem good.cases {e : Exp} (h : good e) : (e.kind = 1 ∧ nameOk 97 122 e.name ∧ e.kids = [] ∧ e.arms = []) ∨ (e.kind = 2 ∧ nameOk 65 90 e.name ∧ e.kids = [] ∧ e.arms = []) ∨
    (e.kind = 4 ∧ nameOk 97 122 e.name ∧ (∃ x, e.kids = [x] ∧ good x) ∧ e.arms = []) ∨
    (e.kind = 5 ∧ e.name = [] ∧ (∃ f x, e.kids = [f, x] ∧ (f.kind = 1 ∨ f.kind = 2 ∨ f.kind = 5) ∧ good f ∧ good x) ∧ e.arms = []) ∨
    (e.kind = 8 ∧ e.name = [] ∧ (∃ x, e.kids = [x] ∧ x.kind = 1 ∧ good x) ∧ e.arms ≠ [] ∧ ∀ a ∈ e.arms, a.1.pos = 0 ∧ nameOk 65 90 a.1.con ∧ a.1.vars.length ≤ 4 ∧ (∀ v ∈ a.1.vars, nameOk 97 122 v) ∧ good a.2) := by
  obtain ⟨_, _, _, h1⟩ := h.one
  rcases h1 with h1 | h1 | ⟨a, b, ⟨x, hx⟩, c⟩ | ⟨a, b, ⟨f, x, hx, hf⟩, c⟩ | ⟨a, b, ⟨x, hx, hk⟩, c, d⟩
  · exact .inl h1
  · exact .inr (.inl h1)
  · exact .inr (.inr (.inl ⟨a, b, ⟨x, hx, h.child (by simp [Exp.children, hx])⟩, c⟩))
  · exact .inr (.inr (.inr (.inl ⟨a, b, ⟨f, x, hx, hf, h.child (by simp [Exp.children, hx]), h.child (by simp [Exp.children, hx])⟩, c⟩)))
  · refine .inr (.inr (.inr (.inr ⟨a, b, ⟨x, hx, hk, h.child (by simp [Exp.children, hx])⟩, c, fun y hy => ?_⟩)))
    obtain ⟨p, q, r, s⟩ := d y hy
    exact ⟨p, q, r, s, h.child (by simp only [Exp.children, List.mem_append, List.mem_map]; exact .inr ⟨y, hy, rfl⟩)⟩

theorem kids_mem {e x : Exp} (h : x ∈ e.kids) : x ∈ e.children := List.mem_append_left _ h
theorem arm_mem {e : Exp} {a : ArmH × Exp} (h : a ∈ e.arms) : a.2 ∈ e.children := List.mem_append_right _ (List.mem_map_of_mem h)

/-- What the spine of a term is made of: a variable or a constructor, and smaller terms; the sizes. -/
theorem spine_good (e : Exp) : good e → (e.kind = 1 ∨ e.kind = 2 ∨ e.kind = 5) → ((spine e).1.kind = 1 ∨ (spine e).1.kind = 2) ∧ good (spine e).1 ∧ (∀ x ∈ (spine e).2, good x) ∧
    sizeM e = 1 + ((spine e).2.map sizeM).sum ∧ 1 + ((spine e).2.map Exp.weight).sum + (spine e).2.length ≤ e.weight := by
  induction e using Exp.ind with
  | h e ih =>
    intro hg hk
    by_cases h5 : e.kind = 5
    · rcases hg.cases with h | h | h | ⟨_, _, ⟨f, x, hfx, hf, gf, gx⟩, ha⟩ | h
      · omega
      · omega
      · omega
      · have hc : e.children = [f, x] := by simp [Exp.children, hfx, ha]
        obtain ⟨h1, h2, h3, h4, h6⟩ := ih f (by simp [hc]) gf hf
        rw [spine_app h5 hfx, sizeM_eq, if_pos h5, hc, e.weight_eq, ha, hc]
        refine ⟨h1, h2, ?_, ?_, ?_⟩
        · intro y hy
          rcases List.mem_append.1 hy with hy | hy
          · exact h3 y hy
          · simp only [List.mem_singleton] at hy
            exact hy ▸ gx
        · simp [h4]; omega
        · simp; omega
      · omega
    · rw [spine_no h5]
      have hk2 : e.kind = 1 ∨ e.kind = 2 := by omega
      have hk8 : e.kind ≠ 8 := by omega
      refine ⟨hk2, hg, by simp, ?_, by simpa using e.weight_pos⟩
      have hc : e.children = [] := by
        rcases hg.cases with h | h | h | h | h
        · simp [Exp.children, h.2.2.1, h.2.2.2]
        · simp [Exp.children, h.2.2.1, h.2.2.2]
        · omega
        · omega
        · omega
      rw [sizeM_eq, if_neg h5, if_neg hk8, hc]

theorem sizeM_le (e : Exp) : sizeM e ≤ e.weight := by
  induction e using Exp.ind with
  | h e ih =>
    have h1 : (e.children.map sizeM).sum ≤ (e.children.map Exp.weight).sum := sum_le ih
    have h2 : ((e.children.map sizeM).drop 1).sum ≤ (e.children.map sizeM).sum := by
      have : (e.children.map sizeM).sum = ((e.children.map sizeM).take 1).sum + ((e.children.map sizeM).drop 1).sum := by rw [← List.sum_append, List.take_append_drop]
      omega
    rw [sizeM_eq, e.weight_eq]
    split
    · omega
    · split <;> omega
end Go.Vs.Tryz

/- Spine and Size by the program, walked. -/
namespace Go.Vs.Tryz
open Go Go.Vs
variable {A : Oracle}

abbrev expsV (l : List Exp) : V := .sc (.c (.sl (Exp.rows l)))

def SpineI (e : Exp) (i : Nat) (s : St) : Prop := ∃ cur acc, good cur ∧ (cur.kind = 1 ∨ cur.kind = 2 ∨ cur.kind = 5) ∧ acc.length = i ∧ spine e = ((spine cur).1, (spine cur).2 ++ acc.reverse) ∧
  s = ⟨[(1, .sc (.ptr 64 0)), (2, .sc (.ptr 128 0)), (4, .sc (.arr 257 i))], [(64, some (.box (wc cur.row))), (128, some (.box [zi, zi, zs, zi, .nil, .nil, zi, zs, zi, zi, .nil])), (257, some (.arr 11 (wr (Exp.rows acc)) 0))]⟩

theorem _root_.Go.Vs.Exp.indW {P : Exp → Prop} (h : ∀ e, (∀ x : Exp, x.weight < e.weight → P x) → P e) (e : Exp) : P e := (measure Exp.weight).wf.induction e h

end Go.Vs.Tryz

/- How two terms compare (plain). -/
namespace Go.Vs.Tryz
open Go Go.Vs

def conExp (s : Str) : Exp := .mk 2 0 s 0 [] [] tz
def kid0 (e : Exp) : Exp := (e.kids[0]?).getD e
def con0 (e : Exp) : Exp := conExp (((e.arms[0]?).map fun a => a.1.con).getD [])
/-- How two terms compare, by the ranks of heads. -/
def cmpF (rank : List Str → Exp → Int) : Nat → List Str → List Str → Exp → Exp → Int
  | 0, _, _, _, _ => 0
  | n + 1, l, m, a, b => orI [cmpI (sizeM a) (sizeM b), cmpI (kindM a) (kindM b),
      if a.kind = 4 then cmpF rank n (l ++ [a.name]) (m ++ [b.name]) (kid0 a) (kid0 b)
      else if a.kind = 8 then orI (cmpI (rank l (kid0 a)) (rank m (kid0 b)) :: cmpI (rank l (con0 a)) (rank m (con0 b)) ::
        (List.zipWith (fun p q => cmpF rank n (l ++ p.1.vars) (m ++ q.1.vars) p.2 q.2) a.arms b.arms ++ [cmpI a.arms.length b.arms.length]))
      else orI [cmpI (rank l (spine a).1) (rank m (spine b).1), cmpI (spine a).2.length (spine b).2.length, orI (List.zipWith (cmpF rank n l m) (spine a).2 (spine b).2)]]
end Go.Vs.Tryz

/- Comparing is a total order: opposite ways, and chains (plain). -/
namespace Go.Vs.Tryz
open Go Go.Vs

theorem cmpI_anti (a b : Int) : cmpI a b = - cmpI b a := by
  unfold cmpI
  split <;> split <;> (try split) <;> omega
theorem cmpI_zero {a b : Int} : cmpI a b = 0 ↔ a = b := by
  unfold cmpI
  split
  · constructor <;> omega
  · split
    · constructor <;> omega
    · constructor <;> omega
theorem orI_cons (a : Int) (r : List Int) : orI (a :: r) = if a = 0 then orI r else a := rfl
theorem orI_one (a : Int) : orI [a] = a := by
  rw [orI_cons]
  split
  · rename_i h; rw [h]; rfl
  · rfl
theorem orI_neg : ∀ l : List Int, orI (l.map fun x => -x) = - orI l
  | [] => rfl
  | a :: r => by
    rw [List.map_cons, orI_cons, orI_cons, orI_neg r]
    by_cases h : a = 0
    · simp [h]
    · have : ¬ -a = 0 := by omega
      simp [h]
theorem orI_eq_zero : ∀ {l : List Int}, orI l = 0 ↔ ∀ x ∈ l, x = 0
  | [] => by simp [orI]
  | a :: r => by
    rw [orI_cons]
    by_cases h : a = 0
    · simp [h, orI_eq_zero (l := r)]
    · simp [h]
theorem zip_anti {α : Type} {f g : α → α → Int} (h : ∀ p q, f p q = - g q p) : ∀ l m : List α, List.zipWith f l m = (List.zipWith g m l).map fun x => -x
  | [], m => by simp
  | _ :: _, [] => by simp
  | a :: l, b :: m => by simp [h a b, zip_anti h l m]

theorem kind_of {a b : Exp} (h : kindM a = kindM b) : (a.kind = 4 ↔ b.kind = 4) ∧ (a.kind = 8 ↔ b.kind = 8) := by
  unfold kindM at h
  by_cases a4 : a.kind = 4 <;> by_cases b4 : b.kind = 4 <;> by_cases a8 : a.kind = 8 <;> by_cases b8 : b.kind = 8 <;> simp_all

variable (rk : List Str → Exp → Int)
/-- Behind sizes and kinds. -/
def cmpR (n : Nat) (l m : List Str) (a b : Exp) : Int :=
  if a.kind = 4 then cmpF rk n (l ++ [a.name]) (m ++ [b.name]) (kid0 a) (kid0 b)
  else if a.kind = 8 then orI (cmpI (rk l (kid0 a)) (rk m (kid0 b)) :: cmpI (rk l (con0 a)) (rk m (con0 b)) ::
    (List.zipWith (fun p q => cmpF rk n (l ++ p.1.vars) (m ++ q.1.vars) p.2 q.2) a.arms b.arms ++ [cmpI a.arms.length b.arms.length]))
  else orI [cmpI (rk l (spine a).1) (rk m (spine b).1), cmpI (spine a).2.length (spine b).2.length, orI (List.zipWith (cmpF rk n l m) (spine a).2 (spine b).2)]
theorem cmpF_succ (n : Nat) (l m : List Str) (a b : Exp) : cmpF rk (n + 1) l m a b = orI [cmpI (sizeM a) (sizeM b), cmpI (kindM a) (kindM b), cmpR rk n l m a b] := rfl

theorem cmpF_anti : ∀ (n : Nat) (l m : List Str) (a b : Exp), cmpF rk n l m a b = - cmpF rk n m l b a
  | 0, _, _, _, _ => rfl
  | n + 1, l, m, a, b => by
    rw [cmpF_succ, cmpF_succ]
    by_cases hk : kindM a = kindM b
    · obtain ⟨k4, k8⟩ := kind_of hk
      have key : cmpR rk n l m a b = - cmpR rk n m l b a := by
        unfold cmpR
        by_cases h4 : a.kind = 4
        · rw [if_pos h4, if_pos (k4.1 h4)]
          exact cmpF_anti n _ _ _ _
        · rw [if_neg h4, if_neg (fun h => h4 (k4.2 h))]
          by_cases h8 : a.kind = 8
          · rw [if_pos h8, if_pos (k8.1 h8), ← orI_neg]
            simp only [List.map_cons, List.map_append, List.map_nil]
            have hz : List.zipWith (fun (p q : ArmH × Exp) => cmpF rk n (l ++ p.1.vars) (m ++ q.1.vars) p.2 q.2) a.arms b.arms = (List.zipWith (fun (p q : ArmH × Exp) => cmpF rk n (m ++ p.1.vars) (l ++ q.1.vars) p.2 q.2) b.arms a.arms).map fun x => -x := zip_anti (fun p q => cmpF_anti n _ _ _ _) _ _
            rw [cmpI_anti (rk l (kid0 a)), cmpI_anti (rk l (con0 a)), cmpI_anti (a.arms.length : Int), hz]
          · rw [if_neg h8, if_neg (fun h => h8 (k8.2 h)), ← orI_neg]
            simp only [List.map_cons, List.map_nil]
            have hz : List.zipWith (cmpF rk n l m) (spine a).2 (spine b).2 = (List.zipWith (cmpF rk n m l) (spine b).2 (spine a).2).map fun x => -x := zip_anti (fun p q => cmpF_anti n _ _ _ _) _ _
            rw [cmpI_anti (rk l (spine a).1), cmpI_anti ((spine a).2.length : Int), hz, orI_neg]
      rw [← orI_neg]
      simp only [List.map_cons, List.map_nil]
      rw [cmpI_anti (sizeM a : Int), cmpI_anti (kindM a), key]
    · have h1 : cmpI (kindM a) (kindM b) ≠ 0 := fun h => hk (cmpI_zero.1 h)
      have h2 : cmpI (kindM b) (kindM a) ≠ 0 := fun h => hk (cmpI_zero.1 h).symm
      have h3 := cmpI_anti (kindM a) (kindM b)
      have h4 := cmpI_anti (sizeM a : Int) (sizeM b)
      simp only [orI_cons, if_neg h1, if_neg h2]
      split <;> split <;> omega

/-- A chain of comparisons. -/
def Tri (x y z : Int) : Prop := (x = 0 → y = 0 → z = 0) ∧ (x ≤ 0 → y ≤ 0 → (x < 0 ∨ y < 0) → z < 0)
theorem Tri_cmpI (a b c : Int) : Tri (cmpI a b) (cmpI b c) (cmpI a c) := by
  unfold Tri cmpI
  constructor <;> intros <;> (repeat' split at *) <;> omega
theorem Tri_cons {x y z : Int} {xs ys zs : List Int} (h : Tri x y z) (h2 : x = 0 → y = 0 → z = 0 → Tri (orI xs) (orI ys) (orI zs)) : Tri (orI (x :: xs)) (orI (y :: ys)) (orI (z :: zs)) := by
  obtain ⟨h3, h4⟩ := h
  rw [orI_cons, orI_cons, orI_cons]
  by_cases hx : x = 0
  · by_cases hy : y = 0
    · have hz := h3 hx hy
      simpa [hx, hy, hz] using h2 hx hy hz
    · rw [if_pos hx, if_neg hy]
      refine ⟨fun _ h => absurd h hy, fun _ h5 _ => ?_⟩
      have hz := h4 (by omega) h5 (.inr (by omega))
      rw [if_neg (by omega)]
      exact hz
  · rw [if_neg hx]
    refine ⟨fun h => absurd h hx, fun h5 h6 _ => ?_⟩
    have hz : z < 0 := by
      by_cases hy : y = 0
      · exact h4 h5 (by omega) (.inl (by omega))
      · rw [if_neg hy] at h6
        exact h4 h5 h6 (.inl (by omega))
    rw [if_neg (by omega)]
    exact hz
theorem Tri_zero : Tri 0 0 0 := ⟨fun _ _ => rfl, fun _ _ h => by omega⟩
end Go.Vs.Tryz

/- Terms in a context: what their ranks say (plain). -/
namespace Go.Vs.Tryz
open Go Go.Vs

def inScope1 (ds : List DataD) (e : Exp) (N : List Str) : Prop := (e.kind = 1 → e.name ∈ N) ∧ (e.kind = 2 → ∃ d ∈ ds, e.name ∈ cnames d) ∧
  (e.kind = 8 → ∃ d ∈ ds, (e.arms.map fun a => a.1.con) = cnames d ∧ (e.arms.map fun a => a.1.vars.length) = d.cons.map fun c => c.fields.length)
def inScopeF (ds : List DataD) (e : Exp) (l : List (List Str → Prop)) (N : List Str) : Prop := inScope1 ds e N ∧ ∀ (i : Nat) p, l[i]? = some p → p (N ++ e.bound i)
/-- The names of a term are visible, its constructors declared. -/
def inScope (ds : List DataD) (e : Exp) : List Str → Prop := e.fold (inScopeF ds)
theorem inScope_eq (ds : List DataD) (e : Exp) (N : List Str) : inScope ds e N = (inScope1 ds e N ∧ ∀ (i : Nat) x, e.children[i]? = some x → inScope ds x (N ++ e.bound i)) := by
  unfold inScope
  rw [Exp.fold_eq]
  simp only [inScopeF, List.getElem?_map, Option.map_eq_some_iff]
  apply propext
  refine and_congr_right fun _ => forall_congr' fun i => ?_
  constructor
  · exact fun h x hx => h _ ⟨x, hx, rfl⟩
  · rintro h p ⟨x, hx, rfl⟩
    exact h x hx
/-- Constructors are declared once. -/
def uniq (ds : List DataD) : Prop := ∀ d ∈ ds, ∀ d' ∈ ds, ∀ c, c ∈ cnames d → c ∈ cnames d' → d = d'

theorem consTo_mono {ds : List DataD} {i j : Nat} (h : i ≤ j) : consTo ds i ≤ consTo ds j := by
  unfold consTo
  have : ds.take i = (ds.take j).take i := by rw [List.take_take, Nat.min_eq_left h]
  rw [this, List.map_take]
  exact sum_take
theorem consTo_inj {ds : List DataD} {i j k k' : Nat} {d d' : DataD} (hi : ds[i]? = some d) (hj : ds[j]? = some d') (hk : k < d.cons.length) (hk' : k' < d'.cons.length) (h : k + consTo ds i = k' + consTo ds j) : i = j ∧ k = k' := by
  have h1 := consTo_succ hi
  have h2 := consTo_succ hj
  rcases Nat.lt_trichotomy i j with h3 | h3 | h3
  · have := consTo_mono (ds := ds) (i := i + 1) (j := j) h3
    omega
  · subst h3
    omega
  · have := consTo_mono (ds := ds) (i := j + 1) (j := i) h3
    omega

theorem rank_con {ds : List DataD} {S l : List Str} {e : Exp} (h : e.kind = 2) (hd : ∃ d ∈ ds, e.name ∈ cnames d) : ∃ (i k : Nat) (d : DataD), ds[i]? = some d ∧ (cnames d)[k]? = some e.name ∧ rankM ds S l e = S.length + l.length + k + consTo ds i := by
  obtain ⟨d0, h0, hc⟩ := hd
  have hlt : dataOf ds e.name < ds.length := by
    unfold dataOf
    rw [List.findIdx_lt_length]
    exact ⟨d0, h0, by simpa using hc⟩
  obtain ⟨d, hd, hm⟩ := dataOf_at hlt
  refine ⟨dataOf ds e.name, place (cnames d) e.name, d, hd, place_at (place_mem.2 hm), ?_⟩
  unfold rankM
  rw [if_neg (by omega), if_pos h]
  have hf : findM ds e.name = (((dataOf ds e.name : Nat) : Int), ((place (cnames d) e.name : Nat) : Int), true) := by
    unfold findM
    rw [hd]
  rw [hf]
  simp
theorem rank_var {ds : List DataD} {S l : List Str} {e : Exp} (h : e.kind = 1) : rankM ds S l e = if e.name ∈ l then S.length + rlast l e.name else rlast S e.name := by
  unfold rankM
  rw [if_pos h]
theorem rlast_lt {l : List Str} {s : Str} (h : s ∈ l) : 0 ≤ rlast l s ∧ rlast l s < l.length := by
  refine ⟨rlast_mem h, ?_⟩
  unfold rlast
  rw [if_pos h]
  have := place_mem.2 (List.mem_reverse.2 h)
  rw [List.length_reverse] at this
  omega
theorem rlast_get {l : List Str} {s : Str} (h : s ∈ l) : l[(rlast l s).toNat]? = some s := by
  unfold rlast
  rw [if_pos h]
  have hp := place_mem.2 (List.mem_reverse.2 h)
  have hx := place_at hp
  rw [List.length_reverse] at hp
  rw [rev_get hp] at hx
  rw [show ((l.length : Int) - 1 - (place l.reverse s : Int)).toNat = l.length - 1 - place l.reverse s by omega]
  exact hx

section
variable {ds : List DataD} {S l m : List Str} {a b : Exp}
theorem con_rank (hlm : l.length = m.length) (ha : a.kind = 2) (hb : b.kind = 2) (da : ∃ d ∈ ds, a.name ∈ cnames d) (db : ∃ d ∈ ds, b.name ∈ cnames d) : rankM ds S l a = rankM ds S m b ↔ a.name = b.name := by
  constructor
  · intro h
    obtain ⟨i, k, d, h1, h2, h3⟩ := rank_con (S := S) (l := l) ha da
    obtain ⟨i', k', d', h1', h2', h3'⟩ := rank_con (S := S) (l := m) hb db
    rw [h3, h3'] at h
    have hk := (List.getElem?_eq_some_iff.1 h2).1
    have hk' := (List.getElem?_eq_some_iff.1 h2').1
    rw [cnames_len] at hk hk'
    obtain ⟨rfl, rfl⟩ := consTo_inj h1 h1' hk hk' (by omega)
    rw [h1] at h1'
    cases h1'
    rw [h2] at h2'
    exact Option.some.inj h2'
  · intro h
    unfold rankM
    rw [if_neg (by omega), if_pos ha, if_neg (by omega), if_pos hb, h, hlm]
theorem var_rank (hlm : l.length = m.length) (ha : a.kind = 1) (hb : b.kind = 1) (da : a.name ∈ S ∨ a.name ∈ l) (db : b.name ∈ S ∨ b.name ∈ m) : rankM ds S l a = rankM ds S m b ↔ varEq l m a.name b.name := by
  rw [rank_var ha, rank_var hb]
  unfold varEq
  by_cases h1 : a.name ∈ l
  · obtain ⟨p1, p2⟩ := rlast_lt h1
    rw [if_pos h1]
    by_cases h2 : b.name ∈ m
    · rw [if_pos h2]
      constructor
      · exact fun h => ⟨by omega, .inl p1⟩
      · exact fun h => by omega
    · obtain ⟨q1, q2⟩ := rlast_lt (db.resolve_right h2)
      rw [if_neg h2, rlast_no h2]
      constructor
      · omega
      · omega
  · obtain ⟨p1, p2⟩ := rlast_lt (da.resolve_right h1)
    rw [if_neg h1, rlast_no h1]
    by_cases h2 : b.name ∈ m
    · obtain ⟨q1, q2⟩ := rlast_lt h2
      rw [if_pos h2]
      constructor
      · omega
      · omega
    · rw [if_neg h2, rlast_no h2]
      have g1 := rlast_get (da.resolve_right h1)
      have g2 := rlast_get (db.resolve_right h2)
      constructor
      · intro h
        rw [h, g2] at g1
        exact ⟨rfl, .inr (Option.some.inj g1).symm⟩
      · rintro ⟨_, h | h⟩
        · omega
        · rw [h]
theorem mixed_rank (hlm : l.length = m.length) (ha : a.kind = 1) (hb : b.kind = 2) (da : a.name ∈ S ∨ a.name ∈ l) (db : ∃ d ∈ ds, b.name ∈ cnames d) : rankM ds S l a < rankM ds S m b := by
  obtain ⟨i', k', d', h1', h2', h3'⟩ := rank_con (S := S) (l := m) hb db
  rw [rank_var ha, h3']
  by_cases h1 : a.name ∈ l
  · have := rlast_lt h1
    rw [if_pos h1]
    omega
  · have := rlast_lt (da.resolve_right h1)
    rw [if_neg h1]
    omega
end

/-- The heads of terms have the same rank exactly if they are alpha-equal. -/
theorem head_rank {ds : List DataD} {S N l m : List Str} {a b : Exp} (hS : ∀ s ∈ N, s ∈ S) (hlm : l.length = m.length) (ga : good a) (gb : good b) (ka : a.kind = 1 ∨ a.kind = 2) (kb : b.kind = 1 ∨ b.kind = 2) (sa : inScope ds a (N ++ l)) (sb : inScope ds b (N ++ m)) :
    rankM ds S l a = rankM ds S m b ↔ alphaP a b l m := by
  rw [inScope_eq] at sa sb
  obtain ⟨⟨s1, s2, _⟩, _⟩ := sa
  obtain ⟨⟨t1, t2, _⟩, _⟩ := sb
  have inS : ∀ {s : Str} {l : List Str}, s ∈ N ++ l → s ∈ S ∨ s ∈ l := fun h => (List.mem_append.1 h).imp (hS _) id
  have lens : ∀ {e : Exp}, good e → (e.kind = 1 ∨ e.kind = 2) → e.kids.length = 0 ∧ e.arms.length = 0 := by
    intro e g k
    rcases g.cases with h | h | h | h | h
    · simp [h.2.2.1, h.2.2.2]
    · simp [h.2.2.1, h.2.2.2]
    · omega
    · omega
    · omega
  have la := lens ga ka
  have lb := lens gb kb
  obtain ⟨_, na, ya, _⟩ := ga.one
  obtain ⟨_, nb, yb, _⟩ := gb.one
  have he : a.kind = b.kind → headEq a b := fun h => ⟨h, by rw [na, nb], by rw [ya, yb], by rw [la.1, lb.1], by rw [la.2, lb.2]⟩
  rw [alphaP_eq]
  rcases ka with ka | ka <;> rcases kb with kb | kb
  · rw [var_rank hlm ka kb (inS (s1 ka)) (inS (t1 kb))]
    exact ⟨fun h => ⟨he (by omega), fun _ => h, fun h2 => by omega, fun h2 => absurd ka h2⟩, fun h => h.2.1 ka⟩
  · have := mixed_rank (ds := ds) (S := S) hlm ka kb (inS (s1 ka)) (t2 kb)
    exact ⟨fun h => by omega, fun h => by have := h.1.1; omega⟩
  · have := mixed_rank (ds := ds) (S := S) hlm.symm kb ka (inS (t1 kb)) (s2 ka)
    exact ⟨fun h => by omega, fun h => by have := h.1.1; omega⟩
  · rw [con_rank hlm ka kb (s2 ka) (t2 kb)]
    exact ⟨fun h => ⟨he (by omega), fun h1 => by omega, fun _ => h, fun _ h2 => absurd ka h2⟩, fun h => h.2.2.1 ka⟩
end Go.Vs.Tryz

/- Pairs of names, and to what two variables refer, walked. -/
namespace Go.Vs.Tryz
open Go Go.Vs
variable {A : Oracle}

def pairRow (p : Str × Str) : List Cell := [.str p.1, .str p.2]
def pairRows (l : List (Str × Str)) : List (List Cell) := l.map pairRow
@[simp] theorem pairRow_len (p : Str × Str) : (pairRow p).length = 2 := rfl
@[simp] theorem pairRows_len (l : List (Str × Str)) : (pairRows l).length = l.length := by simp [pairRows]
@[simp] theorem pairRows_get (l : List (Str × Str)) (i : Nat) : (pairRows l)[i]? = (l[i]?).map pairRow := by simp [pairRows]
@[simp] theorem okRows_pair (l : List (Str × Str)) : okRows 2 (wr (pairRows l)) = true := okRows_of l pairRow_len
@[simp] theorem pairRows_snoc (l : List (Str × Str)) (x : Str × Str) : wr (pairRows l) ++ [[W.c (.str x.1), W.c (.str x.2)]] = wr (pairRows (l ++ [x])) := by simp [pairRows, wr, pairRow]
@[simp] theorem fit_pair (l : List (Str × Str)) : rowsFit 2 (pairRows l) = true := fit_map pairRow_len l
@[simp] theorem wc_pair (p : Str × Str) : wc (pairRow p) = [.c (.str p.1), .c (.str p.2)] := rfl
abbrev pairsV (l : List (Str × Str)) : V := .sc (.c (.sl (pairRows l)))

theorem back149 (l : List (Str × Str)) : (K A).call 176 [pairsV l] [] = some (.sc (.clo 254 [true] [[.ptr 0 0]]), [.box [.c (.sl (pairRows l))]]) := by
  refine fn_of (vf := v176) (by kernel_rfl) rfl (by simp) ?_
  unfold v176
  simp (disch := first | omega | (simp; done) | (simp; omega))

set_option maxHeartbeats 2000000 in
theorem refer130 (l : List (Str × Str)) (s t : Str) (h : l.length ≤ 1073741824) :
    ∃ r, IffB (varEq (l.map (·.1)) (l.map (·.2)) s t) r ∧ (K A).call 88 [pairsV l, strV s, strV t] [] = some r := by
  refine fn_ofE _ (vf := v88) (by kernel_rfl) rfl (by simp) ?_
  have hb := back149 (A := A) l
  unfold v88
  simp (disch := first | omega | (simp; done) | (simp; omega)) [hb]
  refine wp_rangeB (by simp; rfl) (by omega) (by simp; rfl) (by simp; omega) (fun i st => (∀ j p, i ≤ j → l[j]? = some p → ¬ p.1 = s ∧ ¬ p.2 = t) ∧ (st = ⟨[(4, .sc (.ptr 64 0)), (5, .sc (.ptr 128 0)), (6, .sc (.ptr 192 0)), (10, .sc (.clo 254 [true] [[.un]]))], [(64, some (.box [.c (.str s)])), (128, some (.box [.c (.str t)])), (192, some (.box [.c (.bool false)]))]⟩ ∨ ∃ a b, st = ⟨[(4, .sc (.ptr 64 0)), (5, .sc (.ptr 128 0)), (6, .sc (.ptr 192 0)), (10, .sc (.clo 254 [true] [[.un]]))], [(64, some (.box [.c (.str s)])), (128, some (.box [.c (.str t)])), (192, some (.box [.c (.bool false)])), (384, some (.box [.c (.str a), .c (.str b)]))]⟩)) ?_ ?_ ?_
  · refine ⟨fun j x hj hx => ?_, by simp⟩
    have := (List.getElem?_eq_some_iff.1 hx).1
    simp at hj
    omega
  · rintro i st' row ⟨hn, hst⟩ hrow
    have hi : i < l.length := by
      have := (List.getElem?_eq_some_iff.1 hrow).1
      simpa using this
    obtain ⟨x, hx⟩ := get_of_lt (l := l) (i := i) hi
    simp [hx] at hrow
    subst hrow
    refine ⟨rfl, .ag (wc (pairRow x)), by simp, ?_⟩
    obtain ⟨x1, x2⟩ := x
    have hl1 : (l.map (·.1))[i]? = some x1 := by rw [List.getElem?_map, hx]; rfl
    have hl2 : (l.map (·.2))[i]? = some x2 := by rw [List.getElem?_map, hx]; rfl
    have r1 : x1 = s → rlast (l.map (·.1)) s = i := fun e => rlast_eq (e ▸ hl1) fun j y hj hy => by
      rw [List.getElem?_map] at hy
      obtain ⟨p, hp, rfl⟩ := Option.map_eq_some_iff.1 hy
      exact (hn j p hj hp).1
    have r2 : x2 = t → rlast (l.map (·.2)) t = i := fun e => rlast_eq (e ▸ hl2) fun j y hj hy => by
      rw [List.getElem?_map] at hy
      obtain ⟨p, hp, rfl⟩ := Option.map_eq_some_iff.1 hy
      exact (hn j p hj hp).2
    rcases hst with rfl | ⟨a, b, rfl⟩
    all_goals
      unfold l88_0
      by_cases q1 : x1 = s
      · have e1 := r1 q1
        by_cases q2 : x2 = t
        · have e2 := r2 q2
          simp (disch := first | omega | (simp; done) | (simp; omega)) [q1, q2]
          exact IffB.yes ⟨e1.trans e2.symm, .inl (by omega)⟩
        · simp (disch := first | omega | (simp; done) | (simp; omega)) [q1, q2]
          refine IffB.no fun hv => q2 ?_
          have h3 : rlast (l.map (·.2)) t = i := hv.1.symm.trans e1
          have hm : t ∈ l.map (·.2) := Classical.byContradiction fun hm => by rw [rlast_no hm] at h3; omega
          have h4 := rlast_get hm
          rw [h3, Int.toNat_natCast, hl2] at h4
          exact Option.some.inj h4
      · by_cases q2 : x2 = t
        · have e2 := r2 q2
          simp (disch := first | omega | (simp; done) | (simp; omega)) [q1, q2]
          refine IffB.no fun hv => q1 ?_
          have h3 : rlast (l.map (·.1)) s = i := hv.1.trans e2
          have hm : s ∈ l.map (·.1) := Classical.byContradiction fun hm => by rw [rlast_no hm] at h3; omega
          have h4 := rlast_get hm
          rw [h3, Int.toNat_natCast, hl1] at h4
          exact Option.some.inj h4
        · simp (disch := first | omega | (simp; done) | (simp; omega)) [q1, q2]
          intro j ya yb hj hy
          rcases Nat.lt_or_eq_of_le hj with h5 | rfl
          · exact hn j _ h5 hy
          · rw [hx] at hy
            cases hy
            exact ⟨q1, q2⟩
  · rintro st' ⟨hn, hst⟩
    have n1 : s ∉ l.map (·.1) := fun hm => by
      obtain ⟨p, hp, e⟩ := List.mem_map.1 hm
      obtain ⟨j, hj⟩ := List.mem_iff_getElem?.1 hp
      exact (hn j p (Nat.zero_le _) hj).1 e
    have n2 : t ∉ l.map (·.2) := fun hm => by
      obtain ⟨p, hp, e⟩ := List.mem_map.1 hm
      obtain ⟨j, hj⟩ := List.mem_iff_getElem?.1 hp
      exact (hn j p (Nat.zero_le _) hj).2 e
    have e1 := rlast_no n1
    have e2 := rlast_no n2
    rcases hst with rfl | ⟨a, b, rfl⟩
    all_goals
      by_cases q : s = t
      · subst q
        simp (disch := first | omega | (simp; done) | (simp; omega))
        exact IffB.yes ⟨e1.trans e2.symm, .inr rfl⟩
      · simp (disch := first | omega | (simp; done) | (simp; omega)) [q]
        exact IffB.no fun hv => hv.2.elim (fun h6 => by rw [e1] at h6; omega) q
end Go.Vs.Tryz

/- Comparing answers one of three numbers (plain). -/
namespace Go.Vs.Tryz
open Go Go.Vs

def one3 (x : Int) : Prop := -1 ≤ x ∧ x ≤ 1
theorem orI_one3 : ∀ {l : List Int}, (∀ x ∈ l, one3 x) → one3 (orI l)
  | [], _ => ⟨by decide, by decide⟩
  | a :: r, h => by
    rw [orI_cons]
    split
    · exact orI_one3 fun x hx => h x (List.mem_cons_of_mem _ hx)
    · exact h a List.mem_cons_self
theorem cmpI_one3 (a b : Int) : one3 (cmpI a b) := by
  unfold cmpI one3
  (repeat' split) <;> omega
theorem zip_one3 {α β : Type} {f : α → β → Int} (h : ∀ p q, one3 (f p q)) : ∀ (l : List α) (m : List β), ∀ x ∈ List.zipWith f l m, one3 x
  | [], _ => by simp
  | _ :: _, [] => by simp
  | a :: l, b :: m => by
    intro x hx
    rw [List.zipWith_cons_cons] at hx
    rcases List.mem_cons.1 hx with rfl | hx
    · exact h a b
    · exact zip_one3 h l m x hx
theorem cmpF_one3 {rk : List Str → Exp → Int} : ∀ (n : Nat) (l m : List Str) (a b : Exp), one3 (cmpF rk n l m a b)
  | 0, _, _, _, _ => ⟨by show (-1 : Int) ≤ 0; decide, by show (0 : Int) ≤ 1; decide⟩
  | n + 1, l, m, a, b => by
    have ih := cmpF_one3 (rk := rk) n
    unfold cmpF
    refine orI_one3 fun x hx => ?_
    simp only [List.mem_cons, List.not_mem_nil, or_false] at hx
    rcases hx with rfl | rfl | rfl
    · exact cmpI_one3 _ _
    · exact cmpI_one3 _ _
    · split
      · exact ih _ _ _ _
      · split
        · refine orI_one3 fun x hx => ?_
          simp only [List.mem_cons, List.mem_append, List.not_mem_nil, or_false] at hx
          rcases hx with rfl | rfl | hx | rfl
          · exact cmpI_one3 _ _
          · exact cmpI_one3 _ _
          · exact zip_one3 (fun p q => ih _ _ _ _) _ _ x hx
          · exact cmpI_one3 _ _
        · refine orI_one3 fun x hx => ?_
          simp only [List.mem_cons, List.not_mem_nil, or_false] at hx
          rcases hx with rfl | rfl | rfl
          · exact cmpI_one3 _ _
          · exact cmpI_one3 _ _
          · exact orI_one3 (zip_one3 (fun p q => ih _ _ _ _) _ _)
end Go.Vs.Tryz
