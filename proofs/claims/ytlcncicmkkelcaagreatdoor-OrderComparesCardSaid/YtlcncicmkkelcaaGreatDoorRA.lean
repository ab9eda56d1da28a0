/- Comparing is a total order: opposite ways, and chains (plain). (Parts of one proof, put together.) -/
import Derived.Test.YtlcncicmkkelcaaGreatDoorR9
import Derived.Test.YtlcncicmkkelcaaGreatDoorM5
import Derived.Test.YtlcncicmkkelcaaGreatDoorR7
set_option linter.unusedSimpArgs false
set_option linter.unusedVariables false
set_option linter.deprecated false

/- Comparing is a total order: opposite ways, and chains (plain). -/
namespace Go.Vs.Tryz
open Go Go.Vs

theorem cmpI_zero {a b : Int} : cmpI a b = 0 ↔ a = b := by
  unfold cmpI
  split
  · constructor <;> omega
  · split
    · constructor <;> omega
    · constructor <;> omega
theorem orI_cons (a : Int) (r : List Int) : orI (a :: r) = if a = 0 then orI r else a := rfl
theorem orI_one (a : Int) : orI [a] = a := by
  rw [orI_cons]
  split
  · rename_i h; rw [h]; rfl
  · rfl
theorem orI_eq_zero : ∀ {l : List Int}, orI l = 0 ↔ ∀ x ∈ l, x = 0
  | [] => by simp [orI]
  | a :: r => by
    rw [orI_cons]
    by_cases h : a = 0
    · simp [h, orI_eq_zero (l := r)]
    · simp [h]

theorem kind_of {a b : Exp} (h : kindM a = kindM b) : (a.kind = 4 ↔ b.kind = 4) ∧ (a.kind = 8 ↔ b.kind = 8) := by
  unfold kindM at h
  by_cases a4 : a.kind = 4 <;> by_cases b4 : b.kind = 4 <;> by_cases a8 : a.kind = 8 <;> by_cases b8 : b.kind = 8 <;> simp_all

variable (rk : List Str → Exp → Int)
/-- Behind sizes and kinds. -/
def cmpR (n : Nat) (l m : List Str) (a b : Exp) : Int :=
  if a.kind = 4 then cmpF rk n (l ++ [a.name]) (m ++ [b.name]) (kid0 a) (kid0 b)
  else if a.kind = 8 then orI (cmpI (rk l (kid0 a)) (rk m (kid0 b)) :: cmpI (rk l (con0 a)) (rk m (con0 b)) ::
    (List.zipWith (fun p q => cmpF rk n (l ++ p.1.vars) (m ++ q.1.vars) p.2 q.2) a.arms b.arms ++ [cmpI a.arms.length b.arms.length]))
  else orI [cmpI (rk l (spine a).1) (rk m (spine b).1), cmpI (spine a).2.length (spine b).2.length, orI (List.zipWith (cmpF rk n l m) (spine a).2 (spine b).2)]
theorem cmpF_succ (n : Nat) (l m : List Str) (a b : Exp) : cmpF rk (n + 1) l m a b = orI [cmpI (sizeM a) (sizeM b), cmpI (kindM a) (kindM b), cmpR rk n l m a b] := rfl

/-- A chain of comparisons. -/
def Tri (x y z : Int) : Prop := (x = 0 → y = 0 → z = 0) ∧ (x ≤ 0 → y ≤ 0 → (x < 0 ∨ y < 0) → z < 0)
end Go.Vs.Tryz

/- Numbers as text, and the names that are not taken (plain). -/
namespace Go.Vs.Tryz
open Go Go.Vs

/-- The digits of a number. -/
def numS (n : Nat) : Str := if h : n < 10 then [UInt8.ofNat (48 + n)] else numS (n / 10) ++ [UInt8.ofNat (48 + n % 10)]
termination_by n
decreasing_by omega

/-- The name with a number. -/
def vName (k : Nat) : Str := 118 :: numS k

/-- The names of a list from a number on. -/
noncomputable def vCount (l : List Str) (k : Nat) : Nat := match l with
  | [] => 0
  | s :: r => (open Classical in if ∃ j, k ≤ j ∧ s = vName j then 1 else 0) + vCount r k

/-- The number of the n-th name from k on that is not taken. -/
def freshF (taken : List Str) : Nat → Nat → Nat → Nat
  | 0, k, _ => k
  | f + 1, k, n => if vName k ∈ taken then freshF taken f (k + 1) n else if n = 0 then k else freshF taken f (k + 1) (n - 1)

/-- The n-th name that is not taken. -/
def freshK (n : Nat) (taken : List Str) : Nat := freshF taken (n + taken.length + 1) 1 n
def freshS (n : Nat) (taken : List Str) : Str := vName (freshK n taken)
end Go.Vs.Tryz

/- Alpha-equal expressions and canonical forms (plain): an expression is alpha-equal to its canonical form. -/
namespace Go.Vs.Tryz
open Go Go.Vs

/-- What two alpha-equal expressions share at their heads. -/
def headEq (a b : Exp) : Prop := a.kind = b.kind ∧ a.num = b.num ∧ a.ty = b.ty ∧ a.kids.length = b.kids.length ∧ a.arms.length = b.arms.length
def armsEq (a b : Exp) : Prop := ∀ (i : Nat) p q, a.arms[i]? = some p → b.arms[i]? = some q → p.1.con = q.1.con ∧ p.1.vars.length = q.1.vars.length
/-- Two variables that refer to the same. -/
def varEq (left right : List Str) (s t : Str) : Prop := rlast left s = rlast right t ∧ (0 ≤ rlast left s ∨ s = t)
def alphaF (a : Exp) (l : List (Exp → List Str → List Str → Prop)) (b : Exp) (left right : List Str) : Prop :=
  headEq a b ∧ (a.kind = 1 → varEq left right a.name b.name) ∧ (a.kind = 2 → a.name = b.name) ∧
    (a.kind ≠ 1 → a.kind ≠ 2 → armsEq a b ∧ ∀ (i : Nat) f y, l[i]? = some f → b.children[i]? = some y → f y (left ++ a.bound i) (right ++ b.bound i))
/-- Alpha-equal under binders. -/
def alphaP (a : Exp) : Exp → List Str → List Str → Prop := a.fold alphaF

/-- New names behind so many. -/
def news (taken : List Str) (n k : Nat) : List Str := (List.range k).map fun j => freshS (n + j) taken
@[simp] theorem news_len (taken : List Str) (n k : Nat) : (news taken n k).length = k := by simp [news]

def canonF (taken : List Str) (e : Exp) (l : List (List Str → List Str → Exp)) (old names : List Str) : Exp :=
  if e.kind = 1 then (if 0 ≤ rlast old e.name then .mk e.kind e.pos ((names[(rlast old e.name).toNat]?).getD []) e.num e.kids e.arms e.ty else e)
  else
    let cs := l.zipIdx.map fun p => p.1 (old ++ e.bound p.2) (names ++ news taken old.length (e.bound p.2).length)
    .mk e.kind e.pos (if e.kind = 4 ∨ e.kind = 6 ∨ e.kind = 7 then freshS old.length taken else e.name) e.num (cs.take e.kids.length)
      (List.zipWith (fun a c => (⟨a.1.pos, a.1.con, news taken old.length a.1.vars.length⟩, c)) e.arms (cs.drop e.kids.length)) e.ty
/-- The canonical form under binders. -/
def canonM (taken : List Str) (e : Exp) : List Str → List Str → Exp := e.fold (canonF taken)
/-- The new children. -/
def canonC (taken : List Str) (e : Exp) (old names : List Str) : List Exp := e.children.zipIdx.map fun p => canonM taken p.1 (old ++ e.bound p.2) (names ++ news taken old.length (e.bound p.2).length)
@[simp] theorem canonC_len (taken : List Str) (e : Exp) (old names : List Str) : (canonC taken e old names).length = e.kids.length + e.arms.length := by simp [canonC]

theorem bound_some {e : Exp} {i : Nat} : e.bound i = if e.kind = 4 ∨ e.kind = 7 ∨ (e.kind = 6 ∧ i = 1) then [e.name] else if e.kind = 8 ∧ 0 < i then ((e.arms[i - 1]?).map fun a => a.1.vars).getD [] else [] := rfl

section
variable (k p : Int) (n : Str) (m : Int) (ks : List Exp) (l : List (ArmH × Exp)) (t : Ty)
theorem kind_mk : (Exp.mk k p n m ks l t).kind = k := rfl
theorem pos_mk : (Exp.mk k p n m ks l t).pos = p := rfl
theorem name_mk : (Exp.mk k p n m ks l t).name = n := rfl
theorem num_mk : (Exp.mk k p n m ks l t).num = m := rfl
theorem kids_mk : (Exp.mk k p n m ks l t).kids = ks := rfl
theorem arms_mk : (Exp.mk k p n m ks l t).arms = l := rfl
theorem ty_mk : (Exp.mk k p n m ks l t).ty = t := rfl
theorem bound_mk (i : Nat) : (Exp.mk k p n m ks l t).bound i = if k = 4 ∨ k = 7 ∨ (k = 6 ∧ i = 1) then [n] else if k = 8 ∧ 0 < i then ((l[i - 1]?).map fun a => a.1.vars).getD [] else [] := rfl
theorem children_mk : (Exp.mk k p n m ks l t).children = ks ++ l.map (·.2) := rfl
end

theorem headEq.symm {a b : Exp} (h : headEq a b) : headEq b a := ⟨h.1.symm, h.2.1.symm, h.2.2.1.symm, h.2.2.2.1.symm, h.2.2.2.2.symm⟩
theorem headEq.children {a b : Exp} (h : headEq a b) : a.children.length = b.children.length := by
  rw [a.children_len, b.children_len, h.2.2.2.1, h.2.2.2.2]

end Go.Vs.Tryz

/- Terms in a context: what their ranks say (plain). -/
namespace Go.Vs.Tryz
open Go Go.Vs

def inScope1 (ds : List DataD) (e : Exp) (N : List Str) : Prop := (e.kind = 1 → e.name ∈ N) ∧ (e.kind = 2 → ∃ d ∈ ds, e.name ∈ cnames d) ∧
  (e.kind = 8 → ∃ d ∈ ds, (e.arms.map fun a => a.1.con) = cnames d ∧ (e.arms.map fun a => a.1.vars.length) = d.cons.map fun c => c.fields.length)
def inScopeF (ds : List DataD) (e : Exp) (l : List (List Str → Prop)) (N : List Str) : Prop := inScope1 ds e N ∧ ∀ (i : Nat) p, l[i]? = some p → p (N ++ e.bound i)
/-- The names of a term are visible, its constructors declared. -/
def inScope (ds : List DataD) (e : Exp) : List Str → Prop := e.fold (inScopeF ds)
theorem inScope_eq (ds : List DataD) (e : Exp) (N : List Str) : inScope ds e N = (inScope1 ds e N ∧ ∀ (i : Nat) x, e.children[i]? = some x → inScope ds x (N ++ e.bound i)) := by
  unfold inScope
  rw [Exp.fold_eq]
  simp only [inScopeF, List.getElem?_map, Option.map_eq_some_iff]
  apply propext
  refine and_congr_right fun _ => forall_congr' fun i => ?_
  constructor
  · exact fun h x hx => h _ ⟨x, hx, rfl⟩
  · rintro h p ⟨x, hx, rfl⟩
    exact h x hx
/-- Constructors are declared once. -/
def uniq (ds : List DataD) : Prop := ∀ d ∈ ds, ∀ d' ∈ ds, ∀ c, c ∈ cnames d → c ∈ cnames d' → d = d'

theorem consTo_mono {ds : List DataD} {i j : Nat} (h : i ≤ j) : consTo ds i ≤ consTo ds j := by
  unfold consTo
  have : ds.take i = (ds.take j).take i := by rw [List.take_take, Nat.min_eq_left h]
  rw [this, List.map_take]
  exact sum_take
theorem consTo_inj {ds : List DataD} {i j k k' : Nat} {d d' : DataD} (hi : ds[i]? = some d) (hj : ds[j]? = some d') (hk : k < d.cons.length) (hk' : k' < d'.cons.length) (h : k + consTo ds i = k' + consTo ds j) : i = j ∧ k = k' := by
  have h1 := consTo_succ hi
  have h2 := consTo_succ hj
  rcases Nat.lt_trichotomy i j with h3 | h3 | h3
  · have := consTo_mono (ds := ds) (i := i + 1) (j := j) h3
    omega
  · subst h3
    omega
  · have := consTo_mono (ds := ds) (i := j + 1) (j := i) h3
    omega

theorem rank_con {ds : List DataD} {S l : List Str} {e : Exp} (h : e.kind = 2) (hd : ∃ d ∈ ds, e.name ∈ cnames d) : ∃ (i k : Nat) (d : DataD), ds[i]? = some d ∧ (cnames d)[k]? = some e.name ∧ rankM ds S l e = S.length + l.length + k + consTo ds i := by
  obtain ⟨d0, h0, hc⟩ := hd
  have hlt : dataOf ds e.name < ds.length := by
    unfold dataOf
    rw [List.findIdx_lt_length]
    exact ⟨d0, h0, by simpa using hc⟩
  obtain ⟨d, hd, hm⟩ := dataOf_at hlt
  refine ⟨dataOf ds e.name, place (cnames d) e.name, d, hd, place_at (place_mem.2 hm), ?_⟩
  unfold rankM
  rw [if_neg (by omega), if_pos h]
  have hf : findM ds e.name = (((dataOf ds e.name : Nat) : Int), ((place (cnames d) e.name : Nat) : Int), true) := by
    unfold findM
    rw [hd]
  rw [hf]
  simp
theorem rank_var {ds : List DataD} {S l : List Str} {e : Exp} (h : e.kind = 1) : rankM ds S l e = if e.name ∈ l then S.length + rlast l e.name else rlast S e.name := by
  unfold rankM
  rw [if_pos h]
theorem rlast_lt {l : List Str} {s : Str} (h : s ∈ l) : 0 ≤ rlast l s ∧ rlast l s < l.length := by
  refine ⟨rlast_mem h, ?_⟩
  unfold rlast
  rw [if_pos h]
  have := place_mem.2 (List.mem_reverse.2 h)
  rw [List.length_reverse] at this
  omega
theorem rlast_get {l : List Str} {s : Str} (h : s ∈ l) : l[(rlast l s).toNat]? = some s := by
  unfold rlast
  rw [if_pos h]
  have hp := place_mem.2 (List.mem_reverse.2 h)
  have hx := place_at hp
  rw [List.length_reverse] at hp
  rw [rev_get hp] at hx
  rw [show ((l.length : Int) - 1 - (place l.reverse s : Int)).toNat = l.length - 1 - place l.reverse s by omega]
  exact hx

section
variable {ds : List DataD} {S l m : List Str} {a b : Exp}
theorem con_rank (hlm : l.length = m.length) (ha : a.kind = 2) (hb : b.kind = 2) (da : ∃ d ∈ ds, a.name ∈ cnames d) (db : ∃ d ∈ ds, b.name ∈ cnames d) : rankM ds S l a = rankM ds S m b ↔ a.name = b.name := by
  constructor
  · intro h
    obtain ⟨i, k, d, h1, h2, h3⟩ := rank_con (S := S) (l := l) ha da
    obtain ⟨i', k', d', h1', h2', h3'⟩ := rank_con (S := S) (l := m) hb db
    rw [h3, h3'] at h
    have hk := (List.getElem?_eq_some_iff.1 h2).1
    have hk' := (List.getElem?_eq_some_iff.1 h2').1
    rw [cnames_len] at hk hk'
    obtain ⟨rfl, rfl⟩ := consTo_inj h1 h1' hk hk' (by omega)
    rw [h1] at h1'
    cases h1'
    rw [h2] at h2'
    exact Option.some.inj h2'
  · intro h
    unfold rankM
    rw [if_neg (by omega), if_pos ha, if_neg (by omega), if_pos hb, h, hlm]
theorem var_rank (hlm : l.length = m.length) (ha : a.kind = 1) (hb : b.kind = 1) (da : a.name ∈ S ∨ a.name ∈ l) (db : b.name ∈ S ∨ b.name ∈ m) : rankM ds S l a = rankM ds S m b ↔ varEq l m a.name b.name := by
  rw [rank_var ha, rank_var hb]
  unfold varEq
  by_cases h1 : a.name ∈ l
  · obtain ⟨p1, p2⟩ := rlast_lt h1
    rw [if_pos h1]
    by_cases h2 : b.name ∈ m
    · rw [if_pos h2]
      constructor
      · exact fun h => ⟨by omega, .inl p1⟩
      · exact fun h => by omega
    · obtain ⟨q1, q2⟩ := rlast_lt (db.resolve_right h2)
      rw [if_neg h2, rlast_no h2]
      constructor
      · omega
      · omega
  · obtain ⟨p1, p2⟩ := rlast_lt (da.resolve_right h1)
    rw [if_neg h1, rlast_no h1]
    by_cases h2 : b.name ∈ m
    · obtain ⟨q1, q2⟩ := rlast_lt h2
      rw [if_pos h2]
      constructor
      · omega
      · omega
    · rw [if_neg h2, rlast_no h2]
      have g1 := rlast_get (da.resolve_right h1)
      have g2 := rlast_get (db.resolve_right h2)
      constructor
      · intro h
        rw [h, g2] at g1
        exact ⟨rfl, .inr (Option.some.inj g1).symm⟩
      · rintro ⟨_, h | h⟩
        · omega
        · rw [h]
theorem mixed_rank (hlm : l.length = m.length) (ha : a.kind = 1) (hb : b.kind = 2) (da : a.name ∈ S ∨ a.name ∈ l) (db : ∃ d ∈ ds, b.name ∈ cnames d) : rankM ds S l a < rankM ds S m b := by
  obtain ⟨i', k', d', h1', h2', h3'⟩ := rank_con (S := S) (l := m) hb db
  rw [rank_var ha, h3']
  by_cases h1 : a.name ∈ l
  · have := rlast_lt h1
    rw [if_pos h1]
    omega
  · have := rlast_lt (da.resolve_right h1)
    rw [if_neg h1]
    omega
end

end Go.Vs.Tryz

/- Two terms compare as equal exactly if they are alpha-equal; comparisons chain (plain). -/
namespace Go.Vs.Tryz
open Go Go.Vs

def Heady (e : Exp) : Prop := e.kind = 1 ∨ e.kind = 2 ∨ e.kind = 5

end Go.Vs.Tryz

/- Two terms compare as equal exactly if they are alpha-equal; comparisons chain: the induction (plain). -/
namespace Go.Vs.Tryz
open Go Go.Vs

theorem good.app {e : Exp} (g : good e) (h : e.kind = 5) : ∃ f x, e.kids = [f, x] ∧ Heady f ∧ good f ∧ good x ∧ e.arms = [] := by
  rcases g.cases with h1 | h1 | h1 | ⟨_, _, ⟨f, x, h2, h3, h4, h5⟩, h6⟩ | h1
  · omega
  · omega
  · omega
  · exact ⟨f, x, h2, h3, h4, h5, h6⟩
  · omega
theorem good.lam {e : Exp} (g : good e) (h : e.kind = 4) : ∃ x, e.kids = [x] ∧ good x ∧ e.arms = [] := by
  rcases g.cases with h1 | h1 | ⟨_, _, ⟨x, h2, h3⟩, h4⟩ | h1 | h1
  · omega
  · omega
  · exact ⟨x, h2, h3, h4⟩
  · omega
  · omega
theorem good.case {e : Exp} (g : good e) (h : e.kind = 8) : ∃ x, e.kids = [x] ∧ x.kind = 1 ∧ good x ∧ e.arms ≠ [] ∧ ∀ a ∈ e.arms, good a.2 := by
  rcases g.cases with h1 | h1 | h1 | h1 | ⟨_, _, ⟨x, h2, h3, h4⟩, h5, h6⟩
  · omega
  · omega
  · omega
  · omega
  · exact ⟨x, h2, h3, h4, h5, fun a ha => (h6 a ha).2.2.2.2⟩
theorem good.heady {e : Exp} (g : good e) (h4 : e.kind ≠ 4) (h8 : e.kind ≠ 8) : Heady e := by
  rcases g.cases with h1 | h1 | h1 | h1 | h1
  · exact .inl h1.1
  · exact .inr (.inl h1.1)
  · exact absurd h1.1 h4
  · exact .inr (.inr h1.1)
  · exact absurd h1.1 h8

/-- The parts of an analysis that count. -/
structure CaseP (ds : List DataD) (N : List Str) (e x : Exp) (d : DataD) : Prop where
  kids : e.kids = [x]
  kind : x.kind = 1
  good : Go.Vs.Tryz.good x
  sc : inScope ds x N
  ne : e.arms ≠ []
  mem : d ∈ ds
  cons : (e.arms.map fun a => a.1.con) = cnames d
  vars : (e.arms.map fun a => a.1.vars.length) = d.cons.map fun c => c.fields.length
  arms : ∀ (i : Nat) a, e.arms[i]? = some a → Go.Vs.Tryz.good a.2 ∧ inScope ds a.2 (N ++ a.1.vars) ∧ a.2.weight < e.weight
theorem CaseP.con0 {ds : List DataD} {N : List Str} {e x : Exp} {d : DataD} (h : CaseP ds N e x d) : ∃ s, (cnames d)[0]? = some s ∧ Go.Vs.Tryz.con0 e = conExp s := by
  cases ha : e.arms with
  | nil => exact absurd ha h.ne
  | cons a r =>
    refine ⟨a.1.con, ?_, ?_⟩
    · rw [← h.cons, ha]; rfl
    · unfold Go.Vs.Tryz.con0
      rw [ha]; rfl
/-- Analyses whose first arms have constructors of the same rank have the same arms. -/
theorem CaseP.same {ds : List DataD} {S N l m : List Str} {a b x y : Exp} {d d' : DataD} (hu : uniq ds) (hlm : l.length = m.length) (ha : CaseP ds (N ++ l) a x d) (hb : CaseP ds (N ++ m) b y d') : rankM ds S l (Go.Vs.Tryz.con0 a) = rankM ds S m (Go.Vs.Tryz.con0 b) ↔ d = d' := by
  obtain ⟨s, h1, h2⟩ := ha.con0
  obtain ⟨t, h3, h4⟩ := hb.con0
  have m1 : s ∈ cnames d := List.mem_of_getElem? h1
  have m2 : t ∈ cnames d' := List.mem_of_getElem? h3
  rw [h2, h4, con_rank (a := conExp s) (b := conExp t) hlm rfl rfl ⟨d, ha.mem, m1⟩ ⟨d', hb.mem, m2⟩]
  show s = t ↔ _
  constructor
  · rintro rfl
    exact hu d ha.mem d' hb.mem s m1 m2
  · rintro rfl
    rw [h1] at h3
    exact Option.some.inj h3
theorem CaseP.len {ds : List DataD} {N : List Str} {e x : Exp} {d : DataD} (h : CaseP ds N e x d) : e.arms.length = d.cons.length := by
  have := congrArg List.length h.vars
  simpa using this

theorem kid0_of {e x : Exp} {r : List Exp} (h : e.kids = x :: r) : kid0 e = x := by unfold kid0; rw [h]; rfl

end Go.Vs.Tryz
