/- Comparing is a total order: opposite ways, and chains (plain). (Parts of one proof, put together.) -/
import Derived.Test.YtlcncicmkkelcaaGreatDoorR8
import Derived.Test.YtlcncicmkkelcaaGreatDoorRI
set_option linter.unusedSimpArgs false
set_option linter.unusedVariables false
set_option linter.deprecated false

/- Comparing is a total order: opposite ways, and chains (plain). -/
namespace Go.Vs.Tryz
open Go Go.Vs

theorem cmpI_anti (a b : Int) : cmpI a b = - cmpI b a := by
  unfold cmpI
  split <;> split <;> (try split) <;> omega
theorem cmpI_zero {a b : Int} : cmpI a b = 0 ↔ a = b := by
  unfold cmpI
  split
  · constructor <;> omega
  · split
    · constructor <;> omega
    · constructor <;> omega
theorem orI_cons (a : Int) (r : List Int) : orI (a :: r) = if a = 0 then orI r else a := rfl
theorem orI_one (a : Int) : orI [a] = a := by
  rw [orI_cons]
  split
  · rename_i h; rw [h]; rfl
  · rfl
theorem orI_neg : ∀ l : List Int, orI (l.map fun x => -x) = - orI l
  | [] => rfl
  | a :: r => by
    rw [List.map_cons, orI_cons, orI_cons, orI_neg r]
    by_cases h : a = 0
    · simp [h]
    · have : ¬ -a = 0 := by omega
      simp [h]
theorem orI_eq_zero : ∀ {l : List Int}, orI l = 0 ↔ ∀ x ∈ l, x = 0
  | [] => by simp [orI]
  | a :: r => by
    rw [orI_cons]
    by_cases h : a = 0
    · simp [h, orI_eq_zero (l := r)]
    · simp [h]
theorem zip_anti {α : Type} {f g : α → α → Int} (h : ∀ p q, f p q = - g q p) : ∀ l m : List α, List.zipWith f l m = (List.zipWith g m l).map fun x => -x
  | [], m => by simp
  | _ :: _, [] => by simp
  | a :: l, b :: m => by simp [h a b, zip_anti h l m]

theorem kind_of {a b : Exp} (h : kindM a = kindM b) : (a.kind = 4 ↔ b.kind = 4) ∧ (a.kind = 8 ↔ b.kind = 8) := by
  unfold kindM at h
  by_cases a4 : a.kind = 4 <;> by_cases b4 : b.kind = 4 <;> by_cases a8 : a.kind = 8 <;> by_cases b8 : b.kind = 8 <;> simp_all

variable (rk : List Str → Exp → Int)
/-- Behind sizes and kinds. -/
def cmpR (n : Nat) (l m : List Str) (a b : Exp) : Int :=
  if a.kind = 4 then cmpF rk n (l ++ [a.name]) (m ++ [b.name]) (kid0 a) (kid0 b)
  else if a.kind = 8 then orI (cmpI (rk l (kid0 a)) (rk m (kid0 b)) :: cmpI (rk l (con0 a)) (rk m (con0 b)) ::
    (List.zipWith (fun p q => cmpF rk n (l ++ p.1.vars) (m ++ q.1.vars) p.2 q.2) a.arms b.arms ++ [cmpI a.arms.length b.arms.length]))
  else orI [cmpI (rk l (spine a).1) (rk m (spine b).1), cmpI (spine a).2.length (spine b).2.length, orI (List.zipWith (cmpF rk n l m) (spine a).2 (spine b).2)]
theorem cmpF_succ (n : Nat) (l m : List Str) (a b : Exp) : cmpF rk (n + 1) l m a b = orI [cmpI (sizeM a) (sizeM b), cmpI (kindM a) (kindM b), cmpR rk n l m a b] := rfl

theorem cmpF_anti : ∀ (n : Nat) (l m : List Str) (a b : Exp), cmpF rk n l m a b = - cmpF rk n m l b a
  | 0, _, _, _, _ => rfl
  | n + 1, l, m, a, b => by
    rw [cmpF_succ, cmpF_succ]
    by_cases hk : kindM a = kindM b
    · obtain ⟨k4, k8⟩ := kind_of hk
      have key : cmpR rk n l m a b = - cmpR rk n m l b a := by
        unfold cmpR
        by_cases h4 : a.kind = 4
        · rw [if_pos h4, if_pos (k4.1 h4)]
          exact cmpF_anti n _ _ _ _
        · rw [if_neg h4, if_neg (fun h => h4 (k4.2 h))]
          by_cases h8 : a.kind = 8
          · rw [if_pos h8, if_pos (k8.1 h8), ← orI_neg]
            simp only [List.map_cons, List.map_append, List.map_nil]
            have hz : List.zipWith (fun (p q : ArmH × Exp) => cmpF rk n (l ++ p.1.vars) (m ++ q.1.vars) p.2 q.2) a.arms b.arms = (List.zipWith (fun (p q : ArmH × Exp) => cmpF rk n (m ++ p.1.vars) (l ++ q.1.vars) p.2 q.2) b.arms a.arms).map fun x => -x := zip_anti (fun p q => cmpF_anti n _ _ _ _) _ _
            rw [cmpI_anti (rk l (kid0 a)), cmpI_anti (rk l (con0 a)), cmpI_anti (a.arms.length : Int), hz]
          · rw [if_neg h8, if_neg (fun h => h8 (k8.2 h)), ← orI_neg]
            simp only [List.map_cons, List.map_nil]
            have hz : List.zipWith (cmpF rk n l m) (spine a).2 (spine b).2 = (List.zipWith (cmpF rk n m l) (spine b).2 (spine a).2).map fun x => -x := zip_anti (fun p q => cmpF_anti n _ _ _ _) _ _
            rw [cmpI_anti (rk l (spine a).1), cmpI_anti ((spine a).2.length : Int), hz, orI_neg]
      rw [← orI_neg]
      simp only [List.map_cons, List.map_nil]
      rw [cmpI_anti (sizeM a : Int), cmpI_anti (kindM a), key]
    · have h1 : cmpI (kindM a) (kindM b) ≠ 0 := fun h => hk (cmpI_zero.1 h)
      have h2 : cmpI (kindM b) (kindM a) ≠ 0 := fun h => hk (cmpI_zero.1 h).symm
      have h3 := cmpI_anti (kindM a) (kindM b)
      have h4 := cmpI_anti (sizeM a : Int) (sizeM b)
      simp only [orI_cons, if_neg h1, if_neg h2]
      split <;> split <;> omega

/-- A chain of comparisons. -/
def Tri (x y z : Int) : Prop := (x = 0 → y = 0 → z = 0) ∧ (x ≤ 0 → y ≤ 0 → (x < 0 ∨ y < 0) → z < 0)
theorem Tri_cmpI (a b c : Int) : Tri (cmpI a b) (cmpI b c) (cmpI a c) := by
  unfold Tri cmpI
  constructor <;> intros <;> (repeat' split at *) <;> omega
theorem Tri_cons {x y z : Int} {xs ys zs : List Int} (h : Tri x y z) (h2 : x = 0 → y = 0 → z = 0 → Tri (orI xs) (orI ys) (orI zs)) : Tri (orI (x :: xs)) (orI (y :: ys)) (orI (z :: zs)) := by
  obtain ⟨h3, h4⟩ := h
  rw [orI_cons, orI_cons, orI_cons]
  by_cases hx : x = 0
  · by_cases hy : y = 0
    · have hz := h3 hx hy
      simpa [hx, hy, hz] using h2 hx hy hz
    · rw [if_pos hx, if_neg hy]
      refine ⟨fun _ h => absurd h hy, fun _ h5 _ => ?_⟩
      have hz := h4 (by omega) h5 (.inr (by omega))
      rw [if_neg (by omega)]
      exact hz
  · rw [if_neg hx]
    refine ⟨fun h => absurd h hx, fun h5 h6 _ => ?_⟩
    have hz : z < 0 := by
      by_cases hy : y = 0
      · exact h4 h5 (by omega) (.inl (by omega))
      · rw [if_neg hy] at h6
        exact h4 h5 h6 (.inl (by omega))
    rw [if_neg (by omega)]
    exact hz
theorem Tri_zero : Tri 0 0 0 := ⟨fun _ _ => rfl, fun _ _ h => by omega⟩
end Go.Vs.Tryz

/- Terms in a context: what their ranks say (plain). -/
namespace Go.Vs.Tryz
open Go Go.Vs

def inScope1 (ds : List DataD) (e : Exp) (N : List Str) : Prop := (e.kind = 1 → e.name ∈ N) ∧ (e.kind = 2 → ∃ d ∈ ds, e.name ∈ cnames d) ∧
  (e.kind = 8 → ∃ d ∈ ds, (e.arms.map fun a => a.1.con) = cnames d ∧ (e.arms.map fun a => a.1.vars.length) = d.cons.map fun c => c.fields.length)
def inScopeF (ds : List DataD) (e : Exp) (l : List (List Str → Prop)) (N : List Str) : Prop := inScope1 ds e N ∧ ∀ (i : Nat) p, l[i]? = some p → p (N ++ e.bound i)
/-- The names of a term are visible, its constructors declared. -/
def inScope (ds : List DataD) (e : Exp) : List Str → Prop := e.fold (inScopeF ds)
theorem inScope_eq (ds : List DataD) (e : Exp) (N : List Str) : inScope ds e N = (inScope1 ds e N ∧ ∀ (i : Nat) x, e.children[i]? = some x → inScope ds x (N ++ e.bound i)) := by
  unfold inScope
  rw [Exp.fold_eq]
  simp only [inScopeF, List.getElem?_map, Option.map_eq_some_iff]
  apply propext
  refine and_congr_right fun _ => forall_congr' fun i => ?_
  constructor
  · exact fun h x hx => h _ ⟨x, hx, rfl⟩
  · rintro h p ⟨x, hx, rfl⟩
    exact h x hx
/-- Constructors are declared once. -/
def uniq (ds : List DataD) : Prop := ∀ d ∈ ds, ∀ d' ∈ ds, ∀ c, c ∈ cnames d → c ∈ cnames d' → d = d'

theorem consTo_mono {ds : List DataD} {i j : Nat} (h : i ≤ j) : consTo ds i ≤ consTo ds j := by
  unfold consTo
  have : ds.take i = (ds.take j).take i := by rw [List.take_take, Nat.min_eq_left h]
  rw [this, List.map_take]
  exact sum_take
theorem consTo_inj {ds : List DataD} {i j k k' : Nat} {d d' : DataD} (hi : ds[i]? = some d) (hj : ds[j]? = some d') (hk : k < d.cons.length) (hk' : k' < d'.cons.length) (h : k + consTo ds i = k' + consTo ds j) : i = j ∧ k = k' := by
  have h1 := consTo_succ hi
  have h2 := consTo_succ hj
  rcases Nat.lt_trichotomy i j with h3 | h3 | h3
  · have := consTo_mono (ds := ds) (i := i + 1) (j := j) h3
    omega
  · subst h3
    omega
  · have := consTo_mono (ds := ds) (i := j + 1) (j := i) h3
    omega

theorem rank_con {ds : List DataD} {S l : List Str} {e : Exp} (h : e.kind = 2) (hd : ∃ d ∈ ds, e.name ∈ cnames d) : ∃ (i k : Nat) (d : DataD), ds[i]? = some d ∧ (cnames d)[k]? = some e.name ∧ rankM ds S l e = S.length + l.length + k + consTo ds i := by
  obtain ⟨d0, h0, hc⟩ := hd
  have hlt : dataOf ds e.name < ds.length := by
    unfold dataOf
    rw [List.findIdx_lt_length]
    exact ⟨d0, h0, by simpa using hc⟩
  obtain ⟨d, hd, hm⟩ := dataOf_at hlt
  refine ⟨dataOf ds e.name, place (cnames d) e.name, d, hd, place_at (place_mem.2 hm), ?_⟩
  unfold rankM
  rw [if_neg (by omega), if_pos h]
  have hf : findM ds e.name = (((dataOf ds e.name : Nat) : Int), ((place (cnames d) e.name : Nat) : Int), true) := by
    unfold findM
    rw [hd]
  rw [hf]
  simp
theorem rank_var {ds : List DataD} {S l : List Str} {e : Exp} (h : e.kind = 1) : rankM ds S l e = if e.name ∈ l then S.length + rlast l e.name else rlast S e.name := by
  unfold rankM
  rw [if_pos h]
theorem rlast_lt {l : List Str} {s : Str} (h : s ∈ l) : 0 ≤ rlast l s ∧ rlast l s < l.length := by
  refine ⟨rlast_mem h, ?_⟩
  unfold rlast
  rw [if_pos h]
  have := place_mem.2 (List.mem_reverse.2 h)
  rw [List.length_reverse] at this
  omega
theorem rlast_get {l : List Str} {s : Str} (h : s ∈ l) : l[(rlast l s).toNat]? = some s := by
  unfold rlast
  rw [if_pos h]
  have hp := place_mem.2 (List.mem_reverse.2 h)
  have hx := place_at hp
  rw [List.length_reverse] at hp
  rw [rev_get hp] at hx
  rw [show ((l.length : Int) - 1 - (place l.reverse s : Int)).toNat = l.length - 1 - place l.reverse s by omega]
  exact hx

section
variable {ds : List DataD} {S l m : List Str} {a b : Exp}
theorem con_rank (hlm : l.length = m.length) (ha : a.kind = 2) (hb : b.kind = 2) (da : ∃ d ∈ ds, a.name ∈ cnames d) (db : ∃ d ∈ ds, b.name ∈ cnames d) : rankM ds S l a = rankM ds S m b ↔ a.name = b.name := by
  constructor
  · intro h
    obtain ⟨i, k, d, h1, h2, h3⟩ := rank_con (S := S) (l := l) ha da
    obtain ⟨i', k', d', h1', h2', h3'⟩ := rank_con (S := S) (l := m) hb db
    rw [h3, h3'] at h
    have hk := (List.getElem?_eq_some_iff.1 h2).1
    have hk' := (List.getElem?_eq_some_iff.1 h2').1
    rw [cnames_len] at hk hk'
    obtain ⟨rfl, rfl⟩ := consTo_inj h1 h1' hk hk' (by omega)
    rw [h1] at h1'
    cases h1'
    rw [h2] at h2'
    exact Option.some.inj h2'
  · intro h
    unfold rankM
    rw [if_neg (by omega), if_pos ha, if_neg (by omega), if_pos hb, h, hlm]
theorem var_rank (hlm : l.length = m.length) (ha : a.kind = 1) (hb : b.kind = 1) (da : a.name ∈ S ∨ a.name ∈ l) (db : b.name ∈ S ∨ b.name ∈ m) : rankM ds S l a = rankM ds S m b ↔ varEq l m a.name b.name := by
  rw [rank_var ha, rank_var hb]
  unfold varEq
  by_cases h1 : a.name ∈ l
  · obtain ⟨p1, p2⟩ := rlast_lt h1
    rw [if_pos h1]
    by_cases h2 : b.name ∈ m
    · rw [if_pos h2]
      constructor
      · exact fun h => ⟨by omega, .inl p1⟩
      · exact fun h => by omega
    · obtain ⟨q1, q2⟩ := rlast_lt (db.resolve_right h2)
      rw [if_neg h2, rlast_no h2]
      constructor
      · omega
      · omega
  · obtain ⟨p1, p2⟩ := rlast_lt (da.resolve_right h1)
    rw [if_neg h1, rlast_no h1]
    by_cases h2 : b.name ∈ m
    · obtain ⟨q1, q2⟩ := rlast_lt h2
      rw [if_pos h2]
      constructor
      · omega
      · omega
    · rw [if_neg h2, rlast_no h2]
      have g1 := rlast_get (da.resolve_right h1)
      have g2 := rlast_get (db.resolve_right h2)
      constructor
      · intro h
        rw [h, g2] at g1
        exact ⟨rfl, .inr (Option.some.inj g1).symm⟩
      · rintro ⟨_, h | h⟩
        · omega
        · rw [h]
theorem mixed_rank (hlm : l.length = m.length) (ha : a.kind = 1) (hb : b.kind = 2) (da : a.name ∈ S ∨ a.name ∈ l) (db : ∃ d ∈ ds, b.name ∈ cnames d) : rankM ds S l a < rankM ds S m b := by
  obtain ⟨i', k', d', h1', h2', h3'⟩ := rank_con (S := S) (l := m) hb db
  rw [rank_var ha, h3']
  by_cases h1 : a.name ∈ l
  · have := rlast_lt h1
    rw [if_pos h1]
    omega
  · have := rlast_lt (da.resolve_right h1)
    rw [if_neg h1]
    omega
end

/-- The heads of terms have the same rank exactly if they are alpha-equal. -/
theorem head_rank {ds : List DataD} {S N l m : List Str} {a b : Exp} (hS : ∀ s ∈ N, s ∈ S) (hlm : l.length = m.length) (ga : good a) (gb : good b) (ka : a.kind = 1 ∨ a.kind = 2) (kb : b.kind = 1 ∨ b.kind = 2) (sa : inScope ds a (N ++ l)) (sb : inScope ds b (N ++ m)) :
    rankM ds S l a = rankM ds S m b ↔ alphaP a b l m := by
  rw [inScope_eq] at sa sb
  obtain ⟨⟨s1, s2, _⟩, _⟩ := sa
  obtain ⟨⟨t1, t2, _⟩, _⟩ := sb
  have inS : ∀ {s : Str} {l : List Str}, s ∈ N ++ l → s ∈ S ∨ s ∈ l := fun h => (List.mem_append.1 h).imp (hS _) id
  have lens : ∀ {e : Exp}, good e → (e.kind = 1 ∨ e.kind = 2) → e.kids.length = 0 ∧ e.arms.length = 0 := by
    intro e g k
    rcases g.cases with h | h | h | h | h
    · simp [h.2.2.1, h.2.2.2]
    · simp [h.2.2.1, h.2.2.2]
    · omega
    · omega
    · omega
  have la := lens ga ka
  have lb := lens gb kb
  obtain ⟨_, na, ya, _⟩ := ga.one
  obtain ⟨_, nb, yb, _⟩ := gb.one
  have he : a.kind = b.kind → headEq a b := fun h => ⟨h, by rw [na, nb], by rw [ya, yb], by rw [la.1, lb.1], by rw [la.2, lb.2]⟩
  rw [alphaP_eq]
  rcases ka with ka | ka <;> rcases kb with kb | kb
  · rw [var_rank hlm ka kb (inS (s1 ka)) (inS (t1 kb))]
    exact ⟨fun h => ⟨he (by omega), fun _ => h, fun h2 => by omega, fun h2 => absurd ka h2⟩, fun h => h.2.1 ka⟩
  · have := mixed_rank (ds := ds) (S := S) hlm ka kb (inS (s1 ka)) (t2 kb)
    exact ⟨fun h => by omega, fun h => by have := h.1.1; omega⟩
  · have := mixed_rank (ds := ds) (S := S) hlm.symm kb ka (inS (t1 kb)) (s2 ka)
    exact ⟨fun h => by omega, fun h => by have := h.1.1; omega⟩
  · rw [con_rank hlm ka kb (s2 ka) (t2 kb)]
    exact ⟨fun h => ⟨he (by omega), fun h1 => by omega, fun _ => h, fun _ h2 => absurd ka h2⟩, fun h => h.2.2.1 ka⟩
end Go.Vs.Tryz

/- Two terms compare as equal exactly if they are alpha-equal; comparisons chain (plain). -/
namespace Go.Vs.Tryz
open Go Go.Vs

theorem good_num {a b : Exp} (ga : good a) (gb : good b) : a.num = b.num ∧ a.ty = b.ty := by
  obtain ⟨_, na, ya, _⟩ := ga.one
  obtain ⟨_, nb, yb, _⟩ := gb.one
  exact ⟨by rw [na, nb], by rw [ya, yb]⟩

theorem bound_none {e : Exp} (h : e.kind = 1 ∨ e.kind = 2 ∨ e.kind = 5) (i : Nat) : e.bound i = [] := by
  rw [bound_some, if_neg (by omega), if_neg (by omega)]

/-- Alpha-equal functions and arguments. -/
theorem alpha_app {a b f x g y : Exp} {l m : List Str} (ga : good a) (gb : good b) (ha : a.kind = 5) (hb : b.kind = 5) (ka : a.kids = [f, x]) (kb : b.kids = [g, y]) (ra : a.arms = []) (rb : b.arms = []) :
    alphaP a b l m ↔ alphaP f g l m ∧ alphaP x y l m := by
  have ca : a.children = [f, x] := by simp [Exp.children, ka, ra]
  have cb : b.children = [g, y] := by simp [Exp.children, kb, rb]
  have na := good_num ga gb
  rw [alphaP_eq]
  constructor
  · rintro ⟨_, _, _, h⟩
    obtain ⟨_, h⟩ := h (by omega) (by omega)
    have h1 := h 0 f g (by rw [ca]; rfl) (by rw [cb]; rfl)
    have h2 := h 1 x y (by rw [ca]; rfl) (by rw [cb]; rfl)
    rw [bound_none (by omega), bound_none (by omega), List.append_nil, List.append_nil] at h1 h2
    exact ⟨h1, h2⟩
  · rintro ⟨h1, h2⟩
    refine ⟨⟨by omega, na.1, na.2, by rw [ka, kb]; rfl, by rw [ra, rb]⟩, fun h => by omega, fun h => by omega, fun _ _ => ⟨fun i p q hp => by rw [ra] at hp; simp at hp, fun i u v hu hv => ?_⟩⟩
    rw [bound_none (by omega), bound_none (by omega), List.append_nil, List.append_nil]
    rw [ca] at hu
    rw [cb] at hv
    match i with
    | 0 => cases hu; cases hv; exact h1
    | 1 => cases hu; cases hv; exact h2
    | i + 2 => simp at hu

def Heady (e : Exp) : Prop := e.kind = 1 ∨ e.kind = 2 ∨ e.kind = 5

theorem alpha_spine (a : Exp) : ∀ (b : Exp) (l m : List Str), good a → good b → Heady a → Heady b →
    (alphaP a b l m ↔ alphaP (spine a).1 (spine b).1 l m ∧ (spine a).2.length = (spine b).2.length ∧ ∀ (i : Nat) x y, (spine a).2[i]? = some x → (spine b).2[i]? = some y → alphaP x y l m) := by
  induction a using Exp.ind with
  | h a ih =>
    intro b l m ga gb ka kb
    by_cases ha : a.kind = 5
    · obtain ⟨_, _, ⟨f, x, hfx, hf, gf, gx⟩, hra⟩ : a.kind = 5 ∧ a.name = [] ∧ (∃ f x, a.kids = [f, x] ∧ (f.kind = 1 ∨ f.kind = 2 ∨ f.kind = 5) ∧ good f ∧ good x) ∧ a.arms = [] := by
        rcases ga.cases with h | h | h | h | h
        · omega
        · omega
        · omega
        · exact h
        · omega
      have ca : a.children = [f, x] := by simp [Exp.children, hfx, hra]
      by_cases hb : b.kind = 5
      · obtain ⟨_, _, ⟨g, y, hgy, hg, gg, gy⟩, hrb⟩ : b.kind = 5 ∧ b.name = [] ∧ (∃ f x, b.kids = [f, x] ∧ (f.kind = 1 ∨ f.kind = 2 ∨ f.kind = 5) ∧ good f ∧ good x) ∧ b.arms = [] := by
          rcases gb.cases with h | h | h | h | h
          · omega
          · omega
          · omega
          · exact h
          · omega
        rw [alpha_app ga gb ha hb hfx hgy hra hrb, spine_app ha hfx, spine_app hb hgy, ih f (by simp [ca]) g l m gf gg hf hg]
        simp only [List.length_append, List.length_singleton]
        constructor
        · rintro ⟨⟨h1, h2, h3⟩, h4⟩
          refine ⟨h1, by omega, fun i u v hu hv => ?_⟩
          by_cases hi : i < (spine f).2.length
          · rw [List.getElem?_append_left hi] at hu
            rw [List.getElem?_append_left (by omega)] at hv
            exact h3 i u v hu hv
          · rw [List.getElem?_append_right (by omega)] at hu
            rw [List.getElem?_append_right (by omega)] at hv
            have hi0 : i - (spine f).2.length = 0 := by
              have := (List.getElem?_eq_some_iff.1 hu).1
              simp at this
              omega
            have hi1 : i - (spine g).2.length = 0 := by omega
            rw [hi0] at hu
            rw [hi1] at hv
            cases hu
            cases hv
            exact h4
        · rintro ⟨h1, h2, h3⟩
          have h2' : (spine f).2.length = (spine g).2.length := by omega
          refine ⟨⟨h1, h2', fun i u v hu hv => ?_⟩, ?_⟩
          · have hi := (List.getElem?_eq_some_iff.1 hu).1
            exact h3 i u v (by rw [List.getElem?_append_left hi]; exact hu) (by rw [List.getElem?_append_left (by omega)]; exact hv)
          · exact h3 (spine f).2.length x y (by simp) (by rw [h2']; simp)
      · rw [spine_app ha hfx, spine_no hb]
        constructor
        · intro h
          rw [alphaP_eq] at h
          have := h.1.1
          omega
        · rintro ⟨_, h, _⟩
          simp at h
    · by_cases hb : b.kind = 5
      · obtain ⟨_, _, ⟨g, y, hgy, hg, gg, gy⟩, hrb⟩ : b.kind = 5 ∧ b.name = [] ∧ (∃ f x, b.kids = [f, x] ∧ (f.kind = 1 ∨ f.kind = 2 ∨ f.kind = 5) ∧ good f ∧ good x) ∧ b.arms = [] := by
          rcases gb.cases with h | h | h | h | h
          · omega
          · omega
          · omega
          · exact h
          · omega
        rw [spine_app hb hgy, spine_no ha]
        constructor
        · intro h
          rw [alphaP_eq] at h
          have := h.1.1
          omega
        · rintro ⟨_, h, _⟩
          simp at h
      · rw [spine_no ha, spine_no hb]
        simp

theorem alpha_size (a : Exp) : ∀ (b : Exp) (l m : List Str), alphaP a b l m → (a.kind = 1 ∨ a.kind = 2 → a.children = [] ∧ b.children = []) → good a → good b → sizeM a = sizeM b := by
  induction a using Exp.ind with
  | h a ih =>
    intro b l m h _ ga gb
    have leaf : ∀ {e : Exp}, good e → e.kind = 1 ∨ e.kind = 2 → e.children = [] := by
      intro e g k
      rcases g.cases with h | h | h | h | h
      · simp [Exp.children, h.2.2.1, h.2.2.2]
      · simp [Exp.children, h.2.2.1, h.2.2.2]
      · omega
      · omega
      · omega
    rw [alphaP_eq] at h
    obtain ⟨h1, h2, h3, h4⟩ := h
    rw [sizeM_eq, sizeM_eq, h1.1]
    have hc : a.children.map sizeM = b.children.map sizeM := by
      by_cases k : a.kind = 1 ∨ a.kind = 2
      · rw [leaf ga k, leaf gb (by rw [← h1.1]; exact k)]
      · obtain ⟨_, h6⟩ := h4 (by omega) (by omega)
        refine List.ext_getElem? fun i => ?_
        rw [List.getElem?_map, List.getElem?_map]
        by_cases hi : i < a.children.length
        · obtain ⟨x, hx⟩ := get_of_lt hi
          obtain ⟨y, hy⟩ := get_of_lt (l := b.children) (i := i) (by rw [← h1.children]; exact hi)
          have gx := ga.child (List.mem_of_getElem? hx)
          have gy := gb.child (List.mem_of_getElem? hy)
          have hxy := h6 i x y hx hy
          have := ih x (List.mem_of_getElem? hx) y _ _ hxy (fun k => ⟨leaf gx k, leaf gy (by rw [alphaP_eq] at hxy; rw [← hxy.1.1]; exact k)⟩) gx gy
          rw [hx, hy]
          simp [this]
        · rw [List.getElem?_eq_none (by omega), List.getElem?_eq_none (by rw [← h1.children]; omega)]
    rw [hc]
theorem alpha_size' {a b : Exp} {l m : List Str} (h : alphaP a b l m) (ga : good a) (gb : good b) : sizeM a = sizeM b := by
  have leaf : ∀ {e : Exp}, good e → e.kind = 1 ∨ e.kind = 2 → e.children = [] := by
    intro e g k
    rcases g.cases with h | h | h | h | h
    · simp [Exp.children, h.2.2.1, h.2.2.2]
    · simp [Exp.children, h.2.2.1, h.2.2.2]
    · omega
    · omega
    · omega
  exact alpha_size a b l m h (fun k => ⟨leaf ga k, leaf gb (by rw [alphaP_eq] at h; rw [← h.1.1]; exact k)⟩) ga gb

theorem zip_zero {α : Type} {f : α → α → Int} : ∀ {l m : List α}, (∀ x ∈ List.zipWith f l m, x = 0) ↔ ∀ (i : Nat) p q, l[i]? = some p → m[i]? = some q → f p q = 0
  | [], m => by simp
  | _ :: _, [] => by simp
  | a :: l, b :: m => by
    simp only [List.zipWith_cons_cons, List.mem_cons, forall_eq_or_imp, zip_zero (f := f) (l := l) (m := m)]
    constructor
    · rintro ⟨h1, h2⟩ i p q hp hq
      cases i with
      | zero => cases hp; cases hq; exact h1
      | succ i => exact h2 i p q (by simpa using hp) (by simpa using hq)
    · intro h
      exact ⟨h 0 a b rfl rfl, fun i p q hp hq => h (i + 1) p q (by simpa using hp) (by simpa using hq)⟩
theorem Tri_zip {α : Type} {f g h : α → α → Int} {p q r : Int} (ht : Tri p q r) : ∀ {la lb lc : List α}, la.length = lb.length → lb.length = lc.length → (∀ (i : Nat) x y z, la[i]? = some x → lb[i]? = some y → lc[i]? = some z → Tri (f x y) (g y z) (h x z)) →
    Tri (orI (List.zipWith f la lb ++ [p])) (orI (List.zipWith g lb lc ++ [q])) (orI (List.zipWith h la lc ++ [r]))
  | [], [], [], _, _, _ => by simpa [orI_one] using ht
  | a :: la, b :: lb, c :: lc, h1, h2, h3 => by
    simp only [List.zipWith_cons_cons, List.cons_append]
    exact Tri_cons (h3 0 a b c rfl rfl rfl) fun _ _ _ => Tri_zip ht (by simpa using h1) (by simpa using h2) fun i x y z hx hy hz => h3 (i + 1) x y z (by simpa using hx) (by simpa using hy) (by simpa using hz)
theorem zip_tail (l : List Int) : orI l = orI (l ++ [0]) := by
  induction l with
  | nil => rfl
  | cons a r ih => rw [List.cons_append, orI_cons, orI_cons, ih]
end Go.Vs.Tryz

/- Two terms compare as equal exactly if they are alpha-equal; comparisons chain: the induction (plain). -/
namespace Go.Vs.Tryz
open Go Go.Vs

theorem inScope_child {ds : List DataD} {e x : Exp} {N : List Str} {i : Nat} (h : inScope ds e N) (hx : e.children[i]? = some x) : inScope ds x (N ++ e.bound i) := by
  rw [inScope_eq] at h
  exact h.2 i x hx
theorem good.app {e : Exp} (g : good e) (h : e.kind = 5) : ∃ f x, e.kids = [f, x] ∧ Heady f ∧ good f ∧ good x ∧ e.arms = [] := by
  rcases g.cases with h1 | h1 | h1 | ⟨_, _, ⟨f, x, h2, h3, h4, h5⟩, h6⟩ | h1
  · omega
  · omega
  · omega
  · exact ⟨f, x, h2, h3, h4, h5, h6⟩
  · omega
theorem good.lam {e : Exp} (g : good e) (h : e.kind = 4) : ∃ x, e.kids = [x] ∧ good x ∧ e.arms = [] := by
  rcases g.cases with h1 | h1 | ⟨_, _, ⟨x, h2, h3⟩, h4⟩ | h1 | h1
  · omega
  · omega
  · exact ⟨x, h2, h3, h4⟩
  · omega
  · omega
theorem good.case {e : Exp} (g : good e) (h : e.kind = 8) : ∃ x, e.kids = [x] ∧ x.kind = 1 ∧ good x ∧ e.arms ≠ [] ∧ ∀ a ∈ e.arms, good a.2 := by
  rcases g.cases with h1 | h1 | h1 | h1 | ⟨_, _, ⟨x, h2, h3, h4⟩, h5, h6⟩
  · omega
  · omega
  · omega
  · omega
  · exact ⟨x, h2, h3, h4, h5, fun a ha => (h6 a ha).2.2.2.2⟩
theorem good.heady {e : Exp} (g : good e) (h4 : e.kind ≠ 4) (h8 : e.kind ≠ 8) : Heady e := by
  rcases g.cases with h1 | h1 | h1 | h1 | h1
  · exact .inl h1.1
  · exact .inr (.inl h1.1)
  · exact absurd h1.1 h4
  · exact .inr (.inr h1.1)
  · exact absurd h1.1 h8

theorem inScope_spine {ds : List DataD} {N : List Str} (e : Exp) : good e → Heady e → inScope ds e N → inScope ds (spine e).1 N ∧ ∀ x ∈ (spine e).2, inScope ds x N := by
  induction e using Exp.ind with
  | h e ih =>
    intro g k s
    by_cases h5 : e.kind = 5
    · obtain ⟨f, x, hk, hf, gf, gx, ha⟩ := g.app h5
      have hc : e.children = [f, x] := by simp [Exp.children, hk, ha]
      have s1 := inScope_child (i := 0) (x := f) s (by rw [hc]; rfl)
      have s2 := inScope_child (i := 1) (x := x) s (by rw [hc]; rfl)
      rw [bound_none (by omega), List.append_nil] at s1 s2
      obtain ⟨t1, t2⟩ := ih f (by simp [hc]) gf hf s1
      rw [spine_app h5 hk]
      refine ⟨t1, fun y hy => ?_⟩
      rcases List.mem_append.1 hy with hy | hy
      · exact t2 y hy
      · simp only [List.mem_singleton] at hy
        exact hy ▸ s2
    · rw [spine_no h5]
      exact ⟨s, by simp⟩

/-- The parts of an analysis that count. -/
structure CaseP (ds : List DataD) (N : List Str) (e x : Exp) (d : DataD) : Prop where
  kids : e.kids = [x]
  kind : x.kind = 1
  good : Go.Vs.Tryz.good x
  sc : inScope ds x N
  ne : e.arms ≠ []
  mem : d ∈ ds
  cons : (e.arms.map fun a => a.1.con) = cnames d
  vars : (e.arms.map fun a => a.1.vars.length) = d.cons.map fun c => c.fields.length
  arms : ∀ (i : Nat) a, e.arms[i]? = some a → Go.Vs.Tryz.good a.2 ∧ inScope ds a.2 (N ++ a.1.vars) ∧ a.2.weight < e.weight
theorem caseP {ds : List DataD} {N : List Str} {e : Exp} (g : good e) (h : e.kind = 8) (s : inScope ds e N) : ∃ x d, CaseP ds N e x d := by
  obtain ⟨x, hk, hx, gx, hne, hall⟩ := g.case h
  have s' := s
  rw [inScope_eq] at s'
  obtain ⟨d, hd, h1, h2⟩ := s'.1.2.2 h
  refine ⟨x, d, hk, hx, gx, ?_, hne, hd, h1, h2, fun i a ha => ⟨hall a (List.mem_of_getElem? ha), ?_, Exp.child_lt (arm_mem (List.mem_of_getElem? ha))⟩⟩
  · have := inScope_child (i := 0) (x := x) s (by simp [Exp.children, hk])
    rw [bound_some, if_neg (by omega), if_neg (by omega), List.append_nil] at this
    exact this
  · have := inScope_child (i := i + 1) (x := a.2) s (by simp [Exp.children, hk, ha])
    rw [bound_some, if_neg (by omega), if_pos (by omega), Nat.add_sub_cancel, ha] at this
    exact this
theorem CaseP.con0 {ds : List DataD} {N : List Str} {e x : Exp} {d : DataD} (h : CaseP ds N e x d) : ∃ s, (cnames d)[0]? = some s ∧ Go.Vs.Tryz.con0 e = conExp s := by
  cases ha : e.arms with
  | nil => exact absurd ha h.ne
  | cons a r =>
    refine ⟨a.1.con, ?_, ?_⟩
    · rw [← h.cons, ha]; rfl
    · unfold Go.Vs.Tryz.con0
      rw [ha]; rfl
/-- Analyses whose first arms have constructors of the same rank have the same arms. -/
theorem CaseP.same {ds : List DataD} {S N l m : List Str} {a b x y : Exp} {d d' : DataD} (hu : uniq ds) (hlm : l.length = m.length) (ha : CaseP ds (N ++ l) a x d) (hb : CaseP ds (N ++ m) b y d') : rankM ds S l (Go.Vs.Tryz.con0 a) = rankM ds S m (Go.Vs.Tryz.con0 b) ↔ d = d' := by
  obtain ⟨s, h1, h2⟩ := ha.con0
  obtain ⟨t, h3, h4⟩ := hb.con0
  have m1 : s ∈ cnames d := List.mem_of_getElem? h1
  have m2 : t ∈ cnames d' := List.mem_of_getElem? h3
  rw [h2, h4, con_rank (a := conExp s) (b := conExp t) hlm rfl rfl ⟨d, ha.mem, m1⟩ ⟨d', hb.mem, m2⟩]
  show s = t ↔ _
  constructor
  · rintro rfl
    exact hu d ha.mem d' hb.mem s m1 m2
  · rintro rfl
    rw [h1] at h3
    exact Option.some.inj h3
theorem CaseP.len {ds : List DataD} {N : List Str} {e x : Exp} {d : DataD} (h : CaseP ds N e x d) : e.arms.length = d.cons.length := by
  have := congrArg List.length h.vars
  simpa using this
theorem CaseP.vlen {ds : List DataD} {N M : List Str} {a b x y : Exp} {d : DataD} (h : CaseP ds N a x d) (h' : CaseP ds M b y d) {i : Nat} {p q : ArmH × Exp} (hp : a.arms[i]? = some p) (hq : b.arms[i]? = some q) : p.1.con = q.1.con ∧ p.1.vars.length = q.1.vars.length := by
  have e1 : (a.arms.map fun a => a.1.con)[i]? = (b.arms.map fun a => a.1.con)[i]? := by rw [h.cons, h'.cons]
  have e2 : (a.arms.map fun a => a.1.vars.length)[i]? = (b.arms.map fun a => a.1.vars.length)[i]? := by rw [h.vars, h'.vars]
  rw [List.getElem?_map, List.getElem?_map, hp, hq] at e1 e2
  exact ⟨Option.some.inj e1, Option.some.inj e2⟩

theorem kid0_of {e x : Exp} {r : List Exp} (h : e.kids = x :: r) : kid0 e = x := by unfold kid0; rw [h]; rfl

theorem orI3 {a b c : Int} : orI [a, b, c] = 0 ↔ a = 0 ∧ b = 0 ∧ c = 0 := by
  rw [orI_eq_zero]
  simp

theorem cmp_zero {ds : List DataD} {S N : List Str} (hu : uniq ds) (hS : ∀ s ∈ N, s ∈ S) : ∀ (n : Nat) (a b : Exp) (l m : List Str), a.weight ≤ n → good a → good b → l.length = m.length → inScope ds a (N ++ l) → inScope ds b (N ++ m) →
    (cmpF (rankM ds S) n l m a b = 0 ↔ alphaP a b l m) := by
  intro n
  induction n with
  | zero => intro a b l m h; have := a.weight_pos; omega
  | succ n ih =>
    intro a b l m hw ga gb hlm sa sb
    have hn := good_num ga gb
    have main : kindM a = kindM b → (cmpR (rankM ds S) n l m a b = 0 ↔ alphaP a b l m) := by
      intro hk
      obtain ⟨k4, k8⟩ := kind_of hk
      unfold cmpR
      by_cases h4 : a.kind = 4
      · obtain ⟨x, hx, gx, ra⟩ := ga.lam h4
        obtain ⟨y, hy, gy, rb⟩ := gb.lam (k4.1 h4)
        have ca : a.children = [x] := by simp [Exp.children, hx, ra]
        have cb : b.children = [y] := by simp [Exp.children, hy, rb]
        have ba : ∀ i, a.bound i = [a.name] := fun i => by rw [bound_some, if_pos (.inl h4)]
        have bb : ∀ i, b.bound i = [b.name] := fun i => by rw [bound_some, if_pos (.inl (k4.1 h4))]
        have s1 := inScope_child (i := 0) (x := x) sa (by rw [ca]; rfl)
        have s2 := inScope_child (i := 0) (x := y) sb (by rw [cb]; rfl)
        rw [ba, List.append_assoc] at s1
        rw [bb, List.append_assoc] at s2
        have hxw := Exp.child_lt (e := a) (x := x) (by rw [ca]; simp)
        rw [if_pos h4, kid0_of hx, kid0_of hy, ih x y (l ++ [a.name]) (m ++ [b.name]) (by omega) gx gy (by simp [hlm]) s1 s2, alphaP_eq a b]
        constructor
        · intro h
          refine ⟨⟨by rw [h4, k4.1 h4], hn.1, hn.2, by rw [hx, hy]; rfl, by rw [ra, rb]⟩, fun h => by omega, fun h => by omega, fun _ _ => ⟨fun i p q hp => by rw [ra] at hp; simp at hp, fun i u v hu hv => ?_⟩⟩
          rw [ca] at hu
          rw [cb] at hv
          rw [ba, bb]
          match i with
          | 0 => cases hu; cases hv; exact h
          | i + 1 => simp at hu
        · rintro ⟨_, _, _, h⟩
          have := (h (by omega) (by omega)).2 0 x y (by rw [ca]; rfl) (by rw [cb]; rfl)
          rw [ba, bb] at this
          exact this
      · rw [if_neg h4]
        by_cases h8 : a.kind = 8
        · obtain ⟨x, d, ha⟩ := caseP ga h8 sa
          obtain ⟨y, d', hb⟩ := caseP gb (k8.1 h8) sb
          have hsame := CaseP.same (S := S) hu hlm ha hb
          have hhead := head_rank (ds := ds) hS hlm ha.good hb.good (.inl ha.kind) (.inl hb.kind) ha.sc hb.sc
          rw [if_pos h8, kid0_of ha.kids, kid0_of hb.kids, orI_eq_zero]
          simp only [List.mem_cons, List.mem_append, List.mem_singleton, List.not_mem_nil, or_false, forall_eq_or_imp, cmpI_zero]
          have hz : (∀ z, z ∈ List.zipWith (fun p q => cmpF (rankM ds S) n (l ++ p.1.vars) (m ++ q.1.vars) p.2 q.2) a.arms b.arms ∨ z = cmpI a.arms.length b.arms.length → z = 0) ↔ a.arms.length = b.arms.length ∧ ∀ (i : Nat) p q, a.arms[i]? = some p → b.arms[i]? = some q → cmpF (rankM ds S) n (l ++ p.1.vars) (m ++ q.1.vars) p.2 q.2 = 0 := by
            have hzz := zip_zero (f := fun (p q : ArmH × Exp) => cmpF (rankM ds S) n (l ++ p.1.vars) (m ++ q.1.vars) p.2 q.2) (l := a.arms) (m := b.arms)
            rw [← hzz]
            constructor
            · intro h
              exact ⟨by have := cmpI_zero.1 (h _ (.inr rfl)); omega, fun z hz => h z (.inl hz)⟩
            · rintro ⟨h1, h2⟩ z (hz | rfl)
              · exact h2 z hz
              · exact cmpI_zero.2 (by omega)
          rw [hz, hhead, hsame, alphaP_eq a b]
          have arm : d = d' → ∀ (i : Nat) p q, a.arms[i]? = some p → b.arms[i]? = some q → (cmpF (rankM ds S) n (l ++ p.1.vars) (m ++ q.1.vars) p.2 q.2 = 0 ↔ alphaP p.2 q.2 (l ++ p.1.vars) (m ++ q.1.vars)) := by
            rintro rfl i p q hp hq
            obtain ⟨g1, s1, w1⟩ := ha.arms i p hp
            obtain ⟨g2, s2, _⟩ := hb.arms i q hq
            rw [List.append_assoc] at s1 s2
            exact ih p.2 q.2 _ _ (by omega) g1 g2 (by have := (CaseP.vlen ha hb hp hq).2; simp; omega) s1 s2
          have bnd : ∀ {e : Exp} {i : Nat} {p : ArmH × Exp}, e.kind = 8 → e.arms[i]? = some p → e.bound (i + 1) = p.1.vars := by
            intro e i p he hp
            rw [bound_some, if_neg (by omega), if_pos (by omega), Nat.add_sub_cancel, hp]
            rfl
          have bnd0 : ∀ {e : Exp}, e.kind = 8 → e.bound 0 = [] := by
            intro e he
            rw [bound_some, if_neg (by omega), if_neg (by omega)]
          constructor
          · rintro ⟨h1, h2, h3, h5⟩
            subst h2
            refine ⟨⟨by rw [h8, k8.1 h8], hn.1, hn.2, by rw [ha.kids, hb.kids]; rfl, h3⟩, fun h => by omega, fun h => by omega, fun _ _ => ⟨fun i p q hp hq => CaseP.vlen ha hb hp hq, fun i u v hu hv => ?_⟩⟩
            cases i with
            | zero =>
              rw [bnd0 h8, bnd0 (k8.1 h8), List.append_nil, List.append_nil]
              simp [Exp.children, ha.kids] at hu
              simp [Exp.children, hb.kids] at hv
              subst hu hv
              exact h1
            | succ i =>
              simp [Exp.children, ha.kids] at hu
              simp [Exp.children, hb.kids] at hv
              obtain ⟨p1, hp⟩ := hu
              obtain ⟨q1, hq⟩ := hv
              rw [bnd h8 hp, bnd (k8.1 h8) hq]
              exact (arm rfl i _ _ hp hq).1 (h5 i _ _ hp hq)
          · rintro ⟨⟨_, _, _, _, h3⟩, _, _, h6⟩
            obtain ⟨h6, h7⟩ := h6 (by omega) (by omega)
            have hd : d = d' := by
              obtain ⟨s, q1, q2⟩ := ha.con0
              obtain ⟨t, q3, q4⟩ := hb.con0
              have hst : s = t := by
                rw [← ha.cons, List.getElem?_map] at q1
                rw [← hb.cons, List.getElem?_map] at q3
                obtain ⟨p, hp, rfl⟩ := Option.map_eq_some_iff.1 q1
                obtain ⟨q, hq, rfl⟩ := Option.map_eq_some_iff.1 q3
                exact (h6 0 p q hp hq).1
              subst hst
              exact hu d ha.mem d' hb.mem s (List.mem_of_getElem? q1) (List.mem_of_getElem? q3)
            refine ⟨?_, hd, h3, fun i p q hp hq => (arm hd i p q hp hq).2 ?_⟩
            · have := h7 0 x y (by simp [Exp.children, ha.kids]) (by simp [Exp.children, hb.kids])
              rw [bnd0 h8, bnd0 (k8.1 h8), List.append_nil, List.append_nil] at this
              exact this
            · have := h7 (i + 1) p.2 q.2 (by simp [Exp.children, ha.kids, hp]) (by simp [Exp.children, hb.kids, hq])
              rw [bnd h8 hp, bnd (k8.1 h8) hq] at this
              exact this
        · have ka := ga.heady h4 h8
          have kb := gb.heady (fun h => h4 (k4.2 h)) (fun h => h8 (k8.2 h))
          obtain ⟨p1, p2, p3, _, p5⟩ := spine_good a ga ka
          obtain ⟨q1, q2, q3, _, _⟩ := spine_good b gb kb
          obtain ⟨s1, s2⟩ := inScope_spine a ga ka sa
          obtain ⟨t1, t2⟩ := inScope_spine b gb kb sb
          rw [if_neg h8, orI3, cmpI_zero, cmpI_zero, orI_eq_zero, zip_zero, head_rank hS hlm p2 q2 p1 q1 s1 t1, alpha_spine a b l m ga gb ka kb]
          refine and_congr_right fun _ => ?_
          constructor
          · rintro ⟨h1, h2⟩
            refine ⟨by omega, fun i x y hx hy => ?_⟩
            have mx := List.mem_of_getElem? hx
            have my := List.mem_of_getElem? hy
            have := sum_mem (f := Exp.weight) mx
            exact (ih x y l m (by omega) (p3 x mx) (q3 y my) hlm (s2 x mx) (t2 y my)).1 (h2 i x y hx hy)
          · rintro ⟨h1, h2⟩
            refine ⟨by omega, fun i x y hx hy => ?_⟩
            have mx := List.mem_of_getElem? hx
            have my := List.mem_of_getElem? hy
            have := sum_mem (f := Exp.weight) mx
            exact (ih x y l m (by omega) (p3 x mx) (q3 y my) hlm (s2 x mx) (t2 y my)).2 (h2 i x y hx hy)
    rw [cmpF_succ, orI3, cmpI_zero, cmpI_zero]
    constructor
    · rintro ⟨_, h2, h3⟩
      exact (main h2).1 h3
    · intro h
      have hk : kindM a = kindM b := by
        have h' := h
        rw [alphaP_eq] at h'
        unfold kindM
        rw [h'.1.1]
      exact ⟨by rw [alpha_size' h ga gb], hk, (main hk).2 h⟩

theorem cmp_Tri {ds : List DataD} {S N : List Str} (hu : uniq ds) (hS : ∀ s ∈ N, s ∈ S) : ∀ (n : Nat) (a b c : Exp) (l m k : List Str), good a → good b → good c → l.length = m.length → m.length = k.length → inScope ds a (N ++ l) → inScope ds b (N ++ m) → inScope ds c (N ++ k) →
    Tri (cmpF (rankM ds S) n l m a b) (cmpF (rankM ds S) n m k b c) (cmpF (rankM ds S) n l k a c) := by
  intro n
  induction n with
  | zero => intros; exact Tri_zero
  | succ n ih =>
    intro a b c l m k ga gb gc hlm hmk sa sb sc
    rw [cmpF_succ, cmpF_succ, cmpF_succ]
    refine Tri_cons (Tri_cmpI _ _ _) fun _ _ _ => Tri_cons (Tri_cmpI _ _ _) fun e1 e2 _ => ?_
    rw [orI_one, orI_one, orI_one]
    obtain ⟨k4, k8⟩ := kind_of (cmpI_zero.1 e1)
    obtain ⟨j4, j8⟩ := kind_of (cmpI_zero.1 e2)
    unfold cmpR
    by_cases h4 : a.kind = 4
    · obtain ⟨x, hx, gx, ra⟩ := ga.lam h4
      obtain ⟨y, hy, gy, rb⟩ := gb.lam (k4.1 h4)
      obtain ⟨z, hz, gz, rc⟩ := gc.lam (j4.1 (k4.1 h4))
      have sub : ∀ {e x : Exp} {l : List Str}, e.kind = 4 → e.kids = [x] → inScope ds e (N ++ l) → inScope ds x (N ++ (l ++ [e.name])) := by
        intro e x l he hk s
        have := inScope_child (i := 0) (x := x) s (by simp [Exp.children, hk])
        rwa [bound_some, if_pos (.inl he), List.append_assoc] at this
      rw [if_pos h4, if_pos (k4.1 h4), if_pos h4, kid0_of hx, kid0_of hy, kid0_of hz]
      exact ih x y z _ _ _ gx gy gz (by simp [hlm]) (by simp [hmk]) (sub h4 hx sa) (sub (k4.1 h4) hy sb) (sub (j4.1 (k4.1 h4)) hz sc)
    · have b4 : b.kind ≠ 4 := fun h => h4 (k4.2 h)
      have c4 : c.kind ≠ 4 := fun h => b4 (j4.2 h)
      rw [if_neg h4, if_neg b4, if_neg h4]
      by_cases h8 : a.kind = 8
      · obtain ⟨x, d, ha⟩ := caseP ga h8 sa
        obtain ⟨y, d', hb⟩ := caseP gb (k8.1 h8) sb
        obtain ⟨z, d'', hc⟩ := caseP gc (j8.1 (k8.1 h8)) sc
        rw [if_pos h8, if_pos (k8.1 h8), if_pos h8]
        refine Tri_cons (Tri_cmpI _ _ _) fun _ _ _ => Tri_cons (Tri_cmpI _ _ _) fun f1 f2 _ => ?_
        have hd := (CaseP.same hu hlm ha hb).1 (cmpI_zero.1 f1)
        have hd' := (CaseP.same hu hmk hb hc).1 (cmpI_zero.1 f2)
        subst hd hd'
        refine Tri_zip (Tri_cmpI _ _ _) (by rw [ha.len, hb.len]) (by rw [hb.len, hc.len]) fun i p q r hp hq hr => ?_
        obtain ⟨g1, s1, _⟩ := ha.arms i p hp
        obtain ⟨g2, s2, _⟩ := hb.arms i q hq
        obtain ⟨g3, s3, _⟩ := hc.arms i r hr
        rw [List.append_assoc] at s1 s2 s3
        have v1 := (CaseP.vlen ha hb hp hq).2
        have v2 := (CaseP.vlen hb hc hq hr).2
        exact ih _ _ _ _ _ _ g1 g2 g3 (by simp; omega) (by simp; omega) s1 s2 s3
      · have b8 : b.kind ≠ 8 := fun h => h8 (k8.2 h)
        have c8 : c.kind ≠ 8 := fun h => b8 (j8.2 h)
        have ka := ga.heady h4 h8
        have kb := gb.heady b4 b8
        have kc := gc.heady c4 c8
        obtain ⟨_, _, p3, _, _⟩ := spine_good a ga ka
        obtain ⟨_, _, q3, _, _⟩ := spine_good b gb kb
        obtain ⟨_, _, r3, _, _⟩ := spine_good c gc kc
        obtain ⟨_, s2⟩ := inScope_spine a ga ka sa
        obtain ⟨_, t2⟩ := inScope_spine b gb kb sb
        obtain ⟨_, u2⟩ := inScope_spine c gc kc sc
        rw [if_neg h8, if_neg b8, if_neg h8]
        refine Tri_cons (Tri_cmpI _ _ _) fun _ _ _ => Tri_cons (Tri_cmpI _ _ _) fun f1 f2 _ => ?_
        rw [orI_one, orI_one, orI_one, zip_tail, zip_tail (List.zipWith _ (spine b).2 _), zip_tail (List.zipWith _ (spine a).2 (spine c).2)]
        have l1 := cmpI_zero.1 f1
        have l2 := cmpI_zero.1 f2
        refine Tri_zip Tri_zero (by omega) (by omega) fun i x y z hx hy hz => ?_
        have mx := List.mem_of_getElem? hx
        have my := List.mem_of_getElem? hy
        have mz := List.mem_of_getElem? hz
        exact ih x y z l m k (p3 x mx) (q3 y my) (r3 z mz) hlm hmk (s2 x mx) (t2 y my) (u2 z mz)
end Go.Vs.Tryz
