/- Terms made for the laws of chapter 29, walked. -/
import Derived.Test.YtchkkbbchpnabaaGreatDoorR7c
import Derived.Test.YtchkkbbchpnabaaGreatDoorR6c
import Derived.Test.YtchkkbbchpnabaaGreatDoorR8c
import Derived.Test.YtchkkbbchpnabaaGreatDoorR5c
import Derived.Test.YtchkkbbchpnabaaGreatDoorR4c
set_option linter.unusedSimpArgs false
set_option linter.unusedVariables false
set_option linter.deprecated false

/- Terms made for the laws of chapter 29, walked. -/
namespace Go.Vs.Tryz
open Go Go.Vs
variable {A : Oracle}

def conNames (ds : List DataD) : Prop := ∀ d ∈ ds, ∀ c ∈ d.cons, nameOk 65 90 c.name
/-- A made term: well made, its names visible; the tape read on. -/
def TermP (L : List Int) (ds : List DataD) (N : List Str) (B : Nat) (r : V × List Obj) : Prop := ∃ e J, good e ∧ inScope ds e N ∧ e.weight ≤ B ∧ J ≤ L.length ∧ r = (expV e, [tapeO L J])

theorem nameOk_low {s : Str} (h : s ∈ varNames) : nameOk 97 122 s := by
  simp only [varNames, List.mem_cons, List.not_mem_nil, or_false] at h
  rcases h with rfl | rfl | rfl | rfl | rfl | rfl | rfl | rfl <;> exact ⟨by decide, ⟨_, rfl, by decide, by decide⟩, by decide, by decide⟩

theorem inScope_mk {ds : List DataD} {k p : Int} {n : Str} {m : Int} {ks : List Exp} {l : List (ArmH × Exp)} {t : Ty} {N : List Str} : inScope ds (.mk k p n m ks l t) N = (inScope1 ds (.mk k p n m ks l t) N ∧ ∀ (i : Nat) x, (ks ++ l.map (·.2))[i]? = some x → inScope ds x (N ++ (Exp.mk k p n m ks l t).bound i)) := inScope_eq _ _ _
theorem good_mk {k p : Int} {n : Str} {m : Int} {ks : List Exp} {l : List (ArmH × Exp)} {t : Ty} : good (.mk k p n m ks l t) = (good1 (.mk k p n m ks l t) ∧ ∀ x ∈ ks ++ l.map (·.2), good x) := good_eq _

theorem var_good {s : Str} (h : nameOk 97 122 s) : good (varExp s) := by
  unfold varExp
  rw [good_mk]
  exact ⟨⟨rfl, rfl, rfl, .inl ⟨rfl, h, rfl, rfl⟩⟩, by simp⟩
theorem var_scope {ds : List DataD} {s : Str} {N : List Str} (h : s ∈ N) : inScope ds (varExp s) N := by
  unfold varExp
  rw [inScope_mk]
  exact ⟨⟨fun _ => h, fun h2 => absurd h2 (show ¬ (1 : Int) = 2 by decide), fun h2 => absurd h2 (show ¬ (1 : Int) = 8 by decide)⟩, by simp⟩
theorem con_good {s : Str} (h : nameOk 65 90 s) : good (conExp s) := by
  unfold conExp
  rw [good_mk]
  exact ⟨⟨rfl, rfl, rfl, .inr (.inl ⟨rfl, h, rfl, rfl⟩)⟩, by simp⟩
theorem con_scope {ds : List DataD} {s : Str} {N : List Str} (h : ∃ d ∈ ds, s ∈ cnames d) : inScope ds (conExp s) N := by
  unfold conExp
  rw [inScope_mk]
  exact ⟨⟨fun h2 => absurd h2 (show ¬ (2 : Int) = 1 by decide), fun _ => h, fun h2 => absurd h2 (show ¬ (2 : Int) = 8 by decide)⟩, by simp⟩
theorem lam_good {s : Str} {x : Exp} (h : nameOk 97 122 s) (hx : good x) : good (.mk 4 0 s 0 [x] [] tz) := by
  rw [good_mk]
  exact ⟨⟨rfl, rfl, rfl, .inr (.inr (.inl ⟨rfl, h, ⟨x, rfl⟩, rfl⟩))⟩, by simpa using hx⟩
theorem lam_scope {ds : List DataD} {s : Str} {x : Exp} {N : List Str} (hx : inScope ds x (N ++ [s])) : inScope ds (.mk 4 0 s 0 [x] [] tz) N := by
  rw [inScope_mk]
  refine ⟨⟨fun h2 => absurd h2 (show ¬ (4 : Int) = 1 by decide), fun h2 => absurd h2 (show ¬ (4 : Int) = 2 by decide), fun h2 => absurd h2 (show ¬ (4 : Int) = 8 by decide)⟩, fun i y hy => ?_⟩
  rw [bound_mk, if_pos (.inl rfl)]
  match i with
  | 0 => cases hy; exact hx
  | i + 1 => simp at hy
theorem app_good {f x : Exp} (hf : Heady f) (gf : good f) (gx : good x) : good (.mk 5 0 [] 0 [f, x] [] tz) := by
  rw [good_mk]
  exact ⟨⟨rfl, rfl, rfl, .inr (.inr (.inr (.inl ⟨rfl, rfl, ⟨f, x, rfl, hf⟩, rfl⟩)))⟩, by simp [gf, gx]⟩
theorem app_scope {ds : List DataD} {f x : Exp} {N : List Str} (hf : inScope ds f N) (hx : inScope ds x N) : inScope ds (.mk 5 0 [] 0 [f, x] [] tz) N := by
  rw [inScope_mk]
  refine ⟨⟨fun h2 => absurd h2 (show ¬ (5 : Int) = 1 by decide), fun h2 => absurd h2 (show ¬ (5 : Int) = 2 by decide), fun h2 => absurd h2 (show ¬ (5 : Int) = 8 by decide)⟩, fun i y hy => ?_⟩
  rw [bound_mk, if_neg (by simp), if_neg (by simp), List.append_nil]
  match i with
  | 0 => cases hy; exact hf
  | 1 => cases hy; exact hx
  | i + 2 => simp at hy
end Go.Vs.Tryz

/- Terms made for the laws of chapter 29: the maker, walked. -/
namespace Go.Vs
open Go
section
variable {C : Ctx}
theorem wp_seqN {a b : VCode} {Q : Ex → St → Prop} {s : St} (R : St → Prop) (h1 : wp C a (fun e s' => (e = .normal ∧ R s') ∨ (e ≠ .normal ∧ Q e s')) s) (h2 : ∀ s', R s' → wp C b Q s') : wp C (.seq a b) Q s := by
  rw [wp_seq]
  refine wp_mono h1 ?_
  rintro e s' (⟨rfl, h⟩ | ⟨h, h3⟩)
  · exact h2 s' h
  · cases e with
    | normal => exact absurd rfl h
    | exit i => exact h3
    | ret => exact h3
end
end Go.Vs
namespace Go.Vs.Tryz
open Go Go.Vs
variable {A : Oracle}

def vnames : List Str := [[120], [116], [102], [118]]
theorem vnames_ok {s : Str} (h : s ∈ vnames) : nameOk 97 122 s := by
  simp only [vnames, List.mem_cons, List.not_mem_nil, or_false] at h
  rcases h with rfl | rfl | rfl | rfl <;> exact ⟨by decide, ⟨_, rfl, by decide, by decide⟩, by decide, by decide⟩

abbrev zbox : Obj := .box [zi, zi, zs, zi, .nil, .nil, zi, zs, zi, zi, .nil]

/-- Ahead of the i-th arm. -/
def ArmT (L : List Int) (ds : List DataD) (N : List Str) (dd : DataD) (x : Exp) (B d i : Nat) (s : St) : Prop := ∃ arms J, arms.length = i ∧ J ≤ L.length ∧
  (arms.map fun a => a.1.con) = (cnames dd).take i ∧ (arms.map fun a => a.1.vars.length) = (dd.cons.map fun c => c.fields.length).take i ∧
  (∀ a ∈ arms, a.1.pos = 0 ∧ a.1.vars.length ≤ 4 ∧ (∀ v ∈ a.1.vars, nameOk 97 122 v) ∧ good a.2 ∧ inScope ds a.2 (N ++ a.1.vars) ∧ a.2.weight ≤ B) ∧
  s = ⟨[(0, .sc (.ptr 0 0)), (1, datasV ds), (2, strsV N), (3, intV (d + 1)), (8, .sc (.ptr 64 0)), (11, .sc (.ptr 3008 0)), (12, .sc (.ptr 3776 0)), (13, intV i)],
    [(0, some (tapeO L J)), (64, some zbox), (3008, some (.box (wc (dataRow dd)))), (3648, some (.arr 11 [wc x.row] 0)),
      (3776, some (.box [.c (.int .i64 8), zi, zs, zi, .arr 3648 1, .arr 3846 i, zi, zs, zi, zi, .nil])), (3846, some (.arr 14 (wr (Exp.armRows arms)) 0))]⟩
/-- Ahead of the j-th variable of the i-th arm. -/
def VarT (L : List Int) (ds : List DataD) (N : List Str) (dd : DataD) (x : Exp) (arms : List (ArmH × Exp)) (con : Str) (J d i j : Nat) (s : St) : Prop := ∃ vars : List Str, vars.length = j ∧ (∀ v ∈ vars, v ∈ vnames) ∧
  s = ⟨[(0, .sc (.ptr 0 0)), (1, datasV ds), (2, strsV N), (3, intV (d + 1)), (8, .sc (.ptr 64 0)), (11, .sc (.ptr 3008 0)), (12, .sc (.ptr 3776 0)), (13, intV i), (14, .sc (.ptr 4736 0)), (15, intV j)],
    [(0, some (tapeO L J)), (64, some zbox), (3008, some (.box (wc (dataRow dd)))), (3648, some (.arr 11 [wc x.row] 0)),
      (3776, some (.box [.c (.int .i64 8), zi, zs, zi, .arr 3648 1, .arr 3846 i, zi, zs, zi, zi, .nil])), (3846, some (.arr 14 (wr (Exp.armRows arms)) 0)),
      (4736, some (.box [zi, .c (.str con), .arr 4803 j, zi, zi, zs, zi, .nil, .nil, zi, zs, zi, zi, .nil])), (4803, some (.arr 1 (wr (strRows vars)) 0))]⟩

def conC (s : Str) : List W := [.c (.int .i64 2), zi, .c (.str s), zi, .nil, .nil, zi, zs, zi, zi, .nil]
theorem conRow_row (s : Str) : (conExp s).row = [.int .i64 2, .int .i64 0, .str s, .int .i64 0, .sl [], .sl [], .int .i64 0, .str [], .int .i64 0, .int .i64 0, .sl []] := by
  simp [conExp, Exp.row, tz, Exp.rows, Exp.armRows, Ty.kind, Ty.name, Ty.id, Ty.home, Ty.args, Ty.rows]
theorem appRow_row (f x : Exp) : (Exp.mk 5 0 [] 0 [f, x] [] tz).row = [.int .i64 5, .int .i64 0, .str [], .int .i64 0, .sl [f.row, x.row], .sl [], .int .i64 0, .str [], .int .i64 0, .int .i64 0, .sl []] := by
  simp [Exp.row, tz, Exp.rows, Exp.armRows, Ty.kind, Ty.name, Ty.id, Ty.home, Ty.args, Ty.rows]
/-- Behind the choice of a head. -/
def HeadT (L : List Int) (ds : List DataD) (N : List Str) (d : Nat) (st : St) : Prop := ∃ e cells J, good e ∧ Heady e ∧ inScope ds e N ∧ e.weight = 1 ∧ J ≤ L.length ∧ (cells = wc e.row ∨ ∃ c, e = conExp c ∧ cells = conC c) ∧
  (st = ⟨[(0, .sc (.ptr 0 0)), (1, datasV ds), (2, strsV N), (3, intV d), (8, .sc (.ptr 64 0)), (16, .sc (.ptr 8448 0)), (138, boolV false)], [(0, some (tapeO L J)), (64, some zbox), (8448, some (.box cells))]⟩ ∨
    ∃ dd : DataD, st = ⟨[(0, .sc (.ptr 0 0)), (1, datasV ds), (2, strsV N), (3, intV d), (8, .sc (.ptr 64 0)), (16, .sc (.ptr 8448 0))], [(0, some (tapeO L J)), (64, some zbox), (8448, some (.box cells)), (9536, some (.box (wc (dataRow dd))))]⟩)
/-- A head with so many arguments. -/
def AppT (L : List Int) (ds : List DataD) (N : List Str) (B d n i : Nat) (s : St) : Prop := ∃ e cells J, good e ∧ Heady e ∧ inScope ds e N ∧ e.weight ≤ 1 + i * (1 + B) ∧ J ≤ L.length ∧ (cells = wc e.row ∨ ∃ c, e = conExp c ∧ cells = conC c) ∧
  s = ⟨[(0, .sc (.ptr 0 0)), (1, datasV ds), (2, strsV N), (3, intV d), (8, .sc (.ptr 64 0)), (16, .sc (.ptr 8448 0)), (18, intV (n - i : Nat))],
    [(0, some (tapeO L J)), (64, some zbox), (8448, some (.box cells))]⟩

end Go.Vs.Tryz

/- Contexts and terms made for the laws of chapter 29, walked. -/
namespace Go.Vs.Tryz
open Go Go.Vs
variable {A : Oracle}

/-- What the laws of chapter 29 make. -/
def MadeT (ds7 : List DataD) (n : Nat) (r : V × List Obj) : Prop := ∃ (ds : List DataD) (ctx : List EntD) (l : List Exp) (p : Nat), (∀ d ∈ ds, d ∈ ds7) ∧ goodDs ds ∧ ctx.length ≤ 4 ∧ (∀ s ∈ names ctx, nameOk 97 122 s) ∧ l.length = n ∧
  (∀ e ∈ l, good e ∧ inScope ds e (names ctx) ∧ e.weight ≤ 32768) ∧ (p = 0 ∨ p = ctx.length) ∧ r = (.tu [datasV ds, .sc (.arr 0 ctx.length), .sc (.arr 1 n)], [.arr 7 (wr (entRows ctx)) p, .arr 11 (wr (Exp.rows l)) 0])

end Go.Vs.Tryz

/- What the law of the total order needs about the declared constructors, the visible names and terms (plain). -/
namespace Go.Vs.Tryz
open Go Go.Vs

theorem uniq_of : ∀ {ds : List DataD}, (ds.flatMap cnames).Nodup → uniq ds
  | [], _ => fun d hd => by cases hd
  | a :: r, h => by
    rw [List.flatMap_cons, List.nodup_append] at h
    obtain ⟨_, h2, h3⟩ := h
    have ih := uniq_of h2
    intro d hd d' hd' c hc hc'
    rcases List.mem_cons.1 hd with rfl | hd1 <;> rcases List.mem_cons.1 hd' with rfl | hd2
    · rfl
    · exact absurd rfl (h3 c hc c (List.mem_flatMap.2 ⟨d', hd2, hc'⟩))
    · exact absurd rfl (h3 c hc' c (List.mem_flatMap.2 ⟨d, hd1, hc⟩))
    · exact ih d hd1 d' hd2 c hc hc'
theorem uniq.sub {ds ds7 : List DataD} (h : uniq ds7) (hs : ∀ d ∈ ds, d ∈ ds7) : uniq ds := fun d hd d' hd' c hc hc' => h d (hs d hd) d' (hs d' hd') c hc hc'

theorem seenTo_all {l : List EntD} {s : Str} (h : s ∈ names l) : ∀ i, i ≤ l.length → s ∈ names (seenTo l i) ∨ s ∈ names (l.drop i)
  | 0, _ => .inr (by simpa using h)
  | i + 1, hi => by
    obtain ⟨e, he⟩ := get_of_lt (l := l) (i := i) (by omega)
    have hd : l.drop i = e :: l.drop (i + 1) := by
      rw [List.drop_eq_getElem_cons (by omega)]
      congr 1
      exact (List.getElem?_eq_some_iff.1 he).2
    have key : s ∈ names (seenTo l i) → s ∈ names (seenTo l (i + 1)) := by
      intro h1
      simp only [seenTo, he]
      split
      · exact h1
      · simp only [names, List.map_append, List.mem_append]
        exact .inl h1
    rcases seenTo_all h i (by omega) with h1 | h1
    · exact .inl (key h1)
    · rw [hd] at h1
      simp only [names, List.map_cons, List.mem_cons] at h1
      rcases h1 with h1 | h1
      · by_cases hn : e.name ∈ names (l.drop (i + 1))
        · exact .inr (h1 ▸ hn)
        · left
          simp only [seenTo, he, hn, if_false]
          simp [names, h1]
      · exact .inr h1
theorem seenN_all {ctx : List EntD} {s : Str} (h : s ∈ names ctx) : s ∈ seenN ctx := by
  rcases seenTo_all h ctx.length (Nat.le_refl _) with h1 | h1
  · exact h1
  · simp [names] at h1

theorem good.tyBd {e : Exp} : good e → tyBd e := by
  induction e using Exp.ind with
  | h e ih =>
    intro g
    rw [tyBd_eq]
    refine ⟨?_, fun x hx => ih x hx (g.child hx)⟩
    rw [g.one.2.2.1]
    decide
end Go.Vs.Tryz

/- Equal expressions by the program (positions apart), walked. -/
namespace Go.Vs.Tryz
open Go Go.Vs
variable {A : Oracle}

/- ## Children are kids and arms (plain) -/
theorem kid_child {e x : Exp} {i : Nat} (h : e.kids[i]? = some x) : e.children[i]? = some x := by
  rw [Exp.children, List.getElem?_append_left (List.getElem?_eq_some_iff.1 h).1]
  exact h
theorem arm_child {e : Exp} {p : ArmH × Exp} {i : Nat} (h : e.arms[i]? = some p) : e.children[e.kids.length + i]? = some p.2 := by
  rw [Exp.children, List.getElem?_append_right (by omega), Nat.add_sub_cancel_left, List.getElem?_map, h]
  rfl
theorem child_cases {e x : Exp} {i : Nat} (h : e.children[i]? = some x) : e.kids[i]? = some x ∨ ∃ j p, i = e.kids.length + j ∧ e.arms[j]? = some p ∧ p.2 = x := by
  rcases Nat.lt_or_ge i e.kids.length with hi | hi
  · left
    rwa [Exp.children, List.getElem?_append_left hi] at h
  · right
    rw [Exp.children, List.getElem?_append_right hi, List.getElem?_map] at h
    obtain ⟨p, hp, hx⟩ := Option.map_eq_some_iff.1 h
    exact ⟨i - e.kids.length, p, by omega, hp, hx⟩
theorem children_split {a b : Exp} {R : Exp → Exp → Prop} (hk : a.kids.length = b.kids.length) :
    (∀ (i : Nat) x y, a.children[i]? = some x → b.children[i]? = some y → R x y) ↔ (∀ (i : Nat) x y, a.kids[i]? = some x → b.kids[i]? = some y → R x y) ∧ (∀ (i : Nat) p q, a.arms[i]? = some p → b.arms[i]? = some q → R p.2 q.2) := by
  constructor
  · refine fun h => ⟨fun i x y hx hy => h i x y (kid_child hx) (kid_child hy), fun i p q hp hq => h (a.kids.length + i) p.2 q.2 (arm_child hp) ?_⟩
    rw [hk]
    exact arm_child hq
  · rintro ⟨h1, h2⟩ i x y hx hy
    rcases child_cases hx with hx | ⟨j, p, hj, hp, rfl⟩
    · rcases child_cases hy with hy | ⟨j, q, hj, hq, rfl⟩
      · exact h1 i x y hx hy
      · have := (List.getElem?_eq_some_iff.1 hx).1
        omega
    · rcases child_cases hy with hy | ⟨j', q, hj', hq, rfl⟩
      · have := (List.getElem?_eq_some_iff.1 hy).1
        omega
      · obtain rfl : j = j' := by omega
        exact h2 j p q hp hq

/-- The same but for positions. -/
def sameF (a : Exp) (l : List (Exp → Prop)) (b : Exp) : Prop := a.kind = b.kind ∧ a.name = b.name ∧ a.num = b.num ∧ a.ty = b.ty ∧ a.kids.length = b.kids.length ∧ a.arms.length = b.arms.length ∧
  (∀ (i : Nat) p q, a.arms[i]? = some p → b.arms[i]? = some q → p.1.con = q.1.con ∧ p.1.vars = q.1.vars) ∧ ∀ (i : Nat) f y, l[i]? = some f → b.children[i]? = some y → f y
def sameP (a : Exp) : Exp → Prop := a.fold sameF
theorem sameP_eq (a b : Exp) : sameP a b = (a.kind = b.kind ∧ a.name = b.name ∧ a.num = b.num ∧ a.ty = b.ty ∧ a.kids.length = b.kids.length ∧ a.arms.length = b.arms.length ∧
    (∀ (i : Nat) p q, a.arms[i]? = some p → b.arms[i]? = some q → p.1.con = q.1.con ∧ p.1.vars = q.1.vars) ∧ ∀ (i : Nat) x y, a.children[i]? = some x → b.children[i]? = some y → sameP x y) := by
  unfold sameP
  rw [Exp.fold_eq]
  unfold sameF
  simp only [List.getElem?_map, Option.map_eq_some_iff]
  apply propext
  refine and_congr_right fun _ => and_congr_right fun _ => and_congr_right fun _ => and_congr_right fun _ => and_congr_right fun _ => and_congr_right fun _ => and_congr_right fun _ => forall_congr' fun i => ?_
  constructor
  · exact fun h x y hx hy => h _ y ⟨x, hx, rfl⟩ hy
  · rintro h f y ⟨x, hx, rfl⟩ hy
    exact h x y hx hy
theorem sameP_refl (a : Exp) : sameP a a := by
  induction a using Exp.ind with
  | h a ih =>
    rw [sameP_eq]
    refine ⟨rfl, rfl, rfl, rfl, rfl, rfl, fun i p q hp hq => ?_, fun i x y hx hy => ?_⟩
    · rw [hp] at hq
      cases hq
      exact ⟨rfl, rfl⟩
    · rw [hx] at hy
      cases hy
      exact ih x (List.mem_of_getElem? hx)

/- ## Walks -/
theorem equal179 (l m : List Str) (h : l.length ≤ 4294967296) : (K A).call 180 [strsV l, strsV m] [] = some (boolV (decide (l = m)), []) := by
  refine fn_of (vf := v180) (by kernel_rfl) rfl (by decide) ?_
  unfold v180
  by_cases hl : l.length = m.length
  · have hp := differ_le l m
    simp (disch := first | omega | (simp; done) | (simp; omega)) [hl]
    refine wp_loop (fun i => ⟨[(0, strsV l), (1, strsV m), (12, intV m.length), (13, intV i)], []⟩) (differ l m) ?_ ?_ ?_
    · simp
    · intro i hi
      obtain ⟨x, hx, hy⟩ := differ_lt hi
      have hlt : i < m.length := by omega
      unfold l180_0
      simp (disch := first | omega | (simp; done) | (simp; omega)) [hx, hy, hlt, hl, -getElem?_pos]
    · unfold l180_0
      by_cases hm : differ l m < l.length
      · obtain ⟨x, y, hx, hy, hxy⟩ := differ_at hl hm
        have hne : l ≠ m := fun h => by rw [← differ_eq hl] at h; omega
        have hm' : differ l m < m.length := by omega
        simp (disch := first | omega | (simp; done) | (simp; omega)) [hx, hy, hm', hl, hxy, hne, -getElem?_pos]
      · have he : l = m := (differ_eq hl).1 (by omega)
        subst he
        simp (disch := first | omega | (simp; done) | (simp; omega)) [hm, -getElem?_pos]
  · have hne : l ≠ m := fun h => hl (by rw [h])
    have hl' : ¬ (l.length : Int) = m.length := by omega
    simp (disch := first | omega | (simp; done) | (simp; omega)) [hl', hne, hl]

abbrev armV (p : ArmH × Exp) : V := .ag (wc (armRow p))
abbrev armsV (l : List (ArmH × Exp)) : V := .sc (.c (.sl (Exp.armRows l)))
/-- Pairwise related, and as many. -/
def allR {α : Type} (R : α → α → Prop) (l m : List α) : Prop := l.length = m.length ∧ ∀ (i : Nat) x y, l[i]? = some x → m[i]? = some y → R x y

set_option maxHeartbeats 4000000 in
theorem equal180 (l m : List Exp) (hl : l.length ≤ 1073741824) (ih : ∀ x ∈ l, ∀ b, ∃ r, IffB (sameP x b) r ∧ (K A).call 90 [expV x, expV b] [] = some r) :
    ∃ r, IffB (allR sameP l m) r ∧ (K A).call 181 [exsV l, exsV m, .sc (.c (.fn 90 [] []))] [] = some r := by
  refine fn_ofE _ (vf := v181) (by kernel_rfl) rfl (by simp) ?_
  unfold v181
  by_cases hn : l.length = m.length
  · simp (disch := first | omega | (simp; done) | (simp; omega)) [hn]
    refine wp_loopI (fun i s => (∀ (j : Nat) x y, j < i → l[j]? = some x → m[j]? = some y → sameP x y) ∧ s = ⟨[(1, exsV m), (2, .sc (.c (.fn 90 [] []))), (15, exsV l), (16, intV m.length), (17, intV i)], []⟩) m.length ⟨by omega, by simp⟩ ?_ ?_
    · rintro i s hi ⟨hs, rfl⟩
      obtain ⟨x, hx⟩ := get_of_lt (l := l) (i := i) (by omega)
      obtain ⟨y, hy⟩ := get_of_lt (l := m) (i := i) (by omega)
      obtain ⟨_, ⟨b, hb, rfl⟩, hc⟩ := ih x (List.mem_of_getElem? hx) y
      unfold l181_0
      cases b with
      | true =>
        have hxy := hb.1 rfl
        simp (disch := first | omega | (simp; done) | (simp; omega)) [hi, hx, hy, hc, hn, -getElem?_pos]
        intro j x' y' hj hx' hy'
        by_cases hji : j = i
        · subst hji
          rw [hx] at hx'
          rw [hy] at hy'
          cases hx'
          cases hy'
          exact hxy
        · exact hs j x' y' (by omega) hx' hy'
      | false =>
        simp (disch := first | omega | (simp; done) | (simp; omega)) [hi, hx, hy, hc, hn, -getElem?_pos]
        exact IffB.no fun h => by have := hb.2 (h.2 i x y hx hy); cases this
    · rintro s ⟨hs, rfl⟩
      unfold l181_0
      simp (disch := first | omega | (simp; done) | (simp; omega))
      exact IffB.yes ⟨hn, fun i x y hx hy => hs i x y (List.getElem?_eq_some_iff.1 hy).1 hx hy⟩
  · have hn' : ¬ (l.length : Int) = m.length := by omega
    simp (disch := first | omega | (simp; done) | (simp; omega)) [hn, hn']
    exact IffB.no fun h => hn h.1

def sameA (p q : ArmH × Exp) : Prop := p.1.con = q.1.con ∧ p.1.vars = q.1.vars ∧ sameP p.2 q.2

theorem equal178 (p q : ArmH × Exp) (hv : p.1.vars.length ≤ 1073741824) (ih : ∃ r, IffB (sameP p.2 q.2) r ∧ (K A).call 90 [expV p.2, expV q.2] [] = some r) :
    ∃ r, IffB (sameA p q) r ∧ (K A).call 179 [armV p, armV q] [] = some r := by
  refine fn_ofE _ (vf := v179) (by kernel_rfl) rfl (by simp) ?_
  have h1 := equal179 (A := A) p.1.vars q.1.vars (by omega)
  obtain ⟨_, ⟨b, hb, rfl⟩, hc⟩ := ih
  unfold v179
  by_cases q1 : p.1.con = q.1.con
  · by_cases q2 : p.1.vars = q.1.vars
    · rw [q2] at h1
      simp (disch := first | omega | (simp; done) | (simp; omega)) [q1, q2, h1, hc]
      cases b with
      | true => exact IffB.yes (P := sameA p q) ⟨q1, q2, hb.1 rfl⟩
      | false => exact IffB.no (P := sameA p q) fun h => by have := hb.2 h.2.2; cases this
    · simp (disch := first | omega | (simp; done) | (simp; omega)) [q1, q2, h1, hc]
      exact IffB.no (P := sameA p q) fun h => q2 h.2.1
  · simp (disch := first | omega | (simp; done) | (simp; omega)) [q1, h1, hc]
    exact IffB.no (P := sameA p q) fun h => q1 h.1

set_option maxHeartbeats 4000000 in
theorem equal177 (l m : List (ArmH × Exp)) (hl : l.length ≤ 1073741824) (ih : ∀ x ∈ l, ∀ b, ∃ r, IffB (sameA x b) r ∧ (K A).call 179 [armV x, armV b] [] = some r) :
    ∃ r, IffB (allR sameA l m) r ∧ (K A).call 178 [armsV l, armsV m, .sc (.c (.fn 179 [] []))] [] = some r := by
  refine fn_ofE _ (vf := v178) (by kernel_rfl) rfl (by simp) ?_
  unfold v178
  by_cases hn : l.length = m.length
  · simp (disch := first | omega | (simp; done) | (simp; omega)) [hn]
    refine wp_loopI (fun i s => (∀ (j : Nat) x y, j < i → l[j]? = some x → m[j]? = some y → sameA x y) ∧ s = ⟨[(1, armsV m), (2, .sc (.c (.fn 179 [] []))), (15, armsV l), (16, intV m.length), (17, intV i)], []⟩) m.length ⟨by omega, by simp⟩ ?_ ?_
    · rintro i s hi ⟨hs, rfl⟩
      obtain ⟨x, hx⟩ := get_of_lt (l := l) (i := i) (by omega)
      obtain ⟨y, hy⟩ := get_of_lt (l := m) (i := i) (by omega)
      obtain ⟨_, ⟨b, hb, rfl⟩, hc⟩ := ih x (List.mem_of_getElem? hx) y
      unfold l178_0
      cases b with
      | true =>
        have hxy := hb.1 rfl
        simp (disch := first | omega | (simp; done) | (simp; omega)) [hi, hx, hy, hc, hn, -getElem?_pos]
        intro j x1 x2 y1 y2 hj hx' hy'
        by_cases hji : j = i
        · subst hji
          rw [hx] at hx'
          rw [hy] at hy'
          cases hx'
          cases hy'
          exact hxy
        · exact hs j _ _ (by omega) hx' hy'
      | false =>
        simp (disch := first | omega | (simp; done) | (simp; omega)) [hi, hx, hy, hc, hn, -getElem?_pos]
        exact IffB.no fun h => by have := hb.2 (h.2 i x y hx hy); cases this
    · rintro s ⟨hs, rfl⟩
      unfold l178_0
      simp (disch := first | omega | (simp; done) | (simp; omega))
      exact IffB.yes ⟨hn, fun i x y hx hy => hs i x y (List.getElem?_eq_some_iff.1 hy).1 hx hy⟩
  · have hn' : ¬ (l.length : Int) = m.length := by omega
    simp (disch := first | omega | (simp; done) | (simp; omega)) [hn, hn']
    exact IffB.no fun h => hn h.1

set_option maxHeartbeats 4000000 in
theorem equal131 (a : Exp) : ∀ b, tyBd a → a.weight ≤ 1073741824 → ∃ r, IffB (sameP a b) r ∧ (K A).call 90 [expV a, expV b] [] = some r := by
  induction a using Exp.ind with
  | h a ih =>
  intro b ht hw
  have hal := a.children_le
  rw [a.children_len] at hal
  refine fn_ofE _ (vf := v90) (by kernel_rfl) rfl (by simp) ?_
  obtain ⟨_, ⟨t, h3, rfl⟩, hc3⟩ := tequal114 (A := A) a.ty b.ty ht.one
  have ih' : ∀ x ∈ a.children, ∀ b, ∃ r, IffB (sameP x b) r ∧ (K A).call 90 [expV x, expV b] [] = some r := fun x hx b => ih x hx b (ht.child hx) (by have := Exp.child_lt hx; omega)
  obtain ⟨_, ⟨va, ha, rfl⟩, hca⟩ := equal177 (A := A) a.arms b.arms (by omega) fun p hp q => equal178 p q (by have := Exp.vars_le hp; omega) (ih' p.2 (by rw [Exp.children]; exact List.mem_append_right _ (List.mem_map.2 ⟨p, hp, rfl⟩)) q.2)
  obtain ⟨_, ⟨vk, hk, rfl⟩, hck⟩ := equal180 (A := A) a.kids b.kids (by omega) fun x hx => ih' x (by rw [Exp.children]; exact List.mem_append_left _ hx)
  unfold v90
  by_cases q1 : a.kind = b.kind
  case neg =>
    simp (disch := first | omega | (simp; done) | (simp; omega)) [q1]
    exact IffB.no fun h => by rw [sameP_eq] at h; exact q1 h.1
  by_cases q2 : a.name = b.name
  case neg =>
    simp (disch := first | omega | (simp; done) | (simp; omega)) [q1, q2]
    exact IffB.no fun h => by rw [sameP_eq] at h; exact q2 h.2.1
  by_cases q3 : a.num = b.num
  case neg =>
    simp (disch := first | omega | (simp; done) | (simp; omega)) [q1, q2, q3]
    exact IffB.no fun h => by rw [sameP_eq] at h; exact q3 h.2.2.1
  cases t with
  | false =>
    simp (disch := first | omega | (simp; done) | (simp; omega)) [q1, q2, q3, hc3]
    exact IffB.no fun h => by rw [sameP_eq] at h; have := h3.2 h.2.2.2.1; cases this
  | true =>
  have q4 := h3.1 rfl
  cases va with
  | false =>
    simp (disch := first | omega | (simp; done) | (simp; omega)) [q1, q2, q3, hc3, hca]
    refine IffB.no fun h => ?_
    rw [sameP_eq] at h
    have : allR sameA a.arms b.arms := ⟨h.2.2.2.2.2.1, fun i p q hp hq => ⟨(h.2.2.2.2.2.2.1 i p q hp hq).1, (h.2.2.2.2.2.2.1 i p q hp hq).2, ((children_split h.2.2.2.2.1).1 h.2.2.2.2.2.2.2).2 i p q hp hq⟩⟩
    have := ha.2 this
    cases this
  | true =>
    have hA := ha.1 rfl
    cases vk with
    | false =>
      simp (disch := first | omega | (simp; done) | (simp; omega)) [q1, q2, q3, hc3, hca, hck]
      refine IffB.no fun h => ?_
      rw [sameP_eq] at h
      have : allR sameP a.kids b.kids := ⟨h.2.2.2.2.1, ((children_split h.2.2.2.2.1).1 h.2.2.2.2.2.2.2).1⟩
      have := hk.2 this
      cases this
    | true =>
      have hK := hk.1 rfl
      simp (disch := first | omega | (simp; done) | (simp; omega)) [q1, q2, q3, hc3, hca, hck]
      refine IffB.yes ?_
      rw [sameP_eq]
      exact ⟨q1, q2, q3, q4, hK.1, hA.1, fun i p q hp hq => ⟨(hA.2 i p q hp hq).1, (hA.2 i p q hp hq).2.1⟩, (children_split hK.1).2 ⟨hK.2, fun i p q hp hq => (hA.2 i p q hp hq).2.2⟩⟩
end Go.Vs.Tryz

/- Expressions with other children, and without their names, by the program, walked. -/
namespace Go.Vs
open Go
/-- What a copy changes. -/
def copyU (k s : Nat) (zs rows : List (List W)) : Upd := bif zs.isEmpty then [] else [(k, some (.arr s (zs ++ rows.drop zs.length) 0))]
def copyK (k n s : Nat) (ys : Option (List (List W))) (o : Option Obj) : Option (V × Upd) := match ys, o with
  | some ys, some (.arr s' rows p) => bif okRows s ys && (rows.length == n && s' == s && p == 0) then some (.sc (.c (.int .i64 (ys.take n).length)), copyU k s (ys.take n) rows) else none
  | _, _ => none
@[simp] theorem copyK_some {k n s s' p : Nat} {ys rows : List (List W)} : copyK k n s (some ys) (some (.arr s' rows p)) = bif okRows s ys && (rows.length == n && s' == s && p == 0) then some (.sc (.c (.int .i64 (ys.take n).length)), copyU k s (ys.take n) rows) else none := rfl
@[simp] theorem copy1_arr {L : Nat → Option Obj} {k n s : Nat} {y : V} : copy1 L s (.sc (.arr k n)) y = copyK k n s (rowsOf L y) (L k) := by
  unfold copy1 copyK
  cases rowsOf L y with
  | none => rfl
  | some ys =>
    dsimp only
    unfold okRows copyU
    cases hL : L k with
    | none => dsimp only; cases ys.all fun r => r.length == s && r.all notUn <;> rfl
    | some o => cases o with
      | box _ => dsimp only; cases ys.all fun r => r.length == s && r.all notUn <;> rfl
      | arr s' rows p => dsimp only; cases ys.all fun r => r.length == s && r.all notUn <;> rfl
      | mp _ => dsimp only; cases ys.all fun r => r.length == s && r.all notUn <;> rfl
theorem get?_same {α : Type} {k : Nat} {a : α} : ∀ {l : List (Nat × α)}, get? l k = some a → put l k a = l
  | [], h => by cases h
  | (j, b) :: r, h => by
    simp only [get?] at h
    simp only [put]
    cases hj : (j == k) with
    | true => rw [hj] at h; simp only [cond_true, Option.some.injEq] at h ⊢; rw [h]
    | false => rw [hj] at h; simp only [cond_false] at h ⊢; rw [get?_same h]
theorem putAll_copy {O : Objs} {k s : Nat} {zs rows : List (List W)} (h : get? O k = some (some (.arr s rows 0))) : putAll O (copyU k s zs rows) = put O k (some (.arr s (zs ++ rows.drop zs.length) 0)) := by
  unfold copyU
  cases zs with
  | nil =>
    simp only [List.isEmpty_nil, cond_true, putAll_nil, List.nil_append, List.length_nil, List.drop_zero]
    exact (get?_same h).symm
  | cons a r => rfl
theorem setRow_map {α γ : Type} (f : α → γ) : ∀ (l : List α) (i : Nat) (a : α), (setRow l i a).map f = setRow (l.map f) i (f a)
  | [], _, _ => rfl
  | _ :: _, 0, _ => rfl
  | b :: r, n + 1, a => by simp only [setRow, List.map_cons, setRow_map f r n a]
end Go.Vs
namespace Go.Vs.Tryz
open Go Go.Vs
variable {A : Oracle}

set_option maxRecDepth 10000 in
set_option maxHeartbeats 4000000 in
theorem with146 (e : Exp) (cs : List Exp) (h : cs.length = e.kids.length + e.arms.length) (hl : e.weight ≤ 687194767360) : (K A).call 170 [expV e, exsV cs] [] =
    some (.ag [.c (.int .i64 e.kind), .c (.int .i64 e.pos), .c (.str e.name), .c (.int .i64 e.num), .arr 0 e.kids.length, .arr 1 e.arms.length, .c (.int .i64 e.ty.kind), .c (.str e.ty.name), .c (.int .i64 e.ty.id), .c (.int .i64 e.ty.home), .c (.sl (Ty.rows e.ty.args))],
      [.arr 11 (wr (Exp.rows (cs.take e.kids.length))) 0, .arr 14 (wr (Exp.armRows (armsW e.arms (cs.drop e.kids.length)))) 0]) := by
  refine fn_of (vf := v170) (by kernel_rfl) rfl (by simp) ?_
  have hle := e.children_le
  rw [e.children_len] at hle
  have hrow : wc e.row = [.c (.int .i64 e.kind), .c (.int .i64 e.pos), .c (.str e.name), .c (.int .i64 e.num), .c (.sl (Exp.rows e.kids)), .c (.sl (Exp.armRows e.arms)), .c (.int .i64 e.ty.kind), .c (.str e.ty.name), .c (.int .i64 e.ty.id), .c (.int .i64 e.ty.home), .c (.sl (Ty.rows e.ty.args))] := by rw [Exp.row_eq]; rfl
  have hzl : (armsW e.arms (cs.drop e.kids.length)).length = e.arms.length := by rw [armsW_len, List.length_drop]; omega
  have htk : (wr (Exp.rows cs)).take e.kids.length = wr (Exp.rows (cs.take e.kids.length)) := by simp [Exp.rows_map, wr, List.map_take]
  have hcl : (cs.take e.kids.length).length = e.kids.length := by rw [List.length_take]; omega
  have hta : (wr (Exp.armRows e.arms)).take e.arms.length = wr (Exp.armRows e.arms) := List.take_of_length_le (by simp)
  unfold v170
  simp (maxSteps := 4000000) (disch := first | omega | (simp; done) | (simp; omega)) [h, hrow, htk, hta, hcl, putAll_copy, -getElem?_pos]
  refine wp_loop (fun i => ⟨[(1, exsV cs), (2, .sc (.ptr 64 0)), (4, .sc (.ptr 128 0)), (5, intV e.kids.length), (6, .sc (.arr 1152 e.kids.length)), (7, .sc (.arr 1408 e.arms.length)), (35, intV e.arms.length), (36, intV i)],
    [(64, some (.box [.c (.int .i64 e.kind), .c (.int .i64 e.pos), .c (.str e.name), .c (.int .i64 e.num), .c (.sl (Exp.rows e.kids)), .c (.sl (Exp.armRows e.arms)), .c (.int .i64 e.ty.kind), .c (.str e.ty.name), .c (.int .i64 e.ty.id), .c (.int .i64 e.ty.home), .c (.sl (Ty.rows e.ty.args))])),
      (128, some zbox2), (1152, some (.arr 11 (wr (Exp.rows (cs.take e.kids.length))) 0)), (1408, some (.arr 14 (wr (Exp.armRows ((armsW e.arms (cs.drop e.kids.length)).take i ++ e.arms.drop i))) 0))]⟩) e.arms.length ?_ ?_ ?_
  · simp
  · intro i hi
    obtain ⟨a, ha⟩ := get_of_lt hi
    obtain ⟨c, hc⟩ := get_of_lt (l := cs) (i := e.kids.length + i) (by omega)
    have hz : (armsW e.arms (cs.drop e.kids.length))[i]? = some (a.1, c) := by
      unfold armsW
      rw [List.getElem?_zipWith, ha, List.getElem?_drop, hc]
    have hg := get_step hzl hi
    rw [ha] at hg
    have hs := set_step hzl hz
    have hln := len_step (i := i) hzl
    rw [← hs]
    generalize (armsW e.arms (cs.drop e.kids.length)).take i ++ e.arms.drop i = zz at hg hln ⊢
    have hset := armrows_set zz i (a.1, c)
    have hsp := arm_splice a c
    have hnb : natBelow (intV ((e.kids.length : Int) + i)) cs.length = some (e.kids.length + i) := natBelow_cast (k := .i64) (n := e.kids.length + i) (by omega)
    unfold l170_0
    simp (maxSteps := 4000000) (disch := first | omega | (simp; done) | (simp; omega)) [hi, hg, hln, hc, hnb, hsp, hset, blt_dec, -getElem?_pos]
  · have ht : (armsW e.arms (cs.drop e.kids.length)).take e.arms.length ++ e.arms.drop e.arms.length = armsW e.arms (cs.drop e.kids.length) := by
      rw [List.drop_length, List.append_nil, List.take_of_length_le (by omega)]
    rw [ht]
    unfold l170_0
    simp (maxSteps := 4000000) (disch := first | omega | (simp; done) | (simp; omega)) [hzl, -getElem?_pos]

/-- The arms without their variables' names. -/
def armsB (l : List (ArmH × Exp)) : List (ArmH × Exp) := l.map fun a => (⟨a.1.pos, a.1.con, List.replicate a.1.vars.length []⟩, a.2)
@[simp] theorem armsB_len (l : List (ArmH × Exp)) : (armsB l).length = l.length := by simp [armsB]
/-- An expression without its names and with other children. -/
def bareM (e : Exp) (cs : List Exp) : Exp := .mk e.kind e.pos (if e.kind = 2 then e.name else []) e.num (cs.take e.kids.length) (armsB (armsW e.arms (cs.drop e.kids.length))) e.ty


set_option maxRecDepth 10000 in
set_option maxHeartbeats 4000000 in
theorem bare132 (e : Exp) (cs : List Exp) (h : cs.length = e.kids.length + e.arms.length) (hl : e.weight ≤ 1073741824) : (K A).call 91 [expV e, exsV cs] [] = some (expV (bareM e cs), []) := by
  refine fn_of (vf := v91) (by kernel_rfl) rfl (by simp) ?_
  have hle := e.children_le
  rw [e.children_len] at hle
  have hw := with146 (A := A) e cs h (by omega)
  have hzl : (armsW e.arms (cs.drop e.kids.length)).length = e.arms.length := by rw [armsW_len, List.length_drop]; omega
  have hcl : (cs.take e.kids.length).length = e.kids.length := by rw [List.length_take]; omega
  have hvl : ∀ a ∈ armsW e.arms (cs.drop e.kids.length), a.1.vars.length ≤ 1073741824 := by
    intro a ha
    obtain ⟨j, hj⟩ := List.mem_iff_getElem?.1 ha
    unfold armsW at hj
    rw [List.getElem?_zipWith] at hj
    cases h1 : e.arms[j]? with
    | none => rw [h1] at hj; simp at hj
    | some b =>
      rw [h1] at hj
      cases h2 : (cs.drop e.kids.length)[j]? with
      | none => rw [h2] at hj; simp at hj
      | some c =>
        rw [h2] at hj
        simp only [Option.some.injEq] at hj
        subst hj
        have := Exp.vars_le (List.mem_of_getElem? h1)
        exact Nat.le_trans this hl
  unfold bareM
  generalize armsW e.arms (cs.drop e.kids.length) = ws at *
  generalize cs.take e.kids.length = ks at *
  have hpl : (armsB ws).length = ws.length := armsB_len ws
  have hrow : ∀ nm : Str, wc (Exp.mk e.kind e.pos nm e.num ks (armsB ws) e.ty).row = [.c (.int .i64 e.kind), .c (.int .i64 e.pos), .c (.str nm), .c (.int .i64 e.num), .c (.sl (Exp.rows ks)), .c (.sl (Exp.armRows (armsB ws))), .c (.int .i64 e.ty.kind), .c (.str e.ty.name), .c (.int .i64 e.ty.id), .c (.int .i64 e.ty.home), .c (.sl (Ty.rows e.ty.args))] := fun nm => by rw [Exp.row_eq]; rfl
  have go : ∀ (C : Ctx) (Q : Ex → St → Prop) (nm : Str), wp C l91_0 (fun ex s => ex ≠ .normal ∧ Q ex s) ⟨[(2, .sc (.ptr 64 0)), (4, .sc (.ptr 128 0)), (15, .sc (.arr 353 e.arms.length)), (16, intV e.arms.length), (17, intV e.arms.length)],
      [(64, some (.box [.c (.int .i64 e.kind), .c (.int .i64 e.pos), .c (.str nm), .c (.int .i64 e.num), .arr 352 e.kids.length, .arr 353 e.arms.length, .c (.int .i64 e.ty.kind), .c (.str e.ty.name), .c (.int .i64 e.ty.id), .c (.int .i64 e.ty.home), .c (.sl (Ty.rows e.ty.args))])),
        (128, some zbox2), (352, some (.arr 11 (wr (Exp.rows ks)) 0)), (353, some (.arr 14 (wr (Exp.armRows (armsB ws))) 0))]⟩ →
      wp C (.loop l91_0) Q ⟨[(2, .sc (.ptr 64 0)), (4, .sc (.ptr 128 0)), (15, .sc (.arr 353 e.arms.length)), (16, intV e.arms.length), (17, intV 0)],
      [(64, some (.box [.c (.int .i64 e.kind), .c (.int .i64 e.pos), .c (.str nm), .c (.int .i64 e.num), .arr 352 e.kids.length, .arr 353 e.arms.length, .c (.int .i64 e.ty.kind), .c (.str e.ty.name), .c (.int .i64 e.ty.id), .c (.int .i64 e.ty.home), .c (.sl (Ty.rows e.ty.args))])),
        (128, some zbox2), (352, some (.arr 11 (wr (Exp.rows ks)) 0)), (353, some (.arr 14 (wr (Exp.armRows ws)) 0))]⟩ := by
    intro C Q nm hend
    refine wp_loop (fun i => ⟨[(2, .sc (.ptr 64 0)), (4, .sc (.ptr 128 0)), (15, .sc (.arr 353 e.arms.length)), (16, intV e.arms.length), (17, intV i)],
      [(64, some (.box [.c (.int .i64 e.kind), .c (.int .i64 e.pos), .c (.str nm), .c (.int .i64 e.num), .arr 352 e.kids.length, .arr 353 e.arms.length, .c (.int .i64 e.ty.kind), .c (.str e.ty.name), .c (.int .i64 e.ty.id), .c (.int .i64 e.ty.home), .c (.sl (Ty.rows e.ty.args))])),
        (128, some zbox2), (352, some (.arr 11 (wr (Exp.rows ks)) 0)), (353, some (.arr 14 (wr (Exp.armRows ((armsB ws).take i ++ ws.drop i))) 0))]⟩) e.arms.length ?_ ?_ ?_
    · simp
    · intro i hi
      obtain ⟨a, ha⟩ := get_of_lt (l := ws) (i := i) (by omega)
      have hav := hvl a (List.mem_of_getElem? ha)
      have hz : (armsB ws)[i]? = some ((⟨a.1.pos, a.1.con, List.replicate a.1.vars.length []⟩ : ArmH), a.2) := by
        unfold armsB
        rw [List.getElem?_map, ha]
        rfl
      have hg := get_step (i := i) hpl (by omega)
      rw [ha] at hg
      have hs := set_step hpl hz
      have hln := len_step (i := i) hpl
      rw [← hs]
      generalize (armsB ws).take i ++ ws.drop i = zz at hg hln ⊢
      have hln2 : zz.length = e.arms.length := by omega
      have hset : setRow (wr (Exp.armRows zz)) i (W.c (.int .i64 a.1.pos) :: W.c (.str a.1.con) :: W.c (.sl (strRows (List.replicate a.1.vars.length []))) :: wc a.2.row) = wr (Exp.armRows (zz.set i ((⟨a.1.pos, a.1.con, List.replicate a.1.vars.length []⟩ : ArmH), a.2))) :=
        armrows_set zz i ((⟨a.1.pos, a.1.con, List.replicate a.1.vars.length []⟩ : ArmH), a.2)
      have hsp : splice (wc (armRow a)) 2 [W.arr 1856 a.1.vars.length] = some (W.c (.int .i64 a.1.pos) :: W.c (.str a.1.con) :: W.arr 1856 a.1.vars.length :: wc a.2.row) := by
        rw [armRow, Exp.row_eq a.2]
        rfl
      have hzr : List.replicate a.1.vars.length [zs] = wr (strRows (List.replicate a.1.vars.length [])) := rep_rows _
      unfold l91_0
      simp (maxSteps := 4000000) (disch := first | omega | (simp; done) | (simp; omega)) [hi, hg, hln2, hzr, hsp, setRow_map, hset, blt_dec, -getElem?_pos]
    · have ht : (armsB ws).take e.arms.length ++ ws.drop e.arms.length = armsB ws := by
        rw [← hzl, List.drop_length, List.append_nil, List.take_of_length_le (by omega)]
      rw [ht]
      exact hend
  unfold v91
  by_cases hk : e.kind = 2
  · simp (maxSteps := 4000000) (disch := first | omega | (simp; done) | (simp; omega)) [hw, hk, hzl, -getElem?_pos]
    have hr := hrow e.name
    have go := go (K A)
    rw [hk] at go hr
    refine go _ _ ?_
    unfold l91_0
    simp (maxSteps := 4000000) (disch := first | omega | (simp; done) | (simp; omega)) [hr, hzl, hcl, -getElem?_pos]
  · simp (maxSteps := 4000000) (disch := first | omega | (simp; done) | (simp; omega)) [hw, hk, hzl, -getElem?_pos]
    have hr := hrow []
    refine go _ _ _ ?_
    unfold l91_0
    simp (maxSteps := 4000000) (disch := first | omega | (simp; done) | (simp; omega)) [hr, hzl, hcl, -getElem?_pos]
end Go.Vs.Tryz
