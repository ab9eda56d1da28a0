/- Comparing by the program: the closure compare, walked. -/
import Derived.Test.YtchkkbbchpnabaaGreatDoorR7c
import Derived.Test.YtchkkbbchpnabaaGreatDoorR6c
set_option linter.unusedSimpArgs false
set_option linter.unusedVariables false
set_option linter.deprecated false

/- Comparing by the program: the closure compare, walked. -/
namespace Go.Vs.Tryz
open Go Go.Vs
variable {A : Oracle}

@[simp] theorem calleeOf_c1 {f : FuncId} {w : W} : calleeOf (.sc (.clo f [true] [[w]])) = some (f, [(true, .sc w)]) := rfl
@[simp] theorem calleeOf_c2 {f : FuncId} {w0 w1 : W} : calleeOf (.sc (.clo f [true, true] [[w0], [w1]])) = some (f, [(true, .sc w0), (true, .sc w1)]) := rfl
@[simp] theorem calleeOf_c3 {f : FuncId} {w0 w1 w2 : W} : calleeOf (.sc (.clo f [true, true, true] [[w0], [w1], [w2]])) = some (f, [(true, .sc w0), (true, .sc w1), (true, .sc w2)]) := rfl
theorem appFK_str {L : Nat → Option Obj} {oid bytes : Nat} {rows : List (List Cell)} {vars : List Str} (h : vars ≠ []) : appFK L oid 1 bytes (.sc (.full rows)) (some (wr (strRows vars))) = appK L oid 1 bytes true (.sc (.full rows)) (wr (strRows vars)) := by
  have hok := okRows_str vars
  cases vars with
  | nil => exact absurd rfl h
  | cons v r =>
    have : wr (strRows (v :: r)) = wc (strRow v) :: wr (strRows r) := rfl
    rw [this] at hok ⊢
    rw [appFK_cons, hok]
    rfl

theorem orI_pre {a b c : Int} (h : orI [a, b] ≠ 0) : orI [a, b, c] = orI [a, b] := by
  simp only [orI_cons] at h ⊢
  split
  · rename_i h0
    rw [if_pos h0] at h
    split
    · rename_i h1
      rw [if_pos h1] at h
      exact absurd rfl h
    · rfl
  · rfl
theorem orI_post {a b c : Int} (h : orI [a, b] = 0) : orI [a, b, c] = c ∧ a = 0 ∧ b = 0 := by
  have h1 := orI_eq_zero.1 h
  have ha := h1 a (by simp)
  have hb := h1 b (by simp)
  subst ha hb
  exact ⟨by simp [orI_cons, orI_one]; intro h; rw [h]; rfl, rfl, rfl⟩

theorem fit1 (l : List Str) : ((strRows l).all fun r => r.length == 1) = true := by
  rw [List.all_eq_true]
  intro r hr
  obtain ⟨s, _, rfl⟩ := List.mem_map.1 hr
  rfl
theorem conRow_eq (s : Str) : wc (conExp s).row = [.c (.int .i64 2), .c (.int .i64 0), .c (.str s), .c (.int .i64 0), .c (.sl []), .c (.sl []), .c (.int .i64 0), .c (.str []), .c (.int .i64 0), .c (.int .i64 0), .c (.sl [])] := by
  simp [conExp, Exp.row, tz, Exp.rows, Exp.armRows, Ty.kind, Ty.name, Ty.id, Ty.home, Ty.args, Ty.rows]
theorem con0_of {e : Exp} {p : ArmH × Exp} (h : e.arms[0]? = some p) : con0 e = conExp p.1.con := by
  unfold con0
  rw [h]
  rfl
theorem orI_app : ∀ (l m : List Int), orI (l ++ m) = if orI l = 0 then orI m else orI l
  | [], m => by simp [orI]
  | a :: l, m => by
    rw [List.cons_append, orI_cons, orI_cons, orI_app l m]
    by_cases h : a = 0
    · simp [h]
    · simp [h]

theorem ne_rows {vars : List Str} (h : vars ≠ []) : (wr (strRows vars)).isEmpty = false := by
  cases vars with
  | nil => exact absurd rfl h
  | cons v r => rfl

end Go.Vs.Tryz
