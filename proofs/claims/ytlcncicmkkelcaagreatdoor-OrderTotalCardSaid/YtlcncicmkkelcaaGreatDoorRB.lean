/- Comparing by the program: its closures over each other, walked. (Parts of one proof, put together.) -/
import Derived.Test.YtlcncicmkkelcaaGreatDoorR8
import Derived.Test.YtlcncicmkkelcaaGreatDoorRA
set_option linter.unusedSimpArgs false
set_option linter.unusedVariables false
set_option linter.deprecated false

/- Comparing by the program: its closures over each other, walked. -/
namespace Go.Vs.Tryz
open Go Go.Vs
variable {A : Oracle}

@[simp] theorem range_5 : List.range 5 = [0, 1, 2, 3, 4] := rfl
/-- The captured variables as the closure compare sees them. -/
def boxC (ds : List DataD) (ctx : List EntD) : List Obj := [.box [.c (.sl (dataRows ds))], .box [.c (.sl (entRows ctx))], .box [.clo 58 [true, true, true] [[.ptr 2 0], [.ptr 3 0], [.ptr 4 0]]], .box [.clo 54 [true, true] [[.ptr 0 0], [.ptr 1 0]]], .box [.clo 57 [true] [[.ptr 2 0]]]]
/-- The same as the closure all sees them. -/
def boxA (ds : List DataD) (ctx : List EntD) : List Obj := [.box [.clo 54 [true, true] [[.ptr 2 0], [.ptr 3 0]]], .box [.clo 57 [true] [[.ptr 4 0]]], .box [.c (.sl (dataRows ds))], .box [.c (.sl (entRows ctx))], .box [.clo 58 [true, true, true] [[.ptr 4 0], [.ptr 0 0], [.ptr 1 0]]]]

abbrev rkM (ds : List DataD) (ctx : List EntD) := rankM ds (seenN ctx)

/-- The closure compare's contract up to a weight. -/
def CmpC (A : Oracle) (ds : List DataD) (ctx : List EntD) (n : Nat) : Prop := ∀ (a b : Exp) (l m : List Str), a.weight ≤ n → good a → good b → l.length + a.weight ≤ 1073741824 → m.length + b.weight ≤ 1073741824 →
  (K A).call 58 [strsV l, strsV m, expV a, expV b, .sc (.ptr 2 0), .sc (.ptr 3 0), .sc (.ptr 4 0)] (boxC ds ctx) = some (intV (cmpF (rkM ds ctx) n l m a b), boxC ds ctx)

theorem zip_get {α β γ : Type} {f : α → β → γ} {l : List α} {m : List β} {i : Nat} {x : α} {y : β} (hx : l[i]? = some x) (hy : m[i]? = some y) : (List.zipWith f l m)[i]? = some (f x y) := by
  rw [List.getElem?_zipWith, hx, hy]

theorem zeros_succ {l : List Int} {i : Nat} (h : ∀ y ∈ l.take i, y = 0) (hx : l[i]? = some 0) : ∀ y ∈ l.take (i + 1), y = 0 := by
  intro y hy
  rw [take_next hx] at hy
  rcases List.mem_append.1 hy with hy | hy
  · exact h y hy
  · simpa using hy

set_option maxHeartbeats 4000000 in
theorem all57 (ds : List DataD) (ctx : List EntD) (n : Nat) (ih : CmpC A ds ctx n) (l m : List Str) (xs ys : List Exp) (hx : ∀ x ∈ xs, good x ∧ x.weight ≤ n ∧ l.length + x.weight ≤ 1073741824) (hy : ∀ y ∈ ys, good y ∧ m.length + y.weight ≤ 1073741824) (hxl : xs.length ≤ 1073741824) (hyl : ys.length ≤ 1073741824) :
    (K A).call 57 [strsV l, strsV m, expsV xs, expsV ys, .sc (.ptr 4 0)] (boxA ds ctx) = some (intV (orI (List.zipWith (cmpF (rkM ds ctx) n l m) xs ys)), boxA ds ctx) := by
  unfold boxA
  refine fn_of (vf := v57) (by kernel_rfl) rfl (by simp) ?_
  have hmn : (if ys.length < xs.length then (ys.length : Int) else (xs.length : Int)) = ((min xs.length ys.length : Nat) : Int) := by
    split <;> omega
  generalize hz : List.zipWith (cmpF (rkM ds ctx) n l m) xs ys = zs
  have hzl : zs.length = min xs.length ys.length := by rw [← hz, List.length_zipWith]
  unfold v57
  simp (disch := first | omega | (simp; done) | (simp; omega)) [hmn, -getElem?_pos]
  refine wp_loopI (fun i s => (∀ y ∈ zs.take i, y = 0) ∧ s = ⟨[(0, strsV l), (1, strsV m), (2, expsV xs), (3, expsV ys), (4, .sc (.ptr 4 0)), (16, intV (min xs.length ys.length : Nat)), (17, intV i)],
    [(0, some (.box [.clo 54 [true, true] [[.ptr 2 0], [.ptr 3 0]]])), (1, some (.box [.clo 57 [true] [[.ptr 4 0]]])), (2, some (.box [.c (.sl (dataRows ds))])), (3, some (.box [.c (.sl (entRows ctx))])), (4, some (.box [.clo 58 [true, true, true] [[.ptr 4 0], [.ptr 0 0], [.ptr 1 0]]]))]⟩) (min xs.length ys.length) ⟨by simp, by simp⟩ ?_ ?_
  · rintro i s hi ⟨hs, rfl⟩
    obtain ⟨x, hxi⟩ := get_of_lt (l := xs) (i := i) (by omega)
    obtain ⟨y, hyi⟩ := get_of_lt (l := ys) (i := i) (by omega)
    have hzi : zs[i]? = some (cmpF (rkM ds ctx) n l m x y) := by rw [← hz]; exact zip_get hxi hyi
    obtain ⟨gx, wx, bx⟩ := hx x (List.mem_of_getElem? hxi)
    obtain ⟨gy, by'⟩ := hy y (List.mem_of_getElem? hyi)
    have hc := ih x y l m wx gx gy bx by'
    unfold boxC at hc
    generalize cmpF (rkM ds ctx) n l m x y = z at hzi hc
    unfold l57_0
    by_cases hz0 : z = 0
    · subst hz0
      have hs' := zeros_succ hs hzi
      simp (disch := first | omega | (simp; done) | (simp; omega)) [hi, hxi, hyi, hc, -getElem?_pos]
      exact hs'
    · have ho := orI_at hzi hz0 hs
      simp (disch := first | omega | (simp; done) | (simp; omega)) [hi, hxi, hyi, hc, hz0, ho, -getElem?_pos]
  · rintro s ⟨hs, rfl⟩
    have ho : orI zs = 0 := orI_zero fun y hy => hs y (by rw [List.take_of_length_le (by omega)]; exact hy)
    unfold l57_0
    simp (disch := first | omega | (simp; done) | (simp; omega)) [ho, -getElem?_pos]
end Go.Vs.Tryz

/- Comparing by the program: the closure compare, walked. -/
namespace Go.Vs.Tryz
open Go Go.Vs
variable {A : Oracle}

@[simp] theorem calleeOf_c1 {f : FuncId} {w : W} : calleeOf (.sc (.clo f [true] [[w]])) = some (f, [(true, .sc w)]) := rfl
@[simp] theorem calleeOf_c2 {f : FuncId} {w0 w1 : W} : calleeOf (.sc (.clo f [true, true] [[w0], [w1]])) = some (f, [(true, .sc w0), (true, .sc w1)]) := rfl
@[simp] theorem calleeOf_c3 {f : FuncId} {w0 w1 w2 : W} : calleeOf (.sc (.clo f [true, true, true] [[w0], [w1], [w2]])) = some (f, [(true, .sc w0), (true, .sc w1), (true, .sc w2)]) := rfl
theorem appFK_str {L : Nat → Option Obj} {oid bytes : Nat} {rows : List (List Cell)} {vars : List Str} (h : vars ≠ []) : appFK L oid 1 bytes (.sc (.full rows)) (some (wr (strRows vars))) = appK L oid 1 bytes true (.sc (.full rows)) (wr (strRows vars)) := by
  have hok := okRows_str vars
  cases vars with
  | nil => exact absurd rfl h
  | cons v r =>
    have : wr (strRows (v :: r)) = wc (strRow v) :: wr (strRows r) := rfl
    rw [this] at hok ⊢
    rw [appFK_cons, hok]
    rfl

theorem orI_pre {a b c : Int} (h : orI [a, b] ≠ 0) : orI [a, b, c] = orI [a, b] := by
  simp only [orI_cons] at h ⊢
  split
  · rename_i h0
    rw [if_pos h0] at h
    split
    · rename_i h1
      rw [if_pos h1] at h
      exact absurd rfl h
    · rfl
  · rfl
theorem orI_post {a b c : Int} (h : orI [a, b] = 0) : orI [a, b, c] = c ∧ a = 0 ∧ b = 0 := by
  have h1 := orI_eq_zero.1 h
  have ha := h1 a (by simp)
  have hb := h1 b (by simp)
  subst ha hb
  exact ⟨by simp [orI_cons, orI_one]; intro h; rw [h]; rfl, rfl, rfl⟩

theorem fit1 (l : List Str) : ((strRows l).all fun r => r.length == 1) = true := by
  rw [List.all_eq_true]
  intro r hr
  obtain ⟨s, _, rfl⟩ := List.mem_map.1 hr
  rfl
theorem conRow_eq (s : Str) : wc (conExp s).row = [.c (.int .i64 2), .c (.int .i64 0), .c (.str s), .c (.int .i64 0), .c (.sl []), .c (.sl []), .c (.int .i64 0), .c (.str []), .c (.int .i64 0), .c (.int .i64 0), .c (.sl [])] := by
  simp [conExp, Exp.row, tz, Exp.rows, Exp.armRows, Ty.kind, Ty.name, Ty.id, Ty.home, Ty.args, Ty.rows]
theorem con0_of {e : Exp} {p : ArmH × Exp} (h : e.arms[0]? = some p) : con0 e = conExp p.1.con := by
  unfold con0
  rw [h]
  rfl
theorem orI_app : ∀ (l m : List Int), orI (l ++ m) = if orI l = 0 then orI m else orI l
  | [], m => by simp [orI]
  | a :: l, m => by
    rw [List.cons_append, orI_cons, orI_cons, orI_app l m]
    by_cases h : a = 0
    · simp [h]
    · simp [h]

/-- Ahead of the i-th arms. -/
def armS (ds : List DataD) (ctx : List EntD) (l m : List Str) (a b : Exp) (k i : Nat) : St := ⟨[(0, strsV l), (1, strsV m), (4, .sc (.ptr 2 0)), (5, .sc (.ptr 3 0)), (9, .sc (.ptr 64 0)), (10, .sc (.ptr 128 0)), (115, intV k), (116, intV i)],
  [(0, some (.box [.c (.sl (dataRows ds))])), (1, some (.box [.c (.sl (entRows ctx))])), (2, some (.box [.clo 58 [true, true, true] [[.ptr 2 0], [.ptr 3 0], [.ptr 4 0]]])), (3, some (.box [.clo 54 [true, true] [[.ptr 0 0], [.ptr 1 0]]])), (4, some (.box [.clo 57 [true] [[.ptr 2 0]]])), (64, some (.box (wc a.row))), (128, some (.box (wc b.row)))]⟩
theorem ne_rows {vars : List Str} (h : vars ≠ []) : (wr (strRows vars)).isEmpty = false := by
  cases vars with
  | nil => exact absurd rfl h
  | cons v r => rfl

set_option maxRecDepth 10000 in
set_option maxHeartbeats 16000000 in
theorem cmp_round (ds : List DataD) (ctx : List EntD) (l m : List Str) (a b : Exp) (p q : ArmH × Exp) (k i : Nat) (con z r : Int) (rest : VCode) (hk : k ≤ a.arms.length ∧ k ≤ b.arms.length) (hi : i < k) (hkl : k ≤ 1073741824) (hp : a.arms[i]? = some p) (hq : b.arms[i]? = some q)
    (cl : (K A).call 61 [strsV l] [] = some (.sc (.full (strRows l)), [])) (cm : (K A).call 61 [strsV m] [] = some (.sc (.full (strRows m)), []))
    (hll : l.length + p.1.vars.length ≤ 1073741824) (hml : m.length + q.1.vars.length ≤ 1073741824)
    (hrk : i = 0 → (K A).call 54 [strsV l, expV (conExp p.1.con), expV (conExp q.1.con), strsV m, .sc (.ptr 0 0), .sc (.ptr 1 0)] [.box [.c (.sl (dataRows ds))], .box [.c (.sl (entRows ctx))]] = some (intV con, [.box [.c (.sl (dataRows ds))], .box [.c (.sl (entRows ctx))]]))
    (hrec : (K A).call 58 [strsV (l ++ p.1.vars), strsV (m ++ q.1.vars), expV p.2, expV q.2, .sc (.ptr 2 0), .sc (.ptr 3 0), .sc (.ptr 4 0)] (boxC ds ctx) = some (intV z, boxC ds ctx))
    (hc : 0 < i → con = 0) (h1 : i = 0 → con ≠ 0 → r = con) (h2 : con = 0 → z ≠ 0 → r = z) :
    wp (K A) l58_0 (fun e s' => (e = .normal ∧ (z = 0 ∧ con = 0) ∧ s' = armS ds ctx l m a b k (i + 1)) ∨ (e ≠ .normal ∧ blockQ 1 (thenQ (K A) rest (doneQ false 5 [.tmp 11] (intV r, boxC ds ctx))) e s')) (armS ds ctx l m a b k i) := by
  unfold boxC at *
  unfold armS
  have hia : i < a.arms.length := by omega
  have hib : i < b.arms.length := by omega
  have hnl : (strRows ([] : List Str)) = [] := rfl
  by_cases hi0 : i = 0
  · subst hi0
    have hrk := hrk rfl
    simp only [expV, conRow_eq] at hrk
    by_cases hc0 : con = 0
    · subst hc0
      have h2 := h2 rfl
      by_cases hpv : p.1.vars = [] <;> by_cases hqv : q.1.vars = [] <;> by_cases hz0 : z = 0
      all_goals (try have hpa := fun L oid bytes rows => appFK_str (L := L) (oid := oid) (bytes := bytes) (rows := rows) hpv)
      all_goals (try have hqa := fun L oid bytes rows => appFK_str (L := L) (oid := oid) (bytes := bytes) (rows := rows) hqv)
      all_goals (try have hpe := ne_rows hpv)
      all_goals (try have hqe := ne_rows hqv)
      all_goals (try have hr := h2 hz0)
      all_goals (try rw [hpv, List.append_nil] at hrec)
      all_goals (try rw [hqv, List.append_nil] at hrec)
      all_goals unfold l58_0
      · simp (maxSteps := 4000000) (disch := first | omega | (simp; done) | (simp; omega)) [hi, hia, hib, hp, hq, hpv, hqv, hnl, hrec, hrk, cl, cm, fit1, hz0, -getElem?_pos]
      · simp (maxSteps := 4000000) (disch := first | omega | (simp; done) | (simp; omega)) [hi, hia, hib, hp, hq, hpv, hqv, hnl, hrec, hrk, cl, cm, fit1, hz0, hr, -getElem?_pos]
      · simp (maxSteps := 4000000) (disch := first | omega | (simp; done) | (simp; omega)) [hi, hia, hib, hp, hq, hpv, hqa, hqe, hnl, hrec, hrk, cl, cm, fit1, hz0, -getElem?_pos]
      · simp (maxSteps := 4000000) (disch := first | omega | (simp; done) | (simp; omega)) [hi, hia, hib, hp, hq, hpv, hqa, hqe, hnl, hrec, hrk, cl, cm, fit1, hz0, hr, -getElem?_pos]
      · simp (maxSteps := 4000000) (disch := first | omega | (simp; done) | (simp; omega)) [hi, hia, hib, hp, hq, hpa, hpe, hqv, hnl, hrec, hrk, cl, cm, fit1, hz0, -getElem?_pos]
      · simp (maxSteps := 4000000) (disch := first | omega | (simp; done) | (simp; omega)) [hi, hia, hib, hp, hq, hpa, hpe, hqv, hnl, hrec, hrk, cl, cm, fit1, hz0, hr, -getElem?_pos]
      · simp (maxSteps := 4000000) (disch := first | omega | (simp; done) | (simp; omega)) [hi, hia, hib, hp, hq, hpa, hqa, hpe, hqe, hnl, hrec, hrk, cl, cm, fit1, hz0, -getElem?_pos]
      · simp (maxSteps := 4000000) (disch := first | omega | (simp; done) | (simp; omega)) [hi, hia, hib, hp, hq, hpa, hqa, hpe, hqe, hnl, hrec, hrk, cl, cm, fit1, hz0, hr, -getElem?_pos]
    · have hr := h1 rfl hc0
      unfold l58_0
      simp (maxSteps := 4000000) (disch := first | omega | (simp; done) | (simp; omega)) [hi, hia, hib, hp, hq, hrk, hc0, hr, -getElem?_pos]
  · have hi0' : ¬ (i : Int) = 0 := by omega
    have hc0 : con = 0 := hc (by omega)
    have h2 := h2 hc0
    by_cases hpv : p.1.vars = [] <;> by_cases hqv : q.1.vars = [] <;> by_cases hz0 : z = 0
    all_goals (try have hpa := fun L oid bytes rows => appFK_str (L := L) (oid := oid) (bytes := bytes) (rows := rows) hpv)
    all_goals (try have hqa := fun L oid bytes rows => appFK_str (L := L) (oid := oid) (bytes := bytes) (rows := rows) hqv)
    all_goals (try have hpe := ne_rows hpv)
    all_goals (try have hqe := ne_rows hqv)
    all_goals (try have hr := h2 hz0)
    all_goals (try rw [hpv, List.append_nil] at hrec)
    all_goals (try rw [hqv, List.append_nil] at hrec)
    all_goals unfold l58_0
    · simp (maxSteps := 4000000) (disch := first | omega | (simp; done) | (simp; omega)) [hi, hia, hib, hi0, hi0', hp, hq, hpv, hqv, hnl, hrec, cl, cm, fit1, hz0, hc0, -getElem?_pos]
    · simp (maxSteps := 4000000) (disch := first | omega | (simp; done) | (simp; omega)) [hi, hia, hib, hi0, hi0', hp, hq, hpv, hqv, hnl, hrec, cl, cm, fit1, hz0, hr, -getElem?_pos]
    · simp (maxSteps := 4000000) (disch := first | omega | (simp; done) | (simp; omega)) [hi, hia, hib, hi0, hi0', hp, hq, hpv, hqa, hqe, hnl, hrec, cl, cm, fit1, hz0, hc0, -getElem?_pos]
    · simp (maxSteps := 4000000) (disch := first | omega | (simp; done) | (simp; omega)) [hi, hia, hib, hi0, hi0', hp, hq, hpv, hqa, hqe, hnl, hrec, cl, cm, fit1, hz0, hr, -getElem?_pos]
    · simp (maxSteps := 4000000) (disch := first | omega | (simp; done) | (simp; omega)) [hi, hia, hib, hi0, hi0', hp, hq, hpa, hpe, hqv, hnl, hrec, cl, cm, fit1, hz0, hc0, -getElem?_pos]
    · simp (maxSteps := 4000000) (disch := first | omega | (simp; done) | (simp; omega)) [hi, hia, hib, hi0, hi0', hp, hq, hpa, hpe, hqv, hnl, hrec, cl, cm, fit1, hz0, hr, -getElem?_pos]
    · simp (maxSteps := 4000000) (disch := first | omega | (simp; done) | (simp; omega)) [hi, hia, hib, hi0, hi0', hp, hq, hpa, hqa, hpe, hqe, hnl, hrec, cl, cm, fit1, hz0, hc0, -getElem?_pos]
    · simp (maxSteps := 4000000) (disch := first | omega | (simp; done) | (simp; omega)) [hi, hia, hib, hi0, hi0', hp, hq, hpa, hqa, hpe, hqe, hnl, hrec, cl, cm, fit1, hz0, hr, -getElem?_pos]
end Go.Vs.Tryz
