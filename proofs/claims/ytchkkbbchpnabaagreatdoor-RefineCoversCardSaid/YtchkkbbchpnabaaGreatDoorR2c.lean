/- Numbers as text, and the names that are not taken (plain). -/
import Derived.Test.YtchkkbbchpnabaaGreatDoorM6c
import Derived.Test.YtchkkbbchpnabaaGreatDoorR1c
set_option linter.unusedSimpArgs false
set_option linter.unusedVariables false
set_option linter.deprecated false

/- Numbers as text, and the names that are not taken (plain). -/
namespace Go.Vs.Tryz
open Go Go.Vs

/-- The digits of a number. -/
def numS (n : Nat) : Str := if h : n < 10 then [UInt8.ofNat (48 + n)] else numS (n / 10) ++ [UInt8.ofNat (48 + n % 10)]
termination_by n
decreasing_by omega
theorem numS_lt {n : Nat} (h : n < 10) : numS n = [UInt8.ofNat (48 + n)] := by rw [numS, dif_pos h]
theorem numS_ge {n : Nat} (h : ¬ n < 10) : numS n = numS (n / 10) ++ [UInt8.ofNat (48 + n % 10)] := by rw [numS, dif_neg h]
theorem numS_pos (n : Nat) : 1 ≤ (numS n).length := by
  grind [numS_lt, numS_ge]
theorem dig_inj {a b : Nat} (ha : a < 10) (hb : b < 10) (h : UInt8.ofNat (48 + a) = UInt8.ofNat (48 + b)) : a = b := by
  grind [UInt8.toNat_ofNat']
theorem numS_inj : ∀ (n m : Nat), numS n = numS m → n = m := by
  intro n
  induction n using Nat.strongRecOn with
  | ind n ih =>
    intro m h
    by_cases hn : n < 10
    grind [numS_lt, dig_inj, numS_ge, List.length_append]
    · by_cases hm : m < 10
      grind
      · rw [numS_ge hn, numS_ge hm] at h
        obtain ⟨h1, h2⟩ := List.append_inj' h (by simp)
        have h3 := ih (n / 10) (by omega) _ h1
        have h4 := dig_inj (Nat.mod_lt _ (by omega)) (Nat.mod_lt _ (by omega)) (by simpa using h2)
        omega
theorem numS_digit (n : Nat) : ∀ c ∈ numS n, 48 ≤ c.toNat ∧ c.toNat ≤ 57 := by
  induction n using Nat.strongRecOn <;> grind [numS_lt, UInt8.toNat_ofNat', numS_ge]
theorem numS_len (n : Nat) : ∀ k, n < 10 ^ k → 1 ≤ k → (numS n).length ≤ k := by
  induction n using Nat.strongRecOn with
  | ind n ih =>
    intro k hk h1
    by_cases hn : n < 10
    grind [numS_lt]
    · obtain ⟨k, rfl⟩ : ∃ j, k = j + 1 := ⟨k - 1, by omega⟩
      have hk1 : 1 ≤ k := by
        grind
      have := ih (n / 10) (by omega) k (by omega) hk1
      grind [numS_ge]

/-- The name with a number. -/
def vName (k : Nat) : Str := 118 :: numS k
theorem vName_inj {a b : Nat} (h : vName a = vName b) : a = b := numS_inj a b (by simpa [vName] using h)

/-- The names of a list from a number on. -/
noncomputable def vCount (l : List Str) (k : Nat) : Nat := match l with
  | [] => 0
  | s :: r => (open Classical in if ∃ j, k ≤ j ∧ s = vName j then 1 else 0) + vCount r k
theorem vCount_le (l : List Str) (k : Nat) : vCount l k ≤ l.length := by
  induction l with
  | nil => simp [vCount]
  | cons s r ih => simp only [vCount, List.length_cons]; split <;> omega
theorem vCount_mono (l : List Str) (k : Nat) : vCount l (k + 1) ≤ vCount l k := by
  induction l with
  | nil => simp [vCount]
  | cons s r ih =>
    simp only [vCount]
    split
    · rename_i h
      obtain ⟨j, h1, h2⟩ := h
      rw [if_pos ⟨j, by omega, h2⟩]
      omega
    omega
theorem vCount_lt {l : List Str} {k : Nat} (h : vName k ∈ l) : vCount l (k + 1) < vCount l k := by
  induction l with
  | nil => grind
  | cons s r ih =>
    have hm := vCount_mono r k
    simp only [vCount]
    rcases List.mem_cons.1 h with rfl | h
    · rw [if_neg, if_pos ⟨k, Nat.le_refl _, rfl⟩] <;> grind [vName_inj]
    · have := ih h
      split
      · rename_i h3
        obtain ⟨j, h1, h2⟩ := h3
        rw [if_pos ⟨j, by omega, h2⟩]
        omega
      omega

/-- The number of the n-th name from k on that is not taken. -/
def freshF (taken : List Str) : Nat → Nat → Nat → Nat
  | 0, k, _ => k
  | f + 1, k, n => if vName k ∈ taken then freshF taken f (k + 1) n else if n = 0 then k else freshF taken f (k + 1) (n - 1)
theorem freshF_ge (taken : List Str) : ∀ f k n, k ≤ freshF taken f k n
  | 0, k, n => Nat.le_refl _
  | f + 1, k, n => by
    simp only [freshF]
    split
    · exact Nat.le_trans (by omega) (freshF_ge taken f (k + 1) n)
    · split
      simp
      · exact Nat.le_trans (by omega) (freshF_ge taken f (k + 1) (n - 1))
theorem freshF_le (taken : List Str) : ∀ f k n, freshF taken f k n ≤ k + f
  | 0, k, n => by simp [freshF]
  | f + 1, k, n => by
    simp only [freshF]
    have h1 := freshF_le taken f (k + 1) n
    have h2 := freshF_le taken f (k + 1) (n - 1)
    grind
theorem freshF_not (taken : List Str) : ∀ f k n, n + vCount taken k < f → vName (freshF taken f k n) ∉ taken
  | 0, k, n, h => by omega
  | f + 1, k, n, h => by
    simp only [freshF]
    split
    · rename_i hm
      exact freshF_not taken f (k + 1) n (by grind [vCount_lt])
    · rename_i hm
      split
      omega
      · exact freshF_not taken f (k + 1) (n - 1) (by grind [vCount_mono])
theorem freshF_lt (taken : List Str) : ∀ f k n m, m + vCount taken k < f → n < m → freshF taken f k n < freshF taken f k m
  | 0, k, n, m, h, _ => by omega
  | f + 1, k, n, m, h, hnm => by
    simp only [freshF]
    split
    · rename_i hm
      exact freshF_lt taken f (k + 1) n m (by grind [vCount_lt]) hnm
    · rename_i hm
      have hm0 : m ≠ 0 := by omega
      rw [if_neg hm0]
      have hc := vCount_mono taken k
      split
      grind [freshF_ge]
      · exact freshF_lt taken f (k + 1) (n - 1) (m - 1) (by omega) (by omega)
/-- More fuel than needed. -/
theorem freshF_fuel (taken : List Str) : ∀ f k n f', n + vCount taken k < f → f ≤ f' → freshF taken f' k n = freshF taken f k n
  | 0, k, n, f', h, _ => by omega
  | f + 1, k, n, f', h, hf => by
    obtain ⟨f', rfl⟩ : ∃ j, f' = j + 1 := ⟨f' - 1, by omega⟩
    simp only [freshF]
    split
    · rename_i hm
      exact freshF_fuel taken f (k + 1) n f' (by grind [vCount_lt]) (by omega)
    · split
      · rfl
      · exact freshF_fuel taken f (k + 1) (n - 1) f' (by grind [vCount_mono]) (by omega)

/-- The n-th name that is not taken. -/
def freshK (n : Nat) (taken : List Str) : Nat := freshF taken (n + taken.length + 1) 1 n
def freshS (n : Nat) (taken : List Str) : Str := vName (freshK n taken)
theorem freshK_le (n : Nat) (taken : List Str) : freshK n taken ≤ n + taken.length + 2 := by
  grind [freshF_le, freshK]
theorem freshS_not (n : Nat) (taken : List Str) : freshS n taken ∉ taken := freshF_not taken _ _ _ (by grind [vCount_le])
theorem freshK_lt {n m : Nat} (taken : List Str) (h : n < m) : freshK n taken < freshK m taken := by
  unfold freshK
  rw [← freshF_fuel taken (n + taken.length + 1) 1 n (m + taken.length + 1) (by grind [vCount_le]) (by omega)]
  exact freshF_lt taken _ _ _ _ (by grind [vCount_le]) h
theorem freshS_inj {n m : Nat} {taken : List Str} (h : freshS n taken = freshS m taken) : n = m := by
  have h1 := vName_inj h
  rcases Nat.lt_trichotomy n m with h2 | h2 | h2
  · have := freshK_lt taken h2; omega
  omega
  · have := freshK_lt taken h2; omega
end Go.Vs.Tryz

/- Numbers as text and fresh names by the reference, walked. -/
namespace Go.Vs
open Go
section
variable {C : Ctx} {E : Nat → Option V} {L : Nat → Option Obj} {oid : Nat}
@[simp] theorem b_quo {k : IntKind} {a b : Int} (h : b ≠ 0) : binV .quo 0 (.sc (.c (.int k a))) (.sc (.c (.int k b))) = some (.sc (.c (.int k (k.wrap (a.tdiv b)))), []) := by simp [binV, binW, isShift, intBin, h, wrapI]
@[simp] theorem x_slS {x : Opd} {lo hi : Option Opd} : exec1 C E L oid (.slS x lo hi) = (match x.val C E with
    | .sc (.c (.str s)) => match boundOr (hi.map (·.val C E)) s.length s.length with
      | none => none
      | some h => (boundOr (lo.map (·.val C E)) 0 h).map fun l => (.sc (.c (.str ((s.take h).drop l))), [])
    | _ => none) := rfl
end
end Go.Vs
namespace Go.Vs.Tryz
open Go Go.Vs
variable {A : Oracle}

def digits : Str := [48, 49, 50, 51, 52, 53, 54, 55, 56, 57]
theorem number26 (n : Nat) (h0 : n ≠ 0) (h : n < 10000000000000) : (K A).call 94 [intV n] [] = some (strV (numS n), []) := by
  refine fn_of (vf := v94) (by kernel_rfl) rfl (by simp) ?_
  have h0' : ¬ (n : Int) = 0 := by omega
  have hneg : ¬ (n : Int) < 0 := by omega
  have hlen := numS_len n 13 (by omega) (by omega)
  unfold v94
  simp (disch := first | omega | (simp; done) | (simp; omega)) [h0, h0']
  refine wp_loopI (fun i s => ∃ (k : Nat) (t : Str), k ≤ n ∧ t.length = i ∧ (if k = 0 then numS n = t else numS n = numS k ++ t) ∧ s = ⟨[(0, intV n), (3, strV t), (4, intV k)], []⟩) (numS n).length ⟨n, [], Nat.le_refl _, rfl, by simp [h0], by first | rfl | simp⟩ ?_ ?_
  · rintro i s hi ⟨k, t, hk, ht, he, rfl⟩
    have hk0 : k ≠ 0 := by
      rintro rfl
      rw [if_pos rfl] at he
      rw [he] at hi
      omega
    rw [if_neg hk0] at he
    have hk0' : ¬ (k : Int) = 0 := by omega
    obtain ⟨d, hd, hd10⟩ : ∃ d, d = k % 10 ∧ d < 10 := ⟨k % 10, rfl, Nat.mod_lt _ (by omega)⟩
    have hmod : (k : Int).tmod 10 = (d : Int) := by rw [Int.tmod_eq_emod_of_nonneg (by omega)]; omega
    have hdiv : (k : Int).tdiv 10 = ((k / 10 : Nat) : Int) := by rw [Int.tdiv_eq_ediv_of_nonneg (by omega)]; omega
    have hb1 : boundOr (some (intV ((d : Int) + 1))) 10 10 = some (d + 1) := natBelow_cast (k := .i64) (n := d + 1) (by omega)
    have hb2 : boundOr (some (intV (d : Int))) 0 (d + 1) = some d := natBelow_cast (k := .i64) (n := d) (by omega)
    have hdr : ∀ d : Nat, d < 10 → List.drop d (48 :: List.take d [49, 50, 51, 52, 53, 54, 55, 56, 57]) = [UInt8.ofNat (48 + d)] := by decide
    have hdd := hdr d hd10
    have hnd : ¬ (d : Int) < 0 := by omega
    have hnext : if k / 10 = 0 then numS n = UInt8.ofNat (48 + d) :: t else numS n = numS (k / 10) ++ UInt8.ofNat (48 + d) :: t := by
      by_cases h10 : k < 10
      · rw [if_pos (by omega), he, numS_lt h10, hd, Nat.mod_eq_of_lt h10]
        rfl
      · rw [if_neg (by omega), he, numS_ge h10, hd]
        simp
    have htl : t.length ≤ 13 := by omega
    unfold l94_0
    simp (disch := first | omega | (simp; done) | (simp; omega)) [hk0, hk0', hnd, hmod, hdiv, hb1, hb2, hdd]
    exact ⟨k / 10, by omega, UInt8.ofNat (48 + d) :: t, by simp [ht], hnext, by simp⟩
  · rintro s ⟨k, t, hk, ht, he, rfl⟩
    have hk0 : k = 0 := by
      by_cases hk0 : k = 0
      · exact hk0
      · rw [if_neg hk0] at he
        have := numS_pos k
        rw [he] at ht
        simp at ht
        rw [ht] at this
        simp at this
    subst hk0
    rw [if_pos rfl] at he
    unfold l94_0
    simp (disch := first | omega | (simp; done) | (simp; omega)) [hneg, he]

theorem fresh29 (n : Nat) (taken : List Str) (hn : n ≤ 584115552256) (ht : taken.length ≤ 584115552256) : (K A).call 52 [intV n, strsV taken] [] = some (strV (freshS n taken), []) := by
  refine fn_of (vf := v52) (by kernel_rfl) rfl (by simp) ?_
  have hmx : (if (0 : Int) > (n : Int) then (0 : Int) else (n : Int)) = n := by rw [if_neg (by omega)]
  have hge := freshF_ge taken (n + taken.length + 1) 1 n
  have hle := freshK_le n taken
  have hnot := freshS_not n taken
  have hkdef : freshK n taken = freshF taken (n + taken.length + 1) 1 n := rfl
  unfold v52
  simp (disch := first | omega | (simp; done) | (simp; omega)) [hmx]
  refine wp_loopI (fun i s => ∃ j : Nat, j ≤ n ∧ i ≤ n + taken.length ∧ freshF taken (n + taken.length + 1 - i) (1 + i) j = freshK n taken ∧ j + vCount taken (1 + i) < n + taken.length + 1 - i ∧ s = ⟨[(0, intV j), (1, strsV taken), (5, intV ((i : Int) + 1))], []⟩) (freshK n taken - 1)
    ⟨n, Nat.le_refl _, by omega, rfl, by have := vCount_le taken 1; simp only [Nat.add_zero, Nat.sub_zero]; omega, by simp⟩ ?_ ?_
  · rintro i s hi ⟨j, hj, hin, hf, hlt, rfl⟩
    have hnum := number26 (A := A) (i + 1) (by omega) (by omega)
    have hlen := numS_len (i + 1) 13 (by omega) (by omega)
    have hhas := has64 (A := A) taken (vName (i + 1)) (by omega)
    have hv : vName (i + 1) = 118 :: numS (i + 1) := rfl
    obtain ⟨f, hfe⟩ : ∃ f, n + taken.length + 1 - i = f + 1 := ⟨n + taken.length - i, by omega⟩
    rw [hfe, Nat.add_comm 1 i, freshF] at hf
    rw [hfe, Nat.add_comm 1 i] at hlt
    rw [show (((i + 1 : Nat) : Int)) = (i : Int) + 1 by omega] at hnum
    rw [hv] at hhas
    unfold l52_0
    by_cases hm : vName (i + 1) ∈ taken
    · rw [if_pos hm] at hf
      have hm' := hm
      rw [hv] at hm'
      have hcl := vCount_lt hm
      simp (disch := first | omega | (simp; done) | (simp; omega)) [hnum, hhas, hm']
      exact ⟨j, hj, by omega, by rw [show n + taken.length - i = f by omega, show 1 + (i + 1) = i + 1 + 1 by omega]; exact hf, by rw [show 1 + (i + 1) = i + 1 + 1 by omega]; omega, by simp⟩
    · rw [if_neg hm] at hf
      have hm' := hm
      rw [hv] at hm'
      have hj0 : j ≠ 0 := by
        rintro rfl
        rw [if_pos rfl] at hf
        omega
      rw [if_neg hj0] at hf
      have hj0' : ¬ (j : Int) = 0 := by omega
      have hcm := vCount_mono taken (i + 1)
      have hsub : IntKind.i64.wrap ((j : Int) - 1) = ((j - 1 : Nat) : Int) := by rw [wrap_in _ (by omega)]; omega
      simp (disch := first | omega | (simp; done) | (simp; omega)) [hnum, hhas, hm', hj0, hj0', hsub]
      exact ⟨j - 1, by omega, by omega, by rw [show n + taken.length - i = f by omega, show 1 + (i + 1) = i + 1 + 1 by omega]; exact hf, by rw [show 1 + (i + 1) = i + 1 + 1 by omega]; omega, by simp⟩
  · rintro s ⟨j, hj, hin, hf, hlt, rfl⟩
    have hk1 : freshK n taken - 1 + 1 = freshK n taken := by omega
    have hnum := number26 (A := A) (freshK n taken) (by omega) (by omega)
    have hlen := numS_len (freshK n taken) 13 (by omega) (by omega)
    have hhas := has64 (A := A) taken (vName (freshK n taken)) (by omega)
    have hv : vName (freshK n taken) = 118 :: numS (freshK n taken) := rfl
    have hm : vName (freshK n taken) ∉ taken := hnot
    obtain ⟨f, hfe⟩ : ∃ f, n + taken.length + 1 - (freshK n taken - 1) = f + 1 := ⟨n + taken.length - (freshK n taken - 1), by omega⟩
    rw [hfe, Nat.add_comm 1 _, hk1, freshF, if_neg hm] at hf
    have hj0 : j = 0 := by
      by_cases hj0 : j = 0
      · exact hj0
      · rw [if_neg hj0] at hf
        have := freshF_ge taken f (freshK n taken + 1) (j - 1)
        omega
    subst hj0
    rw [hv] at hhas hm
    rw [show (((freshK n taken - 1 : Nat) : Int)) + 1 = (freshK n taken : Int) by omega]
    unfold l52_0
    simp (disch := first | omega | (simp; done) | (simp; omega)) [hnum, hhas, hm, freshS, vName]
end Go.Vs.Tryz

/- Contexts and ranks: their functions, walked. -/
namespace Go.Vs
open Go
structure EntD where
  name : Str
  count : Int
  ty : Ty
def entRow (e : EntD) : List Cell := .str e.name :: .int .i64 e.count :: e.ty.row
def entRows (l : List EntD) : List (List Cell) := l.map entRow
@[simp] theorem entRow_len (e : EntD) : (entRow e).length = 7 := by simp [entRow]
@[simp] theorem entRows_len (l : List EntD) : (entRows l).length = l.length := by simp [entRows]
@[simp] theorem entRows_get (l : List EntD) (i : Nat) : (entRows l)[i]? = (l[i]?).map entRow := by simp [entRows]
@[simp] theorem okRows_ent (l : List EntD) : okRows 7 (wr (entRows l)) = true := okRows_of l entRow_len
@[simp] theorem entRows_snoc (l : List EntD) (x : EntD) : wr (entRows l) ++ [wc (entRow x)] = wr (entRows (l ++ [x])) := by simp [entRows, wr]
@[simp] theorem entRows0 : entRows [] = [] := rfl
/-- A scheme's cells. -/
def schRow (c : Int) (t : Ty) : List Cell := .int .i64 c :: t.row
@[simp] theorem schRow_len (c : Int) (t : Ty) : (schRow c t).length = 6 := by simp [schRow]
section
variable (e : EntD) (c : Int) (t : Ty)
@[simp] theorem cut_n0 : cut (entRow e) 0 1 = some [.str e.name] := by simp [entRow]
@[simp] theorem cut_n1 : cut (entRow e) 1 6 = some (schRow e.count e.ty) := by rw [entRow, schRow, Ty.row_eq]; rfl
@[simp] theorem cut_n : cut (entRow e) 0 7 = some (entRow e) := by rw [entRow, Ty.row_eq]; rfl
@[simp] theorem cutw_n0 : cut (wc (entRow e)) 0 1 = some [.c (.str e.name)] := by rw [entRow, Ty.row_eq]; rfl
@[simp] theorem cutw_n1 : cut (wc (entRow e)) 1 6 = some (wc (schRow e.count e.ty)) := by rw [entRow, schRow, Ty.row_eq]; rfl
@[simp] theorem cutw_n : cut (wc (entRow e)) 0 7 = some (wc (entRow e)) := by rw [entRow, Ty.row_eq]; rfl
@[simp] theorem cutw_sch : cut (wc (schRow c t)) 0 6 = some (wc (schRow c t)) := by rw [schRow, Ty.row_eq]; rfl
@[simp] theorem flat_sch : (wc (schRow c t)).all flatW = false := by rw [schRow, Ty.row_eq]; simp [wc, flatW]
@[simp] theorem flat_ent : (wc (entRow e)).all flatW = false := by rw [entRow, Ty.row_eq]; simp [wc, flatW]
end
section
variable {C : Ctx} {E : Nat → Option V} {L : Nat → Option Obj} {oid : Nat}
@[simp] theorem x_sl {s : Nat} {x : Opd} {lo hi mx : Option Opd} : exec1 C E L oid (.sl s x lo hi mx) = slice1 L s (x.val C E) (lo.map (·.val C E)) (hi.map (·.val C E)) (mx.map (·.val C E)) := rfl
theorem fit_map {α : Type} {f : α → List Cell} {k : Nat} (h : ∀ a, (f a).length = k) (l : List α) : rowsFit k (l.map f) = true := by
  cases l with
  | nil => rfl
  | cons a r => simp [rowsFit, h a]
@[simp] theorem fit_ent (l : List EntD) : rowsFit 7 (entRows l) = true := fit_map entRow_len l
@[simp] theorem fit_data (l : List DataD) : rowsFit 4 (dataRows l) = true := fit_map dataRow_len l
@[simp] theorem slice_from {s n : Nat} {k : IntKind} {rows : List (List Cell)} (h : n ≤ rows.length) : slice1 L s (.sc (.c (.sl rows))) (some (.sc (.c (.int k (n : Int))))) none none = bif rowsFit s rows then some (.sc (.c (.sl (rows.drop n))), []) else none := by
  simp [slice1, boundOr, natBelow_nat, blt_dec, Nat.lt_succ_of_le h]
@[simp] theorem slice_from1 {s n : Nat} {k : IntKind} {rows : List (List Cell)} (h : n + 1 ≤ rows.length) : slice1 L s (.sc (.c (.sl rows))) (some (.sc (.c (.int k ((n : Int) + 1))))) none none = bif rowsFit s rows then some (.sc (.c (.sl (rows.drop (n + 1)))), []) else none := slice_from (n := n + 1) h
@[simp] theorem slice_to {s n : Nat} {k : IntKind} {rows : List (List Cell)} (h : n ≤ rows.length) : slice1 L s (.sc (.c (.sl rows))) none (some (.sc (.c (.int k (n : Int))))) none = bif rowsFit s rows then some (.sc (.c (.sl (rows.take n))), []) else none := by
  simp [slice1, boundOr, natBelow_nat, blt_dec, Nat.lt_succ_of_le h]
@[simp] theorem entRows_drop (l : List EntD) (n : Nat) : (entRows l).drop n = entRows (l.drop n) := by simp [entRows]
@[simp] theorem dataRows_take (l : List DataD) (n : Nat) : (dataRows l).take n = dataRows (l.take n) := by simp [dataRows]
@[simp] theorem call1_clo {call : Oracle} {f : FuncId} {w : W} {args : List (Bool × V)} : call1 call L oid (.sc (.clo f [true] [[w]])) args = callA call L oid f (argsOf L (args ++ [(true, .sc w)])) := by
  rw [call1_eq]
  rfl
end
end Go.Vs

namespace Go.Vs.Tryz
open Go Go.Vs
variable {A : Oracle}

abbrev entsV (l : List EntD) : V := .sc (.c (.sl (entRows l)))
def names (l : List EntD) : List Str := l.map (·.name)
@[simp] theorem names_len (l : List EntD) : (names l).length = l.length := by simp [names]
@[simp] theorem names_get (l : List EntD) (i : Nat) : (names l)[i]? = (l[i]?).map (·.name) := by simp [names]

/-- The entries that are not hidden, among the first i. -/
def seenTo (l : List EntD) : Nat → List EntD
  | 0 => []
  | i + 1 => match l[i]? with
    | none => seenTo l i
    | some e => if e.name ∈ names (l.drop (i + 1)) then seenTo l i else seenTo l i ++ [e]
theorem seenTo_len (l : List EntD) : ∀ i, (seenTo l i).length ≤ i
  | 0 => by simp [seenTo]
  | i + 1 => by
    have := seenTo_len l i
    simp only [seenTo]
    split
    · omega
    · split
      · omega
      · simp; omega

end Go.Vs.Tryz

/- Contexts and ranks by the reference, walked; constructors found. -/
namespace Go.Vs.Tryz
open Go Go.Vs
variable {A : Oracle}

/-- The last place of a name, or -1. -/
def rlast (l : List Str) (s : Str) : Int := if s ∈ l then (l.length : Int) - 1 - place l.reverse s else -1

theorem rev_get {l : List Str} {i : Nat} (h : i < l.length) : l.reverse[i]? = l[l.length - 1 - i]? := List.getElem?_reverse h

def LookP (b : Bool) (r : V × List Obj) : Prop := ∃ c t, r = (.tu [.ag (wc (schRow c t)), boolV b], [])
def cnames (d : DataD) : List Str := d.cons.map (·.name)
@[simp] theorem cnames_len (d : DataD) : (cnames d).length = d.cons.length := by simp [cnames]
@[simp] theorem cnames_get (d : DataD) (i : Nat) : (cnames d)[i]? = (d.cons[i]?).map (·.name) := by simp [cnames]
def dataOf (ds : List DataD) (c : Str) : Nat := ds.findIdx fun d => decide (c ∈ cnames d)
theorem dataOf_lt {ds : List DataD} {c : Str} {i : Nat} (h : i < dataOf ds c) : ∃ d, ds[i]? = some d ∧ c ∉ cnames d := by
  have hlt : i < ds.length := Nat.lt_of_lt_of_le h List.findIdx_le_length
  refine ⟨ds[i], List.getElem?_eq_getElem hlt, ?_⟩
  have := List.not_of_lt_findIdx h
  simpa using this
theorem dataOf_at {ds : List DataD} {c : Str} (h : dataOf ds c < ds.length) : ∃ d, ds[dataOf ds c]? = some d ∧ c ∈ cnames d := by
  refine ⟨ds[dataOf ds c], List.getElem?_eq_getElem h, ?_⟩
  have h1 := List.findIdx_getElem (w := h)
  exact of_decide_eq_true h1
theorem dataOf_le (ds : List DataD) (c : Str) : dataOf ds c ≤ ds.length := List.findIdx_le_length
/-- The place of a constructor. -/
def findM (ds : List DataD) (c : Str) : Int × Int × Bool := match ds[dataOf ds c]? with
  | some d => (dataOf ds c, place (cnames d) c, true)
  | none => (0, 0, false)
abbrev findV (r : Int × Int × Bool) : V := .tu [intV r.1, intV r.2.1, boolV r.2.2]

end Go.Vs.Tryz

/- Ranks, walked; the program's rank is the reference's. -/
namespace Go.Vs
open Go
section
variable {C : Ctx}
theorem scrubD_eq (ks : List Nat) (s : St) : scrubD ks s = s.scrub ks := by
  cases ks with
  | cons _ _ => rfl
  | nil =>
    obtain ⟨E, O⟩ := s
    unfold scrubD St.scrub
    have : (O.any fun x => x.2.isSome && List.contains [] x.1) = false := by
      rw [List.any_eq_false]
      intro x _
      simp
    simp only [this, cond_false]

/-- A range over slices.Backward's function: I i holds where i rows are left. -/
theorem wp_rangeB {x : Opd} {f s p q k : Nat} {ag : Bool} {asg body : VCode} {Q : Ex → St → Prop} {st : St} {rows : List (List Cell)} (hx : x.val C (get? st.env) = .sc (.clo f [true] [[.ptr k 0]])) (hk : 64 ≤ k)
    (hL : look st.objs k = some (.box [.c (.sl rows)])) (hn : rows.length ≤ 1649267441664) (I : Nat → St → Prop) (h0 : I rows.length (scrubD [k] st))
    (round : ∀ i st' row, I (i + 1) st' → rows[i]? = some row → row.length = s ∧ ∃ v, asV ag (wc row) = some v ∧
      wp C asg (fun e s1 => e = .normal ∧ ((dropsOf body).all fun k => (look s1.objs k).isNone) = true ∧
        wp C body (fun e s2 => (e = .normal ∧ I i ⟨(scrubD (dropsOf asg ++ dropsOf body) st').env, s2.objs⟩) ∨ (e ≠ .normal ∧ Q e ⟨(scrubD (dropsOf asg ++ dropsOf body) st').env, s2.objs⟩)) s1)
        ⟨put (put (scrubD (dropsOf asg ++ dropsOf body) st').env p (.sc (.c (.int .i64 i)))) q v, (scrubD (dropsOf asg ++ dropsOf body) st').objs⟩)
    (fin : ∀ st', I 0 st' → Q .normal st') : wp C (.rangeB x f s ag p q asg body) Q st := by
  have key : ∀ i, i ≤ rows.length → ∀ st', I i st' → ∃ n e s', (∀ n', n ≤ n' → rounds (run C n' asg) (run C n' body) (dropsOf asg ++ dropsOf body) (dropsOf body) s ag p q rows i st' = some (e, s')) ∧ Q e s' := by
    intro i
    induction i with
    | zero => exact fun _ st' h => ⟨0, .normal, st', fun _ _ => rfl, fin st' h⟩
    | succ i ih =>
      intro hi st' h
      obtain ⟨row, hrow⟩ : ∃ row, rows[i]? = some row := ⟨rows[i], List.getElem?_eq_getElem (by omega)⟩
      obtain ⟨hlen, v, hv, n1, e1, s1, h1, rfl, h2, n2, e2, s2, h3, h4⟩ := round i st' row h hrow
      rw [scrubD_eq] at h1 h4
      have hl : (row.length == s) = true := by simp [hlen]
      have r1 : ∀ n', n1 ≤ n' → run C n' asg ⟨put (put (st'.scrub (dropsOf asg ++ dropsOf body)).env p (.sc (.c (.int .i64 i)))) q v, (st'.scrub (dropsOf asg ++ dropsOf body)).objs⟩ = some (.normal, s1) := fun n' hn => run_mono (gl := C.gl) (c := C.call) (Le.refl _) hn h1
      have r2 : ∀ n', n2 ≤ n' → run C n' body s1 = some (e2, s2) := fun n' hn => run_mono (gl := C.gl) (c := C.call) (Le.refl _) hn h3
      have hv' : asV ag (row.map W.c) = some v := hv
      rcases h4 with ⟨rfl, h4⟩ | ⟨hne, h4⟩
      · obtain ⟨n3, e3, s3, h5, h6⟩ := ih (by omega) _ h4
        refine ⟨max n1 (max n2 n3), e3, s3, fun n' hn' => ?_, h6⟩
        have ha := r1 n' (by omega)
        have hb := r2 n' (by omega)
        simp only [rounds, hrow, hl, cond_true, hv', ha, h2, hb]
        exact h5 n' (by omega)
      · refine ⟨max n1 n2, e2, _, fun n' hn' => ?_, h4⟩
        have ha := r1 n' (by omega)
        have hb := r2 n' (by omega)
        simp only [rounds, hrow, hl, cond_true, hv', ha, h2, hb]
        cases e2 with
        | normal => exact absurd rfl hne
        | exit _ => rfl
        | ret => rfl
  obtain ⟨n, e, s', h1, h2⟩ := key rows.length (Nat.le_refl _) _ h0
  refine ⟨n, e, s', ?_, h2⟩
  have hb : (f == f && Nat.ble 64 k) = true := by
    simp only [beq_self_eq_true, Bool.true_and]
    exact Nat.ble_eq_true_of_le hk
  have hb2 : Nat.ble rows.length maxRows2 = true := Nat.ble_eq_true_of_le (by unfold maxRows2; omega)
  rw [scrubD_eq] at h1
  simp only [run, hx, hb, cond_true, hL, hb2]
  exact h1 n (Nat.le_refl n)
attribute [simp] dropsOf
end
end Go.Vs

namespace Go.Vs.Tryz
open Go Go.Vs
variable {A : Oracle}

/-- How many constructors the first declarations have. -/
def consTo (ds : List DataD) (i : Nat) : Nat := ((ds.take i).map fun d => d.cons.length).sum
theorem consTo_succ {ds : List DataD} {i : Nat} {d : DataD} (h : ds[i]? = some d) : consTo ds (i + 1) = consTo ds i + d.cons.length := by
  unfold consTo
  rw [take_next h, List.map_append, List.sum_append]
  simp
theorem consTo_le {ds : List DataD} (hg : ∀ d ∈ ds, d.cons.length ≤ 6) (i : Nat) : consTo ds i ≤ ds.length * 6 := by
  unfold consTo
  have h1 : ((ds.take i).map fun d => d.cons.length).sum ≤ ((ds.take i).map fun _ => 6).sum := sum_le fun d hd => hg d (List.mem_of_mem_take hd)
  simp only [List.map_const', List.sum_replicate_nat, List.length_take] at h1
  have : min i ds.length * 6 ≤ ds.length * 6 := Nat.mul_le_mul_right _ (Nat.min_le_right ..)
  omega

/-- The rank of a head. -/
def rankM (ds : List DataD) (seen bound : List Str) (e : Exp) : Int :=
  if e.kind = 1 then (if e.name ∈ bound then seen.length + rlast bound e.name else rlast seen e.name)
  else if e.kind = 2 then match findM ds e.name with
    | (i, k, true) => seen.length + bound.length + k + consTo ds i.toNat
    | _ => -1
  else -1

end Go.Vs.Tryz

/- The rank of a head, by the program and by the reference, walked. -/
namespace Go.Vs.Tryz
open Go Go.Vs
variable {A : Oracle}

theorem findM_cases (ds : List DataD) (c : Str) : findM ds c = (0, 0, false) ∨ ∃ (i k : Nat) (d : DataD), ds[i]? = some d ∧ k < d.cons.length ∧ findM ds c = ((i : Int), (k : Int), true) := by
  unfold findM
  cases h : ds[dataOf ds c]? with
  | none => exact .inl rfl
  | some d =>
    have hlt := (List.getElem?_eq_some_iff.1 h).1
    obtain ⟨d', hd', hm⟩ := dataOf_at hlt
    rw [h] at hd'
    cases hd'
    have := place_mem.2 hm
    rw [cnames_len] at this
    exact .inr ⟨dataOf ds c, place (cnames d) c, d, h, this, rfl⟩

theorem rlast_eq {l : List Str} {s : Str} {i : Nat} (h : l[i]? = some s) (hj : ∀ j x, i < j → l[j]? = some x → ¬ x = s) : rlast l s = i := by
  have hi := (List.getElem?_eq_some_iff.1 h).1
  have hmem : s ∈ l := List.mem_of_getElem? h
  unfold rlast
  rw [if_pos hmem]
  have hp := place_mem.2 (List.mem_reverse.2 hmem)
  have hx := place_at hp
  rw [List.length_reverse] at hp
  rw [rev_get hp] at hx
  have h1 : ¬ i < l.length - 1 - place l.reverse s := fun hlt => hj _ s hlt hx rfl
  have h2 : ¬ l.length - 1 - i < place l.reverse s := by
    intro hlt
    obtain ⟨x, hx2, hne⟩ := place_lt hlt
    rw [rev_get (by omega), show l.length - 1 - (l.length - 1 - i) = i by omega, h] at hx2
    cases hx2
    exact hne rfl
  omega
theorem rlast_no {l : List Str} {s : Str} (h : s ∉ l) : rlast l s = -1 := if_neg h
theorem rlast_nodup {l : List Str} {s : Str} (hn : l.Nodup) : rlast l s = if s ∈ l then (place l s : Int) else -1 := by
  by_cases h : s ∈ l
  · rw [if_pos h]
    have hx := place_at (place_mem.2 h)
    refine rlast_eq hx fun j x hlt hj e => ?_
    subst e
    have hjl := (List.getElem?_eq_some_iff.1 hj).1
    have := (List.getElem?_inj (place_mem.2 h) hn).1 (hx.trans hj.symm)
    omega
  · rw [if_neg h, rlast_no h]
theorem rlast_bounds (l : List Str) (s : Str) : -1 ≤ rlast l s ∧ rlast l s ≤ l.length := by
  unfold rlast
  split
  · rename_i h
    have := place_mem.2 (List.mem_reverse.2 h)
    rw [List.length_reverse] at this
    omega
  · omega
theorem rlast_mem {l : List Str} {s : Str} (h : s ∈ l) : 0 ≤ rlast l s := by
  unfold rlast
  rw [if_pos h]
  have := place_mem.2 (List.mem_reverse.2 h)
  rw [List.length_reverse] at this
  omega

theorem seenTo_names {l : List EntD} : ∀ i, i ≤ l.length → (names (seenTo l i)).Nodup ∧ ∀ s ∈ names (seenTo l i), s ∉ names (l.drop i)
  | 0, _ => by simp [seenTo, names]
  | i + 1, hi => by
    obtain ⟨h1, h2⟩ := seenTo_names (l := l) i (by omega)
    obtain ⟨e, he⟩ := get_of_lt (l := l) (i := i) (by omega)
    have hd : l.drop i = e :: l.drop (i + 1) := by
      have hlt : i < l.length := by omega
      rw [List.drop_eq_getElem_cons hlt]
      congr 1
      rw [List.getElem?_eq_getElem hlt] at he
      exact Option.some.inj he
    rw [hd] at h2
    simp only [seenTo, he]
    split
    · exact ⟨h1, fun s hs hm => h2 s hs (by simp only [names, List.map_cons, List.mem_cons]; exact .inr hm)⟩
    · rename_i hn
      refine ⟨?_, ?_⟩
      · simp only [names, List.map_append, List.map_cons, List.map_nil]
        rw [List.nodup_append]
        refine ⟨h1, by simp, ?_⟩
        rintro a ha b hb rfl
        simp only [List.mem_singleton] at hb
        exact h2 a ha (by simp [names, hb])
      · intro s hs
        simp only [names, List.map_append, List.map_cons, List.map_nil, List.mem_append, List.mem_singleton] at hs
        rcases hs with hs | rfl
        · exact fun hm => h2 s hs (by simp only [names, List.map_cons, List.mem_cons]; exact .inr hm)
        · exact hn

/-- The names that are seen. -/
def seenN (ctx : List EntD) : List Str := names (seenTo ctx ctx.length)
theorem seenN_nodup (ctx : List EntD) : (seenN ctx).Nodup := (seenTo_names ctx.length (Nat.le_refl _)).1
theorem seenN_len (ctx : List EntD) : (seenN ctx).length ≤ ctx.length := by
  unfold seenN
  rw [names_len]
  exact seenTo_len ctx ctx.length

end Go.Vs.Tryz
