/- The n-th name that is not taken, from the numbers that are taken, in order (plain). (Parts of one proof, put together.) -/
import Derived.Test.YtlcncicmkkelcaaGreatDoorR1
import Derived.Test.YtlcncicmkkelcaaGreatDoorR5
set_option linter.unusedSimpArgs false
set_option linter.unusedVariables false
set_option linter.deprecated false

/- The n-th name that is not taken, from the numbers that are taken, in order (plain). -/
namespace Go.Vs.Tryz
open Go Go.Vs

/-- Of the first m elements those that differ from the one before. -/
def cmpTo (d : List Nat) : Nat → List Nat
  | 0 => []
  | m + 1 => match d[m]? with
    | none => cmpTo d m
    | some x => if 0 < m ∧ d[m - 1]? = some x then cmpTo d m else cmpTo d m ++ [x]
theorem cmpTo_keep {d : List Nat} {m x : Nat} (h : d[m]? = some x) (hn : ¬ (0 < m ∧ d[m - 1]? = some x)) : cmpTo d (m + 1) = cmpTo d m ++ [x] := by
  simp only [cmpTo, h, if_neg hn]
theorem cmpTo_drop {d : List Nat} {m x : Nat} (h : d[m]? = some x) (hm : 0 < m) (hn : d[m - 1]? = some x) : cmpTo d (m + 1) = cmpTo d m := by
  simp only [cmpTo, h, if_pos (⟨hm, hn⟩ : 0 < m ∧ d[m - 1]? = some x)]
theorem cmpTo_len (d : List Nat) : ∀ m, (cmpTo d m).length ≤ m
  | 0 => by simp [cmpTo]
  | m + 1 => by
    have := cmpTo_len d m
    simp only [cmpTo]
    split
    · omega
    · split
      · omega
      · simp; omega
theorem cmpTo_mem {d : List Nat} {x : Nat} : ∀ {m : Nat}, x ∈ cmpTo d m ↔ ∃ k, k < m ∧ d[k]? = some x
  | 0 => by simp [cmpTo]
  | m + 1 => by
    have ih := @cmpTo_mem d x m
    cases h : d[m]? with
    | none =>
      simp only [cmpTo, h]
      rw [ih]
      constructor
      · rintro ⟨k, hk, hx⟩
        exact ⟨k, by omega, hx⟩
      · rintro ⟨k, hk, hx⟩
        refine ⟨k, ?_, hx⟩
        rcases Nat.lt_or_ge k m with h1 | h1
        · exact h1
        · have : k = m := by omega
          rw [this, h] at hx
          cases hx
    | some y =>
      by_cases hn : 0 < m ∧ d[m - 1]? = some y
      · rw [cmpTo_drop h hn.1 hn.2, ih]
        constructor
        · rintro ⟨k, hk, hx⟩
          exact ⟨k, by omega, hx⟩
        · rintro ⟨k, hk, hx⟩
          rcases Nat.lt_or_ge k m with h1 | h1
          · exact ⟨k, h1, hx⟩
          · have : k = m := by omega
            rw [this, h] at hx
            cases hx
            exact ⟨m - 1, by omega, hn.2⟩
      · rw [cmpTo_keep h hn, List.mem_append, ih]
        simp only [List.mem_singleton]
        constructor
        · rintro (⟨k, hk, hx⟩ | rfl)
          · exact ⟨k, by omega, hx⟩
          · exact ⟨m, by omega, h⟩
        · rintro ⟨k, hk, hx⟩
          rcases Nat.lt_or_ge k m with h1 | h1
          · exact .inl ⟨k, h1, hx⟩
          · have : k = m := by omega
            rw [this, h] at hx
            cases hx
            exact .inr rfl
/-- Strictly ascending. -/
def ascend (l : List Nat) : Prop := ∀ (p q x y : Nat), p < q → l[p]? = some x → l[q]? = some y → x < y
theorem ascend_snoc {l : List Nat} {x : Nat} (h : ascend l) (hx : ∀ y ∈ l, y < x) : ascend (l ++ [x]) := by
  intro p q u v hpq hu hv
  have hq := (List.getElem?_eq_some_iff.1 hv).1
  simp only [List.length_append, List.length_singleton] at hq
  rw [List.getElem?_append_left (by omega)] at hu
  rcases Nat.lt_or_ge q l.length with h1 | h1
  · rw [List.getElem?_append_left h1] at hv
    exact h p q u v hpq hu hv
  · rw [List.getElem?_append_right h1, show q - l.length = 0 by omega] at hv
    cases hv
    exact hx u (List.mem_of_getElem? hu)
theorem cmpTo_ascend {d : List Nat} (hs : sortedIn 0 d.length d) : ∀ m, ascend (cmpTo d m)
  | 0 => fun p q x y _ hx => by simp [cmpTo] at hx
  | m + 1 => by
    have ih := cmpTo_ascend hs m
    cases h : d[m]? with
    | none => simpa only [cmpTo, h] using ih
    | some y =>
      by_cases hn : 0 < m ∧ d[m - 1]? = some y
      · rw [cmpTo_drop h hn.1 hn.2]
        exact ih
      · rw [cmpTo_keep h hn]
        refine ascend_snoc ih fun u hu => ?_
        obtain ⟨k, hk, hx⟩ := cmpTo_mem.1 hu
        have hm := (List.getElem?_eq_some_iff.1 h).1
        have h1 := hs k m u y (Nat.zero_le _) hk hm hx h
        rcases Nat.lt_or_eq_of_le h1 with h2 | h2
        · exact h2
        · exfalso
          obtain ⟨z, hz⟩ := get_of_lt (l := d) (i := m - 1) (by omega)
          have h3 : z = y := by
            have h4 := hs (m - 1) m z y (Nat.zero_le _) (by omega) hm hz h
            rcases Nat.lt_or_ge k (m - 1) with h5 | h5
            · have h6 := hs k (m - 1) u z (Nat.zero_le _) h5 (by omega) hx hz
              omega
            · have : k = m - 1 := by omega
              rw [this, hz] at hx
              cases hx
              omega
          exact hn ⟨by omega, by rw [hz, h3]⟩

/-- One number more. -/
def bump (k i : Nat) : Nat := if i ≤ k then k + 1 else k
/-- How many of a list are below k. -/
def below (l : List Nat) (k : Nat) : Nat := (l.filter fun j => decide (j < k)).length
theorem below_succ : ∀ {l : List Nat} {k : Nat}, l.Nodup → below l (k + 1) = below l k + if k ∈ l then 1 else 0
  | [], k, _ => by simp [below]
  | a :: l, k, h => by
    have ih := @below_succ l k (List.nodup_cons.1 h).2
    have hn := (List.nodup_cons.1 h).1
    unfold below at ih ⊢
    simp only [List.filter_cons]
    by_cases h1 : a < k
    · have h2 : a < k + 1 := by omega
      have h3 : ¬ k = a := by omega
      simp only [h1, h2, decide_true, if_true, List.length_cons, List.mem_cons, h3, false_or]
      omega
    · by_cases h2 : a = k
      · subst h2
        have h3 : a < a + 1 := by omega
        simp only [h1, h3, decide_true, decide_false, if_true, List.length_cons, List.mem_cons, true_or, Bool.false_eq_true, if_false]
        rw [if_neg hn] at ih
        omega
      · have h3 : ¬ a < k + 1 := by omega
        have h4 : ¬ k = a := fun h => h2 h.symm
        simp only [h1, h3, decide_false, Bool.false_eq_true, if_false, List.mem_cons, h4, false_or]
        exact ih
theorem ascend_nodup : ∀ {l : List Nat}, ascend l → l.Nodup := by
  intro l h
  rw [List.nodup_iff_pairwise_ne]
  rw [List.pairwise_iff_getElem]
  intro i j hi hj hij heq
  have := h i j l[i] l[j] hij (List.getElem?_eq_getElem hi) (List.getElem?_eq_getElem hj)
  omega

/-- After the first t numbers. -/
theorem bump_inv {l : List Nat} (hl : ascend l) (n : Nat) : ∀ t, t ≤ l.length → (((l.take t).foldl bump (n + 1)) = n + 1 + below (l.take t) ((l.take t).foldl bump (n + 1))) ∧ (l.take t).foldl bump (n + 1) ∉ l.take t
  | 0, _ => by simp [below]
  | t + 1, ht => by
    obtain ⟨h1, h2⟩ := bump_inv hl n t (by omega)
    obtain ⟨c, hc⟩ := get_of_lt (l := l) (i := t) (by omega)
    rw [take_next hc, List.foldl_append, List.foldl_cons, List.foldl_nil]
    generalize hk : (l.take t).foldl bump (n + 1) = k at h1 h2
    have hlt : ∀ x ∈ l.take t, x < c := by
      intro x hx
      obtain ⟨i, hi⟩ := List.mem_iff_getElem?.1 hx
      rw [List.getElem?_take] at hi
      split at hi
      · rename_i hit
        exact hl i t x c hit hi hc
      · cases hi
    unfold bump
    by_cases hck : c ≤ k
    · rw [if_pos hck]
      constructor
      · unfold below at h1 ⊢
        rw [List.filter_append, List.length_append]
        have e1 : ((l.take t).filter fun j => decide (j < k + 1)) = (l.take t).filter fun j => decide (j < k) := List.filter_congr fun x hx => by
          have := hlt x hx
          have h3 : x ≠ k := fun h => h2 (h ▸ hx)
          simp only [decide_eq_decide]
          omega
        rw [e1]
        have e2 : ([c].filter fun j => decide (j < k + 1)).length = 1 := by
          have : c < k + 1 := by omega
          simp [this]
        omega
      · simp only [List.mem_append, List.mem_singleton, not_or]
        refine ⟨fun h => ?_, by omega⟩
        have := hlt _ h
        omega
    · rw [if_neg hck]
      constructor
      · unfold below at h1 ⊢
        rw [List.filter_append, List.length_append]
        have e2 : ([c].filter fun j => decide (j < k)).length = 0 := by
          have : ¬ c < k := by omega
          simp [this]
        omega
      · simp only [List.mem_append, List.mem_singleton, not_or]
        exact ⟨h2, by omega⟩

/-- The free numbers from a on, below b. -/
def freeN (taken : List Str) (a b : Nat) : Nat := ((List.range b).filter fun j => decide (a ≤ j ∧ vName j ∉ taken)).length
theorem freeN_succ (taken : List Str) (a b : Nat) (h : a ≤ b) : freeN taken a (b + 1) = freeN taken a b + if vName b ∉ taken then 1 else 0 := by
  unfold freeN
  rw [List.range_succ, List.filter_append, List.length_append]
  congr 1
  by_cases hb : vName b ∉ taken
  · simp [hb, h]
  · simp [hb]
theorem freeN_self (taken : List Str) (a : Nat) : freeN taken a a = 0 := by
  unfold freeN
  rw [List.length_eq_zero_iff, List.filter_eq_nil_iff]
  intro x hx
  have := List.mem_range.1 hx
  simp only [decide_eq_true_eq, not_and]
  omega
theorem freeN_split (taken : List Str) (a : Nat) : ∀ b, a < b → freeN taken a b = (if vName a ∉ taken then 1 else 0) + freeN taken (a + 1) b
  | 0, h => by omega
  | b + 1, h => by
    rcases Nat.lt_or_ge a b with h1 | h1
    · rw [freeN_succ _ _ _ (by omega), freeN_succ _ _ _ (by omega), freeN_split taken a b h1]
      omega
    · have : a = b := by omega
      subst this
      rw [freeN_succ _ _ _ (Nat.le_refl _), freeN_self, freeN_self]
      omega
theorem freshF_count (taken : List Str) : ∀ f k n, n + vCount taken k < f → freeN taken k (freshF taken f k n) = n
  | 0, k, n, h => by omega
  | f + 1, k, n, h => by
    simp only [freshF]
    split
    · rename_i hm
      have h1 := freshF_count taken f (k + 1) n (by have := vCount_lt hm; omega)
      have h2 := freshF_ge taken f (k + 1) n
      rw [freeN_split _ _ _ (by omega), h1, if_neg (by simpa using hm)]
      omega
    · rename_i hm
      split
      · rename_i h0
        rw [freeN_self, h0]
      · have h1 := freshF_count taken f (k + 1) (n - 1) (by have := vCount_mono taken k; omega)
        have h2 := freshF_ge taken f (k + 1) (n - 1)
        rw [freeN_split _ _ _ (by omega), h1, if_pos hm]
        omega
theorem freeN_mono (taken : List Str) (a : Nat) : ∀ {b c}, a ≤ b → b ≤ c → freeN taken a b ≤ freeN taken a c := by
  intro b c hab hbc
  induction c with
  | zero =>
    have : b = 0 := by omega
    rw [this]
    exact Nat.le_refl _
  | succ c ih =>
    rcases Nat.lt_or_ge b (c + 1) with h | h
    · rw [freeN_succ _ _ _ (by omega)]
      have := ih (by omega)
      omega
    · have : b = c + 1 := by omega
      rw [this]
      exact Nat.le_refl _
/-- The n-th free number is the one with n free ones below. -/
theorem fresh_unique {taken : List Str} {n k : Nat} (h1 : 1 ≤ k) (hk : vName k ∉ taken) (hc : freeN taken 1 k = n) : freshK n taken = k := by
  have hn := freshS_not n taken
  have hm : freeN taken 1 (freshK n taken) = n := freshF_count taken _ _ _ (by have := vCount_le taken 1; omega)
  have h2 : 1 ≤ freshK n taken := freshF_ge taken _ 1 n
  have hr : vName (freshK n taken) ∉ taken := hn
  generalize freshK n taken = r at hr hm h2 ⊢
  rcases Nat.lt_trichotomy r k with h | h | h
  · have h3 := freeN_mono taken 1 (b := r + 1) (c := k) (by omega) (by omega)
    rw [freeN_succ _ _ _ h2, if_pos hr] at h3
    omega
  · exact h
  · have h3 := freeN_mono taken 1 (b := k + 1) (c := r) (by omega) (by omega)
    rw [freeN_succ _ _ _ h1, if_pos hk] at h3
    omega

end Go.Vs.Tryz

/- Clearing, as the simplifier sees it; compacting, walked. -/
namespace Go.Vs
open Go
variable {C : Ctx} {E : Nat → Option V} {L : Nat → Option Obj} {oid : Nat}
def clrK (L : Nat → Option Obj) (s : Nat) (zero : List W) : V → Option (V × Upd)
  | .sc (.vw k N lo n) => arrK (L k) fun s' rows p => bif rows.length == N && s' == s && zero.length == s && zero.all notUn && Nat.ble (lo + n) N && Nat.ble p lo && Nat.blt 0 n then
      some (.sc .un, [(k, some (.arr s (rows.take lo ++ List.replicate n zero ++ rows.drop (lo + n)) p))]) else none
  | _ => none
@[simp] theorem x_clr {s : Nat} {zero : List W} {x : Opd} : exec1 C E L oid (.clr s zero x) = clrK L s zero (x.val C E) := by
  simp only [exec1]
  generalize x.val C E = v
  cases v with
  | sc w =>
    cases w with
    | vw k N lo n =>
      simp only [clrK, arrK]
      cases L k with
      | none => rfl
      | some o => cases o <;> rfl
    | c y => cases y <;> rfl
    | _ => rfl
  | _ => rfl
@[simp] theorem clrK_vw {s : Nat} {zero : List W} {k N lo n : Nat} : clrK L s zero (.sc (.vw k N lo n)) = arrK (L k) fun s' rows p => bif rows.length == N && s' == s && zero.length == s && zero.all notUn && Nat.ble (lo + n) N && Nat.ble p lo && Nat.blt 0 n then
      some (.sc .un, [(k, some (.arr s (rows.take lo ++ List.replicate n zero ++ rows.drop (lo + n)) p))]) else none := rfl
@[simp] theorem slice_arr_from {s k n i : Nat} {kk : IntKind} (h : i ≤ n) : slice1 L s (.sc (.arr k n)) (some (.sc (.c (.int kk (i : Int))))) none none =
    arrK (L k) fun s' rows _ => bif rows.length == n && s' == s then some (.sc (.vw k n i (n - i)), []) else none := by
  cases hL : L k with
  | none => simp [slice1, hL, arrK]
  | some o =>
    cases o with
    | box c => simp [slice1, hL, arrK]
    | arr s' rows p => simp [slice1, hL, arrK, boundOr, natBelow_nat, blt_dec, Nat.lt_succ_of_le h]
@[simp] theorem slice_arr_to {s k n i : Nat} {kk : IntKind} (h : i ≤ n) : slice1 L s (.sc (.arr k n)) none (some (.sc (.c (.int kk (i : Int))))) none =
    arrK (L k) fun s' rows _ => bif rows.length == n && s' == s then some (.sc (.vw k n 0 i), []) else none := by
  cases hL : L k with
  | none => simp [slice1, hL, arrK]
  | some o =>
    cases o with
    | box c => simp [slice1, hL, arrK]
    | arr s' rows p => simp [slice1, hL, arrK, boundOr, natBelow_nat, blt_dec, Nat.lt_succ_of_le h]
end Go.Vs
namespace Go.Vs.Tryz
open Go Go.Vs
variable {A : Oracle}

theorem cmpTo_take {d : List Nat} : ∀ m, m ≤ d.length → (∀ k x, 0 < k → k < m → d[k]? = some x → d[k - 1]? ≠ some x) → cmpTo d m = d.take m
  | 0, _, _ => rfl
  | m + 1, h, hn => by
    obtain ⟨x, hx⟩ := get_of_lt (l := d) (i := m) (by omega)
    rw [cmpTo_keep hx (fun hc => hn m x hc.1 (by omega) hx hc.2), cmpTo_take m (by omega) (fun k x h1 h2 => hn k x h1 (by omega)), take_next hx]

theorem cut_ok {α : Type} {l : List α} {o n : Nat} (h : o + n ≤ l.length) : ∃ r, cut l o n = some r := by
  unfold cut
  simp [h]
/-- What compacting answers. -/
def CompR (d : List Nat) (r : V × List Obj) : Prop := ∃ (m : Nat) (d' : List Nat), d'.length = d.length ∧ m ≤ d.length ∧ d'.take m = cmpTo d d.length ∧
  ((m = d.length ∧ r = (.sc (.arr 0 d.length), [arrU d'])) ∨ r = (.sc (.vw 0 d.length 0 m), [arrU d']))

theorem wr_clear (d : List Nat) (k m : Nat) : (wr (u64Rows d)).take k ++ List.replicate m [W.c (.int .u64 0)] ++ (wr (u64Rows d)).drop (k + m) = wr (u64Rows (d.take k ++ List.replicate m 0 ++ d.drop (k + m))) := by
  simp [wr, u64Rows, u64Row, List.map_take, List.map_drop]

set_option maxHeartbeats 8000000 in
theorem compact77 (d : List Nat) (hl : d.length ≤ 1073741824) : ∃ r, CompR d r ∧ (K A).call 77 [.sc (.arr 0 d.length)] [arrU d] = some r := by
  refine fn_ofE _ (vf := v77) (by kernel_rfl) rfl (by simp) ?_
  generalize hn : d.length = n at *
  generalize hQ : endsQ v77.keep [arrU d].length v77.results (CompR d) = Q
  have hret : ∀ r, CompR d r → ∀ (s : St), ((finish v77.keep 1 v77.results s).map (normR v77.keep)) = some r → Q .ret s := by
    intro r h1 s h2
    rw [← hQ]
    show endsQ v77.keep 1 v77.results (CompR d) .ret s
    rw [endsQ_ret, h2, isR_some]
    exact h1
  clear hQ
  unfold v77
  by_cases h2 : n < 2
  · have h2I : (n : Int) < 2 := by omega
    simp (maxSteps := 4000000) (disch := first | omega | (simp; done) | (simp; omega)) [hn, h2I, h2, -getElem?_pos]
    refine hret (.sc (.arr 0 n), [arrU d]) ⟨n, d, by omega, by omega, ?_, .inl ⟨hn.symm, by rw [hn]⟩⟩ _ ?_
    · rw [hn, cmpTo_take n (by omega) (fun k x h1 h2 => by omega)]
    · simp [v77, hn]
  · have h2I : ¬ (n : Int) < 2 := by omega
    simp (maxSteps := 4000000) (disch := first | omega | (simp; done) | (simp; omega)) [hn, h2I, h2, -getElem?_pos]
    refine wp_loopI (fun r s => (∀ k x, 0 < k → k < 1 + r → d[k]? = some x → d[k - 1]? ≠ some x) ∧ s = ⟨[(0, .sc (.arr 0 n)), (3, intV ((1 + r : Nat) : Int))], [(0, some (arrU d))]⟩) (n - 1)
      ⟨fun k x h1 h2 => by omega, by simp⟩ ?_ ?_
    · rintro r s hr ⟨hdis, rfl⟩
      generalize hk : 1 + r = k at *
      obtain ⟨x, hx⟩ := get_of_lt (l := d) (i := k) (by omega)
      obtain ⟨y, hy⟩ := get_of_lt (l := d) (i := k - 1) (by omega)
      have hkl : k < d.length := by omega
      have hkl1 : k - 1 < d.length := by omega
      have hkI : (k : Int) - 1 = ((k - 1 : Nat) : Int) := by omega
      have hkn : (k : Int) < n := by omega
      unfold l77_1
      by_cases hxy : x = y
      · subst hxy
        have hc0 : cmpTo d (k + 1) = d.take k := by
          rw [cmpTo_drop hx (by omega) hy, cmpTo_take k (by omega) hdis]
        simp (maxSteps := 4000000) (disch := first | omega | (simp; done) | (simp; omega)) [hn, hkn, hkI, hx, hy, -getElem?_pos]
        refine wp_loopI (fun t s => ∃ (q : Nat) (e : List Nat), e.length = n ∧ e.take q = cmpTo d (k + 1 + t) ∧ q ≤ k + t ∧ k ≤ q ∧ (∀ p, k + t ≤ p → e[p]? = d[p]?) ∧
            s = ⟨[(0, .sc (.arr 0 n)), (3, intV q), (4, .sc (.vw 0 n k (n - k))), (5, intV ((1 + t : Nat) : Int))], [(0, some (arrU e))]⟩) (n - k - 1)
          ⟨k, d, hn, hc0.symm, Nat.le_refl _, Nat.le_refl _, fun _ _ => rfl, by simp⟩ ?_ ?_
        · rintro t s ht ⟨q, e, he, htk, hq, hkq, hsame, rfl⟩
          obtain ⟨u, hu⟩ := get_of_lt (l := d) (i := k + (1 + t)) (by omega)
          obtain ⟨v, hv⟩ := get_of_lt (l := d) (i := k + t) (by omega)
          have hue : e[k + (1 + t)]? = some u := by rw [hsame _ (by omega)]; exact hu
          have hve : e[k + t]? = some v := by rw [hsame _ (Nat.le_refl _)]; exact hv
          have ht1 : ((1 + t : Nat) : Int) - 1 = ((t : Nat) : Int) := by omega
          have htn : ((1 + t : Nat) : Int) < ((n - k : Nat) : Int) := by omega
          have htn2 : (1 : Int) + t < ((n - k : Nat) : Int) := by omega
          have ht12 : (1 : Int) + t - 1 = (t : Int) := by omega
          have ht13 : (1 : Int) + t = ((1 + t : Nat) : Int) := by omega
          have ht2 : 1 + t < n - k := by omega
          have hql : q < e.length := by omega
          generalize hpp : 1 + t = t1 at *
          generalize hp1 : k + t1 = p1 at *
          generalize hp0 : k + t = p0 at *
          have hpl1 : p1 < e.length := by omega
          have hpl0 : p0 < e.length := by omega
          obtain ⟨cs, hcut⟩ := cut_ok (l := wr (u64Rows e)) (o := k) (n := n - k) (by simp; omega)
          obtain ⟨vq, hvq⟩ := get_of_lt (l := e) (i := q) hql
          unfold l77_0
          by_cases huv : u = v
          · subst huv
            have hc1 : cmpTo d (k + 1 + (t + 1)) = cmpTo d (k + 1 + t) := by
              rw [show k + 1 + (t + 1) = p1 + 1 by omega, cmpTo_drop hu (by omega) (by rw [show p1 - 1 = p0 by omega]; exact hv), show k + 1 + t = p1 by omega]
            have fin : ∃ (q' : Nat) (e' : List Nat), e'.length = n ∧ e'.take q' = cmpTo d (k + 1 + (t + 1)) ∧ q' ≤ k + (t + 1) ∧ k ≤ q' ∧ (∀ p, k + (t + 1) ≤ p → e'[p]? = d[p]?) ∧
                (⟨[(0, .sc (.arr 0 n)), (3, intV q), (4, .sc (.vw 0 n k (n - k))), (5, intV ((t1 : Int) + 1))], [(0, some (arrU e))]⟩ : St) = ⟨[(0, .sc (.arr 0 n)), (3, intV q'), (4, .sc (.vw 0 n k (n - k))), (5, intV ((1 + (t + 1) : Nat) : Int))], [(0, some (arrU e'))]⟩ :=
              ⟨q, e, he, by rw [hc1]; exact htk, by omega, hkq, fun p hp => hsame p (by omega), by rw [show ((1 + (t + 1) : Nat) : Int) = (t1 : Int) + 1 by omega]⟩
            simp (maxSteps := 4000000) (disch := first | omega | (simp; done) | (simp; omega)) [he, hcut, hvq, htn, htn2, ht1, ht12, ht13, ht2, hue, hve, hp1, hp0, -getElem?_pos]
            simpa using fin
          · have hc1 : cmpTo d (k + 1 + (t + 1)) = cmpTo d (k + 1 + t) ++ [u] := by
              rw [show k + 1 + (t + 1) = p1 + 1 by omega, cmpTo_keep hu (fun hc => huv (Option.some.inj (hc.2.symm.trans (by rw [show p1 - 1 = p0 by omega]; exact hv)))), show k + 1 + t = p1 by omega]
            have huvI : ¬ (u : Int) = v := by omega
            have hset : (e.set q u).take (q + 1) = e.take q ++ [u] := by
              have : (e.set q u)[q]? = some u := by simp [hql]
              rw [take_next this, List.take_set_of_le (Nat.le_refl _)]
            have fin : ∃ (q' : Nat) (e' : List Nat), e'.length = n ∧ e'.take q' = cmpTo d (k + 1 + (t + 1)) ∧ q' ≤ k + (t + 1) ∧ k ≤ q' ∧ (∀ p, k + (t + 1) ≤ p → e'[p]? = d[p]?) ∧
                (⟨[(0, .sc (.arr 0 n)), (3, intV ((q : Int) + 1)), (4, .sc (.vw 0 n k (n - k))), (5, intV ((t1 : Int) + 1))], [(0, some (arrU (e.set q u)))]⟩ : St) = ⟨[(0, .sc (.arr 0 n)), (3, intV q'), (4, .sc (.vw 0 n k (n - k))), (5, intV ((1 + (t + 1) : Nat) : Int))], [(0, some (arrU e'))]⟩ :=
              ⟨q + 1, e.set q u, by simp [he], by rw [hset, hc1, htk], by omega, by omega, fun p hp => by rw [List.getElem?_set_ne (by omega)]; exact hsame p (by omega), by rw [show ((1 + (t + 1) : Nat) : Int) = (t1 : Int) + 1 by omega]; simp⟩
            simp (maxSteps := 4000000) (disch := first | omega | (simp; done) | (simp; omega)) [he, hcut, hvq, htn, htn2, ht1, ht12, ht13, ht2, hue, hve, hp1, hp0, huv, huvI, -getElem?_pos]
            simpa using fin
        · rintro s ⟨q, e, he, htk, hq, hkq, hsame, rfl⟩
          have ht1 : ¬ ((1 + (n - k - 1) : Nat) : Int) < ((n - k : Nat) : Int) := by omega
          rw [show 1 + (n - k - 1) = n - k by omega]
          have hqn : q < n := by omega
          have hqI : (n : Int) - q = ((n - q : Nat) : Int) := by omega
          have hwc := wr_clear e q (n - q)
          rw [show q + (n - q) = n by omega, List.append_assoc] at hwc
          have hlen2 : (e.take q ++ List.replicate (n - q) 0 ++ e.drop n).length = n := by simp; omega
          have htk2 : (e.take q ++ List.replicate (n - q) 0 ++ e.drop n).take q = cmpTo d d.length := by
            rw [List.append_assoc, List.take_left' (by simp; omega), htk, show k + 1 + (n - k - 1) = n by omega, hn]
          generalize e.take q ++ List.replicate (n - q) 0 ++ e.drop n = e2 at *
          have fin := hret (.sc (.vw 0 n 0 q), [arrU e2]) ⟨q, e2, by omega, by omega, htk2, .inr (by rw [hn])⟩
          have hq0 : q + (n - q) = n := by omega
          have h0q : 0 < n - q := by omega
          obtain ⟨cs, hcut⟩ := cut_ok (l := wr (u64Rows e)) (o := k) (n := n - k) (by simp; omega)
          unfold l77_0
          simp (maxSteps := 4000000) (disch := first | omega | (simp; done) | (simp; omega)) [he, hcut, hqn, hq0, h0q, hwc, hlen2, -getElem?_pos]
          refine fin _ ?_
          simp [v77, hlen2]
      · have hxyI : ¬ (x : Int) = y := by omega
        simp (maxSteps := 4000000) (disch := first | omega | (simp; done) | (simp; omega)) [hn, hkn, hkI, hx, hy, hxy, hxyI, -getElem?_pos]
        refine ⟨?_, by omega⟩
        intro k' x' h1 h2 h3
        rcases Nat.lt_or_ge k' k with h4 | h4
        · exact hdis k' x' h1 h4 h3
        · obtain rfl : k' = k := by omega
          rw [hx] at h3
          cases h3
          rw [hy]
          intro h5
          cases h5
          exact hxy rfl
    · rintro s ⟨hdis, rfl⟩
      rw [show 1 + (n - 1) = n by omega] at hdis ⊢
      unfold l77_1
      simp (maxSteps := 4000000) (disch := first | omega | (simp; done) | (simp; omega)) [hn, -getElem?_pos]
      refine hret (.sc (.arr 0 n), [arrU d]) ⟨n, d, by omega, by omega, ?_, .inl ⟨hn.symm, by rw [hn]⟩⟩ _ ?_
      · rw [hn, cmpTo_take n (by omega) hdis]
      · simp [v77, hn]
end Go.Vs.Tryz

/- Numbers as text, walked: what FormatUint needs. -/
namespace Go.Vs
open Go
variable {C : Ctx} {E : Nat → Option V} {L : Nat → Option Obj} {oid : Nat}
@[simp] theorem x_idxAA {s len : Nat} {x i : Opd} : exec1 C E L oid (.idxAA s len x i) = bindK (natBelow (i.val C E) len) fun j => onBy L (j * s) (x.val C E) := by
  simp only [exec1]
  cases natBelow (i.val C E) len <;> rfl
@[simp] theorem x_newA {n : Nat} {zero : List W} : exec1 C E L oid (.newA n zero) = newK (L oid) (bif Nat.ble n maxRows then some (.sc (.el oid n 0 0), [(oid, some (.arr zero.length (List.replicate n zero) 0))]) else none) := by
  simp only [exec1]
  cases L oid <;> rfl
def slAK (L : Nat → Option Obj) (s n : Nat) (v : V) (lo hi : Option V) : Option (V × Upd) := match v with
  | .sc (.el k N i off) => arrK (L k) fun s' rows _ => bindK (boundOr hi n n) fun h => bindK (boundOr lo 0 h) fun l =>
      bif N == n && i == 0 && off == 0 && rows.length == N && s' == s && Nat.blt 0 N then some (.sc (.vw k N l (h - l)), []) else none
  | _ => none
@[simp] theorem x_slA {s n : Nat} {x : Opd} {lo hi : Option Opd} : exec1 C E L oid (.slA s n x lo hi) = slAK L s n (x.val C E) (lo.map (·.val C E)) (hi.map (·.val C E)) := by
  simp only [exec1]
  generalize x.val C E = v
  cases v with
  | sc w =>
    cases w with
    | el k N i off =>
      simp only [slAK, arrK]
      cases L k with
      | none => rfl
      | some o =>
        cases o with
        | box c => rfl
        | arr s' rows p =>
          simp only
          cases boundOr (hi.map (·.val C E)) n n with
          | none => rfl
          | some h =>
            simp only [bindK]
            cases boundOr (lo.map (·.val C E)) 0 h <;> rfl
    | c y => cases y <;> rfl
    | _ => rfl
  | _ => rfl
@[simp] theorem slAK_to {s n k N h : Nat} {kk : IntKind} (hh : h ≤ n) : slAK L s n (.sc (.el k N 0 0)) none (some (.sc (.c (.int kk (h : Int))))) =
    arrK (L k) fun s' rows _ => bif N == n && rows.length == N && s' == s && Nat.blt 0 N then some (.sc (.vw k N 0 h), []) else none := by
  simp [slAK, boundOr, natBelow_nat, blt_dec, Nat.lt_succ_of_le hh, bindK]
def cvSK : Option (List (List W)) → Option (V × Upd)
  | none => none
  | some rows => bif rows.isEmpty then none else (listM byteRow rows).map fun l => (.sc (.c (.str l)), [])
@[simp] theorem x_cvS {x : Opd} : exec1 C E L oid (.cvS x) = cvSK (rowsOf L (x.val C E)) := by
  simp only [exec1, cvSK]
  cases rowsOf L (x.val C E) <;> rfl

/-- Bytes as rows. -/
def bRow (b : UInt8) : List Cell := [.int .u8 b.toNat]
def bRows (w : List UInt8) : List (List Cell) := w.map bRow
@[simp] theorem bRow_len (b : UInt8) : (bRow b).length = 1 := rfl
@[simp] theorem bRows_len (w : List UInt8) : (bRows w).length = w.length := by simp [bRows]
@[simp] theorem bRows_get (w : List UInt8) (i : Nat) : (bRows w)[i]? = (w[i]?).map bRow := by simp [bRows]
@[simp] theorem wc_b (b : UInt8) : wc (bRow b) = [.c (.int .u8 b.toNat)] := rfl
@[simp] theorem b_set (w : List UInt8) (i : Nat) (b : UInt8) : setRow (wr (bRows w)) i [W.c (.int .u8 (b.toNat : Int))] = wr (bRows (w.set i b)) := by
  rw [Tryz.setRow_set]
  simp [bRows, wr, List.map_set, bRow]
theorem listM_bytes : ∀ w : List UInt8, listM byteRow (wr (bRows w)) = some w
  | [] => rfl
  | b :: w => by
    have h := listM_bytes w
    have hb : b.toNat < 256 := b.toNat_lt
    have e : byteRow (wc (bRow b)) = some b := by
      simp only [wc_b, byteRow]
      rw [show (decide ((0 : Int) ≤ (b.toNat : Int)) && decide ((b.toNat : Int) < 256)) = true by simp; omega]
      simp
    show listM byteRow (wc (bRow b) :: wr (bRows w)) = _
    simp only [listM, e, h]
@[simp] theorem cvSK_b {w : List UInt8} (h : w ≠ []) : cvSK (some (wr (bRows w))) = some (.sc (.c (.str w)), []) := by
  simp only [cvSK]
  rw [show (wr (bRows w)).isEmpty = false by cases w <;> simp_all [wr, bRows], listM_bytes]
  rfl
theorem cut_b {w : List UInt8} {n : Nat} (h : n ≤ w.length) : cut (wr (bRows w)) 0 n = some (wr (bRows (w.take n))) := by
  unfold cut
  simp [wr, bRows, h, List.map_take]
theorem zero_b (n : Nat) : List.replicate n [W.c (.int .u8 0)] = wr (bRows (List.replicate n 0)) := by simp [wr, bRows, bRow]
@[simp] theorem wrap_u32 (x : Int) (h : 0 ≤ x ∧ x < 4294967296) : IntKind.u32.wrap x = x := by
  unfold IntKind.wrap
  simp [IntKind.bits, IntKind.signed]
  omega
@[simp] theorem wrap_u8 (x : Int) (h : 0 ≤ x ∧ x < 256) : IntKind.u8.wrap x = x := by
  unfold IntKind.wrap
  simp [IntKind.bits, IntKind.signed]
  omega
end Go.Vs
namespace Go.Vs.Tryz
open Go Go.Vs
variable {A : Oracle}

/- ## Digits (plain) -/
def dg (x : Nat) : UInt8 := UInt8.ofNat (48 + x % 10)
/-- The lowest digits of a number. -/
def pd : Nat → Nat → Str
  | 0, _ => []
  | m + 1, k => dg (k / 10 ^ m) :: pd m k
theorem pd_len : ∀ (m k : Nat), (pd m k).length = m
  | 0, _ => rfl
  | m + 1, k => by simp [pd, pd_len m]
theorem pd_snoc : ∀ (m k : Nat), pd (m + 1) k = pd m (k / 10) ++ [dg k]
  | 0, k => by simp [pd]
  | m + 1, k => by
    rw [pd, pd_snoc m k, pd]
    simp only [List.cons_append]
    rw [Nat.div_div_eq_div_mul, Nat.pow_succ, Nat.mul_comm]
theorem pd_num : ∀ (m k : Nat), 10 ^ m ≤ k → k < 10 ^ (m + 1) → pd (m + 1) k = numS k
  | 0, k, h1, h2 => by
    have : k < 10 := by simpa using h2
    rw [numS_lt this]
    simp [pd, dg, Nat.mod_eq_of_lt this]
  | m + 1, k, h1, h2 => by
    have hp : 1 ≤ 10 ^ m := Nat.one_le_pow _ _ (by omega)
    have h10 : 10 ^ (m + 1) = 10 ^ m * 10 := Nat.pow_succ ..
    have h20 : 10 ^ (m + 2) = 10 ^ m * 10 * 10 := by rw [Nat.pow_succ, Nat.pow_succ]
    rw [numS_ge (by omega), pd_snoc, pd_num m (k / 10) (by omega) (by omega)]
    rfl

/- ## How many digits -/
theorem len202G (n : Nat) (h : n < 18446744073709551616) : (K A).call 202 [u64V n] [] = some (intV (Sort.bitsLen n), []) := by
  by_cases h0 : n < 2147483648
  · exact len202A n h0
  refine fn_of (vf := v202) (by kernel_rfl) rfl (by simp) ?_
  unfold v202
  generalize hT : ([0, 1, 2, 2, 3, 3, 3, 3, 4, 4, 4, 4, 4, 4, 4, 4, 5, 5, 5, 5, 5, 5, 5, 5, 5, 5, 5, 5, 5, 5, 5, 5, 6, 6, 6, 6, 6, 6, 6, 6, 6, 6, 6, 6, 6, 6, 6, 6, 6, 6, 6, 6, 6, 6, 6, 6, 6, 6, 6, 6, 6, 6, 6, 6, 7, 7, 7, 7, 7, 7, 7, 7, 7, 7, 7, 7, 7, 7, 7, 7, 7, 7, 7, 7, 7, 7, 7, 7, 7, 7, 7, 7, 7, 7, 7, 7, 7, 7, 7, 7, 7, 7, 7, 7, 7, 7, 7, 7, 7, 7, 7, 7, 7, 7, 7, 7, 7, 7, 7, 7, 7, 7, 7, 7, 7, 7, 7, 7, 8, 8, 8, 8, 8, 8, 8, 8, 8, 8, 8, 8, 8, 8, 8, 8, 8, 8, 8, 8, 8, 8, 8, 8, 8, 8, 8, 8, 8, 8, 8, 8, 8, 8, 8, 8, 8, 8, 8, 8, 8, 8, 8, 8, 8, 8, 8, 8, 8, 8, 8, 8, 8, 8, 8, 8, 8, 8, 8, 8, 8, 8, 8, 8, 8, 8, 8, 8, 8, 8, 8, 8, 8, 8, 8, 8, 8, 8, 8, 8, 8, 8, 8, 8, 8, 8, 8, 8, 8, 8, 8, 8, 8, 8, 8, 8, 8, 8, 8, 8, 8, 8, 8, 8, 8, 8, 8, 8, 8, 8, 8, 8, 8, 8, 8, 8, 8, 8, 8, 8, 8, 8, 8, 8, 8, 8, 8, 8] : List UInt8) = T
  obtain ⟨t1, t2⟩ := tab8 T hT
  clear hT
  have key : ∀ (m sh : Nat), m < 4294967296 → 65536 ≤ m → Sort.bitsLen n = Sort.bitsLen m + sh → Sort.bitsLen n = Sort.bitsLen (m / 2 ^ 16) + (sh + 16) := fun m sh h1 h2 h3 => by
    rw [h3, bl_shift 16 m (by omega)]
    omega
  have fin : ∀ m : Nat, m < 256 → IntKind.u8.wrap (m : Int) = m := fun m hm => wrap_u8 _ ⟨by omega, by omega⟩
  by_cases h32 : 4294967296 ≤ n
  · have h32I : (4294967296 : Int) ≤ n := by omega
    have s32 : shrI .u64 (n : Int) 32 = ((n / 2 ^ 32 : Nat) : Int) := shr_nat n 32 (by omega)
    have hb := bl_shift 32 n (by omega)
    generalize hm : n / 2 ^ 32 = m at *
    by_cases h1 : 65536 ≤ m
    · have h1I : (65536 : Int) ≤ m := by omega
      have s16 : shrI .u64 (m : Int) 16 = ((m / 2 ^ 16 : Nat) : Int) := shr_nat m 16 (by omega)
      have hb2 := bl_shift 16 m (by omega)
      generalize hk : m / 2 ^ 16 = k at *
      by_cases h2 : 256 ≤ k
      · have h2I : (256 : Int) ≤ k := by omega
        have s8 : shrI .u64 (k : Int) 8 = ((k / 2 ^ 8 : Nat) : Int) := shr_nat k 8 (by omega)
        have hb3 := bl_shift 8 k (by omega)
        generalize hj : k / 2 ^ 8 = j at *
        have hj2 : j < 256 := by omega
        have e1 := t2 j hj2
        have e2 := bl8 hj2
        have e3 := bl_lt (n := j) (k := 8) hj2
        rw [hb, hb2, hb3]
        simp (maxSteps := 4000000) (disch := first | omega | (simp; done) | (simp; omega)) [h32I, h1I, h2I, s32, s16, s8, t1, e1, e2, fin, -getElem?_pos]
        omega
      · have h2I : ¬ (256 : Int) ≤ k := by omega
        have hj2 : k < 256 := by omega
        have e1 := t2 k hj2
        have e2 := bl8 hj2
        have e3 := bl_lt (n := k) (k := 8) hj2
        rw [hb, hb2]
        simp (maxSteps := 4000000) (disch := first | omega | (simp; done) | (simp; omega)) [h32I, h1I, h2I, s32, s16, t1, e1, e2, fin, -getElem?_pos]
        omega
    · have h1I : ¬ (65536 : Int) ≤ m := by omega
      by_cases h2 : 256 ≤ m
      · have h2I : (256 : Int) ≤ m := by omega
        have s8 : shrI .u64 (m : Int) 8 = ((m / 2 ^ 8 : Nat) : Int) := shr_nat m 8 (by omega)
        have hb3 := bl_shift 8 m (by omega)
        generalize hj : m / 2 ^ 8 = j at *
        have hj2 : j < 256 := by omega
        have e1 := t2 j hj2
        have e2 := bl8 hj2
        have e3 := bl_lt (n := j) (k := 8) hj2
        rw [hb, hb3]
        simp (maxSteps := 4000000) (disch := first | omega | (simp; done) | (simp; omega)) [h32I, h1I, h2I, s32, s8, t1, e1, e2, fin, -getElem?_pos]
        omega
      · have h2I : ¬ (256 : Int) ≤ m := by omega
        have hj2 : m < 256 := by omega
        have e1 := t2 m hj2
        have e2 := bl8 hj2
        have e3 := bl_lt (n := m) (k := 8) hj2
        rw [hb]
        simp (maxSteps := 4000000) (disch := first | omega | (simp; done) | (simp; omega)) [h32I, h1I, h2I, s32, t1, e1, e2, fin, -getElem?_pos]
        omega
  · have h32I : ¬ (4294967296 : Int) ≤ n := by omega
    have h1I : (65536 : Int) ≤ n := by omega
    have s16 : shrI .u64 (n : Int) 16 = ((n / 2 ^ 16 : Nat) : Int) := shr_nat n 16 (by omega)
    have hb2 := bl_shift 16 n (by omega)
    generalize hk : n / 2 ^ 16 = k at *
    have h2I : (256 : Int) ≤ k := by omega
    have s8 : shrI .u64 (k : Int) 8 = ((k / 2 ^ 8 : Nat) : Int) := shr_nat k 8 (by omega)
    have hb3 := bl_shift 8 k (by omega)
    generalize hj : k / 2 ^ 8 = j at *
    have hj2 : j < 256 := by omega
    have e1 := t2 j hj2
    have e2 := bl8 hj2
    have e3 := bl_lt (n := j) (k := 8) hj2
    rw [hb2, hb3]
    simp (maxSteps := 4000000) (disch := first | omega | (simp; done) | (simp; omega)) [h32I, h1I, h2I, s16, s8, t1, e1, e2, fin, -getElem?_pos]
    omega

/-- The program's guess at the number of digits. -/
def gs (L : Nat) : Nat := L * 78913 / 262144
def ndig (k : Nat) : Nat := gs (Sort.bitsLen k) + if 10 ^ gs (Sort.bitsLen k) ≤ k then 1 else 0
theorem gs_facts {L : Nat} (h : L < 65) : gs L < 20 ∧ 2 ^ L ≤ 10 ^ (gs L + 1) ∧ (L = 0 ∨ 10 ^ (gs L - 1) ≤ 2 ^ (L - 1)) := by
  have h1 : (List.range 65).all (fun L => decide (gs L < 20) && decide (2 ^ L ≤ 10 ^ (gs L + 1)) && (decide (L = 0) || decide (10 ^ (gs L - 1) ≤ 2 ^ (L - 1)))) = true := by kernel_rfl
  have h2 := all_lt h1 h
  simp only [Bool.and_eq_true, Bool.or_eq_true, decide_eq_true_eq] at h2
  exact ⟨h2.1.1, h2.1.2, h2.2⟩
theorem bl_hi (n : Nat) : n < 2 ^ Sort.bitsLen n := by
  unfold Sort.bitsLen
  split
  · omega
  · exact Nat.lt_log2_self
theorem bl_lo {n : Nat} (h : n ≠ 0) : 2 ^ (Sort.bitsLen n - 1) ≤ n := by
  unfold Sort.bitsLen
  rw [if_neg h]
  exact Nat.log2_self_le h
theorem ndig_facts {k : Nat} (h1 : 1 ≤ k) (h : k < 18446744073709551616) : 1 ≤ ndig k ∧ ndig k ≤ 20 ∧ 10 ^ (ndig k - 1) ≤ k ∧ k < 10 ^ ndig k := by
  have hL : Sort.bitsLen k ≤ 64 := bl_lt (k := 64) h
  obtain ⟨g1, g2, g3⟩ := gs_facts (L := Sort.bitsLen k) (by omega)
  have b1 := bl_hi k
  have b2 := bl_lo (n := k) (by omega)
  unfold ndig
  by_cases hc : 10 ^ gs (Sort.bitsLen k) ≤ k
  · rw [if_pos hc]
    exact ⟨by omega, by omega, by rw [Nat.add_sub_cancel]; exact hc, Nat.lt_of_lt_of_le b1 g2⟩
  · rw [if_neg hc, Nat.add_zero]
    have hg : 1 ≤ gs (Sort.bitsLen k) := by
      rcases Nat.eq_zero_or_pos (gs (Sort.bitsLen k)) with h0 | h0
      · rw [h0] at hc
        simp at hc
        omega
      · exact h0
    refine ⟨hg, by omega, ?_, by omega⟩
    rcases g3 with g3 | g3
    · have : k = 0 := by
        rw [g3] at b1
        simpa using b1
      omega
    · exact Nat.le_trans g3 b2

theorem tabPow {j : Nat} (h : j < 20) : cut (tabOf .u64 pow10Tab) j 1 = some [.int .u64 ((10 ^ j : Nat) : Int)] := by
  have h1 : (List.range 20).all (fun j => decide (pow10Tab[j]? = some ((10 ^ j : Nat) : Int))) = true := by kernel_rfl
  have h2 := of_decide_eq_true (all_lt h1 h)
  unfold cut tabOf
  have hl : pow10Tab.length = 20 := rfl
  have h3 : (pow10Tab.drop j).take 1 = [((10 ^ j : Nat) : Int)] := by
    rw [List.drop_eq_getElem_cons (by omega)]
    rw [List.getElem?_eq_getElem (by omega)] at h2
    rw [Option.some.inj h2]
    rfl
  simp only [List.length_map, hl]
  rw [show Nat.ble (j + 1) 20 = true from Nat.ble_eq_true_of_le (by omega), cond_true, ← List.map_drop, ← List.map_take, h3]
  rfl

theorem shr_i64 (n k : Nat) (hk : k < 64) : shrI .i64 (n : Int) (k : Int) = ((n / 2 ^ k : Nat) : Int) := by
  unfold shrI
  rw [Int.toNat_natCast, show min k IntKind.i64.bits = k from Nat.min_eq_left (Nat.le_of_lt hk), Int.fdiv_eq_ediv_of_nonneg _ (Int.le_of_lt (Int.pow_pos (by decide)))]
  simp
theorem log236 (x : Nat) (h : x < 65) : (K A).call 236 [intV x] [] = some (intV (gs x), []) := by
  refine fn_of (vf := v236) (by kernel_rfl) rfl (by simp) ?_
  have h1 : (x : Int) * 78913 = ((x * 78913 : Nat) : Int) := by omega
  have h2 : shrI .i64 ((x * 78913 : Nat) : Int) 18 = ((gs x : Nat) : Int) := shr_i64 (x * 78913) 18 (by omega)
  generalize hy : x * 78913 = y at *
  have hyb : y < 6000000 := by omega
  unfold v236
  simp (disch := first | omega | (simp; done) | (simp; omega)) [h1, h2]
theorem bool237 (b : Bool) : (K A).call 237 [boolV b] [] = some (intV (if b = true then 1 else 0), []) := by
  refine fn_of (vf := v237) (by kernel_rfl) rfl (by simp) ?_
  unfold v237
  cases b <;> simp
theorem gl2 : gl0 2 = tabOf .u64 pow10Tab := rfl
theorem ndig189 (k : Nat) (h : k < 18446744073709551616) : (K A).call 189 [u64V k] [] = some (intV (ndig k), []) := by
  have hL : Sort.bitsLen k ≤ 64 := bl_lt (k := 64) h
  obtain ⟨g1, _⟩ := gs_facts (L := Sort.bitsLen k) (by omega)
  have c1 := len202G (A := A) k h
  have c2 := log236 (A := A) (Sort.bitsLen k) (by omega)
  have c3 := tabPow g1
  have c4 := bool237 (A := A) (decide (10 ^ gs (Sort.bitsLen k) ≤ k))
  unfold ndig
  generalize Sort.bitsLen k = L at *
  generalize gs L = g at *
  have hcI : decide (((10 ^ g : Nat) : Int) ≤ (k : Int)) = decide (10 ^ g ≤ k) := by rw [decide_eq_decide]; omega
  generalize hp : 10 ^ g = p at *
  refine fn_of (vf := v189) (by kernel_rfl) rfl (by simp) ?_
  unfold v189
  by_cases hc : p ≤ k
  · have hcI2 : (p : Int) ≤ (k : Int) := by omega
    simp only [hc, decide_true, if_true] at c4 ⊢
    simp (maxSteps := 4000000) (disch := first | omega | (simp; done) | (simp; omega)) [c1, c2, c3, c4, gl2, hc, hcI2, Opd.val]
  · have hcI2 : ¬ (p : Int) ≤ (k : Int) := by omega
    simp only [hc, decide_false, Bool.false_eq_true, if_false] at c4 ⊢
    simp (maxSteps := 4000000) (disch := first | omega | (simp; done) | (simp; omega)) [c1, c2, c3, c4, gl2, hc, hcI2, Opd.val]
end Go.Vs.Tryz
