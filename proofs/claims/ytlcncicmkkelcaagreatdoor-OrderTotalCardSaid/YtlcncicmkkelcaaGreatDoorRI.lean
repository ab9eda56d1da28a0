/- Equal types by both, walked: they answer whether the types are the same. (Parts of one proof, put together.) -/
import Derived.Test.YtlcncicmkkelcaaGreatDoorR8
import Derived.Test.YtlcncicmkkelcaaGreatDoorM5
import Derived.Test.YtlcncicmkkelcaaGreatDoorR7
set_option linter.unusedSimpArgs false
set_option linter.unusedVariables false
set_option linter.deprecated false

/- Equal types by both, walked: they answer whether the types are the same. -/
namespace Go.Vs.Tryz
open Go Go.Vs
variable {A : Oracle}

def IffB (P : Prop) (r : V × List Obj) : Prop := ∃ b : Bool, (b = true ↔ P) ∧ r = (boolV b, [])
theorem IffB.yes {P : Prop} (h : P) : IffB P (boolV true, []) := ⟨true, by simp [h], rfl⟩
theorem IffB.no {P : Prop} (h : ¬ P) : IffB P (boolV false, []) := ⟨false, by simp [h], rfl⟩
theorem Ty.ext {a b : Ty} (h1 : a.kind = b.kind) (h2 : a.name = b.name) (h3 : a.id = b.id) (h4 : a.home = b.home) (h5 : a.args = b.args) : a = b := by
  cases a; cases b; simp only [Ty.kind, Ty.name, Ty.id, Ty.home, Ty.args] at *; subst h1 h2 h3 h4 h5; rfl
theorem list_eq {α : Type} {l m : List α} (hn : l.length = m.length) (h : ∀ (i : Nat) (x y : α), l[i]? = some x → m[i]? = some y → x = y) : l = m := by
  refine List.ext_getElem? fun i => ?_
  by_cases hi : i < l.length
  · rw [List.getElem?_eq_getElem hi, List.getElem?_eq_getElem (hn ▸ hi)]
    exact congrArg some (h i _ _ (List.getElem?_eq_getElem hi) (List.getElem?_eq_getElem (hn ▸ hi)))
  · rw [List.getElem?_eq_none (by omega), List.getElem?_eq_none (by omega)]

theorem teq134 (l m : List Ty) (hl : l.length ≤ 1073741824) (ih : ∀ x ∈ l, ∀ b, ∃ r, IffB (x = b) r ∧ (K A).call 84 [tyV x, tyV b] [] = some r) : ∃ r, IffB (l = m) r ∧ (K A).call 147 [tysV l, tysV m] [] = some r := by
  refine fn_ofE _ (vf := v147) (by kernel_rfl) rfl (by simp) ?_
  unfold v147
  by_cases hn : l.length = m.length
  · simp (disch := first | omega | (simp; done) | (simp; omega)) [hn]
    refine wp_loopI (fun i s => (∀ (j : Nat) x y, j < i → l[j]? = some x → m[j]? = some y → x = y) ∧ s = ⟨[(0, tysV l), (1, tysV m), (5, intV i)], []⟩) l.length ⟨by omega, by simp⟩ ?_ ?_
    · rintro i s hi ⟨hs, rfl⟩
      obtain ⟨x, hx⟩ := get_of_lt hi
      obtain ⟨y, hy⟩ := get_of_lt (l := m) (i := i) (by omega)
      obtain ⟨_, ⟨b, hb, rfl⟩, hc⟩ := ih x (List.mem_of_getElem? hx) y
      unfold l147_0
      cases b with
      | true =>
        have hxy : x = y := hb.1 rfl
        simp (disch := first | omega | (simp; done) | (simp; omega)) [hi, hx, hy, hc, -getElem?_pos]
        intro j x' y' hj hx' hy'
        by_cases hji : j = i
        · subst hji
          rw [hx] at hx'
          rw [hy] at hy'
          cases hx'
          cases hy'
          exact hxy
        · exact hs j x' y' (by omega) hx' hy'
      | false =>
        have hne : l ≠ m := by
          rintro rfl
          rw [hx] at hy
          cases hy
          exact absurd (hb.2 rfl) (by simp)
        simp (disch := first | omega | (simp; done) | (simp; omega)) [hi, hx, hy, hc, -getElem?_pos]
        exact IffB.no hne
    · rintro s ⟨hs, rfl⟩
      have he : l = m := list_eq hn fun i x y hx hy => hs i x y (List.getElem?_eq_some_iff.1 hx).1 hx hy
      unfold l147_0
      simp (disch := first | omega | (simp; done) | (simp; omega))
      exact IffB.yes he
  · have hn' : ¬ (l.length : Int) = m.length := by omega
    have hne : l ≠ m := fun h => hn (by rw [h])
    simp (disch := first | omega | (simp; done) | (simp; omega)) [hn, hn']
    exact IffB.no hne

set_option maxHeartbeats 2000000 in
theorem teq85 : ∀ (n : Nat) (a b : Ty), a.size ≤ n → n ≤ 1073741824 → ∃ r, IffB (a = b) r ∧ (K A).call 84 [tyV a, tyV b] [] = some r := by
  intro n
  induction n with
  | zero =>
    intro a b ha
    have := a.size_pos
    omega
  | succ n ih =>
    intro a b ha hn
    have hal := a.args_lt
    obtain ⟨_, ⟨v, hv, rfl⟩, hc⟩ := teq134 (A := A) a.args b.args (by omega) (fun x hx b => ih x b (by have := Ty.arg_lt hx; omega) (by omega))
    refine fn_ofE _ (vf := v84) (by kernel_rfl) rfl (by simp) ?_
    unfold v84
    by_cases h1 : a.kind = b.kind
    · by_cases h2 : a.name = b.name
      · by_cases h3 : a.id = b.id
        · by_cases h4 : a.home = b.home
          · simp (disch := first | omega | (simp; done) | (simp; omega)) [h1, h2, h3, h4, hc]
            exact ⟨v, hv.trans ⟨fun h5 => Ty.ext h1 h2 h3 h4 h5, fun h => by rw [h]⟩, rfl⟩
          · simp (disch := first | omega | (simp; done) | (simp; omega)) [h1, h2, h3, h4, hc]
            exact IffB.no fun h => h4 (by rw [h])
        · simp (disch := first | omega | (simp; done) | (simp; omega)) [h1, h2, h3, hc]
          exact IffB.no fun h => h3 (by rw [h])
      · simp (disch := first | omega | (simp; done) | (simp; omega)) [h1, h2, hc]
        exact IffB.no fun h => h2 (by rw [h])
    · simp (disch := first | omega | (simp; done) | (simp; omega)) [h1, hc]
      exact IffB.no fun h => h1 (by rw [h])

end Go.Vs.Tryz

/- Numbers as text, and the names that are not taken (plain). -/
namespace Go.Vs.Tryz
open Go Go.Vs

/-- The digits of a number. -/
def numS (n : Nat) : Str := if h : n < 10 then [UInt8.ofNat (48 + n)] else numS (n / 10) ++ [UInt8.ofNat (48 + n % 10)]
termination_by n
decreasing_by omega
theorem numS_lt {n : Nat} (h : n < 10) : numS n = [UInt8.ofNat (48 + n)] := by rw [numS, dif_pos h]
theorem numS_ge {n : Nat} (h : ¬ n < 10) : numS n = numS (n / 10) ++ [UInt8.ofNat (48 + n % 10)] := by rw [numS, dif_neg h]
theorem numS_pos (n : Nat) : 1 ≤ (numS n).length := by
  by_cases h : n < 10
  · simp [numS_lt h]
  · simp [numS_ge h]
theorem dig_inj {a b : Nat} (ha : a < 10) (hb : b < 10) (h : UInt8.ofNat (48 + a) = UInt8.ofNat (48 + b)) : a = b := by
  have := congrArg UInt8.toNat h
  simp [UInt8.toNat_ofNat'] at this
  omega
theorem numS_inj : ∀ (n m : Nat), numS n = numS m → n = m := by
  intro n
  induction n using Nat.strongRecOn with
  | ind n ih =>
    intro m h
    by_cases hn : n < 10
    · by_cases hm : m < 10
      · rw [numS_lt hn, numS_lt hm] at h
        exact dig_inj hn hm (by simpa using h)
      · have := congrArg List.length h
        rw [numS_lt hn, numS_ge hm] at this
        have h2 := numS_pos (m / 10)
        simp only [List.length_singleton, List.length_append] at this
        omega
    · by_cases hm : m < 10
      · have := congrArg List.length h
        rw [numS_lt hm, numS_ge hn] at this
        have h2 := numS_pos (n / 10)
        simp only [List.length_singleton, List.length_append] at this
        omega
      · rw [numS_ge hn, numS_ge hm] at h
        obtain ⟨h1, h2⟩ := List.append_inj' h (by simp)
        have h3 := ih (n / 10) (by omega) _ h1
        have h4 := dig_inj (Nat.mod_lt _ (by omega)) (Nat.mod_lt _ (by omega)) (by simpa using h2)
        omega
theorem numS_digit (n : Nat) : ∀ c ∈ numS n, 48 ≤ c.toNat ∧ c.toNat ≤ 57 := by
  induction n using Nat.strongRecOn with
  | ind n ih =>
    intro c hc
    by_cases hn : n < 10
    · rw [numS_lt hn] at hc
      simp only [List.mem_singleton] at hc
      subst hc
      simp [UInt8.toNat_ofNat']
      omega
    · rw [numS_ge hn] at hc
      rcases List.mem_append.1 hc with hc | hc
      · exact ih (n / 10) (by omega) c hc
      · simp only [List.mem_singleton] at hc
        subst hc
        simp [UInt8.toNat_ofNat']
        omega
theorem numS_len (n : Nat) : ∀ k, n < 10 ^ k → 1 ≤ k → (numS n).length ≤ k := by
  induction n using Nat.strongRecOn with
  | ind n ih =>
    intro k hk h1
    by_cases hn : n < 10
    · simp [numS_lt hn]; exact h1
    · obtain ⟨k, rfl⟩ : ∃ j, k = j + 1 := ⟨k - 1, by omega⟩
      have hk1 : 1 ≤ k := by
        rcases Nat.eq_zero_or_pos k with rfl | h
        · simp at hk; omega
        · exact h
      have := ih (n / 10) (by omega) k (by rw [Nat.pow_succ] at hk; omega) hk1
      simp [numS_ge hn]
      omega

/-- The name with a number. -/
def vName (k : Nat) : Str := 118 :: numS k
theorem vName_inj {a b : Nat} (h : vName a = vName b) : a = b := numS_inj a b (by simpa [vName] using h)

/-- The names of a list from a number on. -/
noncomputable def vCount (l : List Str) (k : Nat) : Nat := match l with
  | [] => 0
  | s :: r => (open Classical in if ∃ j, k ≤ j ∧ s = vName j then 1 else 0) + vCount r k
theorem vCount_le (l : List Str) (k : Nat) : vCount l k ≤ l.length := by
  induction l with
  | nil => simp [vCount]
  | cons s r ih => simp only [vCount, List.length_cons]; split <;> omega
theorem vCount_mono (l : List Str) (k : Nat) : vCount l (k + 1) ≤ vCount l k := by
  induction l with
  | nil => simp [vCount]
  | cons s r ih =>
    simp only [vCount]
    split
    · rename_i h
      obtain ⟨j, h1, h2⟩ := h
      rw [if_pos ⟨j, by omega, h2⟩]
      omega
    · split <;> omega
theorem vCount_lt {l : List Str} {k : Nat} (h : vName k ∈ l) : vCount l (k + 1) < vCount l k := by
  induction l with
  | nil => simp at h
  | cons s r ih =>
    have hm := vCount_mono r k
    simp only [vCount]
    rcases List.mem_cons.1 h with rfl | h
    · rw [if_neg, if_pos ⟨k, Nat.le_refl _, rfl⟩]
      · omega
      · rintro ⟨j, h1, h2⟩
        have := vName_inj h2
        omega
    · have := ih h
      split
      · rename_i h3
        obtain ⟨j, h1, h2⟩ := h3
        rw [if_pos ⟨j, by omega, h2⟩]
        omega
      · split <;> omega

/-- The number of the n-th name from k on that is not taken. -/
def freshF (taken : List Str) : Nat → Nat → Nat → Nat
  | 0, k, _ => k
  | f + 1, k, n => if vName k ∈ taken then freshF taken f (k + 1) n else if n = 0 then k else freshF taken f (k + 1) (n - 1)
theorem freshF_ge (taken : List Str) : ∀ f k n, k ≤ freshF taken f k n
  | 0, k, n => Nat.le_refl _
  | f + 1, k, n => by
    simp only [freshF]
    split
    · exact Nat.le_trans (by omega) (freshF_ge taken f (k + 1) n)
    · split
      · exact Nat.le_refl _
      · exact Nat.le_trans (by omega) (freshF_ge taken f (k + 1) (n - 1))
theorem freshF_le (taken : List Str) : ∀ f k n, freshF taken f k n ≤ k + f
  | 0, k, n => by simp [freshF]
  | f + 1, k, n => by
    simp only [freshF]
    have h1 := freshF_le taken f (k + 1) n
    have h2 := freshF_le taken f (k + 1) (n - 1)
    split
    · omega
    · split <;> omega
theorem freshF_not (taken : List Str) : ∀ f k n, n + vCount taken k < f → vName (freshF taken f k n) ∉ taken
  | 0, k, n, h => by omega
  | f + 1, k, n, h => by
    simp only [freshF]
    split
    · rename_i hm
      exact freshF_not taken f (k + 1) n (by have := vCount_lt hm; omega)
    · rename_i hm
      split
      · exact hm
      · exact freshF_not taken f (k + 1) (n - 1) (by have := vCount_mono taken k; omega)

/-- The n-th name that is not taken. -/
def freshK (n : Nat) (taken : List Str) : Nat := freshF taken (n + taken.length + 1) 1 n
def freshS (n : Nat) (taken : List Str) : Str := vName (freshK n taken)
theorem freshK_le (n : Nat) (taken : List Str) : freshK n taken ≤ n + taken.length + 2 := by
  have := freshF_le taken (n + taken.length + 1) 1 n
  unfold freshK
  omega
theorem freshS_not (n : Nat) (taken : List Str) : freshS n taken ∉ taken := freshF_not taken _ _ _ (by have := vCount_le taken 1; omega)
end Go.Vs.Tryz

/- Alpha-equal expressions and canonical forms (plain): an expression is alpha-equal to its canonical form. -/
namespace Go.Vs.Tryz
open Go Go.Vs

/-- What two alpha-equal expressions share at their heads. -/
def headEq (a b : Exp) : Prop := a.kind = b.kind ∧ a.num = b.num ∧ a.ty = b.ty ∧ a.kids.length = b.kids.length ∧ a.arms.length = b.arms.length
def armsEq (a b : Exp) : Prop := ∀ (i : Nat) p q, a.arms[i]? = some p → b.arms[i]? = some q → p.1.con = q.1.con ∧ p.1.vars.length = q.1.vars.length
/-- Two variables that refer to the same. -/
def varEq (left right : List Str) (s t : Str) : Prop := rlast left s = rlast right t ∧ (0 ≤ rlast left s ∨ s = t)
def alphaF (a : Exp) (l : List (Exp → List Str → List Str → Prop)) (b : Exp) (left right : List Str) : Prop :=
  headEq a b ∧ (a.kind = 1 → varEq left right a.name b.name) ∧ (a.kind = 2 → a.name = b.name) ∧
    (a.kind ≠ 1 → a.kind ≠ 2 → armsEq a b ∧ ∀ (i : Nat) f y, l[i]? = some f → b.children[i]? = some y → f y (left ++ a.bound i) (right ++ b.bound i))
/-- Alpha-equal under binders. -/
def alphaP (a : Exp) : Exp → List Str → List Str → Prop := a.fold alphaF
theorem alphaP_eq (a b : Exp) (left right : List Str) : alphaP a b left right = (headEq a b ∧ (a.kind = 1 → varEq left right a.name b.name) ∧ (a.kind = 2 → a.name = b.name) ∧
    (a.kind ≠ 1 → a.kind ≠ 2 → armsEq a b ∧ ∀ (i : Nat) x y, a.children[i]? = some x → b.children[i]? = some y → alphaP x y (left ++ a.bound i) (right ++ b.bound i))) := by
  unfold alphaP
  rw [Exp.fold_eq]
  unfold alphaF
  simp only [List.getElem?_map, Option.map_eq_some_iff]
  apply propext
  refine and_congr_right fun _ => and_congr_right fun _ => and_congr_right fun _ => forall_congr' fun _ => forall_congr' fun _ => and_congr_right fun _ => forall_congr' fun i => ?_
  constructor
  · exact fun h x y hx hy => h _ y ⟨x, hx, rfl⟩ hy
  · rintro h f y ⟨x, hx, rfl⟩ hy
    exact h x y hx hy

/-- New names behind so many. -/
def news (taken : List Str) (n k : Nat) : List Str := (List.range k).map fun j => freshS (n + j) taken
@[simp] theorem news_len (taken : List Str) (n k : Nat) : (news taken n k).length = k := by simp [news]
theorem news_get {taken : List Str} {n k j : Nat} (h : j < k) : (news taken n k)[j]? = some (freshS (n + j) taken) := by simp [news, h]

def canonF (taken : List Str) (e : Exp) (l : List (List Str → List Str → Exp)) (old names : List Str) : Exp :=
  if e.kind = 1 then (if 0 ≤ rlast old e.name then .mk e.kind e.pos ((names[(rlast old e.name).toNat]?).getD []) e.num e.kids e.arms e.ty else e)
  else
    let cs := l.zipIdx.map fun p => p.1 (old ++ e.bound p.2) (names ++ news taken old.length (e.bound p.2).length)
    .mk e.kind e.pos (if e.kind = 4 ∨ e.kind = 6 ∨ e.kind = 7 then freshS old.length taken else e.name) e.num (cs.take e.kids.length)
      (List.zipWith (fun a c => (⟨a.1.pos, a.1.con, news taken old.length a.1.vars.length⟩, c)) e.arms (cs.drop e.kids.length)) e.ty
/-- The canonical form under binders. -/
def canonM (taken : List Str) (e : Exp) : List Str → List Str → Exp := e.fold (canonF taken)
theorem canonM_var {taken : List Str} {e : Exp} {old names : List Str} (h : e.kind = 1) : canonM taken e old names = if 0 ≤ rlast old e.name then .mk e.kind e.pos ((names[(rlast old e.name).toNat]?).getD []) e.num e.kids e.arms e.ty else e := by
  unfold canonM
  rw [Exp.fold_eq]
  simp only [canonF, if_pos h]
/-- The new children. -/
def canonC (taken : List Str) (e : Exp) (old names : List Str) : List Exp := e.children.zipIdx.map fun p => canonM taken p.1 (old ++ e.bound p.2) (names ++ news taken old.length (e.bound p.2).length)
@[simp] theorem canonC_len (taken : List Str) (e : Exp) (old names : List Str) : (canonC taken e old names).length = e.kids.length + e.arms.length := by simp [canonC]
theorem canonC_get {taken : List Str} {e x : Exp} {old names : List Str} {i : Nat} (h : e.children[i]? = some x) : (canonC taken e old names)[i]? = some (canonM taken x (old ++ e.bound i) (names ++ news taken old.length (e.bound i).length)) := by
  simp [canonC, h]
theorem canonM_no {taken : List Str} {e : Exp} {old names : List Str} (h : e.kind ≠ 1) : canonM taken e old names = .mk e.kind e.pos (if e.kind = 4 ∨ e.kind = 6 ∨ e.kind = 7 then freshS old.length taken else e.name) e.num ((canonC taken e old names).take e.kids.length)
      (List.zipWith (fun a c => (⟨a.1.pos, a.1.con, news taken old.length a.1.vars.length⟩, c)) e.arms ((canonC taken e old names).drop e.kids.length)) e.ty := by
  unfold canonM
  rw [Exp.fold_eq]
  simp only [canonF, if_neg h]
  have : ((e.children.map (Exp.fold (canonF taken))).zipIdx.map fun p => p.1 (old ++ e.bound p.2) (names ++ news taken old.length (e.bound p.2).length)) = canonC taken e old names := by
    unfold canonC canonM
    refine List.ext_getElem? fun j => ?_
    simp only [List.getElem?_map, List.getElem?_zipIdx]
    cases e.children[j]? <;> simp
  rw [this]

theorem bound_some {e : Exp} {i : Nat} : e.bound i = if e.kind = 4 ∨ e.kind = 7 ∨ (e.kind = 6 ∧ i = 1) then [e.name] else if e.kind = 8 ∧ 0 < i then ((e.arms[i - 1]?).map fun a => a.1.vars).getD [] else [] := rfl

section
variable (k p : Int) (n : Str) (m : Int) (ks : List Exp) (l : List (ArmH × Exp)) (t : Ty)
theorem kind_mk : (Exp.mk k p n m ks l t).kind = k := rfl
theorem pos_mk : (Exp.mk k p n m ks l t).pos = p := rfl
theorem name_mk : (Exp.mk k p n m ks l t).name = n := rfl
theorem num_mk : (Exp.mk k p n m ks l t).num = m := rfl
theorem kids_mk : (Exp.mk k p n m ks l t).kids = ks := rfl
theorem arms_mk : (Exp.mk k p n m ks l t).arms = l := rfl
theorem ty_mk : (Exp.mk k p n m ks l t).ty = t := rfl
theorem bound_mk (i : Nat) : (Exp.mk k p n m ks l t).bound i = if k = 4 ∨ k = 7 ∨ (k = 6 ∧ i = 1) then [n] else if k = 8 ∧ 0 < i then ((l[i - 1]?).map fun a => a.1.vars).getD [] else [] := rfl
theorem children_mk : (Exp.mk k p n m ks l t).children = ks ++ l.map (·.2) := rfl
end

/-- The canonical form's children and binders. -/
theorem canon_parts {taken : List Str} {e : Exp} {old names : List Str} (h : e.kind ≠ 1) (hw : e.wf1) :
    headEq e (canonM taken e old names) ∧ (canonM taken e old names).children = canonC taken e old names ∧ armsEq e (canonM taken e old names) ∧ (e.kind = 2 → e.name = (canonM taken e old names).name) ∧
    ∀ i, i < e.children.length → (canonM taken e old names).bound i = news taken old.length (e.bound i).length := by
  have hl := canonC_len taken e old names
  have hal : (List.zipWith (fun (a : ArmH × Exp) c => ((⟨a.1.pos, a.1.con, news taken old.length a.1.vars.length⟩ : ArmH), c)) e.arms ((canonC taken e old names).drop e.kids.length)).length = e.arms.length := by
    rw [List.length_zipWith, List.length_drop, hl]
    omega
  have hkl : ((canonC taken e old names).take e.kids.length).length = e.kids.length := by rw [List.length_take, hl]; omega
  rw [canonM_no h]
  refine ⟨⟨rfl, rfl, rfl, by simp only [kids_mk, hkl], by simp only [arms_mk, hal]⟩, ?_, ?_, ?_, ?_⟩
  · simp only [children_mk]
    rw [List.map_zipWith]
    have : List.zipWith (fun (a : ArmH × Exp) (c : Exp) => c) e.arms ((canonC taken e old names).drop e.kids.length) = (canonC taken e old names).drop e.kids.length := by
      refine List.ext_getElem? fun j => ?_
      rw [List.getElem?_zipWith]
      by_cases hj : j < e.arms.length
      · rw [List.getElem?_eq_getElem hj]
        cases ((canonC taken e old names).drop e.kids.length)[j]? <;> rfl
      · rw [List.getElem?_eq_none (by omega), List.getElem?_eq_none (by rw [List.length_drop, hl]; omega)]
    rw [this, List.take_append_drop]
  · intro i p q hp hq
    simp only [arms_mk, List.getElem?_zipWith, hp] at hq
    cases hc : ((canonC taken e old names).drop e.kids.length)[i]? with
    | none => rw [hc] at hq; simp at hq
    | some c =>
      rw [hc] at hq
      simp only [Option.some.injEq] at hq
      subst hq
      simp
  · intro h2
    simp [name_mk, h2]
  · intro i hi
    have h1 := bound_some (e := e) (i := i)
    rw [bound_mk]
    by_cases c1 : e.kind = 4 ∨ e.kind = 7 ∨ (e.kind = 6 ∧ i = 1)
    · rw [if_pos c1] at h1
      have c2 : e.kind = 4 ∨ e.kind = 6 ∨ e.kind = 7 := by omega
      rw [if_pos c1, if_pos c2, h1]
      simp [news]
    · rw [if_neg c1] at h1
      rw [if_neg c1]
      by_cases c2 : e.kind = 8 ∧ 0 < i
      · rw [if_pos c2] at h1
        rw [if_pos c2]
        have hk1 := hw.1 c2.1
        rw [e.children_len] at hi
        obtain ⟨a, ha⟩ := get_of_lt (l := e.arms) (i := i - 1) (by omega)
        obtain ⟨c, hc⟩ := get_of_lt (l := (canonC taken e old names).drop e.kids.length) (i := i - 1) (by rw [List.length_drop, hl]; omega)
        rw [h1, List.getElem?_zipWith, ha, hc]
        simp
      · rw [if_neg c2] at h1
        rw [if_neg c2, h1]
        simp [news]

theorem headEq.symm {a b : Exp} (h : headEq a b) : headEq b a := ⟨h.1.symm, h.2.1.symm, h.2.2.1.symm, h.2.2.2.1.symm, h.2.2.2.2.symm⟩
theorem headEq.children {a b : Exp} (h : headEq a b) : a.children.length = b.children.length := by
  rw [a.children_len, b.children_len, h.2.2.2.1, h.2.2.2.2]

end Go.Vs.Tryz

/- Expressions without positions (plain). -/
namespace Go.Vs.Tryz
open Go Go.Vs

def stripF (e : Exp) (cs : List Exp) : Exp := .mk e.kind 0 e.name e.num (cs.take e.kids.length) (List.zipWith (fun (a : ArmH × Exp) c => ((⟨0, a.1.con, a.1.vars⟩ : ArmH), c)) e.arms (cs.drop e.kids.length)) e.ty
/-- Without positions. -/
def stripM (e : Exp) : Exp := e.fold stripF
theorem stripM_eq (e : Exp) : stripM e = stripF e (e.children.map stripM) := Exp.fold_eq _ e

theorem zip_snd {α β γ : Type} {f : α → β → γ} {l : List α} {m : List β} (h : l.length = m.length) (g : γ → β) (hg : ∀ a b, g (f a b) = b) : (List.zipWith f l m).map g = m := by
  refine List.ext_getElem? fun j => ?_
  rw [List.getElem?_map, List.getElem?_zipWith]
  by_cases hj : j < l.length
  · rw [List.getElem?_eq_getElem hj, List.getElem?_eq_getElem (show j < m.length by omega)]
    simp [hg]
  · rw [List.getElem?_eq_none (by omega), List.getElem?_eq_none (by omega)]
    rfl

theorem strip_parts (e : Exp) : (stripM e).kind = e.kind ∧ (stripM e).name = e.name ∧ (stripM e).num = e.num ∧ (stripM e).ty = e.ty ∧ (stripM e).kids.length = e.kids.length ∧ (stripM e).arms.length = e.arms.length ∧
    (stripM e).children = e.children.map stripM ∧ (∀ i : Nat, (stripM e).arms[i]? = (e.arms[i]?).map fun (a : ArmH × Exp) => ((⟨0, a.1.con, a.1.vars⟩ : ArmH), stripM a.2)) := by
  have hl : (e.children.map stripM).length = e.kids.length + e.arms.length := by simp
  have hkl : ((e.children.map stripM).take e.kids.length).length = e.kids.length := by rw [List.length_take, hl]; omega
  have hdl : ((e.children.map stripM).drop e.kids.length).length = e.arms.length := by rw [List.length_drop, hl]; omega
  have hal : (List.zipWith (fun (a : ArmH × Exp) (c : Exp) => ((⟨0, a.1.con, a.1.vars⟩ : ArmH), c)) e.arms ((e.children.map stripM).drop e.kids.length)).length = e.arms.length := by
    rw [List.length_zipWith, hdl]; omega
  rw [stripM_eq]
  refine ⟨rfl, rfl, rfl, rfl, by simp only [stripF, kids_mk, hkl], by simp only [stripF, arms_mk, hal], ?_, ?_⟩
  · simp only [stripF, children_mk]
    rw [zip_snd (g := fun (x : ArmH × Exp) => x.2) (by rw [hdl]) (fun _ _ => rfl), List.take_append_drop]
  · intro i
    simp only [stripF, arms_mk, List.getElem?_zipWith]
    have hd : (e.children.map stripM).drop e.kids.length = e.arms.map fun a => stripM a.2 := by
      simp [Exp.children]
    rw [hd, List.getElem?_map]
    cases e.arms[i]? <;> rfl

theorem strip_wf (e : Exp) : e.wf → (stripM e).wf := by
  induction e using Exp.ind with
  | h e ih =>
    intro hw
    obtain ⟨h1, h2, h3, h4, h5, h6, h7, h8⟩ := strip_parts e
    rw [Exp.wf_eq]
    obtain ⟨w1, w2, w3⟩ := hw.one
    refine ⟨⟨fun hk => by rw [h5]; exact w1 (h1 ▸ hk), fun hk => ?_, fun hk => ?_⟩, ?_⟩
    · have := w2 (h1 ▸ hk)
      rw [this] at h6
      exact List.length_eq_zero_iff.1 h6
    · have := w3 (h1 ▸ hk)
      rw [this] at h5
      exact List.length_eq_zero_iff.1 h5
    · intro x hx
      rw [h7] at hx
      obtain ⟨y, hy, rfl⟩ := List.mem_map.1 hx
      exact ih y hy (hw.child hy)

theorem strip_weight (e : Exp) : (stripM e).weight = e.weight := by
  induction e using Exp.ind with
  | h e ih =>
    obtain ⟨h1, h2, h3, h4, h5, h6, h7, h8⟩ := strip_parts e
    rw [Exp.weight_eq, e.weight_eq, h7, List.map_map]
    have ha : ((stripM e).arms.map fun a => a.1.vars.length) = e.arms.map fun a => a.1.vars.length := by
      refine List.ext_getElem? fun i => ?_
      rw [List.getElem?_map, List.getElem?_map, h8]
      cases e.arms[i]? <;> rfl
    have hc : e.children.map (Exp.weight ∘ stripM) = e.children.map Exp.weight := List.map_congr_left fun x hx => ih x hx
    rw [ha, hc]

/-- The whole canonical form. -/
def canonT (e : Exp) (taken : List Str) : Exp := canonM (taken ++ freeP e) (stripM e) [] []
end Go.Vs.Tryz
