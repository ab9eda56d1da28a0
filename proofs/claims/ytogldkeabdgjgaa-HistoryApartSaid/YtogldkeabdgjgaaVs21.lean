/- The value semantics, 21: what an operation depends on. -/
import Derived.Test.YtogldkeabdgjgaaVs20
namespace Go.Vs
open Go

def Opd.tmps : Opd → List Nat
  | .t n => [n]
  | _ => []

def optTmps : Option Opd → List Nat
  | some x => x.tmps
  | none => []

def VOp.tmps : VOp → List Nat
  | .mv x | .un _ x | .box x | .load _ _ x | .fld _ x | .part _ _ _ x | .len _ x | .mkS _ _ _ x | .ext _ x | .cvI _ x | .ifc _ x | .nn x => x.tmps
  | .pick c x y => c.tmps ++ x.tmps ++ y.tmps
  | .bin _ _ x y | .store _ x y _ | .idxA _ x y | .idxAA _ _ x y | .idxS x y | .mx x y | .mn x y | .app _ _ _ x y => x.tmps ++ y.tmps
  | .new _ _ => []
  | .build _ ps => ps.flatMap fun p => p.2.2.tmps
  | .mkSl _ xs | .fn _ xs => xs.flatMap Opd.tmps
  | .slS x lo hi => x.tmps ++ optTmps lo ++ optTmps hi
  | .sl _ x lo hi m3 => x.tmps ++ optTmps lo ++ optTmps hi ++ optTmps m3
  | .call f args _ => f.tmps ++ args.flatMap fun x => x.2.tmps

def VOper.tmps (o : VOper) : List Nat := (match o.guard with | some (t, _) => [t] | none => []) ++ o.op.tmps

section
variable {C : Ctx} {E E' : Nat → Option V} {L L' : Nat → Option Obj}

theorem Opd.val_congr {x : Opd} (h : ∀ t ∈ x.tmps, E t = E' t) : x.val C E = x.val C E' := by
  cases x with
  | t n => simp only [Opd.val]; rw [h n (by simp [Opd.tmps])]
  | g n => rfl
  | k v => rfl

theorem opt_congr {x : Option Opd} (h : ∀ t ∈ optTmps x, E t = E' t) : x.map (·.val C E) = x.map (·.val C E') := by
  cases x with
  | none => rfl
  | some x => simp only [Option.map_some]; rw [Opd.val_congr (fun t ht => h t ht)]

theorem listM_congr {α γ : Type} {f g : α → Option γ} : ∀ {l : List α}, (∀ x ∈ l, f x = g x) → listM f l = listM g l
  | [], _ => rfl
  | x :: l, h => by simp only [listM]; rw [h x (by simp), listM_congr (fun y hy => h y (by simp [hy]))]

theorem exec1_E {op : VOp} {oid : Nat} (h : ∀ t ∈ op.tmps, E t = E' t) : exec1 C E L oid op = exec1 C E' L oid op := by
  cases op <;> simp only [VOp.tmps, List.mem_append] at h <;> simp only [exec1]
  case mv x => rw [Opd.val_congr h]
  case pick c x y => rw [Opd.val_congr fun t ht => h t (.inl (.inl ht)), Opd.val_congr fun t ht => h t (.inl (.inr ht)), Opd.val_congr fun t ht => h t (.inr ht)]
  case bin b tag x y => rw [Opd.val_congr fun t ht => h t (.inl ht), Opd.val_congr fun t ht => h t (.inr ht)]
  case un b x => rw [Opd.val_congr h]
  case box x => rw [Opd.val_congr h]
  case build zero ps =>
    have e : listM (partOf C E) ps = listM (partOf C E') ps := listM_congr fun x hx => by
      simp only [partOf, Opd.val_congr (C := C) fun t ht => h t (List.mem_flatMap.2 ⟨x, hx, ht⟩)]
    show (match listM (partOf C E) ps with | none => none | some ps => (fillW zero ps).map fun cs => (V.ag cs, ([] : Upd))) = _
    rw [e]; rfl
  case mkSl s xs =>
    have e : listM (rowOf C E s) xs = listM (rowOf C E' s) xs := listM_congr fun x hx => by
      simp only [rowOf, Opd.val_congr (C := C) fun t ht => h t (List.mem_flatMap.2 ⟨x, hx, ht⟩)]
    show (match L oid with
      | some _ => none
      | none => match listM (rowOf C E s) xs with
        | none => none
        | some rows => some (V.sc (W.arr oid rows.length), [(oid, some (Obj.arr s rows 0))])) = _
    rw [e]; rfl
  case load ag n x => rw [Opd.val_congr h]
  case store n x y own => rw [Opd.val_congr fun t ht => h t (.inl ht), Opd.val_congr fun t ht => h t (.inr ht)]
  case fld off x => rw [Opd.val_congr h]
  case part ag off n x => rw [Opd.val_congr h]
  case idxA s x y => rw [Opd.val_congr fun t ht => h t (.inl ht), Opd.val_congr fun t ht => h t (.inr ht)]
  case idxAA s len x y => rw [Opd.val_congr fun t ht => h t (.inl ht), Opd.val_congr fun t ht => h t (.inr ht)]
  case idxS x y => rw [Opd.val_congr fun t ht => h t (.inl ht), Opd.val_congr fun t ht => h t (.inr ht)]
  case slS x lo hi => rw [Opd.val_congr fun t ht => h t (.inl (.inl ht)), opt_congr fun t ht => h t (.inl (.inr ht)), opt_congr fun t ht => h t (.inr ht)]
  case sl s x lo hi mx => rw [Opd.val_congr fun t ht => h t (.inl (.inl (.inl ht))), opt_congr fun t ht => h t (.inl (.inl (.inr ht))), opt_congr fun t ht => h t (.inl (.inr ht)), opt_congr fun t ht => h t (.inr ht)]
  case len str x => rw [Opd.val_congr h]
  case mx x y => rw [Opd.val_congr fun t ht => h t (.inl ht), Opd.val_congr fun t ht => h t (.inr ht)]
  case mn x y => rw [Opd.val_congr fun t ht => h t (.inl ht), Opd.val_congr fun t ht => h t (.inr ht)]
  case app s bytes mk x y => rw [Opd.val_congr fun t ht => h t (.inl ht), Opd.val_congr fun t ht => h t (.inr ht)]
  case mkS s bytes zero x => rw [Opd.val_congr h]
  case fn f xs =>
    rw [show xs.map (·.val C E) = xs.map (·.val C E') from List.map_congr_left fun x hx => Opd.val_congr fun t ht => h t (List.mem_flatMap.2 ⟨x, hx, ht⟩)]
  case call f args own =>
    rw [Opd.val_congr fun t ht => h t (.inl ht), show vals C E args = vals C E' args from List.map_congr_left fun x hx => by rw [Opd.val_congr fun t ht => h t (.inr (List.mem_flatMap.2 ⟨x, hx, ht⟩))]]
  case ext i x => rw [Opd.val_congr h]
  case cvI k x => rw [Opd.val_congr h]
  case ifc t x => rw [Opd.val_congr h]
  case nn x => rw [Opd.val_congr h]

theorem runO_E {o : VOper} (h : ∀ t ∈ o.tmps, E t = E' t) : runO C o E L = runO C o E' L := by
  have h1 : exec1 C E L o.oid o.op = exec1 C E' L o.oid o.op := exec1_E fun t ht => h t (by simp [VOper.tmps, ht])
  unfold runO
  cases hg : o.guard with
  | none => simp only [h1]
  | some g =>
    obtain ⟨t, want⟩ := g
    simp only [h1, h t (by simp [VOper.tmps, hg])]

theorem recO_E {o : VOper} {u : Upd} (h : ∀ t ∈ o.tmps, E t = E' t) : recO C E o u = recO C E' o u := by
  have h' : ∀ t ∈ o.op.tmps, E t = E' t := fun t ht => h t (by simp [VOper.tmps, ht])
  unfold recO
  split
  · rfl
  · cases hop : o.op <;> rw [hop] at h' <;> simp only [VOp.tmps, List.mem_append] at h' <;> try rfl
    case new cells own => cases own <;> rfl
    case load ag n x => simp only [Opd.val_congr h']
    case fld off x => simp only [Opd.val_congr h']
    case nn x => simp only [Opd.val_congr h']
    case len str x => simp only [Opd.val_congr h']
    case idxA s x y => simp only [Opd.val_congr (C := C) fun t ht => h' t (.inl ht)]
    case idxAA s len x y => simp only [Opd.val_congr (C := C) fun t ht => h' t (.inl ht)]
    case sl s x lo hi mx => simp only [Opd.val_congr (C := C) fun t ht => h' t (.inl (.inl (.inl ht)))]
    case app s bytes mk x y =>
      cases mk with
      | false => rfl
      | true => simp only [Opd.val_congr (C := C) fun t ht => h' t (.inl ht), Opd.val_congr (C := C) fun t ht => h' t (.inr ht)]
    case call f args own =>
      cases own with
      | cons _ _ => rfl
      | nil =>
        simp only [Opd.val_congr (C := C) fun t ht => h' t (.inl ht)]
        have e : (args.all fun x => (x.2.val C E).refs.isEmpty) = args.all fun x => (x.2.val C E').refs.isEmpty := by
          rw [Bool.eq_iff_iff, List.all_eq_true, List.all_eq_true]
          constructor <;> intro q x hx <;> have := q x hx
          · rw [← Opd.val_congr (C := C) fun t ht => h' t (.inr (List.mem_flatMap.2 ⟨x, hx, ht⟩))]; exact this
          · rw [Opd.val_congr (C := C) fun t ht => h' t (.inr (List.mem_flatMap.2 ⟨x, hx, ht⟩))]; exact this
        rw [e]

/- ## Objects -/

theorem toC_L : ∀ (d : Nat) (x : W), W.refs d x = [] → W.toC L d x = W.toC L' d x ∧ W.ids L d x = [] ∧ W.ids L' d x = [] := by
  intro d
  induction d with
  | zero => intro x h; cases x <;> simp_all [W.refs, W.toC, W.ids]
  | succ d ih =>
    have hl : ∀ l : List W, l.flatMap (W.refs d) = [] → listM (W.toC L d) l = listM (W.toC L' d) l ∧ l.flatMap (W.ids L d) = [] ∧ l.flatMap (W.ids L' d) = [] := by
      intro l h
      rw [List.flatMap_eq_nil_iff] at h
      refine ⟨listM_congr fun x hx => (ih x (h x hx)).1, ?_, ?_⟩
      · rw [List.flatMap_eq_nil_iff]; exact fun x hx => (ih x (h x hx)).2.1
      · rw [List.flatMap_eq_nil_iff]; exact fun x hx => (ih x (h x hx)).2.2
    intro x h
    cases x <;> simp only [W.refs, reduceCtorEq] at h
    case clo f ones caps =>
      rw [List.flatMap_eq_nil_iff] at h
      simp only [W.toC, W.ids]
      refine ⟨by rw [listM_congr fun r hr => (hl r (h r hr)).1], ?_, ?_⟩
      · rw [List.flatMap_eq_nil_iff]; exact fun r hr => (hl r (h r hr)).2.1
      · rw [List.flatMap_eq_nil_iff]; exact fun r hr => (hl r (h r hr)).2.2
    case ifw t one row =>
      simp only [W.toC, W.ids]
      exact ⟨by rw [(hl row h).1], (hl row h).2⟩
    all_goals simp [W.toC, W.ids]

theorem toD_L {x : V} (h : x.refs = []) : x.toD L = x.toD L' ∧ x.cells.flatMap (W.ids L deep) = [] := by
  cases x with
  | sc x =>
    have h' : W.refs deep x = [] := by simpa [V.refs, V.cells] using h
    obtain ⟨h1, h2, _⟩ := toC_L (L := L) (L' := L') deep x h'
    exact ⟨by simp only [V.toD, h1], by simpa [V.cells] using h2⟩
  | ag cs =>
    have h' : ∀ x ∈ cs, W.refs deep x = [] := by simpa [V.refs, V.cells, List.flatMap_eq_nil_iff] using h
    refine ⟨by simp only [V.toD]; rw [listM_congr fun x hx => (toC_L (L := L) (L' := L') deep x (h' x hx)).1], ?_⟩
    simp only [V.cells, List.flatMap_eq_nil_iff]
    exact fun x hx => (toC_L (L := L) (L' := L') deep x (h' x hx)).2.1
  | tu l => exact ⟨rfl, rfl⟩

theorem argsOf_L {L L' : Nat → Option Obj} : ∀ {args : List (Bool × V)}, (∀ x ∈ args, x.2.refs = []) → argsOf L args = argsOf L' args ∧ ∀ vs ds rs, argsOf L args = some (vs, ds, rs) → ds = [] ∧ rs = []
  | [], _ => by simp [argsOf]
  | (true, x) :: xs, h => by
    obtain ⟨h1, h2⟩ : argsOf L xs = argsOf L' xs ∧ _ := argsOf_L fun y hy => h y (by simp [hy])
    have hx := h (true, x) (by simp)
    simp only at hx
    refine ⟨by simp only [argsOf, h1], fun vs ds rs e => ?_⟩
    simp only [argsOf] at e
    split at e
    · cases e
    · cases e
    · rename_i y vs' ds' rs' _ hq
      simp only [Option.some.injEq, Prod.mk.injEq] at e
      obtain ⟨_, rfl, rfl⟩ := e
      obtain ⟨h3, h4⟩ := h2 _ _ _ hq
      exact ⟨h3, by simp [hx, h4]⟩
  | (false, x) :: xs, h => by
    obtain ⟨h1, h2⟩ : argsOf L xs = argsOf L' xs ∧ _ := argsOf_L fun y hy => h y (by simp [hy])
    obtain ⟨h3, h4⟩ := toD_L (L := L) (L' := L') (h (false, x) (by simp))
    have h5 := (toD_L (L := L') (L' := L) (h (false, x) (by simp))).2
    simp only at h4 h5
    refine ⟨by simp only [argsOf, h1]; simp only at h3; rw [h3, h4, h5], fun vs ds rs e => ?_⟩
    simp only [argsOf] at e
    split at e
    · rename_i d vs' ds' rs' _ hq
      simp only [Option.some.injEq, Prod.mk.injEq] at e
      obtain ⟨_, rfl, rfl⟩ := e
      obtain ⟨h7, h6⟩ := h2 _ _ _ hq
      exact ⟨by simp [h4, h7], h6⟩
    · cases e

end
end Go.Vs
