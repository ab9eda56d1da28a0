/- The value semantics, 21: what an operation depends on. -/
import Derived.Test.YtchkkbbchpnabaaGreatDoorM2c
import Derived.Orders
import Derived.RangeFuncNested
import Derived.RangeFuncLeaves
import Derived.IntWalk
set_option linter.unusedSimpArgs false
set_option linter.unusedVariables false
set_option linter.deprecated false

/- The value semantics, 21: what an operation depends on. -/
namespace Go.Vs
open Go

def Opd.tmps : Opd → List Nat
  | .t n => [n]
  | _ => []

def optTmps : Option Opd → List Nat
  | some x => x.tmps
  | none => []

def VOp.tmps : VOp → List Nat
  | .mv x | .un _ x | .box x | .load _ _ x | .fld _ x | .part _ _ _ x | .len _ x | .ldD _ _ x | .mvD x | .appN _ _ x | .boxD x | .cvB x | .cvS x | .clr _ _ x | .mkS _ _ _ x | .ext _ x | .cvI _ x | .ifc _ x | .nn x => x.tmps
  | .pick c x y | .upM _ c x y => c.tmps ++ x.tmps ++ y.tmps
  | .bin _ _ x y | .store _ x y _ | .idxA _ x y | .idxAA _ _ x y | .idxS x y | .mx x y | .mn x y | .app _ _ _ x y | .cp _ x y | .appF _ _ x y | .lkM _ _ _ _ x y => x.tmps ++ y.tmps
  | .new _ _ | .newA _ _ | .bad | .mkE | .mkM | .newM => []
  | .build _ ps | .bldD _ ps => ps.flatMap fun p => p.2.2.tmps
  | .mkSl _ xs | .fn _ xs => xs.flatMap Opd.tmps
  | .slS x lo hi | .slA _ _ x lo hi => x.tmps ++ optTmps lo ++ optTmps hi
  | .sl _ x lo hi m3 => x.tmps ++ optTmps lo ++ optTmps hi ++ optTmps m3
  | .call f args _ => f.tmps ++ args.flatMap fun x => x.2.tmps

def VOper.tmps (o : VOper) : List Nat := (match o.guard with | some (t, _) => [t] | none => []) ++ o.op.tmps

section
variable {C : Ctx} {E E' : Nat → Option V} {L L' : Nat → Option Obj}

theorem Opd.val_congr {x : Opd} (h : ∀ t ∈ x.tmps, E t = E' t) : x.val C E = x.val C E' := by
  cases x <;> grind [Opd.val, Opd.tmps]

theorem opt_congr {x : Option Opd} (h : ∀ t ∈ optTmps x, E t = E' t) : x.map (·.val C E) = x.map (·.val C E') := by
  cases x with
  | none => rfl
  | some x => simp only [Option.map_some]; rw [Opd.val_congr (fun t ht => h t ht)]

theorem listM_congr {α γ : Type} {f g : α → Option γ} : ∀ {l : List α}, (∀ x ∈ l, f x = g x) → listM f l = listM g l
  | [], _ => rfl
  | x :: l, h => by simp only [listM]; rw [h x (by simp), listM_congr (fun y hy => h y (by grind))]

theorem exec1_E {op : VOp} {oid : Nat} (h : ∀ t ∈ op.tmps, E t = E' t) : exec1 C E L oid op = exec1 C E' L oid op := by
  cases op <;> simp only [VOp.tmps, List.mem_append] at h <;> simp only [exec1]
  grind [Opd.val_congr]
  grind [Opd.val_congr]
  grind [Opd.val_congr]
  grind [Opd.val_congr]
  grind [Opd.val_congr]
  case build zero ps =>
    have e : listM (partOf C E) ps = listM (partOf C E') ps := listM_congr fun x hx => by
      grind [partOf, Opd.val_congr]
    show (match listM (partOf C E) ps with | none => none | some ps => (fillW zero ps).map fun cs => (V.ag cs, ([] : Upd))) = _
    rw [e]; rfl
  case bldD zero ps =>
    have e : listM (partOf C E) ps = listM (partOf C E') ps := listM_congr fun x hx => by
      grind [partOf, Opd.val_congr]
    show (match listM (partOf C E) ps with | none => none | some ps => (fillW zero ps).bind fun cs => sealV L (V.ag cs)) = _
    rw [e]; rfl
  case mkSl s xs =>
    have e : listM (rowOf C E s) xs = listM (rowOf C E' s) xs := listM_congr fun x hx => by
      grind [rowOf, Opd.val_congr]
    show (match L oid with
      | some _ => none
      | none => match listM (rowOf C E s) xs with
        | none => none
        | some rows => some (V.sc (W.arr oid rows.length), [(oid, some (Obj.arr s rows 0))])) = _
    rw [e]; rfl
  grind [Opd.val_congr]
  grind [Opd.val_congr]
  grind [Opd.val_congr]
  grind [Opd.val_congr]
  grind [Opd.val_congr]
  grind [Opd.val_congr]
  grind [Opd.val_congr]
  case slS x lo hi => rw [Opd.val_congr fun t ht => h t (.inl (.inl ht)), opt_congr fun t ht => h t (.inl (.inr ht)), opt_congr fun t ht => h t (.inr ht)]
  grind [Opd.val_congr, opt_congr]
  grind [Opd.val_congr]
  grind [Opd.val_congr]
  grind [Opd.val_congr]
  grind [Opd.val_congr]
  grind [Opd.val_congr]
  grind [List.map_congr_left, Opd.val_congr]
  grind [Opd.val_congr, vals, List.map_congr_left]
  grind [Opd.val_congr]
  grind [Opd.val_congr]
  grind [Opd.val_congr]
  grind [Opd.val_congr]
  case lkM kd zero one ok m x => rw [Opd.val_congr fun t ht => h t (.inl ht), Opd.val_congr fun t ht => h t (.inr ht)]
  case upM kd m x y => rw [Opd.val_congr fun t ht => h t (.inl (.inl ht)), Opd.val_congr fun t ht => h t (.inl (.inr ht)), Opd.val_congr fun t ht => h t (.inr ht)]
  case boxD x => rw [Opd.val_congr h]
  case ldD ag n x => rw [Opd.val_congr h]
  case mvD x => rw [Opd.val_congr h]
  case cvB x => rw [Opd.val_congr h]
  case cvS x => rw [Opd.val_congr h]
  case slA s n x lo hi => rw [Opd.val_congr fun t ht => h t (.inl (.inl ht)), opt_congr fun t ht => h t (.inl (.inr ht)), opt_congr fun t ht => h t (.inr ht)]
  case clr s zero x => rw [Opd.val_congr h]
  case appN s bytes x => rw [Opd.val_congr h]
  case appF s bytes x y => grind [Opd.val_congr]
  grind [Opd.val_congr]

theorem runO_E {o : VOper} (h : ∀ t ∈ o.tmps, E t = E' t) : runO C o E L = runO C o E' L := by
  have h1 : exec1 C E L o.oid o.op = exec1 C E' L o.oid o.op := exec1_E fun t ht => h t (by simp [VOper.tmps, ht])
  grind [runO, VOper.tmps]

theorem recO_E {o : VOper} {u : Upd} (h : ∀ t ∈ o.tmps, E t = E' t) : recO C E L o u = recO C E' L o u := by
  have h' : ∀ t ∈ o.op.tmps, E t = E' t := fun t ht => h t (by simp [VOper.tmps, ht])
  unfold recO
  split
  rfl
  · cases hop : o.op <;> rw [hop] at h' <;> simp only [VOp.tmps, List.mem_append] at h' <;> try rfl
    grind
    grind [Opd.val_congr]
    case lkM kd zero one ok m x => grind [Opd.val_congr]
    case upM kd m x y => grind [Opd.val_congr]
    case fld off x => grind [Opd.val_congr]
    case nn x => grind [Opd.val_congr]
    case ldD ag n x => grind [Opd.val_congr]
    grind [Opd.val_congr]
    case len str x => grind [Opd.val_congr]
    case clr s zero x => grind [Opd.val_congr]
    case cvS x => grind [Opd.val_congr]
    case slA s n x lo hi => grind [Opd.val_congr]
    grind [Opd.val_congr]
    grind [Opd.val_congr]
    grind [Opd.val_congr]
    grind [Opd.val_congr]
    case cp s x y => grind [Opd.val_congr]
    case appN s bytes x => grind [Opd.val_congr]
    case appF s bytes x y => grind [Opd.val_congr]
    case call f args own =>
      cases own with
      | cons _ _ => rfl
      | nil =>
        have e : vals C E args = vals C E' args := List.map_congr_left fun x hx => by
          grind [Opd.val_congr]
        grind [Opd.val_congr]

/- ## Objects -/

theorem toC_L : ∀ (d : Nat) (x : W), W.refs d x = [] → W.toC L d x = W.toC L' d x ∧ W.ids L d x = [] ∧ W.ids L' d x = [] := by
  intro d
  induction d with
  | zero => intro x h; cases x <;> simp_all [W.refs, W.toC, W.ids]
  | succ d ih =>
    have hl : ∀ l : List W, l.flatMap (W.refs d) = [] → listM (W.toC L d) l = listM (W.toC L' d) l ∧ l.flatMap (W.ids L d) = [] ∧ l.flatMap (W.ids L' d) = [] := by
      grind [List.flatMap_eq_nil_iff, listM_congr]
    intro x h
    cases x <;> simp only [W.refs, reduceCtorEq] at h <;> grind [List.flatMap_eq_nil_iff, W.toC, W.ids, listM_congr]

theorem toD_L {x : V} (h : x.refs = []) : x.toD L = x.toD L' ∧ x.cells.flatMap (W.ids L deep) = [] := by
  cases x with
  | sc x =>
    grind [V.refs, V.cells, toC_L, V.toD]
  | ag cs =>
    have h' : ∀ x ∈ cs, W.refs deep x = [] := by grind [V.refs, V.cells, List.flatMap_eq_nil_iff]
    refine ⟨by grind [V.toD, listM_congr, toC_L], ?_⟩
    simp only [V.cells, List.flatMap_eq_nil_iff]
    exact fun x hx => (toC_L (L := L) (L' := L') deep x (h' x hx)).2.1
  | tu l => exact ⟨rfl, rfl⟩

theorem argsOf_L {L L' : Nat → Option Obj} : ∀ {args : List (Bool × V)}, (∀ x ∈ args, x.1 = true ∨ x.2.refs = []) → argsOf L args = argsOf L' args ∧ ∀ vs ds rs, argsOf L args = some (vs, ds, rs) → ds = []
  | [], _ => ⟨rfl, fun vs ds rs h => by simp only [argsOf, Option.some.injEq, Prod.mk.injEq] at h; grind⟩
  | (true, x) :: xs, h => by
    obtain ⟨h1, h2⟩ : argsOf L xs = argsOf L' xs ∧ _ := argsOf_L fun y hy => h y (by grind)
    refine ⟨by simp only [argsOf, h1], fun vs ds rs e => ?_⟩
    simp only [argsOf] at e
    grind
  | (false, x) :: xs, h => by
    obtain ⟨h1, h2⟩ : argsOf L xs = argsOf L' xs ∧ _ := argsOf_L fun y hy => h y (by grind)
    have hx : x.refs = [] := by simp_all
    obtain ⟨h3, h4⟩ := toD_L (L := L) (L' := L') hx
    have h5 := (toD_L (L := L') (L' := L) hx).2
    refine ⟨by simp only [argsOf, h1]; grind, fun vs ds rs e => ?_⟩
    simp only [argsOf] at e
    grind

end
end Go.Vs

/- The value semantics, 22: which objects an operation depends on. -/
namespace Go.Vs
open Go

section
variable {C : Ctx} {E : Nat → Option V} {L L' : Nat → Option Obj}

theorem ownW_nil {oid : Nat} : ∀ (l : List W) (j : Nat), ownW oid [] j l = (l, [])
  | [], _ => rfl
  | x :: r, j => by
    simp only [ownW, ownW_nil r (j + 1)]
    grind [get?]

theorem ownArgs_nil {oid : Nat} : ∀ (l : List (Bool × V)) (j : Nat), ownArgs oid [] j l = (l, [])
  | [], _ => rfl
  | (b, x) :: r, j => by
    simp only [ownArgs, ownArgs_nil r (j + 1)]
    grind [get?]

theorem rowsOf_L {x : V} (h : ∀ k ∈ x.direct, L k = L' k) : rowsOf L x = rowsOf L' x := by
  cases x with
  | sc x => cases x with
    | arr k n => grind [rowsOf, V.direct]
    | vw k N lo n => simp only [rowsOf, h k (by simp [V.direct])]
    | c y => cases y <;> rfl
    | _ => rfl
  | _ => rfl

theorem lenV_L {x : V} (h : ∀ k ∈ x.direct, L k = L' k) : lenV L x = lenV L' x := by
  cases x with
  | sc x => cases x with
    | arr k n => grind [lenV, V.direct]
    | vw k N lo n => simp only [lenV, h k (by simp [V.direct])]
    | c y => cases y <;> rfl
    | _ => rfl
  | _ => rfl

theorem elOk_L {k N i : Nat} (h : L k = L' k) : elOk L k N i = elOk L' k N i := by simp only [elOk, h]

theorem onBy_L {x : V} {n : Nat} (h : ∀ k ∈ x.direct, L k = L' k) : onBy L n x = onBy L' n x := by
  cases x with
  | sc x => cases x with
    | el k N i o => grind [onBy, elOk_L, V.direct]
    | c y => cases y <;> rfl
    | _ => rfl
  | _ => rfl

theorem slice1_L {s : Nat} {x : V} {lo hi m3 : Option V} (h : ∀ k ∈ x.direct, L k = L' k) : slice1 L s x lo hi m3 = slice1 L' s x lo hi m3 := by
  cases x with
  | sc x => cases x with
    | arr k n => simp only [slice1, h k (by simp [V.direct])]
    | vw k N lo n => grind [slice1, V.direct]
    | c y => cases y <;> rfl
    | _ => rfl
  | _ => rfl

theorem append1_L {oid s bytes : Nat} {mk : Bool} {x y : V} (h0 : L oid = L' oid) (hx : ∀ k ∈ x.direct, L k = L' k) (hy : ∀ k ∈ y.direct, L k = L' k) : append1 L oid s bytes mk x y = append1 L' oid s bytes mk x y := by
  unfold append1
  rw [rowsOf_L hy]
  cases rowsOf L' y with
  | none => rfl
  | some ys =>
    dsimp only
    congr 1
    cases x with
    | sc x => cases x with
      | arr k n => simp only [hx k (by simp [V.direct])]
      | vw k N lo n => cases lo <;> simp only [hx k (by simp [V.direct])]
      | nil => simp only [h0]
      | full rows => simp only [h0]
      | _ => rfl
    | _ => rfl

theorem copy1_L {s : Nat} {x y : V} (hx : ∀ k ∈ x.direct, L k = L' k) (hy : ∀ k ∈ y.direct, L k = L' k) : copy1 L s x y = copy1 L' s x y := by
  unfold copy1
  rw [rowsOf_L hy]
  cases rowsOf L' y with
  | none => rfl
  | some ys =>
    dsimp only
    congr 1
    cases x with
    | sc x => cases x with
      | arr k n => simp only [hx k (by simp [V.direct])]
      | _ => rfl
    | _ => rfl

theorem updOf_keys : ∀ {ids : List Nat} {os : List Obj}, ids.length = os.length → (updOf ids os).map (·.1) = ids
  | [], os, _ => by rfl
  | k :: ks, [], h => by grind
  | k :: ks, o :: os, h => by simp only [updOf, List.map_cons, updOf_keys (ids := ks) (os := os) (by grind)]

theorem reach_nil (L : Nat → Option Obj) : reach L [] = [] := rfl

theorem growRefs_sub {L : Nat → Option Obj} {ks : List Nat} : ∀ k ∈ ks, k ∈ growRefs L ks := fun k hk => by
  grind [growRefs, nubs_mem]

theorem growRefs_local {ks : List Nat} (h : ∀ k ∈ ks, L k = L' k) : growRefs L ks = growRefs L' ks := by
  unfold growRefs
  congr 2
  rw [List.flatMap_def, List.flatMap_def]
  congr 1
  exact List.map_congr_left fun k hk => by rw [h k hk]

theorem reachN_sub {L : Nat → Option Obj} : ∀ (n : Nat) (ks : List Nat), ∀ k ∈ ks, k ∈ reachN L n ks
  | 0, _, _, h => h
  | n + 1, ks, k, h => by
    simp only [reachN]
    cases (growRefs L ks).length == ks.length with
    | true => exact h
    | false => exact reachN_sub n _ k (growRefs_sub k h)

theorem reachN_local : ∀ (n : Nat) (ks : List Nat), (∀ k ∈ reachN L n ks, L k = L' k) → reachN L n ks = reachN L' n ks
  | 0, _, _ => rfl
  | n + 1, ks, h => by
    have hk : ∀ k ∈ ks, L k = L' k := fun k hk => h k (reachN_sub _ _ k hk)
    have e := growRefs_local hk
    simp only [reachN] at h ⊢
    rw [← e]
    cases hb : (growRefs L ks).length == ks.length with
    | true => rfl
    | false =>
      rw [hb] at h
      exact reachN_local n _ h

theorem reach_sub {L : Nat → Option Obj} {ks : List Nat} : ∀ k ∈ ks, k ∈ reach L ks := fun k hk => by
  cases ks with
  | nil => grind
  | cons x r => exact reachN_sub _ _ _ (growRefs_sub _ (growRefs_sub _ (growRefs_sub _ (growRefs_sub _ hk))))

theorem reach_local {ks : List Nat} (h : ∀ k ∈ reach L ks, L k = L' k) : reach L ks = reach L' ks := by
  cases ks with
  | nil => rfl
  | cons x r =>
    simp only [reach] at h ⊢
    have h4 : ∀ k ∈ growRefs L (growRefs L (growRefs L (growRefs L (x :: r)))), L k = L' k := fun k hk => h k (reachN_sub _ _ k hk)
    have e : growRefs L (growRefs L (growRefs L (growRefs L (x :: r)))) = growRefs L' (growRefs L' (growRefs L' (growRefs L' (x :: r)))) := by
      grind [growRefs_sub, growRefs_local]
    rw [reachN_local _ _ h, e]

theorem nodup_le : ∀ {l m : List Nat}, l.Nodup → (∀ k ∈ l, k ∈ m) → l.length ≤ m.length
  | [], _, _, _ => by simp
  | x :: r, m, hn, hs => by
    rw [List.nodup_cons] at hn
    have hx : x ∈ m := hs x (by simp)
    have h := nodup_le (l := r) (m := m.erase x) hn.2 fun k hk => by
      grind
    grind

theorem nodup_all {l m : List Nat} (hn : l.Nodup) (hs : ∀ k ∈ l, k ∈ m) (he : m.length ≤ l.length) : ∀ k ∈ m, k ∈ l := by
  intro k hk
  by_cases h : k ∈ l
  omega
  · have := nodup_le (l := k :: l) (m := m) (List.nodup_cons.2 ⟨h, hn⟩) (by
      grind)
    grind

theorem flatMap_congr' {α γ : Type} {f g : α → List γ} {l : List α} (h : ∀ x ∈ l, f x = g x) : l.flatMap f = l.flatMap g := by
  grind [List.map_congr_left]

theorem toC_local : ∀ (d : Nat) (x : W), (∀ k ∈ W.ids L d x, L k = L' k) → W.toC L d x = W.toC L' d x ∧ W.ids L d x = W.ids L' d x := by
  intro d
  induction d with
  | zero => intro x _; cases x <;> simp [W.toC, W.ids]
  | succ d ih =>
    intro x h
    have rowf : ∀ r : List W, (∀ k ∈ r.flatMap (W.ids L d), L k = L' k) → listM (W.toC L d) r = listM (W.toC L' d) r ∧ r.flatMap (W.ids L d) = r.flatMap (W.ids L' d) := by
      grind [listM_congr, flatMap_congr']
    have rowsf : ∀ rows : List (List W), (∀ k ∈ rows.flatMap (·.flatMap (W.ids L d)), L k = L' k) → (∀ r ∈ rows, listM (W.toC L d) r = listM (W.toC L' d) r) ∧ rows.flatMap (·.flatMap (W.ids L d)) = rows.flatMap (·.flatMap (W.ids L' d)) := by
      grind [flatMap_congr']
    cases x <;> simp only [W.toC, W.ids] <;> first | exact ⟨trivial, trivial⟩ | exact ⟨rfl, rfl⟩ | skip
    grind [W.ids, listM_congr]
    grind [W.ids, listM_congr]
    grind [W.ids, listM_congr]
    grind [W.ids]

theorem toD_local {v : V} (h : ∀ k ∈ v.cells.flatMap (W.ids L deep), L k = L' k) : v.toD L = v.toD L' ∧ v.cells.flatMap (W.ids L deep) = v.cells.flatMap (W.ids L' deep) := by
  have hx : ∀ x ∈ v.cells, W.toC L deep x = W.toC L' deep x ∧ W.ids L deep x = W.ids L' deep x := fun x hx => toC_local deep x fun k hk => h k (List.mem_flatMap.2 ⟨x, hx, hk⟩)
  refine ⟨?_, flatMap_congr' fun x h' => (hx x h').2⟩
  cases v <;> grind [V.toD, V.cells, listM_congr]

theorem pubUpd_local {all : List Nat} (h : ∀ k ∈ all, L k = L' k) : ∀ {ks : List Nat} {p : Upd}, (∀ k ∈ ks, k ∈ all) → pubUpd L all ks = some p → pubUpd L' all ks = some p
  | [], p, _, hp => hp
  | k :: ks, p, hs, hp => by
    simp only [pubUpd] at hp ⊢
    rw [← h k (hs k (by simp))]
    cases hL : L k with
    | none => grind
    | some o => cases o with
      | box _ => grind
      | mp _ => grind
      | arr s rows q =>
        simp only [hL] at hp ⊢
        cases hc : listM (listM (W.toC L deep)) rows with
        | none => grind
        | some cs =>
          simp only [hc] at hp
          cases hb : (rows.all fun q => q.all fun x => (W.ids L deep x).all fun j => all.contains j) with
          | false => grind
          | true =>
            rw [hb] at hp
            simp only [cond_true] at hp
            have hin : ∀ r ∈ rows, ∀ x ∈ r, ∀ j ∈ W.ids L deep x, L j = L' j := by
              intro r hr x hx j hj
              have h3 := List.all_eq_true.1 hb r hr
              grind
            have hl : ∀ r ∈ rows, ∀ x ∈ r, W.toC L deep x = W.toC L' deep x ∧ W.ids L deep x = W.ids L' deep x := fun r hr x hx => toC_local deep x fun j hj => hin r hr x hx j hj
            have e1 : listM (listM (W.toC L' deep)) rows = some cs := by
              grind [listM_congr]
            have e2 : (rows.all fun q => q.all fun x => (W.ids L' deep x).all fun j => all.contains j) = true := by
              grind
            rw [e1]
            simp only [e2, cond_true]
            obtain ⟨p', hp', rfl⟩ := Option.map_eq_some_iff.1 hp
            rw [pubUpd_local h (fun j hj => hs j (by grind)) hp']
            rfl

theorem load1_L {ag : Bool} {n : Nat} {x : V} (h : ∀ k ∈ x.direct, L k = L' k) : load1 L ag n x = load1 L' ag n x := by
  cases x with
  | sc y => cases y with
    | ptr k f => simp only [load1, h k (by simp [V.direct])]
    | el k N i f => simp only [load1, h k (by simp [V.direct])]
    | c y => cases y <;> rfl
    | _ => rfl
  | _ => rfl

theorem pubUpd_keys {all : List Nat} : ∀ {ks : List Nat} {p : Upd}, pubUpd L all ks = some p → p.map (·.1) = ks
  | [], p, h => by grind [pubUpd]
  | k :: ks, p, h => by
    simp only [pubUpd] at h
    cases hL : L k with
    | none => grind
    | some o => cases o with
      | box _ => grind
      | mp _ => grind
      | arr s rows q =>
        simp only [hL] at h
        cases hc : listM (listM (W.toC L deep)) rows with
        | none => grind
        | some cs =>
          simp only [hc] at h
          cases hb : (rows.all fun q => q.all fun x => (W.ids L deep x).all fun j => all.contains j) with
          | false => grind
          | true =>
            rw [hb] at h
            simp only [cond_true] at h
            obtain ⟨p', hp', rfl⟩ := Option.map_eq_some_iff.1 h
            simp only [List.map_cons, pubUpd_keys hp']

theorem sealV_local {x d : V} {p : Upd} (h : sealV L x = some (d, p)) (hL : ∀ k ∈ p.map (·.1), L k = L' k) : sealV L' x = some (d, p) := by
  grind [sealV, Option.map_eq_some_iff, pubUpd_keys, toD_local, nubs_mem, pubUpd_local]

theorem dataIds_local : ∀ {l : List (Bool × V)}, (∀ k ∈ dataIds L l, L k = L' k) → dataIds L l = dataIds L' l ∧ argsOf L l = argsOf L' l
  | [], _ => ⟨rfl, rfl⟩
  | (true, v) :: r, h => by
    obtain ⟨h1, h2⟩ := dataIds_local (l := r) h
    exact ⟨h1, by simp only [argsOf, h2]⟩
  | (false, v) :: r, h => by
    simp only [dataIds, List.mem_append] at h
    obtain ⟨h1, h2⟩ := dataIds_local (l := r) fun k hk => h k (.inr hk)
    obtain ⟨h3, h4⟩ := toD_local (v := v) fun k hk => h k (.inl hk)
    exact ⟨by grind [dataIds], by simp only [argsOf, h2, h3, h4]⟩

theorem argsOf_ds : ∀ {l : List (Bool × V)} {vs : List V} {ds rs : List Nat}, argsOf L l = some (vs, ds, rs) → ds = dataIds L l
  | [], _, _, _, h => by
    simp only [argsOf, Option.some.injEq, Prod.mk.injEq] at h
    exact h.2.1.symm
  | (true, v) :: r, vs, ds, rs, h => by
    simp only [argsOf] at h
    split at h
    grind
    grind
    · rename_i hq
      simp only [Option.some.injEq, Prod.mk.injEq] at h
      rw [← h.2.1]
      exact argsOf_ds (l := r) hq
  | (false, v) :: r, vs, ds, rs, h => by
    simp only [argsOf] at h
    split at h
    · rename_i hq
      simp only [Option.some.injEq, Prod.mk.injEq] at h
      rw [← h.2.1, argsOf_ds (l := r) hq]
      rfl
    grind

/-- A call looks at what it is handed as data, and at those objects that it can reach by reference. -/
theorem call1_local {call : Oracle} {oid : Nat} {f : V} {args : List (Bool × V)} {g : FuncId} {caps : List (Bool × V)} (hc : calleeOf f = some (g, caps)) {v : V} {u : Upd} (h : call1 call L oid f args = some (v, u))
    (hL : ∀ k ∈ dataIds L (args ++ caps) ++ u.map (·.1), L k = L' k) : call1 call L' oid f args = some (v, u) := by
  unfold call1 at h ⊢
  rw [hc] at h ⊢
  simp only at h ⊢
  simp only [List.mem_append] at hL
  obtain ⟨hd1, hd2⟩ := dataIds_local (L := L) (L' := L') (l := args ++ caps) fun k hk => hL k (.inl hk)
  rw [← hd2]
  cases hq : argsOf L (args ++ caps) with
  | none => grind
  | some q =>
    obtain ⟨vs, ds, rs⟩ := q
    rw [hq] at h
    have hds := argsOf_ds hq
    have hdsL : ∀ k ∈ ds, L k = L' k := fun k hk => hL k (.inl (by grind))
    simp only at h ⊢
    cases hos : listM L (reach L rs) with
    | none => grind
    | some os =>
      rw [hos] at h
      simp only at h
      cases hg : ((reach L rs).all (fun k => !ds.contains k) && (reach L (reach L rs)).length == (reach L rs).length) with
      | false => grind
      | true =>
        rw [hg] at h
        simp only [cond_true] at h
        cases hcall : call g (vs.map (V.ren (indexIn (reach L rs)))) (os.map (Obj.ren (indexIn (reach L rs)))) with
        | none => rw [hcall] at h; cases h
        | some q =>
          obtain ⟨rv, os'⟩ := q
          rw [hcall] at h
          simp only at h
          cases hb : (Nat.ble (reach L rs).length os'.length && (os.zip os').all (fun x => sameKind x.1 x.2) && (newIds oid 0 (os'.length - (reach L rs).length)).all (fun k => (L k).isNone)) with
          | false => grind
          | true =>
            rw [hb] at h
            simp only [cond_true] at h
            have hb' := hb
            simp only [Bool.and_eq_true] at hb'
            obtain ⟨⟨hb1, hb2⟩, hb3⟩ := hb'
            have hble := Nat.le_of_ble_eq_true hb1
            have hkeys : (updOf (reach L rs ++ newIds oid 0 (os'.length - (reach L rs).length)) (os'.map (Obj.ren fun i => (reach L rs ++ newIds oid 0 (os'.length - (reach L rs).length))[i]?))).map (·.1) = reach L rs ++ newIds oid 0 (os'.length - (reach L rs).length) := by
              grind [updOf_keys, newIds_spec]
            -- what the two branches say of the objects
            have fin : (∀ k ∈ reach L rs ++ newIds oid 0 (os'.length - (reach L rs).length), L k = L' k) → reach L rs = reach L' rs ∧ listM L' (reach L rs) = some os ∧ (reach L (reach L rs)).length = (reach L' (reach L rs)).length ∧ (newIds oid 0 (os'.length - (reach L rs).length)).all (fun k => (L' k).isNone) = true := by
              intro hall
              have hids : ∀ k ∈ reach L rs, L k = L' k := fun k hk => hall k (List.mem_append_left _ hk)
              grind [nodup_all, reach_nodup, reach_sub, reach_local, listM_congr]
            cases ds with
            | nil =>
              grind
            | cons d ds =>
              simp only at h
              cases hf : (flatV rv && (reach L rs).isEmpty && (newIds oid 0 (os'.length - (reach L rs).length)).isEmpty) with
              | true =>
                grind
              | false =>
                rw [hf] at h
                simp only [cond_false] at h
                cases hp : pubUpd L (d :: ds) (d :: ds) with
                | none => grind
                | some p =>
                  rw [hp] at h
                  simp only [Option.some.injEq, Prod.mk.injEq] at h
                  obtain ⟨f1, f2, f3, f4⟩ := fin fun k hk => hL k (.inr (by grind))
                  rw [← f1, f2]
                  simp only
                  rw [← f3, hg]
                  simp only [cond_true]
                  rw [hcall]
                  simp only
                  rw [hb1, hb2, f4]
                  simp only [Bool.and_self, cond_true, hf, cond_false]
                  rw [pubUpd_local hdsL (fun _ h => h) hp]
                  grind

theorem store_local {n oid : Nat} {own : List (Nat × Nat)} {v a r : V} {u : Upd} (h : (let y := ownW oid own 0 v.cells
      bif v.cells.length == n && v.cells.all notUn && y.2.all (fun u => (L u.1).isNone) then match a with
      | .sc (.ptr k off) => match L k with
        | some (.box cells) => (splice cells off y.1).map fun cs => (V.sc .un, y.2 ++ [(k, some (.box cs))])
        | _ => none
      | .sc (.el k N i off) => match L k with
        | some (.arr s rows p) => bif rows.length == N && Nat.ble p i then match rows[i]? with
          | some row => (splice row off y.1).map fun cs => (.sc .un, y.2 ++ [(k, some (.arr s (setRow rows i cs) p))])
          | none => none
          else none
        | _ => none
      | _ => none
      else none) = some (r, u)) (hL : ∀ k, k ∈ a.direct ∨ k ∈ u.map (fun x : Nat × Option Obj => x.1) → L k = L' k) : (let y := ownW oid own 0 v.cells
      bif v.cells.length == n && v.cells.all notUn && y.2.all (fun u => (L' u.1).isNone) then match a with
      | .sc (.ptr k off) => match L' k with
        | some (.box cells) => (splice cells off y.1).map fun cs => (V.sc .un, y.2 ++ [(k, some (.box cs))])
        | _ => none
      | .sc (.el k N i off) => match L' k with
        | some (.arr s rows p) => bif rows.length == N && Nat.ble p i then match rows[i]? with
          | some row => (splice row off y.1).map fun cs => (.sc .un, y.2 ++ [(k, some (.arr s (setRow rows i cs) p))])
          | none => none
          else none
        | _ => none
      | _ => none
      else none) = some (r, u) := by
  simp only at h ⊢
  generalize ownW oid own 0 v.cells = y at h ⊢
  cases hb : (v.cells.length == n && v.cells.all notUn && y.2.all (fun u => (L u.1).isNone)) with
  | false => grind
  | true =>
    rw [hb] at h
    simp only [cond_true] at h
    have hb' := hb
    simp only [Bool.and_eq_true] at hb'
    have hall : (∀ x ∈ y.2, x.1 ∈ u.map (fun x : Nat × Option Obj => x.1)) → y.2.all (fun u => (L' u.1).isNone) = true := by
      grind
    have hcond : (∀ x ∈ y.2, x.1 ∈ u.map (fun x : Nat × Option Obj => x.1)) → (v.cells.length == n && v.cells.all notUn && y.2.all (fun u => (L' u.1).isNone)) = true := fun hk => by
      grind
    cases a with
    | sc a => cases a with
      | ptr k off =>
        grind [Option.map_eq_some_iff]
      | el k M i off =>
        simp only at h ⊢
        rw [← hL k (.inl (by simp [V.direct]))]
        cases hk : L k with
        | none => grind
        | some o => cases o with
          | box _ => grind
          | mp _ => grind
          | arr s rows p =>
            simp only [hk] at h ⊢
            grind [Option.map_eq_some_iff]
      | _ => simp at h
    | _ => simp at h

theorem exec1_L {o : VOper} (hown : o.own = []) {v : V} {u : Upd} (h : exec1 C E L o.oid o.op = some (v, u)) (ha : (recO C E L o u).1 = false) (hL : ∀ k ∈ (recO C E L o u).2, L k = L' k) : exec1 C E L' o.oid o.op = some (v, u) := by
  unfold recO at ha hL
  rw [hown] at ha hL
  simp only at ha hL
  cases hop : o.op <;> rw [hop] at h ha hL <;> simp only [plainOp, cond_true, cond_false, reduceCtorEq] at ha hL
  case load ag n x =>
    grind [exec1, V.direct]
  case fld n x => grind [exec1, onBy_L]
  case nn x =>
    grind [exec1, elOk_L, V.direct]
  case store n a x own =>
    simp only [List.mem_append] at hL
    simp only [exec1] at h ⊢
    cases hx : x.val C E with
    | tu l => rw [hx] at h; simp at h
    | sc y => rw [hx] at h; exact store_local h hL
    | ag y => rw [hx] at h; exact store_local h hL
  case cp s x y =>
    grind [exec1, copy1_L]
  case appN s bytes y =>
    grind [exec1, rowsOf_L, append1_L, V.direct]
  case appF s bytes x y =>
    grind [exec1, rowsOf_L, append1_L, V.direct]
  case bldD zero ps =>
    grind [exec1, Option.bind_eq_some_iff, sealV_local]
  case mvD x =>
    grind [exec1, sealV_local]
  case ldD ag n x =>
    grind [exec1, Option.bind_eq_some_iff, load1_L, sealV_local]
  case cvS x => grind [exec1, rowsOf_L]
  case newM => rw [← h]; simp only [exec1, hL o.oid (by simp)]
  case lkM kd zero one ok m x => grind [exec1, V.direct]
  case upM kd m x y => grind [exec1, V.direct]
  case slA s n x lo hi =>
    grind [exec1, V.direct]
  case clr s zero x =>
    grind [exec1, V.direct]
  case idxA s x i =>
    rw [← h]
    simp only [exec1]
    generalize x.val C E = y at hL
    cases y with
    | sc y => cases y with
      | arr k n => simp only [hL k (by simp [V.direct])]
      | vw k N lo n => simp only [hL k (by simp [V.direct])]
      | c y => cases y <;> rfl
      | _ => rfl
    | _ => rfl
  case idxAA s len x i => grind [exec1, onBy_L]
  case len str x => grind [exec1, lenV_L]
  case sl s x lo hi m3 => grind [exec1, slice1_L]
  case new cells own =>
    grind [exec1, ownW_nil]
  case box x => rw [← h]; simp only [exec1, hL o.oid (by simp)]
  case mkSl s xs => rw [← h]; simp only [exec1, hL o.oid (by simp)]
  case mkS s bytes zero n => grind [exec1]
  case newA n zero => grind [exec1]
  case app s bytes mk x y =>
    grind [exec1, append1_L]
  case call f args own =>
    cases own with
    | cons _ _ => grind
    | nil =>
      simp only at ha hL
      simp only [exec1, ownArgs_nil, List.all_nil, cond_true, updL] at h ⊢
      grind [call1_local]
  all_goals first | exact h | (simp at ha; done)

theorem recO_L {o : VOper} {u : Upd} (_ : (recO C E L o u).1 = false) (hL : ∀ k ∈ (recO C E L o u).2, L k = L' k) : recO C E L o u = recO C E L' o u := by
  unfold recO at hL ⊢
  split
  rfl
  · rename_i hown
    rw [hown] at hL
    simp only at hL
    cases hop : o.op <;> rw [hop] at hL <;> try rfl
    grind
    grind [dataIds_local]

/-- The record of an operation tells all objects that matter. -/
theorem runO_L {o : VOper} {v : V} {u : Upd} (h : runO C o E L = some (v, u)) (ha : (recO C E L o u).1 = false) (hL : ∀ k ∈ (recO C E L o u).2, L k = L' k) : runO C o E L' = some (v, u) := by
  have hown : o.own = [] := by
    grind [recO]
  have key : ∀ q, exec1 C E L o.oid o.op = some q → ownV o.oid o.own L q = some (v, u) → exec1 C E L' o.oid o.op = some (v, u) := by
    grind [ownV, exec1_L]
  have fin : ∀ {q : Option (V × Upd)}, q = some (v, u) → (match q with | none => none | some r => ownV o.oid o.own L' r) = some (v, u) := by
    grind [ownV]
  unfold runO at h ⊢
  cases hg : o.guard <;> grind

end
end Go.Vs

/- The value semantics, 23: operations that do not touch each other may come in either order. -/
namespace Go.Vs
open Go

def recOf (C : Ctx) (E : Nat → Option V) (L : Nat → Option Obj) (o : VOper) (u : Upd) : Rec := ⟨(recO C E L o u).1, (recO C E L o u).2, u.map (·.1)⟩

/-- Operations one after the other, each with what it looks at. -/
def Runs (C : Ctx) : List (VOper × Rec) → (Nat → Option V) → (Nat → Option Obj) → (Nat → Option V) → (Nat → Option Obj) → Prop
  | [], E, L, E', L' => E = E' ∧ L = L'
  | x :: os, E, L, E', L' => ∃ v u, runO C x.1 E L = some (v, u) ∧ x.2 = recOf C E L x.1 u ∧ Runs C os (updD E x.1.dst v) (updL L u) E' L'

def sApart (x y : VOper) : Bool :=
  (match x.dst with | some d => !(y.tmps.contains d) && !(y.dst == some d) | none => true) &&
  (match y.dst with | some d => !(x.tmps.contains d) | none => true)

section
variable {C : Ctx} {E E' : Nat → Option V} {L L' : Nat → Option Obj}

theorem updL_notin : ∀ {u : Upd} {L : Nat → Option Obj} {k : Nat}, k ∉ u.map (·.1) → updL L u k = L k
  | [], _, _, _ => rfl
  | (j, x) :: u, L, k, h => by
    simp only [List.map_cons, List.mem_cons, not_or] at h
    simp only [updL]
    rw [updL_notin h.2, updO_ne h.1]

theorem updL_in : ∀ {u : Upd} {L M : Nat → Option Obj} {k : Nat}, k ∈ u.map (·.1) → updL L u k = updL M u k
  | [], _, _, _, h => by grind
  | (j, x) :: u, L, M, k, h => by
    simp only [updL]
    by_cases hk : k ∈ u.map (·.1)
    · exact updL_in hk
    grind [updL_notin, updO_same]

theorem updL_comm {u u' : Upd} (h : ∀ k ∈ u.map (·.1), k ∉ u'.map (·.1)) : updL (updL L u) u' = updL (updL L u') u := by
  grind [updL_notin, updL_in]

theorem updD_ne {d : Option Nat} {v : V} {t : Nat} (h : d ≠ some t) : updD E d v t = E t := by
  cases d with
  | none => rfl
  | some d => simp only [updD, updE]; grind

theorem updD_comm {d d' : Option Nat} {v v' : V} (h : ∀ t, d = some t → d' ≠ some t) : updD (updD E d v) d' v' = updD (updD E d' v') d v := by
  cases d with
  | none => rfl
  | some d => cases d' with
    | none => rfl
    | some d' =>
      have hne : d' ≠ d := fun e => h d rfl (by rw [e])
      funext t
      simp only [updD, updE]
      grind

theorem sApart_spec {x y : VOper} (h : sApart x y = true) : (∀ t ∈ y.tmps, x.dst ≠ some t) ∧ (∀ t ∈ x.tmps, y.dst ≠ some t) ∧ ∀ t, x.dst = some t → y.dst ≠ some t := by
  grind [sApart]

theorem apart_spec {a b : List Nat} (h : apart a b = true) : ∀ k ∈ a, k ∉ b := by
  intro k hk
  have := List.all_eq_true.1 h k hk
  grind

theorem indep_spec {a b : Rec} (h : indep a b = true) : (a.all = false ∧ a.reads = [] ∧ a.keys = []) ∨ (b.all = false ∧ b.reads = [] ∧ b.keys = []) ∨
    (a.all = false ∧ b.all = false ∧ (∀ k ∈ a.reads, k ∉ b.keys) ∧ (∀ k ∈ b.reads, k ∉ a.keys) ∧ ∀ k ∈ a.keys, k ∉ b.keys) := by
  grind [indep, Rec.touch, apart_spec]

theorem Runs.swap {x y : VOper × Rec} {r : List (VOper × Rec)} (hs : sApart x.1 y.1 = true) (hi : indep x.2 y.2 = true) (h : Runs C (x :: y :: r) E L E' L') : Runs C (y :: x :: r) E L E' L' := by
  obtain ⟨x, rx⟩ := x
  obtain ⟨y, ry⟩ := y
  obtain ⟨v1, u1, h1, h2, v2, u2, h3, h4, h5⟩ := h
  simp only at hs hi h1 h2 h3 h4 h5
  obtain ⟨s1, s2, s3⟩ := sApart_spec hs
  have e1 : ∀ t ∈ y.tmps, updD E x.dst v1 t = E t := fun t ht => updD_ne (s1 t ht)
  have e2 : ∀ t ∈ x.tmps, E t = updD E y.dst v2 t := fun t ht => (updD_ne (s2 t ht)).symm
  have q1 : recO C (updD E x.dst v1) (updL L u1) y u2 = recO C E (updL L u1) y u2 := recO_E e1
  have q2 : recO C E (updL L u2) x u1 = recO C (updD E y.dst v2) (updL L u2) x u1 := recO_E e2
  rw [runO_E e1] at h3
  unfold recOf at h2 h4
  rw [q1] at h4
  have keysNil : ∀ {u : Upd}, u.map (·.1) = [] → u = [] := fun h => List.map_eq_nil_iff.1 h
  have d := indep_spec hi
  rw [h2, h4] at d
  simp only at d
  have g1 : runO C y E L = some (v2, u2) ∧ recO C E L y u2 = recO C E (updL L u1) y u2 := by
    grind [updL, runO_L, recO_L, updL_notin]
  have g2 : runO C x E (updL L u2) = some (v1, u1) ∧ recO C E L x u1 = recO C E (updL L u2) x u1 := by
    grind [updL, runO_L, recO_L, updL_notin]
  have g3 : updL (updL L u1) u2 = updL (updL L u2) u1 := by
    grind [updL_comm]
  refine ⟨v2, u2, g1.1, ?_, v1, u1, ?_, ?_, ?_⟩ <;> grind [recOf, runO_E, updD_comm]

theorem Runs.front : ∀ {pre : List (VOper × Rec)} {y : VOper × Rec} {post : List (VOper × Rec)} {E : Nat → Option V} {L : Nat → Option Obj}, (∀ x ∈ pre, sApart x.1 y.1 = true ∧ indep x.2 y.2 = true) →
    Runs C (pre ++ y :: post) E L E' L' → Runs C (y :: (pre ++ post)) E L E' L'
  | [], _, _, _, _, _, h => h
  | x :: pre, y, post, E, L, hp, h => by
    obtain ⟨v, u, h1, h2, h3⟩ := h
    have h4 : Runs C (x :: y :: (pre ++ post)) E L E' L' := ⟨v, u, h1, h2, Runs.front (fun z hz => hp z (by grind)) h3⟩
    grind [Runs.swap]

/-- A plain operation touches no object. -/
theorem plain_rec {o : VOper} (hp : (plainOp o.op && o.own.isEmpty) = true) {v : V} {u : Upd} (h : runO C o E L = some (v, u)) : (recOf C E L o u).touch = false := by
  simp only [Bool.and_eq_true, List.isEmpty_iff] at hp
  obtain ⟨h1, h2⟩ := hp
  have hu : u = [] := by
    have key : ∀ q, exec1 C E L o.oid o.op = some q → q.2 = [] := by
      intro q hq
      cases hop : o.op <;> rw [hop] at h1 hq <;> simp only [plainOp, Bool.false_eq_true] at h1 <;> simp only [exec1] at hq <;> grind [Option.map_eq_some_iff]
    grind [runO, ownV]
  grind [recO, plainOp, recOf, Rec.touch]

end
end Go.Vs

/- The value semantics, 24: regions, in the order of the text and in every order. -/
namespace Go.Vs
open Go

def mAllO (P : Program) (N : Nat) (ops : Array Oper) : List Oper → List VOper → Bool
  | [], [] => true
  | o :: os, x :: xs => mOper P N ops o x && mAllO P N ops os xs
  | _, _ => false

def preds (o : Oper) : List Nat := (o.after.toList.filter (Region.binds .any)).map (·.on)

def ancTab : List Oper → List (List Nat) → List (List Nat)
  | [], acc => acc
  | o :: r, acc => ancTab r (acc ++ [nubs ((preds o).flatMap fun e => e :: (acc[e]?).getD [])])

def isPlain (o : VOper) : Bool := plainOp o.op && o.own.isEmpty

def edgesBack (ops : Array Oper) : Bool := (List.range ops.size).all fun i => match ops[i]? with | some o => (preds o).all fun e => Nat.blt e i | none => true

def pairOk (vops : List VOper) (anc : List (List Nat)) (chk : List (Nat × Nat)) (i j : Nat) : Bool :=
  ((anc[j]?).getD []).contains i || (match vops[i]?, vops[j]? with
    | some x, some y => sApart x y && (isPlain x || isPlain y || chk.contains (i, j))
    | _, _ => false)

def mOrders (ops : Array Oper) (vops : List VOper) (chk : List (Nat × Nat)) : Bool :=
  let anc := ancTab ops.toList []
  edgesBack ops && (List.range vops.length).all fun j => (List.range j).all fun i => pairOk vops anc chk i j

def mRegion (P : Program) (N : Nat) (ops : Array Oper) (vops : List VOper) (chk : List (Nat × Nat)) (draw : Bool) : Bool :=
  mAllO P N ops ops.toList vops && (!draw || mOrders ops vops chk)

def runOps (C : Ctx) (vops : List VOper) (chk : List (Nat × Nat)) (s : St) : Option St :=
  match chk with
  | [] => execL C vops s
  | _ => match execR C vops s with
    | none => none
    | some (rs, s') => bif chkOk rs chk then some s' else none

section
variable {P : Program} {C : Ctx} {N : Nat} {w0 : World} {ω0 : Nat → Nat} {S : Fr} {E E' : Nat → Option V} {L L' : Nat → Option Obj} {a : Act} {w : World} {ω : Nat → Nat} {β : Nat → Option Nat}
variable {ops : Array Oper}

theorem mAllO_get : ∀ {os : List Oper} {xs : List VOper}, mAllO P N ops os xs = true → os.length = xs.length ∧ ∀ (i : Nat) (x : VOper), xs[i]? = some x → ∃ o, os[i]? = some o ∧ mOper P N ops o x = true
  | [], [], _ => ⟨rfl, fun i x h => by grind⟩
  | [], _ :: _, h => by simp [mAllO] at h
  | _ :: _, [], h => by simp [mAllO] at h
  | o :: os, y :: xs, h => by
    simp only [mAllO, Bool.and_eq_true] at h
    obtain ⟨h1, h2⟩ := mAllO_get h.2
    grind

theorem execR_runs : ∀ {vops : List VOper} {s s' : St} {rs : List Rec}, execR C vops s = some (rs, s') → rs.length = vops.length ∧ Runs C (vops.zip rs) (get? s.env) (look s.objs) (get? s'.env) (look s'.objs)
  | [], s, s', rs, h => by
    simp only [execR, Option.some.injEq, Prod.mk.injEq] at h
    obtain ⟨rfl, rfl⟩ := h
    exact ⟨rfl, rfl, rfl⟩
  | o :: r, s, s', rs, h => by
    simp only [execR] at h
    split at h
    grind
    · rename_i v u hv
      split at h
      grind
      · rename_i rs' s2 hr
        simp only [Option.some.injEq, Prod.mk.injEq] at h
        obtain ⟨rfl, rfl⟩ := h
        obtain ⟨h1, h2⟩ := execR_runs hr
        refine ⟨by grind, v, u, hv, rfl, ?_⟩
        cases hd : o.dst with
        | none => rw [hd] at h2; simp only [look_putAll] at h2; exact h2
        | some d => rw [hd] at h2; simp only [look_putAll, get?_put_fun] at h2; exact h2

theorem execL_execR : ∀ {vops : List VOper} {s s' : St}, execL C vops s = some s' → ∃ rs, execR C vops s = some (rs, s')
  | [], s, s', h => by
    simp only [execL, Option.some.injEq] at h
    subst h
    exact ⟨[], rfl⟩
  | o :: r, s, s', h => by
    simp only [execL, execO] at h
    cases hr : runO C o (get? s.env) (look s.objs) with
    | none => grind
    | some q =>
      obtain ⟨v, u⟩ := q
      rw [hr] at h
      obtain ⟨rs, h1⟩ := execL_execR h
      grind [execR]

/-- In the order of the text. -/
theorem list_ok (hC : OracleOk P C) {Q : Exit → Act → World → Prop} : ∀ {os : List Oper} {vops : List VOper} {rs : List Rec} {E : Nat → Option V} {L : Nat → Option Obj} {a : Act} {w : World} {ω : Nat → Nat} {β : Nat → Option Nat},
    Rel C.gl N w0 ω0 S E L a w ω β → mAllO P N ops os vops = true → rs.length = vops.length → Runs C (vops.zip rs) E L E' L' →
    (∀ a w ω β, Rel C.gl N w0 ω0 S E' L' a w ω β → Q .normal a w) → wpList P ops Q os a w
  | [], [], rs, E, L, a, w, ω, β, r, _, _, h, hQ => by
    simp only [List.zip_nil_left, Runs] at h
    obtain ⟨rfl, rfl⟩ := h
    exact hQ a w ω β r
  | [], _ :: _, _, _, _, _, _, _, _, _, h, _, _, _ => by simp [mAllO] at h
  | _ :: _, [], _, _, _, _, _, _, _, _, h, _, _, _ => by simp [mAllO] at h
  | o :: os, x :: xs, [], _, _, _, _, _, _, _, _, h, _, _ => by grind
  | o :: os, x :: xs, y :: rs, E, L, a, w, ω, β, r, hm, hl, h, hQ => by
    simp only [mAllO, Bool.and_eq_true] at hm
    obtain ⟨v, u, h1, _, h3⟩ := h
    exact oper_ok hC r hm.1 h1 fun a' w' ω' β' r' => list_ok hC r' hm.2 (by grind) h3 hQ

theorem ancTab_ok {os : List Oper} (lst : Nat → Bool) (hc : ∀ (j : Nat) (o : Oper), os[j]? = some o → lst j = true → ∀ e ∈ preds o, lst e = true) :
    ∀ (r : List Oper) (acc : List (List Nat)), os.drop acc.length = r → acc.length ≤ os.length →
    (∀ (j : Nat) (l : List Nat) (o : Oper), acc[j]? = some l → os[j]? = some o → (∀ e ∈ preds o, lst e = true) → ∀ i ∈ l, lst i = true) →
    ∀ (j : Nat) (l : List Nat) (o : Oper), (ancTab r acc)[j]? = some l → os[j]? = some o → (∀ e ∈ preds o, lst e = true) → ∀ i ∈ l, lst i = true
  | [], acc, _, _, h => by grind [ancTab]
  | o :: r, acc, hd, hlen, h => by
    simp only [ancTab]
    have ho : os[acc.length]? = some o := by
      have := congrArg (·[0]?) hd
      grind
    have hlt : acc.length < os.length := (List.getElem?_eq_some_iff.1 ho).1
    refine ancTab_ok lst hc r _ ?_ (by grind) ?_
    · rw [List.length_append, List.length_singleton, ← List.drop_drop, hd]
      rfl
    · intro j l oj hj hoj hp i hi
      by_cases hjl : j < acc.length
      grind
      · rw [List.getElem?_append_right (by omega)] at hj
        have hz : j - acc.length = 0 := by
          grind
        have : j = acc.length := by omega
        subst this
        rw [hz] at hj
        simp only [List.getElem?_cons_zero, Option.some.injEq] at hj
        subst hj
        rw [ho] at hoj
        cases hoj
        rw [nubs_mem, List.mem_flatMap] at hi
        grind

def remOf (n : Nat) (listed : Array Bool) : List Nat := (List.range n).filter fun i => !listed.getD i true

theorem filter_ne_split : ∀ {pre post : List Nat} {i : Nat}, (pre ++ i :: post).Nodup → (pre ++ i :: post).filter (· != i) = pre ++ post := by
  grind [List.filter_eq_self]

theorem remOf_set {n i : Nat} {listed : Array Bool} (hi : i < listed.size) : remOf n (listed.setIfInBounds i true) = (remOf n listed).filter (· != i) := by
  unfold remOf
  rw [List.filter_filter]
  congr 1
  funext j
  by_cases h : j = i
  simp_all
  · rw [show (listed.setIfInBounds i true).getD j true = listed.getD j true by simp [Array.getElem?_setIfInBounds_ne (Ne.symm h)]]
    grind

theorem remOf_pairwise (n : Nat) (listed : Array Bool) : (remOf n listed).Pairwise (· < ·) := List.Pairwise.filter _ List.pairwise_lt_range

/-- In every order that the edges leave open. -/
theorem any_ok (hC : OracleOk P C) {Q : Exit → Act → World → Prop} {vops : List VOper} {rs : List Rec} {chk : List (Nat × Nat)} (hm : mAllO P N ops ops.toList vops = true) (ho : mOrders ops vops chk = true)
    (hl : rs.length = vops.length) (hk : chkOk rs chk = true) (hpl : ∀ (i : Nat) (x : VOper) (y : Rec), vops[i]? = some x → rs[i]? = some y → isPlain x = true → y.touch = false)
    (hQ : ∀ a w ω β, Rel C.gl N w0 ω0 S E' L' a w ω β → Q .normal a w) :
    ∀ (fuel : Nat) {listed : Array Bool} {E : Nat → Option V} {L : Nat → Option Obj} {a : Act} {w : World} {ω : Nat → Nat} {β : Nat → Option Nat}, listed.size = ops.size →
    (∀ (j : Nat) (o : Oper), ops.toList[j]? = some o → listed.getD j false = true → ∀ e ∈ preds o, listed.getD e false = true) →
    (remOf ops.size listed).length ≤ fuel → Rel C.gl N w0 ω0 S E L a w ω β →
    Runs C ((remOf ops.size listed).map fun i => ((vops[i]?).getD default, (rs[i]?).getD default)) E L E' L' → wpAny P .any ops Q fuel listed a w := by
  obtain ⟨hlen, hget⟩ := mAllO_get hm
  rw [Array.length_toList] at hlen
  unfold mOrders at ho
  simp only [Bool.and_eq_true] at ho
  obtain ⟨hback, hpairs⟩ := ho
  have ready_of : ∀ (listed : Array Bool), listed.size = ops.size → Region.ready .any ops listed = [] → remOf ops.size listed = [] := by
    intro listed hsz hr
    cases hrem : remOf ops.size listed with
    | nil => rfl
    | cons i rest =>
      exfalso
      have hi : i ∈ remOf ops.size listed := by grind
      have hi' := List.mem_filter.1 hi
      have hilt : i < ops.size := List.mem_range.1 hi'.1
      have hpw := remOf_pairwise ops.size listed
      rw [hrem, List.pairwise_cons] at hpw
      have : i ∈ Region.ready .any ops listed := by
        rw [mem_ready]
        refine ⟨by grind, ops[i], by simp, fun e he hb => ?_⟩
        have hp : e.on ∈ preds ops[i] := List.mem_map.2 ⟨e, List.mem_filter.2 ⟨by grind, hb⟩, rfl⟩
        have hlt : e.on < i := by
          have := List.all_eq_true.1 hback i (List.mem_range.2 hilt)
          simp_all
        cases hle : listed.getD e.on false with
        | true => rfl
        | false =>
          exfalso
          have hmem : e.on ∈ remOf ops.size listed := by
            refine List.mem_filter.2 ⟨List.mem_range.2 (by omega), ?_⟩
            grind
          grind
      grind
  intro fuel
  induction fuel with
  | zero =>
    intro listed E L a w ω β hsz hcl hf r hruns
    have hrem : remOf ops.size listed = [] := List.eq_nil_of_length_eq_zero (by omega)
    refine ⟨?_, ?_⟩
    · rw [List.eq_nil_iff_forall_not_mem]
      intro j hj
      obtain ⟨h1, o, h2, _⟩ := mem_ready.1 hj
      have : j ∈ remOf ops.size listed := List.mem_filter.2 ⟨List.mem_range.2 (Array.getElem?_eq_some_iff.1 h2).1, by grind⟩
      grind
    · rw [hrem] at hruns
      obtain ⟨rfl, rfl⟩ := hruns
      grind
  | succ fuel ih =>
    intro listed E L a w ω β hsz hcl hf r hruns
    refine ⟨fun hr => ?_, fun i hi => ?_⟩
    · have hrem := ready_of listed hsz hr
      rw [hrem] at hruns
      obtain ⟨rfl, rfl⟩ := hruns
      grind
    · obtain ⟨h1, o, h2, h3⟩ := mem_ready.1 hi
      have hilt : i < ops.size := (Array.getElem?_eq_some_iff.1 h2).1
      have hmem : i ∈ remOf ops.size listed := List.mem_filter.2 ⟨List.mem_range.2 hilt, by grind⟩
      obtain ⟨pre, post, hsplit⟩ := List.append_of_mem hmem
      have hpw := remOf_pairwise ops.size listed
      have hnd : (pre ++ i :: post).Nodup := by
        rw [hsplit] at hpw
        exact hpw.imp (fun h => by omega)
      have hx : vops[i]? = some vops[i] := List.getElem?_eq_getElem (by omega)
      obtain ⟨o', ho1, ho2⟩ := hget i _ hx
      have hoo : o' = o := by
        grind
      subst hoo
      have hpi : ∀ e ∈ preds o', listed.getD e false = true := by
        intro e he
        obtain ⟨e', he', rfl⟩ := List.mem_map.1 he
        grind
      have hanc := ancTab_ok (os := ops.toList) (fun j => listed.getD j false) hcl ops.toList [] rfl (by simp) (by simp)
      rw [hsplit, List.map_append, List.map_cons] at hruns
      have hfront := Runs.front ?_ hruns
      · rw [← List.map_append, hx] at hfront
        obtain ⟨v, u, g1, _, g3⟩ := hfront
        simp only [Option.getD_some] at g1 g3
        simp only [wpOp, h2]
        refine oper_ok hC r ho2 g1 fun a' w' ω' β' r' => ?_
        have hset : remOf ops.size (listed.setIfInBounds i true) = pre ++ post := by
          grind [remOf_set, filter_ne_split]
        refine ih (by grind) ?_ ?_ r' ?_
        · intro j oj hj hlj e he
          have hmono : ∀ j, listed.getD j false = true → (listed.setIfInBounds i true).getD j false = true := by
            intro j hj
            by_cases hji : j = i
            grind
            · rw [show (listed.setIfInBounds i true).getD j false = listed.getD j false by simp [Array.getElem?_setIfInBounds_ne (Ne.symm hji)]]; omega
          refine hmono e ?_
          by_cases hji : j = i
          grind
          · rw [show (listed.setIfInBounds i true).getD j false = listed.getD j false by simp [Array.getElem?_setIfInBounds_ne (Ne.symm hji)]] at hlj
            grind
        grind
        grind
      · intro p hp
        obtain ⟨j, hj, rfl⟩ := List.mem_map.1 hp
        have hjm : j ∈ remOf ops.size listed := by grind
        have hjlt : j < i := by
          grind
        have hjn : listed.getD j true = false := by simpa using (List.mem_filter.1 hjm).2
        have hq := List.all_eq_true.1 (List.all_eq_true.1 hpairs i (List.mem_range.2 (by omega))) j (List.mem_range.2 hjlt)
        have hxj : vops[j]? = some vops[j] := List.getElem?_eq_getElem (by omega)
        have hrj : rs[j]? = some rs[j] := List.getElem?_eq_getElem (by omega)
        have hri : rs[i]? = some rs[i] := List.getElem?_eq_getElem (by omega)
        unfold pairOk at hq
        simp only [hx, hxj, Bool.or_eq_true, Bool.and_eq_true] at hq
        simp only [hx, hxj, hri, hrj, Option.getD_some]
        rcases hq with hq | ⟨hq1, hq2⟩
        · exfalso
          cases hai : (ancTab ops.toList [])[i]? with
          | none => grind
          | some l =>
            rw [hai] at hq
            have := hanc i l o' hai (by omega) hpi j (by grind)
            grind
        · refine ⟨hq1, ?_⟩
          rcases hq2 with (hq2 | hq2) | hq2
          grind [indep]
          grind [indep]
          · have := List.all_eq_true.1 hk (j, i) (by grind)
            grind

end
end Go.Vs

/- The value semantics, 34: the library's iterator over a slice from its end (slices.Backward): what it does, in whatever program. -/
namespace Go.Vs
open Go Go.RowKit

theorem wrap_in62 (x : Int) (h : -4611686018427387904 ≤ x ∧ x ≤ 4611686018427387904) : IntKind.i64.wrap x = x := Go.IntWalk.i64_in x (by omega)

def opIs (o : Oper) (d : Nat) (p : Op → Bool) : Bool := o.dst == some d && o.guard.isNone && p o.op

def qLoad (t : TypeId) (x : Nat) : Op → Bool
  | .load t' (.tmp m) => t' == t && m == x
  | _ => false
def qLen (t : TypeId) (x : Nat) : Op → Bool
  | .call { callee := .builtin .len, args := ⟨[.tmp m]⟩, argTypes := ⟨[t']⟩ } => t' == t && m == x
  | _ => false
def qSub (x : Nat) : Op → Bool
  | .binOp .sub _ (.tmp m) (.const (.int .i64 n)) _ => m == x && n == 1
  | _ => false
def qGeq (x : Nat) : Op → Bool
  | .binOp .geq _ (.tmp m) (.const (.int .i64 n)) _ => m == x && n == 0
  | _ => false
def qMv (x : Nat) : Op → Bool
  | .move (.tmp m) => m == x
  | _ => false
def qAsg (x : Nat) : Op → Bool
  | .assign (.tmp m) => m == x
  | _ => false
def qIdx (t : TypeId) (x y : Nat) : Op → Bool
  | .indexAddr t' (.tmp m) (.tmp n) => t' == t && m == x && n == y
  | _ => false
def qYield (g x y : Nat) : Op → Bool
  | .call { callee := .value (.tmp k), args := ⟨[.tmp m, .tmp n]⟩, argTypes := _ } => k == g && m == x && n == y
  | _ => false
def qNot (x : Nat) : Op → Bool
  | .unOp .not _ (.tmp m) => m == x
  | _ => false

theorem qLoad_ok {t : TypeId} {x : Nat} {op : Op} (h : qLoad t x op = true) : op = .load t (.tmp x) := by
  unfold qLoad at h
  grind
theorem qLen_ok {t : TypeId} {x : Nat} {op : Op} (h : qLen t x op = true) : op = .call { callee := .builtin .len, args := #[.tmp x], argTypes := #[t] } := by
  unfold qLen at h
  grind
theorem qSub_ok {x : Nat} {op : Op} (h : qSub x op = true) : ∃ u v, op = .binOp .sub u (.tmp x) (.const (.int .i64 1)) v := by
  unfold qSub at h
  grind
theorem qGeq_ok {x : Nat} {op : Op} (h : qGeq x op = true) : ∃ u v, op = .binOp .geq u (.tmp x) (.const (.int .i64 0)) v := by
  unfold qGeq at h
  grind
theorem qMv_ok {x : Nat} {op : Op} (h : qMv x op = true) : op = .move (.tmp x) := by
  unfold qMv at h
  grind
theorem qAsg_ok {x : Nat} {op : Op} (h : qAsg x op = true) : op = .assign (.tmp x) := by
  unfold qAsg at h
  grind
theorem qIdx_ok {t : TypeId} {x y : Nat} {op : Op} (h : qIdx t x y op = true) : op = .indexAddr t (.tmp x) (.tmp y) := by
  unfold qIdx at h
  grind
theorem qYield_ok {g x y : Nat} {op : Op} (h : qYield g x y op = true) : ∃ u, op = .call { callee := .value (.tmp g), args := #[.tmp x, .tmp y], argTypes := u } := by
  unfold qYield at h
  grind
theorem qNot_ok {x : Nat} {op : Op} (h : qNot x op = true) : ∃ u, op = .unOp .not u (.tmp x) := by
  unfold qNot at h
  grind

/-- The body of slices.Backward's function value, over slices of type t, of elements of type e. -/
def isBack (P : Program) (f : FuncId) (t e : TypeId) : Bool := match P.funcs[f]? with
  | some fn => fn.ntmps == 19 && fn.results.toList.isEmpty && (match fn.body with
    | some (.seq (.region _ ⟨[a0, a1, a2, a3]⟩ false) (.block b0 (.loop (.seq (.seq (.region _ ⟨[c0, c1]⟩ false) (.cond (.tmp 8) .skip (.exit b1)))
        (.seq (.block _ (.seq (.region _ ⟨[d0, d1, d2, d3, d4, d5, d6, d7]⟩ false) (.cond (.tmp 18) .ret .skip))) (.region _ ⟨[e0, e1, e2]⟩ false)))))) =>
      b0 == b1 &&
      opIs a0 4 (qLoad t 1) && opIs a1 5 (qLen t 4) && opIs a2 6 (qSub 5) && opIs a3 3 (qAsg 6) && opIs c0 7 (qMv 3) && opIs c1 8 (qGeq 7) && opIs d0 11 (qMv 0) && opIs d1 12 (qMv 3) && opIs d2 13 (qLoad t 1) && opIs d3 14 (qMv 3) && opIs d4 15 (qIdx t 13 14) && opIs d5 16 (qLoad e 15) && opIs d6 17 (qYield 11 12 16) && opIs d7 18 (qNot 17) && opIs e0 9 (qMv 3) && opIs e1 10 (qSub 9) && opIs e2 3 (qAsg 10)
    | _ => false)
  | none => false

def backTypes (P : Program) (f : FuncId) : Option (TypeId × TypeId) := match P.funcs[f]? with
  | some fn => match fn.body with
    | some (.seq (.region _ ⟨a0 :: _⟩ _) (.block _ (.loop (.seq _ (.seq (.block _ (.seq (.region _ ⟨[_, _, _, _, _, d5, _, _]⟩ _) _)) _))))) => match a0.op, d5.op with
      | .load t _, .load e _ => some (t, e)
      | _, _ => none
    | _ => none
  | none => none

/-- f is slices.Backward's function value, over elements of s cells. -/
def mIter (P : Program) (f : FuncId) (s : Nat) (ag : Bool) : Bool := match backTypes P f with
  | some (t, e) => isBack P f t e && (match P.underlying t with | some (.slice e') => e' == e | _ => false) && (match P.info? t with | some i => i.size == 1 | none => false) && !isAggB P t && (P.underlying e).isSome &&
      (match P.info? e with | some i => i.size == s | none => false) && isAggB P e == ag && (ag || s == 1) && (match P.funcs[f]? with | some fn => fn.body.isSome && fn.name != "runtime.NumGoroutine" | none => false)
  | none => false

theorem eval_put {a : Act} {d t : Nat} {v : Value} (h : d < a.tmps.size) : (a.put (some d) v).eval (.tmp t) = if t = d then v else a.eval (.tmp t) := by
  by_cases htd : t = d
  · subst htd
    simp [Act.put, Act.eval, h]
  · rw [if_neg htd]
    simp [Act.put, Act.eval, Array.getElem?_setIfInBounds_ne (Ne.symm htd)]

theorem size_put {a : Act} {d : Nat} {v : Value} : (a.put (some d) v).tmps.size = a.tmps.size := by simp [Act.put]
theorem defers_put {a : Act} {d : Nat} {v : Value} : (a.put (some d) v).defers = a.defers := rfl

section
variable {P : Program} {n : Nat} {ops : Array Oper} {Q : Exit → Act → World → Prop} {a : Act} {w w' : World} {o : Oper} {i : Nat} {rest : List Nat}

theorem opIs_ok {d : Nat} {p : Op → Bool} (h : opIs o d p = true) : o.dst = some d ∧ o.guard = none ∧ p o.op = true := by
  grind [opIs, Option.isNone_iff_eq_none]

theorem stepIn {F : Fence} (hF : ∀ f, F.fn f) {d : Nat} (ho : ops[i]? = some o) (hd : o.dst = some d) (hg : o.guard = none) (hd' : ∀ c, o.op ≠ .defer c) {v : Value} (hrun : (execOp a.eval o).run P w = .ok (.value v) w') (h : wpOpsIn F n P ops Q rest (a.put (some d) v) w') :
    wpOpsIn F n P ops Q (i :: rest) a w := by
  simp only [wpOpsIn, ho]
  rw [if_pos (by simp [Region.wanted, hg])]
  refine ⟨fun f _ => hF f, ?_⟩
  rw [Oper.semAt_eq _ _ _ hd', hrun]
  show wpOpsIn F n P ops Q rest (a.put o.dst v) w'
  grind


/-- What the iterator reads again behind a round. -/
def KpB (Bs b off m : Nat) (W W' : World) : Prop := (∀ v, W.cell? ⟨Bs, 0, none⟩ = some v → W'.cell? ⟨Bs, 0, none⟩ = some v) ∧ ∀ k, k < m → ∀ v, W.cell? ⟨b, off + k, none⟩ = some v → W'.cell? ⟨b, off + k, none⟩ = some v

/-- What the iterator's frame holds. -/
structure BackAct (l Bs : Nat) (a : Act) : Prop where
  size : a.tmps.size = 19
  defers : a.defers = []
  y : a.eval (.tmp 0) = .func (.yield l) #[] #[]
  p : a.eval (.tmp 1) = .pointer (some ⟨Bs, 0, none⟩)

theorem BackAct.put {l Bs d : Nat} {a : Act} {v : Value} (h : BackAct l Bs a) (hd : 2 ≤ d) (hd2 : d < 19) : BackAct l Bs (a.put (some d) v) := by
  have hs : d < a.tmps.size := by rw [h.size]; omega
  exact ⟨by rw [size_put, h.size], h.defers, by rw [eval_put hs, if_neg (by omega)]; exact h.y, by rw [eval_put hs, if_neg (by omega)]; exact h.p⟩

theorem BackAct.at {l Bs d t : Nat} {a : Act} {v : Value} (h : BackAct l Bs a) (hd : d < 19) : (a.put (some d) v).eval (.tmp t) = if t = d then v else a.eval (.tmp t) := eval_put (by rw [h.size]; omega)

theorem run_load1 {t : TypeId} {it : TypeInfo} {x : Operand} {b o' : Nat} {vs : List Value} (ho : o.op = .load t x) (hx : a.eval x = .pointer (some ⟨b, o', none⟩)) (hu : (P.underlying t).isSome = true) (hi : P.info? t = some it) (hl : vs.length = it.size)
    (hag : isAggB P t = true ∨ vs.length = 1) (h : ∀ j v, vs[j]? = some v → w.cell? ⟨b, o' + j, none⟩ = some v) : (execOp a.eval o).run P w = .ok (.value (packV (isAggB P t) vs)) w := by
  have hrun := run_loadVar (P := P) (w := w) (b := b) (off := o') hu hi hl hag h
  grind [execOp, Instr.loadAt, Sem.run_bind, sureAddr_run, Result.andThen_ok, Sem.run_pure]

theorem run_move {x : Operand} (ho : o.op = .move x) : (execOp a.eval o).run P w = .ok (.value (a.eval x)) w := by
  simp [execOp, ho]
theorem run_assign {x : Operand} (ho : o.op = .assign x) : (execOp a.eval o).run P w = .ok (.value (a.eval x)) w := by
  simp [execOp, ho]

theorem run_len {x : Operand} {t e : TypeId} {base : Option Addr} {len cap : Nat} (ho : o.op = .call { callee := .builtin .len, args := #[x], argTypes := #[t] }) (hu : P.underlying t = some (.slice e)) (hx : a.eval x = .slice base len cap) : (execOp a.eval o).run P w = .ok (.value (.int .i64 len)) w := by
  simp [execOp, ho, resolve, invoke, builtin, hx, Builtin.len_, run_underlying hu, goInt]

theorem run_sub1 {x : Operand} {t t' : TypeId} {m : Int} (ho : o.op = .binOp .sub t x (.const (.int .i64 1)) t') (hx : a.eval x = .int .i64 m) (hm : -4611686018427387900 ≤ m ∧ m ≤ 4611686018427387900) : (execOp a.eval o).run P w = .ok (.value (.int .i64 (m - 1))) w := by
  obtain ⟨vv, h1, h2⟩ := intBin_is (P := P) (w := w) (ω := fun _ => 0) (op := .sub) (k := .i64) (p := m) (q := 1) (x := .int .i64 (m - 1)) rfl t (by grind [intBin, wrapI, wrap_in62])
  simp only [RD] at h1
  subst h1
  have hc : a.eval (.const (.int .i64 1)) = .int .i64 1 := rfl
  grind [eqGuard_none, execOp, Sem.run_bind, Result.andThen_ok, Sem.run_pure]

theorem run_geq0 {x : Operand} {t t' : TypeId} {m : Int} (ho : o.op = .binOp .geq t x (.const (.int .i64 0)) t') (hx : a.eval x = .int .i64 m) : (execOp a.eval o).run P w = .ok (.value (.bool (decide (m ≥ 0)))) w := by
  obtain ⟨vv, h1, h2⟩ := intBin_is (P := P) (w := w) (ω := fun _ => 0) (op := .geq) (k := .i64) (p := m) (q := 0) (x := .bool (decide (m ≥ 0))) rfl t (by rfl)
  simp only [RD] at h1
  subst h1
  have hc : a.eval (.const (.int .i64 0)) = .int .i64 0 := rfl
  grind [eqGuard_none, execOp, Sem.run_bind, Result.andThen_ok, Sem.run_pure]

theorem run_not {x : Operand} {t : TypeId} {b : Bool} (ho : o.op = .unOp .not t x) (hx : a.eval x = .bool b) : (execOp a.eval o).run P w = .ok (.value (.bool !b)) w := by
  simp [execOp, ho, hx, Op.unary]

theorem run_index {x y : Operand} {t e : TypeId} {ie : TypeInfo} {b off len cap j : Nat} (ho : o.op = .indexAddr t x y) (ht : P.underlying t = some (.slice e)) (hi : P.info? e = some ie) (hx : a.eval x = .slice (some ⟨b, off, none⟩) len cap) (hy : a.eval y = .int .i64 j) (hj : j < len) :
    (execOp a.eval o).run P w = .ok (.value (.pointer (some ⟨b, off + j * ie.size, none⟩))) w := by
  grind [execOp, Sem.run_bind, indexAt_run, Result.andThen_ok, Sem.run_pure]

/-- The call of yield. -/
theorem stepYield {F : Fence} (hF : ∀ f, F.fn f) (hro : F.round = none) (hdep : F.depth = none) {d : Nat} {g : Operand} {args : Array Operand} {ts : Array TypeId} {l : Nat} {R : Ending → World → Prop} (ho : ops[i]? = some o) (hd : o.dst = some d) (hg : o.guard = none)
    (hop : o.op = .call { callee := .value g, args := args, argTypes := ts }) (hy : a.eval g = .func (.yield l) #[] #[]) (h : YieldAt F (n - 1) P l (args.map a.eval) w R)
    (hK : ∀ e w', R e w' → ∃ v, e = .returned v ∧ wpOpsIn F n P ops Q rest (a.put (some d) v) w') : wpOpsIn F n P ops Q (i :: rest) a w := by
  obtain ⟨fn, tmps, assign, body, hrun, hround⟩ := h
  simp only [wpOpsIn, ho]
  rw [if_pos (by simp [Region.wanted, hg])]
  refine ⟨fun f _ => hF f, ?_⟩
  have hx : (execOp a.eval o).run P w = .ok (.round l fn tmps assign body) w := by
    grind [execOp, resolve, invoke, Deferred.ofValue]
  rw [Oper.semAt_eq _ _ _ (by grind), hx, Oper.uponIn_round]
  refine ⟨by grind, hround.mono ?_⟩
  grind


theorem wide_fn (f : FuncId) : Fence.wide.fn f := trivial

set_option maxHeartbeats 2000000 in
theorem back_run {f : FuncId} {t e : TypeId} (hm : isBack P f t e = true) (ht : P.underlying t = some (.slice e)) {it ie : TypeInfo} (hit : P.info? t = some it) (hit1 : it.size = 1) (hat : isAggB P t = false) (hue : (P.underlying e).isSome = true)
    (hie : P.info? e = some ie) (hae : isAggB P e = true ∨ ie.size = 1) {Bs b off len cap : Nat} {base : Option Addr} (us : Nat → List Value) (hlen : len ≤ 4611686018427387900)
    (hbase : len = 0 ∨ base = some ⟨b, off, none⟩) (hul' : ∀ k, k < len → (us k).length = ie.size) {l : Nat} {J : Nat → World → Prop} {Jx : World → Prop} {W : World}
    (hW : W.cell? ⟨Bs, 0, none⟩ = some (.slice base len cap) ∧ ∀ k, k < len → ∀ j v, (us k)[j]? = some v → W.cell? ⟨b, off + (k * ie.size + j), none⟩ = some v)
    (hY : ∀ m, m < len → ∀ W1, J (m + 1) W1 → YieldAt Fence.wide (n - 1) P l #[.int .i64 (m : Int), packV (isAggB P e) (us m)] W1 fun e' W' =>
      (e' = .returned (.bool true) ∧ J m W' ∧ KpB Bs b off (len * ie.size) W1 W') ∨ (e' = .returned (.bool false) ∧ Jx W')) (h0 : J len W) :
    CallsIn Fence.wide n P f #[.func (.yield l) #[] #[], .pointer (some ⟨Bs, 0, none⟩)] W fun e' W' => (∃ v, e' = .returned v) ∧ (J 0 W' ∨ Jx W') := by
  have hgood : ∃ Good : World → Prop, Good W ∧ (∀ W1 W2, Good W1 → KpB Bs b off (len * ie.size) W1 W2 → Good W2) ∧ (∀ W1, Good W1 → W1.cell? ⟨Bs, 0, none⟩ = some (.slice base len cap) ∧ ∀ k, k < len → ∀ j v, (us k)[j]? = some v → W1.cell? ⟨b, off + (k * ie.size + j), none⟩ = some v) := by
    refine ⟨fun W1 => W1.cell? ⟨Bs, 0, none⟩ = some (.slice base len cap) ∧ ∀ k, k < len → ∀ j v, (us k)[j]? = some v → W1.cell? ⟨b, off + (k * ie.size + j), none⟩ = some v, ?_, ?_, fun _ h => h⟩
    omega
    · intro W1 W2 h1 hk
      refine ⟨hk.1 _ h1.1, fun k hkl j v hv => hk.2 _ ?_ v (h1.2 k hkl j v hv)⟩
      have hj : j < ie.size := by grind
      have := Nat.mul_le_mul_right ie.size (show k + 1 ≤ len by omega)
      grind
  obtain ⟨Good, g0, gk, gg⟩ := hgood
  unfold isBack at hm
  split at hm
  · rename_i fn hfn
    simp only [Bool.and_eq_true, beq_iff_eq, List.isEmpty_iff, Array.toList_eq_nil_iff] at hm
    obtain ⟨⟨hnt, hres⟩, hm⟩ := hm
    split at hm
    · rename_i r0 a0 a1 a2 a3 b0 r1 c0 c1 b1 bb r3 d0 d1 d2 d3 d4 d5 d6 d7 r2 e0 e1 e2 hbody
      simp only [Bool.and_eq_true, beq_iff_eq] at hm
      obtain ⟨⟨⟨⟨⟨⟨⟨⟨⟨⟨⟨⟨⟨⟨⟨⟨⟨hbb, ha0⟩, ha1⟩, ha2⟩, ha3⟩, hc0⟩, hc1⟩, hd0⟩, hd1⟩, hd2⟩, hd3⟩, hd4⟩, hd5⟩, hd6⟩, hd7⟩, he0⟩, he1⟩, he2⟩ := hm
      subst hbb
      obtain ⟨ha0d, ha0g, ha0⟩ := opIs_ok ha0
      obtain ⟨ha1d, ha1g, ha1⟩ := opIs_ok ha1
      obtain ⟨ha2d, ha2g, ha2⟩ := opIs_ok ha2
      obtain ⟨ha3d, ha3g, ha3⟩ := opIs_ok ha3
      obtain ⟨hc0d, hc0g, hc0⟩ := opIs_ok hc0
      obtain ⟨hc1d, hc1g, hc1⟩ := opIs_ok hc1
      obtain ⟨hd0d, hd0g, hd0⟩ := opIs_ok hd0
      obtain ⟨hd1d, hd1g, hd1⟩ := opIs_ok hd1
      obtain ⟨hd2d, hd2g, hd2⟩ := opIs_ok hd2
      obtain ⟨hd3d, hd3g, hd3⟩ := opIs_ok hd3
      obtain ⟨hd4d, hd4g, hd4⟩ := opIs_ok hd4
      obtain ⟨hd5d, hd5g, hd5⟩ := opIs_ok hd5
      obtain ⟨hd6d, hd6g, hd6⟩ := opIs_ok hd6
      obtain ⟨hd7d, hd7g, hd7⟩ := opIs_ok hd7
      obtain ⟨he0d, he0g, he0⟩ := opIs_ok he0
      obtain ⟨he1d, he1g, he1⟩ := opIs_ok he1
      obtain ⟨he2d, he2g, he2⟩ := opIs_ok he2
      replace ha0 := qLoad_ok ha0
      replace ha1 := qLen_ok ha1
      obtain ⟨ua2, va2, ha2⟩ := qSub_ok ha2
      replace ha3 := qAsg_ok ha3
      replace hc0 := qMv_ok hc0
      obtain ⟨uc1, vc1, hc1⟩ := qGeq_ok hc1
      replace hd0 := qMv_ok hd0
      replace hd1 := qMv_ok hd1
      replace hd2 := qLoad_ok hd2
      replace hd3 := qMv_ok hd3
      replace hd4 := qIdx_ok hd4
      replace hd5 := qLoad_ok hd5
      obtain ⟨ud6, hd6⟩ := qYield_ok hd6
      obtain ⟨ud7, hd7⟩ := qNot_ok hd7
      replace he0 := qMv_ok he0
      obtain ⟨ue1, ve1, he1⟩ := qSub_ok he1
      replace he2 := qAsg_ok he2
      refine callsIn_of_wp hfn hbody trivial ?_ rfl
      have hut : (P.underlying t).isSome = true := by grind
      have nd : ∀ {o : Oper} {q : Op}, o.op = q → (∀ c, q ≠ .defer c) → ∀ c, o.op ≠ .defer c := fun h h' c => by grind
      have hA0 : BackAct l Bs { tmps := #[Value.func (.yield l) #[] #[], Value.pointer (some ⟨Bs, 0, none⟩)] ++ Array.replicate (fn.ntmps - #[Value.func (.yield l) #[] #[], Value.pointer (some ⟨Bs, 0, none⟩)].size) undef, defers := [] } := by
        rw [hnt]
        exact ⟨by simp, rfl, by simp [Act.eval], by simp [Act.eval]⟩
      generalize ({ tmps := #[Value.func (.yield l) #[] #[], Value.pointer (some ⟨Bs, 0, none⟩)] ++ Array.replicate (fn.ntmps - #[Value.func (.yield l) #[] #[], Value.pointer (some ⟨Bs, 0, none⟩)].size) undef, defers := [] } : Act) = A0 at hA0 ⊢
      have ldS : ∀ {o : Oper} {a : Act} {w : World}, o.op = .load t (.tmp 1) → BackAct l Bs a → Good w → (execOp a.eval o).run P w = .ok (.value (.slice base len cap)) w := by
        intro o a w ho hA hg
        have := run_load1 (P := P) (w := w) (vs := [Value.slice base len cap]) ho hA.p hut hit (by grind) (.inr rfl) (by
          grind)
        grind [packV]
      refine wpIn_seq (wpIn_region ?_)
      refine stepIn wide_fn rfl ha0d ha0g (nd ha0 (by simp)) (ldS ha0 hA0 g0) ?_
      have hA1 := hA0.put (v := .slice base len cap) (d := 4) (by omega) (by omega)
      refine stepIn wide_fn rfl ha1d ha1g (nd ha1 (by simp)) (run_len ha1 ht (by rw [hA0.at (by omega)]; rfl)) ?_
      have hA2 := hA1.put (v := .int .i64 len) (d := 5) (by omega) (by omega)
      refine stepIn wide_fn rfl ha2d ha2g (nd ha2 (by simp)) (run_sub1 (m := len) ha2 (by rw [hA1.at (by omega)]; rfl) (by omega)) ?_
      have hA3 := hA2.put (v := .int .i64 ((len : Int) - 1)) (d := 6) (by omega) (by omega)
      refine stepIn wide_fn rfl ha3d ha3g (nd ha3 (by simp)) (run_assign ha3) ?_
      rw [show ((((A0.put (some 4) (.slice base len cap)).put (some 5) (.int .i64 len)).put (some 6) (.int .i64 ((len : Int) - 1))).eval (.tmp 6)) = .int .i64 ((len : Int) - 1) by rw [hA2.at (by omega)]; rfl]
      have hA4 := hA3.put (v := .int .i64 ((len : Int) - 1)) (d := 3) (by omega) (by omega)
      have h3 : ((((A0.put (some 4) (.slice base len cap)).put (some 5) (.int .i64 len)).put (some 6) (.int .i64 ((len : Int) - 1))).put (some 3) (.int .i64 ((len : Int) - 1))).eval (.tmp 3) = .int .i64 ((len : Int) - 1) := by rw [hA3.at (by omega)]; rfl
      generalize ((((A0.put (some 4) (.slice base len cap)).put (some 5) (.int .i64 len)).put (some 6) (.int .i64 ((len : Int) - 1))).put (some 3) (.int .i64 ((len : Int) - 1))) = A4 at hA4 h3 ⊢
      show Code.wpIn Fence.wide n P _ _ A4 W
      refine wpIn_block (wpIn_loop (fun a w => ∃ k : Nat, k ≤ len ∧ BackAct l Bs a ∧ a.eval (.tmp 3) = .int .i64 ((k : Int) - 1) ∧ J k w ∧ Good w)
        (fun a _ => match a.eval (.tmp 3) with | .int _ m => (m + 1).toNat | _ => 0) ⟨len, Nat.le_refl _, hA4, h3, h0, g0⟩ ?_)
      rintro a w ⟨k, hk, hA, h3, hj, hg⟩
      refine wpIn_seq (wpIn_seq (wpIn_region ?_))
      refine stepIn wide_fn rfl hc0d hc0g (nd hc0 (by simp)) (run_move hc0) ?_
      rw [h3]
      have hA5 := hA.put (v := .int .i64 ((k : Int) - 1)) (d := 7) (by omega) (by omega)
      refine stepIn wide_fn rfl hc1d hc1g (nd hc1 (by simp)) (run_geq0 (m := (k : Int) - 1) hc1 (by rw [hA.at (by omega)]; rfl)) ?_
      have hA6 := hA5.put (v := .bool (decide ((k : Int) - 1 ≥ 0))) (d := 8) (by omega) (by omega)
      have h36 : ((a.put (some 7) (.int .i64 ((k : Int) - 1))).put (some 8) (.bool (decide ((k : Int) - 1 ≥ 0)))).eval (.tmp 3) = .int .i64 ((k : Int) - 1) := by rw [hA5.at (by omega), if_neg (by omega), hA.at (by omega), if_neg (by omega), h3]
      have h86 : ((a.put (some 7) (.int .i64 ((k : Int) - 1))).put (some 8) (.bool (decide ((k : Int) - 1 ≥ 0)))).eval (.tmp 8) = .bool (decide ((k : Int) - 1 ≥ 0)) := by rw [hA5.at (by omega), if_pos rfl]
      generalize ((a.put (some 7) (.int .i64 ((k : Int) - 1))).put (some 8) (.bool (decide ((k : Int) - 1 ≥ 0)))) = A6 at hA6 h36 h86 ⊢
      show Code.wpIn Fence.wide n P _ _ A6 w
      refine wpIn_cond h86 ?_
      by_cases hk0 : k = 0
      · subst hk0
        simp only [show decide (((0 : Nat) : Int) - 1 ≥ 0) = false by rfl, Bool.false_eq_true, if_false]
        refine wpIn_exit ?_
        simp only [Exit.then, Exit.inBlock, if_true]
        refine ⟨hA6.defers, _, results_none (Array.toList_eq_nil_iff.1 (by grind)) _ _ _, ⟨_, rfl⟩, .inl hj⟩
      · obtain ⟨m, rfl⟩ : ∃ m, k = m + 1 := ⟨k - 1, by omega⟩
        have hm1 : (((m + 1 : Nat) : Int) - 1) = (m : Int) := by omega
        rw [hm1] at h36 h86
        have hml : m < len := by omega
        have hul := hul' m hml
        have hb' : base = some ⟨b, off, none⟩ := hbase.resolve_left (by omega)
        simp only [hm1, show decide ((m : Int) ≥ 0) = true by simp, if_true]
        refine wpIn_skip ?_
        show Code.wpIn Fence.wide n P _ _ A6 w
        refine wpIn_seq (wpIn_block (wpIn_seq (wpIn_region ?_)))
        refine stepIn wide_fn rfl hd0d hd0g (nd hd0 (by simp)) (run_move hd0) ?_
        rw [hA6.y]
        have hB1 := hA6.put (v := .func (.yield l) #[] #[]) (d := 11) (by omega) (by omega)
        refine stepIn wide_fn rfl hd1d hd1g (nd hd1 (by simp)) (run_move hd1) ?_
        rw [hA6.at (by omega), if_neg (by omega), h36]
        have hB2 := hB1.put (v := .int .i64 (m : Int)) (d := 12) (by omega) (by omega)
        refine stepIn wide_fn rfl hd2d hd2g (nd hd2 (by simp)) (ldS hd2 hB2 hg) ?_
        have hB3 := hB2.put (v := .slice base len cap) (d := 13) (by omega) (by omega)
        refine stepIn wide_fn rfl hd3d hd3g (nd hd3 (by simp)) (run_move hd3) ?_
        rw [hB2.at (by omega), if_neg (by omega), hB1.at (by omega), if_neg (by omega), hA6.at (by omega), if_neg (by omega), h36]
        have hB4 := hB3.put (v := .int .i64 (m : Int)) (d := 14) (by omega) (by omega)
        refine stepIn wide_fn rfl hd4d hd4g (nd hd4 (by simp)) (run_index (j := m) hd4 ht hie (by rw [hB3.at (by omega), if_neg (by omega), hB2.at (by omega), if_pos rfl, hb']) (by rw [hB3.at (by omega), if_pos rfl]) hml) ?_
        have hB5 := hB4.put (v := .pointer (some ⟨b, off + m * ie.size, none⟩)) (d := 15) (by omega) (by omega)
        refine stepIn wide_fn rfl hd5d hd5g (nd hd5 (by simp)) (run_load1 (vs := us m) hd5 (by rw [hB4.at (by omega), if_pos rfl]) hue hie hul (hae.imp id fun h => by omega) (by
          grind)) ?_
        have hB6 := hB5.put (v := packV (isAggB P e) (us m)) (d := 16) (by omega) (by omega)
        refine stepYield wide_fn rfl rfl (l := l) rfl hd6d hd6g hd6 (by rw [hB5.at (by omega), if_neg (by omega), hB4.at (by omega), if_neg (by omega), hB3.at (by omega), if_neg (by omega), hB2.at (by omega), if_neg (by omega), hB1.at (by omega), if_neg (by omega), hA6.at (by omega), if_pos rfl]) (by
            have h12 : ((((((A6.put (some 11) (Value.func (.yield l) #[] #[])).put (some 12) (.int .i64 (m : Int))).put (some 13) (.slice base len cap)).put (some 14) (.int .i64 (m : Int))).put (some 15) (.pointer (some ⟨b, off + m * ie.size, none⟩))).put (some 16) (packV (isAggB P e) (us m))).eval (.tmp 12) = .int .i64 (m : Int) := by
              rw [hB5.at (by omega), if_neg (by omega), hB4.at (by omega), if_neg (by omega), hB3.at (by omega), if_neg (by omega), hB2.at (by omega), if_neg (by omega), hB1.at (by omega), if_pos rfl]
            have h16 : ((((((A6.put (some 11) (Value.func (.yield l) #[] #[])).put (some 12) (.int .i64 (m : Int))).put (some 13) (.slice base len cap)).put (some 14) (.int .i64 (m : Int))).put (some 15) (.pointer (some ⟨b, off + m * ie.size, none⟩))).put (some 16) (packV (isAggB P e) (us m))).eval (.tmp 16) = packV (isAggB P e) (us m) := by
              rw [hB5.at (by omega), if_pos rfl]
            have := hY m hml w hj
            simpa [h12, h16] using this) ?_
        rintro e' w' (⟨rfl, hj', hkp⟩ | ⟨rfl, hjx⟩)
        · refine ⟨_, rfl, ?_⟩
          have hB7 := hB6.put (v := .bool true) (d := 17) (by omega) (by omega)
          refine stepIn wide_fn rfl hd7d hd7g (nd hd7 (by simp)) (run_not (b := true) hd7 (by rw [hB6.at (by omega), if_pos rfl])) ?_
          have hB8 := hB7.put (v := .bool (!true)) (d := 18) (by omega) (by omega)
          show Code.wpIn Fence.wide n P _ _ _ w'
          refine wpIn_cond (t := false) (by rw [hB7.at (by omega), if_pos rfl]; rfl) ?_
          simp only [Bool.false_eq_true, if_false]
          refine wpIn_skip ?_
          have h3' : ((((((((A6.put (some 11) (Value.func (.yield l) #[] #[])).put (some 12) (.int .i64 (m : Int))).put (some 13) (.slice base len cap)).put (some 14) (.int .i64 (m : Int))).put (some 15) (.pointer (some ⟨b, off + m * ie.size, none⟩))).put (some 16) (packV (isAggB P e) (us m))).put (some 17) (.bool true)).put (some 18) (.bool (!true))).eval (.tmp 3) = .int .i64 (m : Int) := by
            rw [hB7.at (by omega), if_neg (by omega), hB6.at (by omega), if_neg (by omega), hB5.at (by omega), if_neg (by omega), hB4.at (by omega), if_neg (by omega), hB3.at (by omega), if_neg (by omega), hB2.at (by omega), if_neg (by omega), hB1.at (by omega), if_neg (by omega), hA6.at (by omega), if_neg (by omega), h36]
          generalize ((((((((A6.put (some 11) (Value.func (.yield l) #[] #[])).put (some 12) (.int .i64 (m : Int))).put (some 13) (.slice base len cap)).put (some 14) (.int .i64 (m : Int))).put (some 15) (.pointer (some ⟨b, off + m * ie.size, none⟩))).put (some 16) (packV (isAggB P e) (us m))).put (some 17) (.bool true)).put (some 18) (.bool (!true))) = A9 at hB8 h3' ⊢
          show Code.wpIn Fence.wide n P _ _ A9 w'
          refine wpIn_region ?_
          refine stepIn wide_fn rfl he0d he0g (nd he0 (by simp)) (run_move he0) ?_
          rw [h3']
          have hC1 := hB8.put (v := .int .i64 (m : Int)) (d := 9) (by omega) (by omega)
          refine stepIn wide_fn rfl he1d he1g (nd he1 (by simp)) (run_sub1 (m := m) he1 (by rw [hB8.at (by omega)]; rfl) (by omega)) ?_
          have hC2 := hC1.put (v := .int .i64 ((m : Int) - 1)) (d := 10) (by omega) (by omega)
          refine stepIn wide_fn rfl he2d he2g (nd he2 (by simp)) (run_assign he2) ?_
          rw [hC1.at (by omega), if_pos rfl]
          have hC3 := hC2.put (v := .int .i64 ((m : Int) - 1)) (d := 3) (by omega) (by omega)
          have h3f : (((A9.put (some 9) (.int .i64 (m : Int))).put (some 10) (.int .i64 ((m : Int) - 1))).put (some 3) (.int .i64 ((m : Int) - 1))).eval (.tmp 3) = .int .i64 ((m : Int) - 1) := by rw [hC2.at (by omega), if_pos rfl]
          generalize (((A9.put (some 9) (.int .i64 (m : Int))).put (some 10) (.int .i64 ((m : Int) - 1))).put (some 3) (.int .i64 ((m : Int) - 1))) = AF at hC3 h3f ⊢
          refine ⟨⟨m, by omega, hC3, h3f, hj', gk _ _ hg hkp⟩, ?_⟩
          grind
        · refine ⟨_, rfl, ?_⟩
          have hB7 := hB6.put (v := .bool false) (d := 17) (by omega) (by omega)
          refine stepIn wide_fn rfl hd7d hd7g (nd hd7 (by simp)) (run_not (b := false) hd7 (by rw [hB6.at (by omega), if_pos rfl])) ?_
          have hB8 := hB7.put (v := .bool (!false)) (d := 18) (by omega) (by omega)
          show Code.wpIn Fence.wide n P _ _ _ w'
          refine wpIn_cond (t := true) (by rw [hB7.at (by omega), if_pos rfl]; rfl) ?_
          simp only [if_true]
          refine wpIn_ret ?_
          simp only [Exit.then, Exit.inBlock]
          exact ⟨hB8.defers, _, results_none (Array.toList_eq_nil_iff.1 (by grind)) _ _ _, ⟨_, rfl⟩, .inr hjx⟩
    grind
  grind

end
end Go.Vs

/- The value semantics, 35: from walks outside of rounds to walks in a round; the memory between rounds. -/
namespace Go.Vs
open Go Go.RowKit

section
variable {P : Program} {ops : Array Oper} {Q : Exit → Act → World → Prop} {a : Act} {w : World} {o : Oper}

theorem mOper_nd {N : Nat} {vo : VOper} (hm : mOper P N ops o vo = true) : ∀ c, o.op ≠ .defer c := by
  intro c hc
  unfold mOper at hm
  rw [hc] at hm
  simp only [Bool.and_eq_true] at hm
  have h5 := hm.2
  cases hop : vo.op <;> rw [hop] at h5 <;> simp [mOp, mCall] at h5

theorem callsIn_round {l n : Nat} {f : FuncId} {args : Array Value} {R : Ending → World → Prop} (h : Calls P f args w R) : CallsIn (Fence.wide.inRound l) n P f args w R :=
  (callsIn_wide (n := n)).2 h

theorem rowsIn_round {l n : Nat} {row : String} {args : Array Value} {R : Value → World → Prop} (h : Rows P row args w R) : RowsIn (Fence.wide.inRound l) n P row args w R :=
  fun c cs _ => let ⟨v, w', r, s⟩ := h c cs; ⟨v, w', r, (stepsIn_wide (P := P)).2 s⟩

theorem uponIn_of {l n : Nat} {K : Act → World → Prop} {r : Result Next} (h : o.upon P a K Q r) : o.uponIn (Fence.wide.inRound l) n P a K Q r := by
  cases r with
  | ok nx w' => cases nx with
    | value v => exact h
    | skip => exact h
    | defer d => exact h
    | enter f args => exact ⟨fun h => by simp [Fence.wide] at h, callsIn_round h⟩
    | row row args => exact ⟨fun h => by simp [Fence.wide] at h, rowsIn_round h⟩
    | _ => exact h.elim
  | halt x w' => cases x with
    | panic v => exact h
    | _ => exact h.elim

theorem opsIn_of {l n : Nat} (hQ : ¬ LetsOut Q) (hnd : ∀ (i : Nat) (o : Oper), ops[i]? = some o → ∀ c, o.op ≠ .defer c) : ∀ (is : List Nat) (a : Act) (w : World), wpOps P ops Q is a w → wpOpsIn (Fence.wide.inRound l) n P ops Q is a w
  | [], _, _, h => h
  | i :: is, a, w, h => by
    simp only [wpOps] at h
    simp only [wpOpsIn]
    cases ho : ops[i]? with
    | none => rw [ho] at h; exact opsIn_of hQ hnd is a w h
    | some o =>
      rw [ho] at h
      simp only at h ⊢
      split
      · rename_i hw
        rw [if_pos hw] at h
        rcases h with h | h
        · refine ⟨fun f _ => trivial, ?_⟩
          rw [Oper.semAt_eq _ _ _ (hnd i o ho)]
          exact uponIn_of (Oper.wp_mono (fun a w => opsIn_of hQ hnd is a w) h)
        grind
      · rename_i hw
        rw [if_neg hw] at h
        exact ⟨fun f _ => trivial, opsIn_of hQ hnd is _ w h⟩

theorem regionIn_list {l n id : Nat} (hQ : ¬ LetsOut Q) (hnd : ∀ (i : Nat) (o : Oper), ops[i]? = some o → ∀ c, o.op ≠ .defer c) (h : wpList P ops Q ops.toList a w) : (Code.region id ops false).wpIn (Fence.wide.inRound l) n P Q a w :=
  wpIn_region (opsIn_of hQ hnd _ a w (by rw [List.range_eq_range', ← Array.length_toList, wpOps_eq_wpList ops.toList 0 (by simp)]; exact h))

theorem regionIn_any {l n id : Nat} (hP : P.follows .mixedOrders = true) (hQ : ¬ LetsOut Q) (hnd : ∀ (i : Nat) (o : Oper), ops[i]? = some o → ∀ c, o.op ≠ .defer c) (h : wpAny P .any ops Q ops.size (Array.replicate ops.size false) a { w with drawn := w.drawn + 1 }) :
    (Code.region id ops true).wpIn (Fence.wide.inRound l) n P Q a w :=
  wpIn_region_draw fun t => opsIn_of hQ hnd _ a _ (by
    simp only [Region.schedule, hP, Bool.true_or, if_true]
    exact wpAny_sound ops.size t _ a _ h)

end

section
variable {P : Program} {GL : Nat → List Cell} {N : Nat} {w0 : World} {ω0 : Nat → Nat} {S : Fr} {E : Nat → Option V} {L : Nat → Option Obj} {a : Act} {w : World} {ω : Nat → Nat} {β : Nat → Option Nat}

theorem cells_of_at {w : World} {b i : Nat} {v : Value} (h : at? w b i = some v) : ∃ cs t fr, w.heap[b]? = some (.cells cs t fr) := by
  grind [at?, World.cell?]

/-- Neither cells nor a map: no frame's object. -/
def bareO : Go.Obj → Bool
  | .cells .. | .map .. => false
  | _ => true
theorem Rel.cellsOf (h : Rel GL N w0 ω0 S E L a w ω β) {k b : Nat} (hk : L k ≠ none) (hb : β k = some b) : (∃ cs t fr, w.heap[b]? = some (.cells cs t fr)) ∨ ∃ arr clock, w.heap[b]? = some (.map arr clock) := by
  cases hL : L k with
  | none => grind
  | some o =>
    have ho := h.obj k o hL
    cases o with
    | box cells =>
      obtain ⟨b', cs, t, h1, h2, _⟩ := ho
      grind
    | arr s rows p =>
      obtain ⟨_, _, _, h4⟩ := ho
      grind
    | mp es =>
      obtain ⟨b', arr, clock, h1, h2, _⟩ := ho
      grind

/-- A block that holds no cells turns, or is new: nothing that the frame knows of. -/
theorem Rel.grown (h : Rel GL N w0 ω0 S E L a w ω β) {w' : World} {row : Option Nat} (hg : w.grownBy w' row) (hrow : ∀ b, row = some b → w0.heap.size ≤ b ∧ ∃ o, w.heap[b]? = some o ∧ bareO o = true) (hm : Defs S.fd S.lo w' a.defers) :
    Rel GL N w0 ω0 S E L a w' ω β := by
  have hcell : ∀ (b : Nat) (cs : Array Value) (t : TypeId) (fr : Nat × Nat), w.heap[b]? = some (.cells cs t fr) → w'.heap[b]? = some (.cells cs t fr) := by
    intro b cs t fr hb
    refine (hg.block b (Array.getElem?_eq_some_iff.1 hb).1 fun e => ?_).trans hb
    obtain ⟨_, o, ho, hc⟩ := hrow b e.symm
    rw [hb] at ho
    cases ho
    cases hc
  have g : Grows w ω w' ω := ⟨fun b i hi v hv => by
    obtain ⟨cs, t, fr, hb⟩ := cells_of_at hv
    refine ⟨?_, hi⟩
    rw [at?_block (hcell b cs t fr hb), ← at?_block hb]
    omega⟩
  have tr : ∀ k, Tr w β w' β L L k := by
    grind [Tr]
  refine ⟨h.size, hm, fun t v ht => ⟨(h.env t v ht).1, (h.env t v ht).2.step g tr⟩, fun k o hk => (h.obj k o hk).step g tr rfl fun b hb => ?_, h.inj, ?_, h.mine, fun b => (h.gl b).grow g, S.closed _ _ _ _ _ _ h.inv fun k _ => tr k⟩
  · refine ⟨hg.block b ?_ fun e => ?_, rfl⟩
    · rcases h.cellsOf (by grind) hb with ⟨cs, t, fr, hc⟩ | ⟨arr, clock, hc⟩ <;> exact (Array.getElem?_eq_some_iff.1 hc).1
    · obtain ⟨_, o, ho, hbo⟩ := hrow b e.symm
      rcases h.cellsOf (by grind) hb with ⟨cs, t, fr, hc⟩ | ⟨arr, clock, hc⟩
      · rw [hc] at ho
        cases ho
        cases hbo
      · rw [hc] at ho
        cases ho
        cases hbo
  · refine h.keeps.step g hg.size (fun b hb hs => ?_) hg.os hg.tape hg.output
    refine ⟨hg.block b (Nat.lt_of_lt_of_le hb h.keeps.size) fun e => ?_, rfl⟩
    grind

/-- The blocks of the objects that are there. -/
def roundFr (w : World) (β : Nat → Option Nat) (L : Nat → Option Obj) (kept : Nat → Prop) (lo : Nat) (fd : Option (List Deferred)) : Fr where
  lo := lo
  fd := fd
  S := fun b => ∃ k, L k ≠ none ∧ β k = some b
  kept := fun k => kept k ∨ L k ≠ none
  J := fun w' β' L' => ∀ k, L k ≠ none ∨ kept k → Tr w β w' β' L L' k
  closed := fun _ _ _ _ _ _ h h' k hk => (h k hk).trans (h' k (hk.elim .inr .inl))

theorem tr_of_round {kept : Nat → Prop} {lo : Nat} {fd : Option (List Deferred)} {w2 : World} {β2 : Nat → Option Nat} {L2 : Nat → Option Obj} (h : (roundFr w β L kept lo fd).J w2 β2 L2) : ∀ k, Tr w β w2 β2 L L2 k := by
  intro k
  by_cases hk : L k = none
  grind [Tr]
  · exact h k (.inl hk)

/-- A frame's knowledge, and a walk from there: the frame's knowledge behind it. -/
theorem Rel.compose (r : Rel GL N w0 ω0 S E L a w ω β) {E2 : Nat → Option V} {L2 : Nat → Option Obj} {a2 : Act} {w2 : World} {ω2 : Nat → Nat} {β2 : Nat → Option Nat} (h : Rel GL N w ω (roundFr w β L S.kept S.lo S.fd) E2 L2 a2 w2 ω2 β2) (hm : Defs S.fd S.lo w2 a.defers) :
    Rel GL N w0 ω0 S E L2 a w2 ω2 β2 := by
  have tr := tr_of_round h.inv
  refine ⟨r.size, hm, fun t v ht => ⟨(r.env t v ht).1, (r.env t v ht).2.step h.keeps.grows tr⟩, h.obj, h.inj, ?_, ?_, h.gl, S.closed _ _ _ _ _ _ r.inv fun k hk => tr k⟩
  · refine r.keeps.step h.keeps.grows h.keeps.size (fun b hb hs => h.keeps.same b (Nat.lt_of_lt_of_le hb r.keeps.size) ?_) h.keeps.os h.keeps.tape h.keeps.output
    rintro ⟨k, hk, hbk⟩
    rcases r.mine k b hk hbk with h1 | h1 <;> grind
  · intro k b hk hb
    rcases h.mine k b hk hb with ⟨j, hj, hbj⟩ | h1
    · exact r.mine j b hj hbj
    · exact .inr (Nat.le_trans r.keeps.size h1)

/-- Where a walk begins: what is there. -/
theorem Rel.rebase (r : Rel GL N w0 ω0 S E L a w ω β) : Rel GL N w ω (roundFr w β L S.kept S.lo S.fd) E L a w ω β :=
  ⟨r.size, r.defers, r.env, r.obj, r.inj, Keeps.refl _ _ _, fun k b hk hb => .inl ⟨k, hk, hb⟩, r.gl, fun k _ => Tr.refl k⟩

end
end Go.Vs
