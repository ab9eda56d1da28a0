/- The value semantics, 24: regions, in the order of the text and in every order. -/
import Derived.Test.YtogldkeabdgjgaaVs23
import Derived.Orders
namespace Go.Vs
open Go

def mAllO (P : Program) (N : Nat) (ops : Array Oper) : List Oper → List VOper → Bool
  | [], [] => true
  | o :: os, x :: xs => mOper P N ops o x && mAllO P N ops os xs
  | _, _ => false

def preds (o : Oper) : List Nat := (o.after.toList.filter (Region.binds .any)).map (·.on)

def ancTab : List Oper → List (List Nat) → List (List Nat)
  | [], acc => acc
  | o :: r, acc => ancTab r (acc ++ [nubs ((preds o).flatMap fun e => e :: (acc[e]?).getD [])])

def isPlain (o : VOper) : Bool := plainOp o.op && o.own.isEmpty

def edgesBack (ops : Array Oper) : Bool := (List.range ops.size).all fun i => match ops[i]? with | some o => (preds o).all fun e => Nat.blt e i | none => true

def pairOk (vops : List VOper) (anc : List (List Nat)) (chk : List (Nat × Nat)) (i j : Nat) : Bool :=
  ((anc[j]?).getD []).contains i || (match vops[i]?, vops[j]? with
    | some x, some y => sApart x y && (isPlain x || isPlain y || chk.contains (i, j))
    | _, _ => false)

def mOrders (ops : Array Oper) (vops : List VOper) (chk : List (Nat × Nat)) : Bool :=
  let anc := ancTab ops.toList []
  edgesBack ops && (List.range vops.length).all fun j => (List.range j).all fun i => pairOk vops anc chk i j

def mRegion (P : Program) (N : Nat) (ops : Array Oper) (vops : List VOper) (chk : List (Nat × Nat)) (draw : Bool) : Bool :=
  mAllO P N ops ops.toList vops && (!draw || mOrders ops vops chk)

def runOps (C : Ctx) (vops : List VOper) (chk : List (Nat × Nat)) (s : St) : Option St :=
  match chk with
  | [] => execL C vops s
  | _ => match execR C vops s with
    | none => none
    | some (rs, s') => bif chkOk rs chk then some s' else none

section
variable {P : Program} {C : Ctx} {N : Nat} {w0 : World} {ω0 : Nat → Nat} {S : Fr} {E E' : Nat → Option V} {L L' : Nat → Option Obj} {a : Act} {w : World} {ω : Nat → Nat} {β : Nat → Option Nat}
variable {ops : Array Oper}

theorem mAllO_get : ∀ {os : List Oper} {xs : List VOper}, mAllO P N ops os xs = true → os.length = xs.length ∧ ∀ (i : Nat) (x : VOper), xs[i]? = some x → ∃ o, os[i]? = some o ∧ mOper P N ops o x = true
  | [], [], _ => ⟨rfl, fun i x h => by simp at h⟩
  | [], _ :: _, h => by simp [mAllO] at h
  | _ :: _, [], h => by simp [mAllO] at h
  | o :: os, y :: xs, h => by
    simp only [mAllO, Bool.and_eq_true] at h
    obtain ⟨h1, h2⟩ := mAllO_get h.2
    refine ⟨by simp [h1], fun i x hi => ?_⟩
    cases i with
    | zero =>
      simp only [List.getElem?_cons_zero, Option.some.injEq] at hi
      subst hi
      exact ⟨o, rfl, h.1⟩
    | succ i =>
      simp only [List.getElem?_cons_succ] at hi ⊢
      exact h2 i x hi

theorem execR_runs : ∀ {vops : List VOper} {s s' : St} {rs : List Rec}, execR C vops s = some (rs, s') → rs.length = vops.length ∧ Runs C (vops.zip rs) (get? s.env) (look s.objs) (get? s'.env) (look s'.objs)
  | [], s, s', rs, h => by
    simp only [execR, Option.some.injEq, Prod.mk.injEq] at h
    obtain ⟨rfl, rfl⟩ := h
    exact ⟨rfl, rfl, rfl⟩
  | o :: r, s, s', rs, h => by
    simp only [execR] at h
    split at h
    · cases h
    · rename_i v u hv
      split at h
      · cases h
      · rename_i rs' s2 hr
        simp only [Option.some.injEq, Prod.mk.injEq] at h
        obtain ⟨rfl, rfl⟩ := h
        obtain ⟨h1, h2⟩ := execR_runs hr
        refine ⟨by simp [h1], v, u, hv, rfl, ?_⟩
        cases hd : o.dst with
        | none => rw [hd] at h2; simp only [look_putAll] at h2; exact h2
        | some d => rw [hd] at h2; simp only [look_putAll, get?_put_fun] at h2; exact h2

theorem execL_execR : ∀ {vops : List VOper} {s s' : St}, execL C vops s = some s' → ∃ rs, execR C vops s = some (rs, s')
  | [], s, s', h => by
    simp only [execL, Option.some.injEq] at h
    subst h
    exact ⟨[], rfl⟩
  | o :: r, s, s', h => by
    simp only [execL, execO] at h
    cases hr : runO C o (get? s.env) (look s.objs) with
    | none => rw [hr] at h; cases h
    | some q =>
      obtain ⟨v, u⟩ := q
      rw [hr] at h
      obtain ⟨rs, h1⟩ := execL_execR h
      simp only [execR, hr]
      rw [h1]
      exact ⟨_, rfl⟩

/-- In the order of the text. -/
theorem list_ok (hC : OracleOk P C) {Q : Exit → Act → World → Prop} : ∀ {os : List Oper} {vops : List VOper} {rs : List Rec} {E : Nat → Option V} {L : Nat → Option Obj} {a : Act} {w : World} {ω : Nat → Nat} {β : Nat → Option Nat},
    Rel C.gl N w0 ω0 S E L a w ω β → mAllO P N ops os vops = true → rs.length = vops.length → Runs C (vops.zip rs) E L E' L' →
    (∀ a w ω β, Rel C.gl N w0 ω0 S E' L' a w ω β → Q .normal a w) → wpList P ops Q os a w
  | [], [], rs, E, L, a, w, ω, β, r, _, _, h, hQ => by
    simp only [List.zip_nil_left, Runs] at h
    obtain ⟨rfl, rfl⟩ := h
    exact hQ a w ω β r
  | [], _ :: _, _, _, _, _, _, _, _, _, h, _, _, _ => by simp [mAllO] at h
  | _ :: _, [], _, _, _, _, _, _, _, _, h, _, _, _ => by simp [mAllO] at h
  | o :: os, x :: xs, [], _, _, _, _, _, _, _, _, h, _, _ => by simp at h
  | o :: os, x :: xs, y :: rs, E, L, a, w, ω, β, r, hm, hl, h, hQ => by
    simp only [mAllO, Bool.and_eq_true] at hm
    obtain ⟨v, u, h1, _, h3⟩ := h
    exact oper_ok hC r hm.1 h1 fun a' w' ω' β' r' => list_ok hC r' hm.2 (by simpa using hl) h3 hQ

theorem ancTab_ok {os : List Oper} (lst : Nat → Bool) (hc : ∀ (j : Nat) (o : Oper), os[j]? = some o → lst j = true → ∀ e ∈ preds o, lst e = true) :
    ∀ (r : List Oper) (acc : List (List Nat)), os.drop acc.length = r → acc.length ≤ os.length →
    (∀ (j : Nat) (l : List Nat) (o : Oper), acc[j]? = some l → os[j]? = some o → (∀ e ∈ preds o, lst e = true) → ∀ i ∈ l, lst i = true) →
    ∀ (j : Nat) (l : List Nat) (o : Oper), (ancTab r acc)[j]? = some l → os[j]? = some o → (∀ e ∈ preds o, lst e = true) → ∀ i ∈ l, lst i = true
  | [], acc, _, _, h => by simpa only [ancTab] using h
  | o :: r, acc, hd, hlen, h => by
    simp only [ancTab]
    have ho : os[acc.length]? = some o := by
      have := congrArg (·[0]?) hd
      simpa using this
    have hlt : acc.length < os.length := (List.getElem?_eq_some_iff.1 ho).1
    refine ancTab_ok lst hc r _ ?_ (by simp; omega) ?_
    · rw [List.length_append, List.length_singleton, ← List.drop_drop, hd]
      rfl
    · intro j l oj hj hoj hp i hi
      by_cases hjl : j < acc.length
      · rw [List.getElem?_append_left hjl] at hj
        exact h j l oj hj hoj hp i hi
      · rw [List.getElem?_append_right (by omega)] at hj
        have hz : j - acc.length = 0 := by
          have := (List.getElem?_eq_some_iff.1 hj).1
          simp at this
          omega
        have : j = acc.length := by omega
        subst this
        rw [hz] at hj
        simp only [List.getElem?_cons_zero, Option.some.injEq] at hj
        subst hj
        rw [ho] at hoj
        cases hoj
        rw [nubs_mem, List.mem_flatMap] at hi
        obtain ⟨e, he, hi⟩ := hi
        rcases List.mem_cons.1 hi with rfl | hi
        · exact hp _ he
        · cases hq : acc[e]? with
          | none => rw [hq] at hi; simp at hi
          | some le =>
            rw [hq] at hi
            simp only [Option.getD_some] at hi
            have hel : e < acc.length := (List.getElem?_eq_some_iff.1 hq).1
            have heo : os[e]? = some os[e] := List.getElem?_eq_getElem (by omega)
            exact h e le _ hq heo (fun e' he' => hc e _ heo (hp e he) e' he') i hi

def remOf (n : Nat) (listed : Array Bool) : List Nat := (List.range n).filter fun i => !listed.getD i true

theorem filter_ne_split : ∀ {pre post : List Nat} {i : Nat}, (pre ++ i :: post).Nodup → (pre ++ i :: post).filter (· != i) = pre ++ post := by
  intro pre post i h
  rw [List.nodup_append, List.nodup_cons] at h
  obtain ⟨_, ⟨h2, _⟩, h4⟩ := h
  rw [List.filter_append, List.filter_cons]
  simp only [bne_self_eq_false, Bool.false_eq_true, if_false]
  rw [List.filter_eq_self.2, List.filter_eq_self.2]
  · intro x hx
    simp only [bne_iff_ne, ne_eq]
    exact fun e => h2 (e ▸ hx)
  · intro x hx
    simp only [bne_iff_ne, ne_eq]
    exact h4 x hx i (by simp)

theorem remOf_set {n i : Nat} {listed : Array Bool} (hi : i < listed.size) : remOf n (listed.setIfInBounds i true) = (remOf n listed).filter (· != i) := by
  unfold remOf
  rw [List.filter_filter]
  congr 1
  funext j
  by_cases h : j = i
  · subst h; simp [hi]
  · rw [show (listed.setIfInBounds i true).getD j true = listed.getD j true by simp [Array.getElem?_setIfInBounds_ne (Ne.symm h)]]
    simp [h]

theorem remOf_pairwise (n : Nat) (listed : Array Bool) : (remOf n listed).Pairwise (· < ·) := List.Pairwise.filter _ List.pairwise_lt_range

/-- In every order that the edges leave open. -/
theorem any_ok (hC : OracleOk P C) {Q : Exit → Act → World → Prop} {vops : List VOper} {rs : List Rec} {chk : List (Nat × Nat)} (hm : mAllO P N ops ops.toList vops = true) (ho : mOrders ops vops chk = true)
    (hl : rs.length = vops.length) (hk : chkOk rs chk = true) (hpl : ∀ (i : Nat) (x : VOper) (y : Rec), vops[i]? = some x → rs[i]? = some y → isPlain x = true → y.touch = false)
    (hQ : ∀ a w ω β, Rel C.gl N w0 ω0 S E' L' a w ω β → Q .normal a w) :
    ∀ (fuel : Nat) {listed : Array Bool} {E : Nat → Option V} {L : Nat → Option Obj} {a : Act} {w : World} {ω : Nat → Nat} {β : Nat → Option Nat}, listed.size = ops.size →
    (∀ (j : Nat) (o : Oper), ops.toList[j]? = some o → listed.getD j false = true → ∀ e ∈ preds o, listed.getD e false = true) →
    (remOf ops.size listed).length ≤ fuel → Rel C.gl N w0 ω0 S E L a w ω β →
    Runs C ((remOf ops.size listed).map fun i => ((vops[i]?).getD default, (rs[i]?).getD default)) E L E' L' → wpAny P .any ops Q fuel listed a w := by
  obtain ⟨hlen, hget⟩ := mAllO_get hm
  rw [Array.length_toList] at hlen
  unfold mOrders at ho
  simp only [Bool.and_eq_true] at ho
  obtain ⟨hback, hpairs⟩ := ho
  have ready_of : ∀ (listed : Array Bool), listed.size = ops.size → Region.ready .any ops listed = [] → remOf ops.size listed = [] := by
    intro listed hsz hr
    cases hrem : remOf ops.size listed with
    | nil => rfl
    | cons i rest =>
      exfalso
      have hi : i ∈ remOf ops.size listed := by rw [hrem]; simp
      have hi' := List.mem_filter.1 hi
      have hilt : i < ops.size := List.mem_range.1 hi'.1
      have hpw := remOf_pairwise ops.size listed
      rw [hrem, List.pairwise_cons] at hpw
      have : i ∈ Region.ready .any ops listed := by
        rw [mem_ready]
        refine ⟨by simpa using hi'.2, ops[i], by simp [hilt], fun e he hb => ?_⟩
        have hp : e.on ∈ preds ops[i] := List.mem_map.2 ⟨e, List.mem_filter.2 ⟨by simpa using he, hb⟩, rfl⟩
        have hlt : e.on < i := by
          have := List.all_eq_true.1 hback i (List.mem_range.2 hilt)
          rw [Array.getElem?_eq_getElem hilt] at this
          exact Nat.le_of_ble_eq_true (List.all_eq_true.1 this e.on hp)
        cases hle : listed.getD e.on false with
        | true => rfl
        | false =>
          exfalso
          have hmem : e.on ∈ remOf ops.size listed := by
            refine List.mem_filter.2 ⟨List.mem_range.2 (by omega), ?_⟩
            have : e.on < listed.size := by omega
            simp [this] at hle ⊢
            exact hle
          rw [hrem] at hmem
          rcases List.mem_cons.1 hmem with h | h
          · omega
          · have := hpw.1 _ h; omega
      rw [hr] at this
      simp at this
  intro fuel
  induction fuel with
  | zero =>
    intro listed E L a w ω β hsz hcl hf r hruns
    have hrem : remOf ops.size listed = [] := List.eq_nil_of_length_eq_zero (by omega)
    refine ⟨?_, ?_⟩
    · rw [List.eq_nil_iff_forall_not_mem]
      intro j hj
      obtain ⟨h1, o, h2, _⟩ := mem_ready.1 hj
      have : j ∈ remOf ops.size listed := List.mem_filter.2 ⟨List.mem_range.2 (Array.getElem?_eq_some_iff.1 h2).1, by rw [h1]; rfl⟩
      rw [hrem] at this
      simp at this
    · rw [hrem] at hruns
      obtain ⟨rfl, rfl⟩ := hruns
      exact hQ a w ω β r
  | succ fuel ih =>
    intro listed E L a w ω β hsz hcl hf r hruns
    refine ⟨fun hr => ?_, fun i hi => ?_⟩
    · have hrem := ready_of listed hsz hr
      rw [hrem] at hruns
      obtain ⟨rfl, rfl⟩ := hruns
      exact hQ a w ω β r
    · obtain ⟨h1, o, h2, h3⟩ := mem_ready.1 hi
      have hilt : i < ops.size := (Array.getElem?_eq_some_iff.1 h2).1
      have hmem : i ∈ remOf ops.size listed := List.mem_filter.2 ⟨List.mem_range.2 hilt, by rw [h1]; rfl⟩
      obtain ⟨pre, post, hsplit⟩ := List.append_of_mem hmem
      have hpw := remOf_pairwise ops.size listed
      have hnd : (pre ++ i :: post).Nodup := by
        rw [hsplit] at hpw
        exact hpw.imp (fun h => by omega)
      have hx : vops[i]? = some vops[i] := List.getElem?_eq_getElem (by omega)
      obtain ⟨o', ho1, ho2⟩ := hget i _ hx
      have hoo : o' = o := by
        rw [Array.getElem?_toList, h2] at ho1
        exact (Option.some.inj ho1).symm
      subst hoo
      have hpi : ∀ e ∈ preds o', listed.getD e false = true := by
        intro e he
        obtain ⟨e', he', rfl⟩ := List.mem_map.1 he
        obtain ⟨he1, he2⟩ := List.mem_filter.1 he'
        exact h3 e' (by simpa using he1) he2
      have hanc := ancTab_ok (os := ops.toList) (fun j => listed.getD j false) hcl ops.toList [] rfl (by simp) (by simp)
      rw [hsplit, List.map_append, List.map_cons] at hruns
      have hfront := Runs.front ?_ hruns
      · rw [← List.map_append, hx] at hfront
        obtain ⟨v, u, g1, _, g3⟩ := hfront
        simp only [Option.getD_some] at g1 g3
        simp only [wpOp, h2]
        refine oper_ok hC r ho2 g1 fun a' w' ω' β' r' => ?_
        have hset : remOf ops.size (listed.setIfInBounds i true) = pre ++ post := by
          rw [remOf_set (by omega), hsplit, filter_ne_split hnd]
        refine ih (by simpa using hsz) ?_ ?_ r' ?_
        · intro j oj hj hlj e he
          have hmono : ∀ j, listed.getD j false = true → (listed.setIfInBounds i true).getD j false = true := by
            intro j hj
            by_cases hji : j = i
            · subst hji; simp [show j < listed.size by omega]
            · rw [show (listed.setIfInBounds i true).getD j false = listed.getD j false by simp [Array.getElem?_setIfInBounds_ne (Ne.symm hji)]]; exact hj
          refine hmono e ?_
          by_cases hji : j = i
          · subst hji
            rw [Array.getElem?_toList, h2] at hj
            cases hj
            exact hpi e he
          · rw [show (listed.setIfInBounds i true).getD j false = listed.getD j false by simp [Array.getElem?_setIfInBounds_ne (Ne.symm hji)]] at hlj
            exact hcl j oj hj hlj e he
        · rw [hset]
          have := congrArg List.length hsplit
          simp only [List.length_append, List.length_cons] at this ⊢
          omega
        · rw [hset]; exact g3
      · intro p hp
        obtain ⟨j, hj, rfl⟩ := List.mem_map.1 hp
        have hjm : j ∈ remOf ops.size listed := by rw [hsplit]; simp [hj]
        have hjlt : j < i := by
          rw [hsplit, List.pairwise_append] at hpw
          exact hpw.2.2 j hj i (by simp)
        have hjn : listed.getD j true = false := by simpa using (List.mem_filter.1 hjm).2
        have hq := List.all_eq_true.1 (List.all_eq_true.1 hpairs i (List.mem_range.2 (by omega))) j (List.mem_range.2 hjlt)
        have hxj : vops[j]? = some vops[j] := List.getElem?_eq_getElem (by omega)
        have hrj : rs[j]? = some rs[j] := List.getElem?_eq_getElem (by omega)
        have hri : rs[i]? = some rs[i] := List.getElem?_eq_getElem (by omega)
        unfold pairOk at hq
        simp only [hx, hxj, Bool.or_eq_true, Bool.and_eq_true] at hq
        simp only [hx, hxj, hri, hrj, Option.getD_some]
        rcases hq with hq | ⟨hq1, hq2⟩
        · exfalso
          cases hai : (ancTab ops.toList [])[i]? with
          | none => rw [hai] at hq; simp at hq
          | some l =>
            rw [hai] at hq
            have := hanc i l o' hai (by rw [Array.getElem?_toList, h2]) hpi j (by simpa using hq)
            have hjs : j < listed.size := by omega
            simp [hjs] at this hjn
            rw [this] at hjn
            cases hjn
        · refine ⟨hq1, ?_⟩
          rcases hq2 with (hq2 | hq2) | hq2
          · have := hpl j _ _ hxj hrj hq2
            simp [indep, this]
          · have := hpl i _ _ hx hri hq2
            simp [indep, this]
          · have := List.all_eq_true.1 hk (j, i) (by simpa using hq2)
            simp only [hri, hrj] at this
            exact this

end
end Go.Vs
