/- The value semantics, 19: calls, as operations. -/
import Derived.Test.YtogldkeabdgjgaaVs18
namespace Go.Vs
open Go

section
variable {P : Program} {C : Ctx} {N : Nat} {w0 : World} {ω0 : Nat → Nat} {S : Fr} {E : Nat → Option V} {L : Nat → Option Obj} {a : Act} {w : World} {ω : Nat → Nat} {β : Nat → Option Nat}
variable {o : Oper} {v : V}

/-- What stands behind a call. -/
def Back (GL : Nat → List Cell) (N : Nat) (w0 : World) (ω0 : Nat → Nat) (S : Fr) (E : Nat → Option V) (L' : Nat → Option Obj) (a : Act) (v : V) (e : Ending) (w' : World) : Prop :=
  ∃ vv ω' β', e = .returned vv ∧ Rel GL N w0 ω0 S E L' a w' ω' β' ∧ RV w' ω' β' L' v vv

theorem call1_ok (hC : OracleOk P C) (r : Rel C.gl N w0 ω0 S E L a w ω β) {oid : Nat} {f : V} {fv : Value} {args : List (Bool × V)} {cvs : List Value} (hf : RV w ω β L f fv) (hargs : ArgsOk w ω β L args cvs) {u : Upd}
    (h : call1 C.call L oid f args = some (v, u)) : ∃ (g : FuncId) (caps : Array Value), fv = .func (.func g) #[] caps ∧ Callable P g ∧
      Calls P g (cvs.toArray ++ caps) w (Back C.gl N w0 ω0 S E (updL L u) a v) := by
  unfold call1 at h
  split at h
  · cases h
  · rename_i g caps hg
    obtain ⟨cs, hfv, hcaps⟩ := calleeOf_ok hf hg
    refine ⟨g, cs, hfv, ?_⟩
    split at h
    · cases h
    · rename_i vs ds rs hargsOf
      simp only at h
      split at h
      · cases h
      · rename_i os hos
        cases hc1 : ((reach L rs).all (fun k => !ds.contains k) && (reach L (reach L rs)).length == (reach L rs).length) with
        | false => rw [hc1] at h; simp at h
        | true =>
          rw [hc1] at h
          simp only [cond_true] at h
          simp only [Bool.and_eq_true] at hc1
          have hnd := reach_nodup L rs
          generalize hids : reach L rs = ids at h hos hc1 hnd
          have hds : ∀ k ∈ ids, k ∉ ds := by
            intro k hk
            have := List.all_eq_true.1 hc1.1 k hk
            simpa using this
          split at h
          · cases h
          · rename_i rv os' hcall
            cases hc2 : (Nat.ble ids.length os'.length && (os.zip os').all (fun x => sameKind x.1 x.2) && (newIds oid 0 (os'.length - ids.length)).all (fun k => (L k).isNone)) with
            | false => rw [hc2] at h; simp at h
            | true =>
              rw [hc2] at h
              simp only [cond_true] at h
              simp only [Bool.and_eq_true] at hc2
              obtain ⟨⟨hm, _⟩, hfn⟩ := hc2
              have hm := Nat.le_of_ble_eq_true hm
              obtain ⟨n1, _, n3⟩ := newIds_spec oid (os'.length - ids.length) 0
              have hfn' : ∀ k ∈ newIds oid 0 (os'.length - ids.length), L k = none := by
                intro k hk
                simpa using List.all_eq_true.1 hfn k hk
              generalize newIds oid 0 (os'.length - ids.length) = fresh at h n1 n3 hfn'
              obtain ⟨hcallable, hfn⟩ := hC g _ _ rv os' hcall
              refine ⟨hcallable, ?_⟩
              obtain ⟨ω1, g1, p1, p2⟩ := publish_ex r ds
              have hsh : Shows β L ω1 ds := fun k hk s rows p b hL hb => Nat.le_of_eq (p1 k hk s rows p b hL hb).symm
              have hall := hargs.append hcaps
              have hrv := argsOf_ok r.obj g1 hall hargsOf hsh
              obtain ⟨hol, hog⟩ := listM_some hos
              have hρ : Ren (indexIn ids) β L (fun i => (ids[i]?).bind β) (Lof (os.map (Obj.ren (indexIn ids)))) := by
                intro k i ob hi hk
                have hi' := indexIn_get hi
                obtain ⟨o', h1, h2⟩ := hog i k hi'
                rw [hk] at h2
                cases h2
                exact ⟨by simp [Lof, h1], by simp [hi']⟩
              have hcv : (cvs.toArray ++ cs).toList = cvs ++ cs.toList := by simp
              have hcalls := hfn w ω1 (fun i => (ids[i]?).bind β) (cvs.toArray ++ cs) (fun b => (r.gl b).grow g1) (by rw [hcv]; exact hrv.rename hρ) ?_ ?_
              · refine hcalls.mono ?_
                rintro e w' ⟨vv, ω', β', rfl, c1, c2, c3, c4, c5, c6⟩
                have pub : ∀ p, pubUpd L ds ds = some p → v = rv.ren (fun i => (ids ++ fresh)[i]?) → u = p ++ updOf (ids ++ fresh) (os'.map (Obj.ren fun i => (ids ++ fresh)[i]?)) → Back C.gl N w0 ω0 S E (updL L u) a v (.returned vv) w' := by
                  intro p hp hv hu
                  obtain ⟨β2, h1, h2⟩ := after_call r rfl hnd hos g1 p1 p2 n3 (by omega) hfn' c2 c3 c4 c5 c6 hp
                  subst hu hv
                  exact ⟨vv, ω', β2, rfl, h1, c1.rename h2⟩
                split at h
                · simp only [Option.some.injEq, Prod.mk.injEq] at h
                  obtain ⟨rfl, rfl⟩ := h
                  exact pub [] rfl rfl (by simp)
                · rename_i hne
                  cases hfl : (flatV rv && ids.isEmpty && fresh.isEmpty) with
                  | true =>
                    rw [hfl] at h
                    simp only [cond_true, Option.some.injEq, Prod.mk.injEq] at h
                    obtain ⟨rfl, rfl⟩ := h
                    simp only [Bool.and_eq_true, List.isEmpty_iff] at hfl
                    obtain ⟨⟨hflat, rfl⟩, _⟩ := hfl
                    -- a flat result: nothing is published
                    have hold : ∀ b, b < w.heap.size → w'.heap[b]? = w.heap[b]? := fun b hb => (c4.same b hb (by rintro ⟨k, _, hk⟩; simp at hk)).1
                    have gg : Grows w ω w' (fun b => if b < w.heap.size then ω b else ω' b) := ⟨fun b i hi q hq => by
                      have hb : b < w.heap.size := block_lt_of_cell hq
                      refine ⟨?_, by simp only [hb, if_true]; exact hi⟩
                      simpa [at?, World.cell?, hold b hb] using hq⟩
                    have hr := (r.step (fun _ => False) (w' := w') (ω' := fun b => if b < w.heap.size then ω b else ω' b) (β' := β) (L' := L) gg c4.size c4.os c4.tape c4.output
                      (fun b hb _ => ⟨hold b hb, by simp only [hb, if_true]⟩) (fun k _ => ⟨rfl, fun _ => rfl⟩) (fun _ h => h.elim) (fun _ _ h => h.elim) (fun _ h => h.elim) (fun _ _ _ h => h.elim)).1
                    exact ⟨vv, _, β, rfl, hr, flatV_ok hflat c1 _ _ _ _⟩
                  | false =>
                    rw [hfl] at h
                    simp only [cond_false] at h
                    split at h
                    · rename_i p hp
                      simp only [Option.some.injEq, Prod.mk.injEq] at h
                      exact pub p hp h.1.symm h.2.symm
                    · cases h
              · intro i o1 ho1
                simp only [Lof, List.getElem?_map] at ho1
                cases hoi : os[i]? with
                | none => simp [hoi] at ho1
                | some ob =>
                  simp only [hoi, Option.map_some, Option.some.injEq] at ho1
                  subst ho1
                  have hlt : i < ids.length := by rw [← hol]; exact (List.getElem?_eq_some_iff.1 hoi).1
                  obtain ⟨o', h1, h2⟩ := hog i ids[i] (by simp [hlt])
                  rw [hoi] at h1
                  cases h1
                  have hst : ObjOk w ω1 β L ids[i] ob := (r.obj _ _ h2).step g1 (fun k => Tr.refl k) rfl fun b hb => ⟨rfl, p2 b fun k hk s rows q hL hbk => by
                    have := r.inj k ids[i] b (by simp [hL]) (by simp [h2]) hbk hb
                    exact hds ids[i] (List.getElem_mem hlt) (this ▸ hk)⟩
                  exact hst.rename hρ (by simp [hlt])
              · intro j k b hj hk hbj hbk
                simp only [Lof, List.getElem?_map] at hj hk
                have hj' : j < os.length := by
                  cases h : os[j]? with
                  | none => simp [h] at hj
                  | some _ => exact (List.getElem?_eq_some_iff.1 h).1
                have hk' : k < os.length := by
                  cases h : os[k]? with
                  | none => simp [h] at hk
                  | some _ => exact (List.getElem?_eq_some_iff.1 h).1
                rw [hol] at hj' hk'
                simp only [List.getElem?_eq_getElem hj', Option.bind_some] at hbj
                simp only [List.getElem?_eq_getElem hk', Option.bind_some] at hbk
                obtain ⟨o1, _, h1⟩ := hog j ids[j] (by simp [hj'])
                obtain ⟨o2, _, h2⟩ := hog k ids[k] (by simp [hk'])
                have := r.inj ids[j] ids[k] b (by simp [h1]) (by simp [h2]) hbj hbk
                exact nodup_inj hnd (i := j) (j := k) (k := ids[j]) (by simp [hj']) (by rw [this]; simp [hk'])

theorem ArgsOk.step {w' : World} {ω' : Nat → Nat} {β' : Nat → Option Nat} {L' : Nat → Option Obj} (g : Grows w ω w' ω') (tr : ∀ k, Tr w β w' β' L L' k) : ∀ {xs : List (Bool × V)} {vs : List Value}, ArgsOk w ω β L xs vs → ArgsOk w' ω' β' L' xs vs
  | [], [], _ => trivial
  | [], _ :: _, h => h.elim
  | _ :: _, [], h => h.elim
  | _ :: _, _ :: _, h => ⟨h.1.step g tr, ArgsOk.step g tr h.2⟩

theorem ownArgs_gt {oid : Nat} {own : List (Nat × Nat)} : ∀ (args : List (Bool × V)) (j : Nat), ∀ x ∈ (ownArgs oid own j args).2, oid + j < x.1
  | [], _, x, hx => by simp [ownArgs] at hx
  | (b, c) :: cs, j, x, hx => by
    simp only [ownArgs] at hx
    split at hx
    · simp only [List.mem_cons] at hx
      rcases hx with rfl | hx
      · show oid + j < oid + 1 + j; omega
      · have := ownArgs_gt cs (j + 1) x hx; omega
    · have := ownArgs_gt cs (j + 1) x hx; omega

theorem ownArgs_ok {GL : Nat → List Cell} {oid : Nat} {own : List (Nat × Nat)} (hpos : ∀ p ∈ own, 0 < p.2) : ∀ (args : List (Bool × V)) (j : Nat) (L : Nat → Option Obj) (β : Nat → Option Nat) (vs : List Value), Rel GL N w0 ω0 S E L a w ω β → ArgsOk w ω β L args vs →
    (∀ x ∈ (ownArgs oid own j args).2, L x.1 = none) → ∃ β', Rel GL N w0 ω0 S E (updL L (ownArgs oid own j args).2) a w ω β' ∧ ArgsOk w ω β' (updL L (ownArgs oid own j args).2) (ownArgs oid own j args).1 vs ∧
      (∀ k, Tr w β w β' L (updL L (ownArgs oid own j args).2) k)
  | [], j, L, β, vs, r, hr, _ => by
    simp only [ownArgs, updL]
    exact ⟨β, r, hr, fun k => Tr.refl k⟩
  | x :: xs, j, L, β, [], _, hr, _ => hr.elim
  | (b, x) :: xs, j, L, β, v :: vs, r, hr, hfree => by
    by_cases hcase : x = .sc .nil ∧ ∃ s, get? own j = some s
    · obtain ⟨rfl, s, hs⟩ := hcase
      have e : ownArgs oid own j ((b, .sc .nil) :: xs) = ((true, .sc (.arr (oid + 1 + j) 0)) :: (ownArgs oid own (j + 1) xs).1, (oid + 1 + j, some (.arr s [] 0)) :: (ownArgs oid own (j + 1) xs).2) := by
        simp only [ownArgs, hs]
      rw [e] at hfree ⊢
      have hk : L (oid + 1 + j) = none := hfree (oid + 1 + j, some (.arr s [] 0)) (by simp)
      have hs0 : 0 < s := hpos _ (get?_mem hs)
      obtain ⟨r1, t1⟩ := r.newNil hk hs0
      have hr1 := hr.2.step (Grows.refl w ω) t1
      obtain ⟨β', r2, hr2, t2⟩ := ownArgs_ok hpos xs (j + 1) _ _ vs r1 hr1 (fun y hy => by
        rw [updO_ne]
        · exact hfree y (List.mem_cons_of_mem _ hy)
        · have := ownArgs_gt xs (j + 1) y hy; omega)
      refine ⟨β', r2, ⟨?_, hr2⟩, fun k => (t1 k).trans (t2 k)⟩
      have hv : v = .slice none 0 0 := by simpa only [RV, RV1, RW] using hr.1
      have h0 : RW w ω (setN β (oid + 1 + j) none) (updO L (oid + 1 + j) (some (.arr s [] 0))) (.arr (oid + 1 + j) 0) v := by
        simp only [RW]
        exact ⟨s, [], 0, updO_same _ _ _, by simp, ⟨_, _, _, hv⟩, fun _ => .inr ⟨by simp [setN], rfl, none, hv⟩⟩
      exact RW.step (Grows.refl w ω) t2 _ h0
    · have e : ownArgs oid own j ((b, x) :: xs) = ((b, x) :: (ownArgs oid own (j + 1) xs).1, (ownArgs oid own (j + 1) xs).2) := by
        simp only [ownArgs]
        split
        · rename_i s hs
          exact absurd ⟨rfl, s, hs⟩ hcase
        · rfl
      rw [e] at hfree ⊢
      obtain ⟨β', r2, hr2, t2⟩ := ownArgs_ok hpos xs (j + 1) L β vs r hr.2 hfree
      exact ⟨β', r2, ⟨hr.1.step (Grows.refl w ω) t2, hr2⟩, t2⟩

def mArgs : List Operand → List (Bool × Opd) → Bool
  | [], [] => true
  | y :: ys, x :: xs => mOpd y x.2 && mArgs ys xs
  | _, _ => false

theorem mArgs_ok (r : Rel C.gl N w0 ω0 S E L a w ω β) : ∀ {ys : List Operand} {xs : List (Bool × Opd)}, mArgs ys xs = true → ArgsOk w ω β L (vals C E xs) (ys.map a.eval)
  | [], [], _ => trivial
  | [], _ :: _, h => by simp [mArgs] at h
  | _ :: _, [], h => by simp [mArgs] at h
  | y :: ys, x :: xs, h => by
    simp only [mArgs, Bool.and_eq_true] at h
    exact ⟨mOpd_ok r h.1, mArgs_ok r h.2⟩

def mCall (op : Op) (f : Opd) (args : List (Bool × Opd)) (own : List (Nat × Nat)) : Bool :=
  match op with
  | .call { callee := .value f', args := args', argTypes := _ } => mOpd f' f && mArgs args'.toList args && own.all (fun p => Nat.blt 0 p.2)
  | _ => false

theorem call_ok (hC : OracleOk P C) (r : Rel C.gl N w0 ω0 S E L a w ω β) {f : Opd} {args : List (Bool × Opd)} {own : List (Nat × Nat)} {oid : Nat} (hm : mCall o.op f args own = true) {u : Upd} (h : exec1 C E L oid (.call f args own) = some (v, u))
    {K : Act → World → Prop} {Q : Exit → Act → World → Prop} (hK : ∀ vv w' ω' β', Rel C.gl N w0 ω0 S E (updL L u) a w' ω' β' → RV w' ω' β' (updL L u) v vv → K (a.put o.dst vv) w') : o.wp P a w K Q := by
  unfold mCall at hm
  split at hm
  · rename_i f' args' ts ho
    simp only [Bool.and_eq_true] at hm
    obtain ⟨⟨h1, h2⟩, h3⟩ := hm
    simp only [exec1] at h
    cases hb : (ownArgs oid own 0 (vals C E args)).2.all (fun u => (L u.1).isNone) with
    | false => rw [hb] at h; simp at h
    | true =>
      rw [hb] at h
      simp only [cond_true] at h
      split at h
      · cases h
      · rename_i v' u' hcall
        simp only [Option.some.injEq, Prod.mk.injEq] at h
        obtain ⟨rfl, rfl⟩ := h
        have hfree : ∀ x ∈ (ownArgs oid own 0 (vals C E args)).2, L x.1 = none := by
          intro x hx
          simpa using List.all_eq_true.1 hb x hx
        obtain ⟨β1, r1, ha1, t1⟩ := ownArgs_ok (pos_of h3) _ 0 L β _ r (mArgs_ok r h2) hfree
        have hf1 := (mOpd_ok r h1).step (Grows.refl w ω) t1
        obtain ⟨g, caps, hfv, ⟨fn, c1, c2, c3⟩, hcalls⟩ := call1_ok hC r1 hf1 ha1 hcall
        have run : (execOp a.eval o).run P w = .ok (.enter g (args'.map a.eval ++ caps)) w := by
          have c3' : fn.name ≠ "runtime.NumGoroutine" := by simpa using c3
          obtain ⟨bd, hbd⟩ := Option.isSome_iff_exists.1 c2
          simp [execOp, ho, resolve, hfv, Deferred.ofValue, invoke, callFunc, c1, c3', hbd]
        unfold Oper.wp
        rw [run, Oper.upon_enter]
        have hmap : (args'.toList.map a.eval).toArray = args'.map a.eval := by rw [← Array.toList_map, Array.toArray_toList]
        rw [hmap] at hcalls
        refine hcalls.mono ?_
        rintro e w' ⟨vv, ω', β', rfl, h4, h5⟩
        rw [← updL_append] at h4 h5
        exact hK vv w' ω' β' h4 h5
  · cases hm

end
end Go.Vs
