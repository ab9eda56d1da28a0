/- The value semantics, 28: the evaluator of functions is sound, the theorem. -/
import Derived.Test.YtogldkeabdgjgaaVs27
namespace Go.Vs
open Go

section
variable {P : Program} {gl : Nat → List Cell} {N : Nat} {w0 : World} {ω0 : Nat → Nat} {S : Fr} {a : Act} {w : World} {ω : Nat → Nat} {β : Nat → Option Nat}

/-- The frame of a call. -/
def callFr (objs : List Obj) (w : World) (β : Nat → Option Nat) : Fr where
  S := fun b => ∃ k, Lof objs k ≠ none ∧ β k = some b
  kept := fun k => k < objs.length
  J := fun w' β' L' => ∀ k, k < objs.length → Tr w β w' β' (Lof objs) L' k
  closed := fun _ _ _ _ _ _ h h' k hk => (h k hk).trans (h' k hk)

theorem finish_ok {C : Ctx} {objs : List Obj} {β0 : Nat → Option Nat} {s : St} (r : Rel C.gl N w0 ω0 (callFr objs w0 β0) (get? s.env) (look s.objs) a w ω β) (hlen : objs.length ≤ 64) {fn : Func} {vf : VFun} (hm : mRes P fn.results.toList vf.results = true)
    {rv : V} {objs' : List Obj} (h : finish vf.keep objs.length vf.results s = some (rv, objs')) :
    ∃ v ω' β', (results fn a.tmps).run P w = .ok v w ∧ RV w ω' β' (Lof objs') rv v ∧
      (∀ k o, Lof objs' k = some o → ObjOk w ω' β' (Lof objs') k o) ∧
      (∀ j k b, Lof objs' j ≠ none → Lof objs' k ≠ none → β' j = some b → β' k = some b → j = k) ∧
      Keeps w0 ω0 (fun b => ∃ k, Lof objs k ≠ none ∧ β0 k = some b) w ω' ∧
      (∀ k b, Lof objs' k ≠ none → β' k = some b → (∃ j, Lof objs j ≠ none ∧ β0 j = some b) ∨ w0.heap.size ≤ b) ∧
      (∀ k, Tr w0 β0 w β' (Lof objs) (Lof objs') k) := by
  unfold finish at h
  cases hvs : listM (resV s) vf.results with
  | none => rw [hvs] at h; cases h
  | some vs =>
    rw [hvs] at h
    simp only at h
    cases hn : vs.all notTu with
    | false => rw [hn] at h; cases h
    | true =>
      rw [hn] at h
      simp only [cond_true] at h
      obtain ⟨us, h1, _, h3⟩ := listM_res r hm hvs hn
      obtain ⟨v, g1, g2⟩ := results_run h1 h3
      cases hk : vf.keep with
      | true =>
        rw [hk] at h
        simp only [cond_true] at h
        obtain ⟨β', q⟩ := export1_ok r rfl r.inv (Grows.refl w ω) (ds := []) (by simp) (fun _ _ => rfl) ((reach_nodup _ _).filter _) (fun k hk' => Nat.le_of_ble_eq_true (List.mem_filter.1 hk').2) hlen (by simp) hn g2 h
        exact ⟨v, ω, β', g1, q⟩
      | false =>
        rw [hk] at h
        simp only [cond_false] at h
        split at h
        · cases h
        · rename_i ds hds
          cases hids : (vs.all fun v => v.cells.all fun x => (W.ids (look s.objs) deep x).all fun k => Nat.ble 64 k) with
          | false => rw [hids] at h; cases h
          | true =>
            rw [hids] at h
            simp only [cond_true] at h
            obtain ⟨ω', p0, p1, p2⟩ := publish_ex r (vs.flatMap fun v => v.cells.flatMap (W.ids (look s.objs) deep))
            have hge : ∀ k ∈ (vs.flatMap fun v => v.cells.flatMap (W.ids (look s.objs) deep)), 64 ≤ k := by
              intro k hk'
              obtain ⟨v', hv', hk'⟩ := List.mem_flatMap.1 hk'
              obtain ⟨x, hx, hk'⟩ := List.mem_flatMap.1 hk'
              exact Nat.le_of_ble_eq_true (List.all_eq_true.1 (List.all_eq_true.1 (List.all_eq_true.1 hids v' hv') x hx) k hk')
            obtain ⟨e1, e2⟩ := packR_toD r.obj p0 hds g2 (fun k hk' s' rows p b hL hb => Nat.le_of_eq (p1 k hk' s' rows p b hL hb).symm)
            rw [← List.append_nil (List.range objs.length)] at h
            obtain ⟨β', q⟩ := export1_ok r rfl r.inv p0 hge p2 (rest := []) (by simp) (by simp) hlen (by simp) e2 e1 h
            exact ⟨v, ω', β', g1, q⟩

theorem evalFn_ok {T : FuncId → Option VFun} {X : Oracle} (hP : P.follows .mixedOrders = true) (hT : ∀ f vf, T f = some vf → mFun P f vf = true)
    (hX : ∀ f args objs rv objs', X f args objs = some (rv, objs') → FnOk P gl f args objs rv objs') :
    ∀ (n : Nat) {f : FuncId} {args : List V} {objs : List Obj} {rv : V} {objs' : List Obj}, evalFn T X gl n f args objs = some (rv, objs') → FnOk P gl f args objs rv objs' := by
  intro n
  induction n with
  | zero => intro f args objs rv objs' h; simp [evalFn] at h
  | succ n ih =>
    intro f args objs rv objs' h
    simp only [evalFn] at h
    split at h
    · exact hX _ _ _ _ _ h
    · rename_i vf hvf
      cases hc : (args.length == vf.nparams && Nat.ble objs.length 64) with
      | false => rw [hc] at h; cases h
      | true =>
        rw [hc] at h
        simp only [cond_true] at h
        simp only [Bool.and_eq_true, beq_iff_eq] at hc
        have hlen : objs.length ≤ 64 := Nat.le_of_ble_eq_true hc.2
        have hm := hT f vf hvf
        unfold mFun at hm
        split at hm
        · rename_i fn hfn
          simp only [Bool.and_eq_true, Bool.not_eq_true'] at hm
          obtain ⟨hname, hm⟩ := hm
          split at hm
          · rename_i c hbody
            simp only [Bool.and_eq_true] at hm
            obtain ⟨⟨m1, m2⟩, m3⟩ := hm
            refine ⟨⟨fn, hfn, by simp [hbody], hname⟩, ?_⟩
            intro w ω β cargs hgl hargs hobj hinj
            obtain ⟨al, ag⟩ := RVs_get hargs
            have al' : args.length = cargs.size := by simpa using al
            have hnp : cargs.size ≤ fn.ntmps := by rw [← al', hc.1]; exact Nat.le_of_ble_eq_true m3
            have hOr : OracleOk P ⟨evalFn T X gl n, gl⟩ := fun f args objs rv objs' h => ih h
            have r0 : Rel gl fn.ntmps w ω (callFr objs w β) (get? (enumF 0 args)) (look (enumF 0 (objs.map some))) { tmps := cargs ++ Array.replicate (fn.ntmps - cargs.size) undef, defers := [] } w ω β := by
              rw [look_enum]
              refine ⟨by simp; omega, rfl, ?_, hobj, hinj, Keeps.refl _ _ _, fun k b hk hb => .inl ⟨k, hk, hb⟩, hgl, fun k _ => Tr.refl k⟩
              intro t x ht
              rw [get?_enum0] at ht
              obtain ⟨v, hv1, hv2⟩ := ag t x ht
              have hlt : t < cargs.size := by
                have := (List.getElem?_eq_some_iff.1 hv1).1
                simpa using this
              refine ⟨by omega, ?_⟩
              have : (cargs ++ Array.replicate (fn.ntmps - cargs.size) undef).getD t undef = v := by
                rw [Array.getD_eq_getD_getElem?, Array.getElem?_append_left hlt, ← Array.getElem?_toList, hv1]
                rfl
              rw [this]
              exact RV_of1 hv2
            have post : ∀ {s : St}, finish vf.keep objs.length vf.results s = some (rv, objs') → ∀ (a : Act) (w' : World) (ω' : Nat → Nat) (β' : Nat → Option Nat), Rel gl fn.ntmps w ω (callFr objs w β) (get? s.env) (look s.objs) a w' ω' β' →
                a.defers = [] ∧ ∃ v, (results fn a.tmps).run P w' = .ok v w' ∧ ∃ vv ω2 β2, Ending.returned v = .returned vv ∧ RV w' ω2 β2 (Lof objs') rv vv ∧
                (∀ k o, Lof objs' k = some o → ObjOk w' ω2 β2 (Lof objs') k o) ∧
                (∀ j k b, Lof objs' j ≠ none → Lof objs' k ≠ none → β2 j = some b → β2 k = some b → j = k) ∧
                Keeps w ω (fun b => ∃ k, Lof objs k ≠ none ∧ β k = some b) w' ω2 ∧
                (∀ k b, Lof objs' k ≠ none → β2 k = some b → (∃ j, Lof objs j ≠ none ∧ β j = some b) ∨ w.heap.size ≤ b) ∧
                (∀ k, Tr w β w' β2 (Lof objs) (Lof objs') k) := by
              intro s hs a w' ω' β' r
              obtain ⟨v, ω2, β2, q1, q2⟩ := finish_ok (P := P) (C := ⟨evalFn T X gl n, gl⟩) r hlen m2 hs
              exact ⟨r.defers, v, q1, v, ω2, β2, rfl, q2⟩
            refine calls_of_wp hfn hbody ?_
            split at h
            · cases h
            · rename_i ex s hne hrun
              refine run_ok (C := ⟨evalFn T X gl n, gl⟩) hOr hP (S := callFr objs w β) (fun k hk => Nat.lt_of_lt_of_le hk hlen) m1 hrun r0 fun a w' ω' β' r => ?_
              cases ex with
              | normal => exact post h a w' ω' β' r
              | exit id => exact absurd rfl (hne id)
              | ret => exact post h a w' ω' β' r
            · cases h
          · cases hm
        · cases hm

end
end Go.Vs
