/- show.Program at one binding: the walk up to String; the call of show.Program is known. -/
import Derived.Test.YtchkkbbchpnabaaGreatDoorBcc
set_option linter.unusedSimpArgs false
set_option linter.unusedVariables false
set_option linter.deprecated false

/- show.Program at one binding: the walk up to String; the call of show.Program is known. -/
namespace Go.Vs.Tryz
open Go Go.Vs Go.RowKit Go.Proofs Go.Proofs.Tryz
set_option maxRecDepth 100000
noncomputable section

/-- Behind the write, a binding done. -/
structure Seg2 (w : World) (ω : Nat → Nat) (β : Nat → Option Nat) (z : St) (a' : Act) (w' : World) : Prop where
  one : a'.tmps.getD 22 undef = .int .i64 1
  ex : ∃ (w9 : World) (β9 : Nat → Option Nat) (b g : Nat) (cur9 curg : Array Value) (ω' : Nat → Nat) (β' : Nat → Option Nat), Keeps w ω (fun b => ∃ k, Lof [] k ≠ none ∧ β k = some b) w9 (pubB w.heap.size ω) ∧ w.heap.size ≤ b ∧ w.heap.size ≤ g ∧ g ≠ b ∧ β9 192 = some b ∧ β9 193 = some g ∧
    w9.heap[b]? = some (.cells cur9 270 (0, 0)) ∧ cur9.size = 2 ∧ w9.heap[g]? = some (.cells curg 5 (0, 0)) ∧
    Rel gl0 31 w9 (pubB w.heap.size ω) (dfrFr 0 (some []) w9 β9 (look s9.objs) [192, 193]) (get? z.env) (look z.objs) a' w' ω' β'

theorem s9_look : look s9.objs 192 = some (bldO [.el 192 1 0 0, .arr 193 24]) ∧ look s9.objs 193 = some (.arr 1 rowsT 0) ∧ ∀ k o, look s9.objs k = some o → (k = 192 ∧ o = bldO [.el 192 1 0 0, .arr 193 24]) ∨ (k = 193 ∧ o = .arr 1 rowsT 0) := by
  refine ⟨rfl, rfl, fun k o h => ?_⟩
  simp only [look, s9, get?] at h
  cases h1 : (192 == k) with
  | true =>
    have := eq_of_beq h1
    subst this
    simp at h
    exact .inl ⟨rfl, h.symm⟩
  | false =>
    rw [h1] at h
    cases h2 : (193 == k) with
    | true =>
      have := eq_of_beq h2
      subst this
      simp at h
      exact .inr ⟨rfl, h.symm⟩
    | false => rw [h2] at h; simp at h

/-- The end of the run, from the second round on. -/
theorem round2 {fn : Func} (hnt : fn.ntmps = 31) (hres : mRes prog fn.results.toList [.tmp 2] = true) {id : Nat} {oS : Array Oper} (hS : mStr oS oS.toList = true) {w : World} {ω : Nat → Nat} {β : Nat → Option Nat} {z t : St}
    (hL : look t.objs 192 = some (bldO [.el 192 1 0 0, .arr 193 24])) (hL2 : look t.objs 193 = some (.arr 1 rowsT 0)) (hE : get? t.env 3 = some (.sc (.el 192 1 0 0)))
    {w9 : World} {β9 : Nat → Option Nat} {b g : Nat} {cur9 curg : Array Value} (hk9 : Keeps w ω (fun b => ∃ k, Lof [] k ≠ none ∧ β k = some b) w9 (pubB w.heap.size ω)) (hb : w.heap.size ≤ b) (hg : w.heap.size ≤ g) (hgb : g ≠ b) (h1 : β9 192 = some b) (h2 : β9 193 = some g)
    (hh : w9.heap[b]? = some (.cells cur9 270 (0, 0))) (hs : cur9.size = 2) (hhg : w9.heap[g]? = some (.cells curg 5 (0, 0)))
    {a : Act} {w' : World} {ω' : Nat → Nat} {β' : Nat → Option Nat} (r : Rel gl0 31 w9 (pubB w.heap.size ω) (dfrFr 0 (some []) w9 β9 (look s9.objs) [192, 193]) (get? t.env) (look t.objs) a w' ω' β') :
    (Code.seq (.region id oS false) .ret).wp prog (bodyPostM Fence.wide 0 prog fn (Owed w ω β)) a w' := by
  have t1 := r.inv 192 (.inr (by simp))
  have t2 := r.inv 193 (.inr (by simp))
  unfold Tr at t1 t2
  rw [s9_look.1] at t1
  rw [s9_look.2.1] at t2
  simp only [bldO] at t1
  obtain ⟨rows1, p1, e1, _, e2⟩ := t1
  obtain ⟨rows2, p2, e3, _, e4⟩ := t2
  rw [hL] at e1
  rw [hL2] at e3
  cases e1
  cases e3
  obtain ⟨c1, c2⟩ := e2 rfl
  obtain ⟨c3, c4⟩ := e4 rfl
  obtain ⟨cur1, d1, d2⟩ := c2 b cur9 270 h1 hh
  obtain ⟨cur2, d3, d4⟩ := c4 g curg 5 h2 hhg
  obtain ⟨v1, v2, x1, x2, x3⟩ := bld_block r hL (c1.trans h1) d1 (d2.trans hs)
  have hrows : rowsT.length = 24 := rfl
  simp only [RW] at x3
  obtain ⟨s', rows', p', y1, _, ⟨base, n0, cap0, y3⟩, y4⟩ := x3
  rw [hL2] at y1
  cases y1
  rcases y4 hrows.symm with ⟨g', cap, cur, t', z1, z2, z3, z4⟩ | ⟨z1, _⟩
  · rw [c3.trans h2] at z1
    cases z1
    rw [d3] at z3
    cases z3
    obtain ⟨_, _, _, ho⟩ := r.obj 193 _ hL2
    rcases ho with ⟨g'', cap'', cur'', t'', k1, k2, k3, k4, k5, k6, k7⟩ | ⟨k1, _⟩
    · rw [c3.trans h2] at k1
      cases k1
      rw [d3] at k2
      cases k2
      have hcc : cap'' = cap := by omega
      have hbytes : cur2.toList.take (24 * 1) = Lib.byteCells txt := bytes_RW (l := txt) (by rw [hrows] at k6; exact k6)
      have hbld : Lib.BuilderAt 270 5 w.heap.size b v1 (Lib.byteCells txt) w' := by
        refine ⟨hb, v2, x1, ⟨by simp [Lib.byteCells, txt], .inr ⟨g, cap, cur2, by rw [z2]; simp [Lib.byteCells, txt], hg, d3, by rw [hrows] at k4; simp [Lib.byteCells, txt]; omega, by unfold maxLen; unfold maxRows at k5; omega, z4, by simpa [Lib.byteCells, txt] using hbytes⟩⟩, ?_⟩
        rw [z2]
        simpa [Value.ownBlock] using hgb
      refine tail87 hnt hres hS (p := v1) (b := b) r.size r.defers ?_ (elV_ptr r hE hL (c1.trans h1)) hbld
      refine keepsB (Nat.le_trans hk9.size r.keeps.size) (fun c hc => ?_) (r.keeps.os.trans hk9.os) (r.keeps.tape.trans hk9.tape) (r.keeps.output.trans hk9.output)
      refine (r.keeps.same c (Nat.lt_of_lt_of_le hc hk9.size) ?_).1.trans (hk9.same c hc fun ⟨k, h, _⟩ => h rfl).1
      rintro ⟨k, hk, hbk⟩
      obtain ⟨o, ho⟩ := Option.ne_none_iff_exists'.1 hk
      rcases s9_look.2.2 k o ho with ⟨rfl, _⟩ | ⟨rfl, _⟩
      · rw [h1] at hbk; cases hbk; omega
      · rw [h2] at hbk; cases hbk; omega
    · rw [c3.trans h2] at k1; cases k1
  · rw [c3.trans h2] at z1; cases z1
end
end Go.Vs.Tryz

/- show.Program at one binding: the walk from the start; the call of show.Program is known. -/
namespace Go.Vs.Tryz
open Go Go.Vs Go.RowKit Go.Proofs Go.Proofs.Tryz
set_option maxRecDepth 100000
noncomputable section

/-- Behind the write: the frame anew. -/
theorem behind {w w3 w4 : World} {ω ω3 : Nat → Nat} {β β3 : Nat → Option Nat} {E3 : Nat → Option V} {L3 : Nat → Option Obj} {a : Act} {S : Fr} {w2 : World} {ω2 : Nat → Nat} {b : Nat} {v : Value}
    (r : Rel gl0 31 w2 ω2 S E3 L3 a w3 ω3 β3) (hd : a.defers = []) (hs3 : w.heap.size ≤ w3.heap.size) (hw : ∀ c, c < w.heap.size → w3.heap[c]? = w.heap[c]?) (ho : w3.os = w.os) (ht : w3.tape = w.tape) (hout : w3.output = w.output)
    (h3 : a.tmps.getD 3 undef = .pointer (some ⟨b, 0, none⟩)) (h21 : a.tmps.getD 21 undef = .int .i64 1) (h22 : a.tmps.getD 22 undef = .int .i64 0)
    (hb : Lib.BuilderAt 270 5 w.heap.size b (.pointer (some ⟨b, 0, none⟩)) (Lib.byteCells txt) w4) (hbel : Below w.heap.size w3 w4) :
    ∃ (β9 : Nat → Option Nat) (g : Nat) (cur9 curg : Array Value), Keeps w ω (fun b => ∃ k, Lof [] k ≠ none ∧ β k = some b) w4 (pubB w.heap.size ω) ∧ w.heap.size ≤ b ∧ w.heap.size ≤ g ∧ g ≠ b ∧ β9 192 = some b ∧ β9 193 = some g ∧
      w4.heap[b]? = some (.cells cur9 270 (0, 0)) ∧ cur9.size = 2 ∧ w4.heap[g]? = some (.cells curg 5 (0, 0)) ∧
      Rel gl0 31 w4 (pubB w.heap.size ω) (dfrFr 0 (some []) w4 β9 (look s9.objs) [192, 193]) (get? s9.env) (look s9.objs) (a.put (some 28) v) w4 (pubB w.heap.size ω) β9 := by
  obtain ⟨hB, v2, hbk, hown, hne⟩ := hb
  obtain ⟨g, cap, curg, rfl, hbg, hg, hnc, hcm, hcs, htake⟩ : ∃ g cap cur, v2 = .slice (some ⟨g, 0, none⟩) 24 cap ∧ w.heap.size ≤ g ∧ w4.heap[g]? = some (.cells cur 5 (0, 0)) ∧ 24 ≤ cap ∧ cap ≤ maxLen ∧ cur.size = cap * 1 ∧ cur.toList.take (24 * 1) = Lib.byteCells txt := by
    rcases hown.2 with ⟨_, hz⟩ | ⟨g, cap, cur, hv, q⟩
    · exact absurd hz (by decide)
    · exact ⟨g, cap, cur, hv, q⟩
  have hgb : g ≠ b := by simpa [Value.ownBlock] using hne
  have hk4 : Keeps w ω (fun b => ∃ k, Lof [] k ≠ none ∧ β k = some b) w4 (pubB w.heap.size ω) :=
    keepsB (Nat.le_trans hs3 hbel.size) (fun c hc => (hbel.block c hc).trans (hw c hc)) (hbel.os.trans ho) (hbel.tape.trans ht) (hbel.output.trans hout)
  obtain ⟨β9, hβ⟩ : ∃ β9 : Nat → Option Nat, β9 = fun k => bif k == 192 then some b else bif k == 193 then some g else none := ⟨_, rfl⟩
  have h192 : β9 192 = some b := by rw [hβ]; rfl
  have h193 : β9 193 = some g := by rw [hβ]; rfl
  have hpub : ∀ c, w.heap.size ≤ c → pubB w.heap.size ω c = 0 := fun c hc => by unfold pubB; rw [if_neg (by omega)]
  refine ⟨β9, g, _, curg, hk4, hB, hbg, hgb, h192, h193, hbk, rfl, hg, ?_⟩
  have hrows : rowsT.length = 24 := rfl
  refine ⟨by simp [Act.put, r.size], hd, ?_, ?_, ?_, Keeps.refl _ _ _, fun k c hk hc => .inl ⟨k, hk, hc⟩, fun _ => by simp [gl0, RDcells], fun k _ => Tr.refl k⟩
  · intro t x hx
    have htm : ∀ t, t ≠ 28 → (a.put (some 28) v).tmps.getD t undef = a.tmps.getD t undef := fun t ht => by simp [Act.put, Array.getElem?_setIfInBounds_ne (Ne.symm ht)]
    simp only [s9, get?] at hx
    cases e3 : (3 == t) with
    | true =>
      have := eq_of_beq e3
      subst this
      rw [e3] at hx
      cases hx
      rw [htm 3 (by decide), h3]
      refine ⟨by decide, ?_⟩
      simp only [RV, RV1, RW]
      exact ⟨2, _, 0, s9_look.1, by simp, ⟨_, rfl⟩, fun _ _ => ⟨b, h192, by simp⟩⟩
    | false =>
      rw [e3] at hx
      cases e21 : (21 == t) with
      | true =>
        have := eq_of_beq e21
        subst this
        rw [e21] at hx
        cases hx
        rw [htm 21 (by decide), h21]
        exact ⟨by decide, rfl⟩
      | false =>
        rw [e21] at hx
        cases e22 : (22 == t) with
        | true =>
          have := eq_of_beq e22
          subst this
          rw [e22] at hx
          cases hx
          rw [htm 22 (by decide), h22]
          exact ⟨by decide, rfl⟩
        | false => rw [e22] at hx; cases hx
  · intro k o hk
    rcases s9_look.2.2 k o hk with ⟨rfl, rfl⟩ | ⟨rfl, rfl⟩
    · refine ⟨by decide, by simp, by simp, .inl ⟨b, 1, _, 270, h192, hbk, rfl, by simp, by decide, ?_, by rw [hpub b hB]⟩⟩
      show RWlist w4 _ β9 (look s9.objs) [.el 192 1 0 0, .arr 193 24] [.pointer (some ⟨b, 0, none⟩), .slice (some ⟨g, 0, none⟩) 24 cap]
      simp only [RWlist, RW, and_true]
      exact ⟨⟨2, _, 0, s9_look.1, by simp, ⟨_, rfl⟩, fun _ _ => ⟨b, h192, by simp⟩⟩, 1, rowsT, 0, s9_look.2.1, by rw [hrows]; exact Nat.le_refl _, ⟨_, _, _, rfl⟩, fun _ => .inl ⟨g, cap, curg, 5, h193, rfl, hg, hcs⟩⟩
    · refine ⟨by decide, fun q hq => ?_, by simp, .inl ⟨g, cap, curg, 5, h193, hg, hcs, by rw [hrows]; exact hnc, by unfold maxLen at hcm; unfold maxRows; exact hcm, ?_, by rw [hpub g hbg]⟩⟩
      · obtain ⟨x, _, rfl⟩ := List.mem_map.1 hq
        rfl
      · rw [hrows, htake]
        exact RW_bytes txt
  · intro j k c hj hk hbj hbk
    obtain ⟨o1, ho1⟩ := Option.ne_none_iff_exists'.1 hj
    obtain ⟨o2, ho2⟩ := Option.ne_none_iff_exists'.1 hk
    rcases s9_look.2.2 j o1 ho1 with ⟨rfl, _⟩ | ⟨rfl, _⟩ <;> rcases s9_look.2.2 k o2 ho2 with ⟨rfl, _⟩ | ⟨rfl, _⟩
    · rfl
    · rw [h192] at hbj; rw [h193] at hbk; cases hbj; cases hbk; exact absurd rfl hgb
    · rw [h193] at hbj; rw [h192] at hbk; cases hbj; cases hbk; exact absurd rfl hgb
    · rfl

set_option maxHeartbeats 8000000 in
open Classical in
theorem main87 {fn : Func} {c : Code} (hnt : fn.ntmps = 31) (hres : mRes prog fn.results.toList [.tmp 2] = true) (hm : m87 c = true) {w : World} {ω : Nat → Nat} {β : Nat → Option Nat} {a : Act}
    (r00 : Rel gl0 31 w ω ((callFr [] w β).withFd (some [])) (get? s0.env) (look s0.objs) a w ω β) : c.wp prog (bodyPostM Fence.wide 0 prog fn (Owed w ω β)) a w := by
  obtain ⟨x8, hx8, f8⟩ := some_of seg8
  obtain ⟨y4, hy4, hs8⟩ := Option.bind_eq_some_iff.1 hx8
  obtain ⟨y1, hy1, hs4⟩ := Option.bind_eq_some_iff.1 hy4
  obtain ⟨y1', hy1', f0⟩ := some_of seg0
  rw [hy1] at hy1'
  cases hy1'
  have f4 := seg4
  rw [hy4] at f4
  simp only [Option.map_some, Option.some.injEq] at f4
  obtain ⟨y2, hy2, hy3⟩ := Option.bind_eq_some_iff.1 (show (runN q2 (sB y1)).bind (runN q3) = some y4 from hs4)
  obtain ⟨y6, hy6', hh8⟩ := Option.bind_eq_some_iff.1 (show ((runN r0 y4).bind (runN r1)).bind (fun s => (runN r2 s).bind (execL C0 rw12)) = some x8 from hs8)
  obtain ⟨y5, hy5, hy6⟩ := Option.bind_eq_some_iff.1 hy6'
  obtain ⟨y7, hy7, hexec⟩ := Option.bind_eq_some_iff.1 hh8
  obtain ⟨⟨z, zt⟩, hz, fz⟩ := some_of seg10
  obtain ⟨z', hz1, hz2⟩ := Option.bind_eq_some_iff.1 (show (runN r3 s9).bind (fun s => (runN r0 s).bind fun s' => match run C0 300 r1 s' with | some (.exit 2, t) => some (s, t) | _ => none) = some (z, zt) from hz)
  obtain ⟨z2, hz3, hz4⟩ := Option.bind_eq_some_iff.1 hz2
  have hz5 : z' = z ∧ run C0 300 r1 z2 = some (.exit 2, zt) := by
    split at hz4
    · rename_i t ht
      simp only [Option.some.injEq, Prod.mk.injEq] at hz4
      exact ⟨hz4.1, by rw [ht, hz4.2]⟩
    · cases hz4
  obtain ⟨rfl, hz6⟩ := hz5
  simp only [Prod.mk.injEq] at f8 fz
  obtain ⟨g3, g27, g21, g22, gb⟩ := f8
  obtain ⟨k22, k3, kb, kr⟩ := fz
  unfold m87 at hm
  split at hm
  · rename_i c0 id1 o1 c2 c3 g0 g1 g2 idW oW g3c idS oS
    simp only [Bool.and_eq_true] at hm
    obtain ⟨⟨⟨⟨⟨⟨⟨⟨⟨m0, m1⟩, m2⟩, m3⟩, n0⟩, n1⟩, n2⟩, nW⟩, n3⟩, nS⟩ := hm
    refine Go.wp_seq (run_okG (C := C0) okE follows (runH (fun k hk => absurd hk (Nat.not_lt_zero k)) rfl) m0 (runN_some hy1) r00 fun a1 w1 ω1 β1 r1 => ?_)
    have hd1 : a1.defers = [] := r1.defers
    refine Go.wp_seq (wp_region_list ?_)
    generalize o1.toList = os1 at m1
    match os1, m1 with
    | [o], m1 =>
      simp only [mNew, Bool.and_eq_true, beq_iff_eq, Option.isNone_iff_eq_none] at m1
      obtain ⟨⟨hod, hog⟩, hop⟩ := m1
      split at hop
      · rename_i ty ho
        have hty : ty = 270 := by simpa using hop
        subst hty
        obtain ⟨i, hi, hi2⟩ := some_of zero270
        obtain ⟨zv, hzv, hzc⟩ := some_of hi2
        have run : (execOp a1.eval o).run prog w1 = .ok (.value (.pointer (some ⟨w1.heap.size, 0, none⟩))) (w1.alloc (.cells #[.pointer none, .slice none 0 0] 270)) := by
          simp only [execOp, ho, Instr.alloc, Sem.run_bind, zeroValue, typeInfo, run_program, Result.andThen_ok, hi, Sem.run_pure, hzv, newVar_run, hzc]
        refine wpList_value hog run ?_
        rw [hod]
        obtain ⟨b, hbdef⟩ : ∃ b, b = w1.heap.size := ⟨_, rfl⟩
        rw [← hbdef]
        have hk : look y1.objs 192 = none := by simpa using f0
        obtain ⟨r2a, _⟩ := r1.alloc (o := bldO [.c .nilptr, .nil]) hk #[.pointer none, .slice none 0 0] 270 0 (fun tr => ⟨by decide, by simp, by simp, .inl ⟨w1.heap.size, 1, _, 270, by simp [setN], heap_alloc_new w1 _, rfl, by simp, by decide, by
          show RWlist _ _ _ _ [.c .nilptr, .nil] [.pointer none, .slice none 0 0]
          simp [RWlist, RW, RD], by simp [setN]⟩⟩)
        have hB : w.heap.size ≤ b := by rw [hbdef]; exact r1.keeps.size
        generalize hw2 : w1.alloc (.cells #[.pointer none, .slice none 0 0] 270) = w2 at r2a
        have hh2 : w2.heap[b]? = some (.cells #[.pointer none, .slice none 0 0] 270 (0, 0)) := by rw [← hw2, hbdef]; exact heap_alloc_new w1 _
        have hsz2 : w1.heap.size ≤ w2.heap.size := by rw [← hw2]; simp
        have hold2 : ∀ c, c < w.heap.size → w2.heap[c]? = w.heap[c]? := fun c hc => by
          rw [← hw2]
          exact (heap_ne_of_lt (Nat.lt_of_lt_of_le hc r1.keeps.size) _).trans (r1.keeps.same c hc fun ⟨k, h, _⟩ => h rfl).1
        have hos2 : w2.os = w.os := by rw [← hw2]; exact r1.keeps.os
        have htp2 : w2.tape = w.tape := by rw [← hw2]; exact r1.keeps.tape
        have hou2 : w2.output = w.output := by rw [← hw2]; exact r1.keeps.output
        rw [← hbdef] at r2a
        generalize hω2 : setN ω1 b 0 = ω2 at r2a
        generalize hβ2 : setN β1 192 (some b) = β2 at r2a
        have hb2 : β2 192 = some b := by rw [← hβ2]; simp [setN]
        have r2p := r2a.put (d := 3) (by decide) (v := .sc (.el 192 1 0 0)) (vv := .pointer (some ⟨b, 0, none⟩)) (by
          simp only [RV, RV1, RW]
          exact ⟨2, _, 0, updO_same _ _ _, by simp, ⟨_, rfl⟩, fun _ _ => ⟨b, hb2, by simp⟩⟩)
        have r2' : Rel gl0 31 w ω ((callFr [] w β).withFd (some [])) (get? (sB y1).env) (look (sB y1).objs) (a1.put (some 3) (.pointer (some ⟨b, 0, none⟩))) w2 ω2 β2 := by
          rw [show get? (sB y1).env = updE (get? y1.env) 3 (.sc (.el 192 1 0 0)) from get?_put_fun _ _ _, show look (sB y1).objs = updO (look y1.objs) 192 (some (bldO [.c .nilptr, .nil])) from look_put _ _ _]
          exact r2p
        have hLB : look (sB y1).objs 192 = some (bldO [.c .nilptr, .nil]) := by simp only [sB, look_put, updO_same]
        have r3 := r2'.rebaseD 0 [192] []
        have ea : ({ tmps := (a1.put (some 3) (.pointer (some ⟨b, 0, none⟩))).tmps, defers := [] } : Act) = a1.put (some 3) (.pointer (some ⟨b, 0, none⟩)) := by
          obtain ⟨tm, df⟩ := a1
          simp only at hd1
          subst hd1
          rfl
        rw [ea] at r3
        show (Code.seq c2 _).wp prog _ _ _
        refine Go.wp_seq (run_okG (C := C0) okE follows (runHd rfl rfl) m2 (runN_some hy2) r3 fun a4 w4 ω4 β4 r4 => ?_)
        refine Go.wp_seq (Go.wp_seq (run_okG (C := C0) okE follows (runHd rfl rfl) m3 (runN_some hy3) r4 fun a5 w5 ω5 β5 r5 => ?_))
        have t22 : a5.tmps.getD 22 undef = .int .i64 0 := by
          have h := (r5.env 22 _ f4).2
          simpa only [RV, RV1, RW, RD] using h
        refine Go.wp_block (Go.wp_loop (fun a' w' => (a' = a5 ∧ w' = w5) ∨ Seg2 w ω β z' a' w') (fun a' _ => if a'.tmps.getD 22 undef = .int .i64 0 then 1 else 0) (.inl ⟨rfl, rfl⟩) ?_)
        rintro a' w' (⟨rfl, rfl⟩ | ⟨one, w9, β9, b9, g, cur9, curg, ω', β', q1, q2, q3, q4, q5, q6, q7, q8, q9, r9⟩)
        · refine Go.wp_seq (run_okG (C := C0) okE follows (runHd rfl rfl) n0 (runN_some hy5) r5 fun a6 w6 ω6 β6 r6 => ?_)
          refine Go.wp_seq (run_okG (C := C0) okE follows (runHd rfl rfl) n1 (runN_some hy6) r6 fun a7 w7 ω7 β7 r7 => ?_)
          refine Go.wp_seq (Go.wp_block (Go.wp_seq (run_okG (C := C0) okE follows (runHd rfl rfl) n2 (runN_some hy7) r7 fun a8 w8 ω8 β8 r8 => ?_)))
          refine wp_region_list ?_
          generalize oW.toList = osW at nW
          match osW, nW with
          | [p1, p2, p3], nW =>
            simp only [mWr, Bool.and_eq_true, beq_iff_eq, Option.isNone_iff_eq_none] at nW
            obtain ⟨⟨⟨hm12, hd3⟩, hg3⟩, hop3⟩ := nW
            obtain ⟨rs, e3⟩ := execL_execR hexec
            obtain ⟨e4, e5⟩ := execR_runs e3
            refine list_okK (C := C0) (os := [p1, p2]) (rest := [p3]) okE r8 hm12 e4 e5 fun a9 w9 ω9 β9 r9 => ?_
            have t1 := r9.inv 192 (.inr (by simp))
            unfold Tr at t1
            rw [hLB] at t1
            simp only [bldO] at t1
            obtain ⟨rows1, pp1, e6, _, e7⟩ := t1
            rw [gb] at e6
            cases e6
            obtain ⟨c1', c2'⟩ := e7 rfl
            obtain ⟨cur1, d1, d2⟩ := c2' b _ 270 hb2 hh2
            obtain ⟨v1, v2, x1, x2, x3⟩ := bld_block r9 gb (c1'.trans hb2) d1 d2
            have ev1 : v1 = .pointer none := x2
            have ev2 : v2 = .slice none 0 0 := x3
            subst ev1 ev2
            have hbld : Lib.BuilderAt 270 5 w.heap.size b (.pointer none) [] w9 := ⟨hB, _, x1, ⟨rfl, .inl ⟨rfl, rfl⟩⟩, by simp [Value.ownBlock]⟩
            have t3 := elV_ptr r9 g3 gb (c1'.trans hb2)
            have t27 : ∃ s : ByteArray, a9.tmps.getD 27 undef = .string s ∧ s.data.toList = txt := by
              have h := (r9.env 27 _ g27).2
              simpa only [RV, RV1, RW, RD] using h
            obtain ⟨s, hs27, hstxt⟩ := t27
            have t21 : a9.tmps.getD 21 undef = .int .i64 1 := by
              have h := (r9.env 21 _ g21).2
              simpa only [RV, RV1, RW, RD] using h
            have t22' : a9.tmps.getD 22 undef = .int .i64 0 := by
              have h := (r9.env 22 _ g22).2
              simpa only [RV, RV1, RW, RD] using h
            have hs9 : w.heap.size ≤ w9.heap.size := Nat.le_trans r1.keeps.size (Nat.le_trans hsz2 r9.keeps.size)
            have hold9 : ∀ c, c < w.heap.size → w9.heap[c]? = w.heap[c]? := fun c hc => by
              refine (r9.keeps.same c (Nat.lt_of_lt_of_le hc (Nat.le_trans r1.keeps.size hsz2)) ?_).1.trans (hold2 c hc)
              rintro ⟨k, hk, hbk⟩
              rcases r2'.mine k c hk hbk with ⟨j, hj, _⟩ | h1
              · exact hj rfl
              · omega
            split at hop3
            · rename_i gf px py ts3 ho3
              simp only [Bool.and_eq_true] at hop3
              obtain ⟨⟨hgf, hpx⟩, hpy⟩ := hop3
              have hgv := mOpd_ok (C := C0) r9 hgf
              obtain ⟨cs, hfv, hcs⟩ : ∃ cs : Array Value, a9.eval gf = .func (.func 172) #[] cs ∧ RDcaps w9 ω9 [] [] cs.toList := by simpa only [Opd.val, RV, RV1, RW, RD] using hgv
              have hcs0 : cs = #[] := by
                obtain ⟨l⟩ := cs
                match l, hcs with
                | [], _ => rfl
                | _ :: _, h => simp [RDcaps] at h
              subst hcs0
              have hx : a9.eval px = .pointer (some ⟨b, 0, none⟩) := by
                have hx3 : px = .tmp 3 := by
                  cases px <;> simp [mOpd] at hpx
                  rw [hpx]
                rw [hx3]
                exact t3
              have hy : a9.eval py = .string s := by
                have hx3 : py = .tmp 27 := by
                  cases py <;> simp [mOpd] at hpy
                  rw [hpy]
                rw [hx3]
                exact hs27
              have hc172 := call172
              split at hc172
              · rename_i f5 hf5
                simp only [Bool.and_eq_true, Bool.not_eq_true'] at hc172
                obtain ⟨bd, hbd⟩ := Option.isSome_iff_exists.1 hc172.1
                have hn5 : f5.name ≠ "runtime.NumGoroutine" := by
                  have := hc172.2
                  grind
                have run3 : (execOp a9.eval p3).run prog w9 = .ok (.enter 172 #[.pointer (some ⟨b, 0, none⟩), .string s]) w9 := by
                  simp [execOp, ho3, resolve, hfv, hx, hy, Deferred.ofValue, invoke, callFunc, hf5, hn5, hbd]
                have hss : s.size = 24 := by rw [Lib.size_eq, hstxt]; rfl
                refine wpList_enter hg3 run3 ((writeString172 w.heap.size b [] s w9 hbld (by rw [hss]; decide) hs9).mono ?_)
                rintro e w10 ⟨rfl, hbld10, hbel⟩
                refine ⟨_, rfl, ?_⟩
                rw [hd3]
                have hbytes : ([] : List Value) ++ Lib.strCells s = Lib.byteCells txt := by rw [List.nil_append, Lib.strCells_eq, hstxt]
                rw [hbytes] at hbld10
                have hd9 : a9.defers = [] := r9.defers
                obtain ⟨β10, g, cur9, curg, k1, k2, k3', k4, k5, k6, k7, k8, k9, r10⟩ := behind (ω := ω) (β := β) (v := .tuple #[.int .i64 s.size, .nilIface]) r9 hd9 hs9 hold9 (r9.keeps.os.trans hos2) (r9.keeps.tape.trans htp2) (r9.keeps.output.trans hou2) t3 t21 t22' hbld10 hbel
                show (Code.wp prog g3c _ _ _)
                refine run_okG (C := C0) okE follows (runHd rfl rfl) n3 (runN_some hz1) r10 fun a12 w12 ω12 β12 r12 => ?_
                have one : a12.tmps.getD 22 undef = .int .i64 1 := by
                  have h := (r12.env 22 _ k22).2
                  simpa only [RV, RV1, RW, RD] using h
                refine ⟨.inr ⟨one, w10, β10, b, g, cur9, curg, ω12, β12, k1, k2, k3', k4, k5, k6, k7, k8, k9, r12⟩, ?_⟩
                rw [one, t22]
                simp
              · cases hc172
            · cases hop3
        · refine Go.wp_seq (run_okG (C := C0) okE follows (runHd rfl rfl) n0 (runN_some hz3) r9 fun a13 w13 ω13 β13 r13 => ?_)
          refine Go.wp_seq (run_okG (C := C0) okE follows (runHd rfl rfl) n1 hz6 r13 fun a14 w14 ω14 β14 r14 => ?_)
          show (Code.seq (.region idS oS false) .ret).wp prog _ _ _
          exact round2 (z := z') hnt hres nS kb kr k3 q1 q2 q3 q4 q5 q6 q7 q8 q9 r14
      · cases hop
  · cases hm

theorem prog87 : KOk e87_0 := by
  have hbody := body87
  split at hbody
  · rename_i fn hfn
    simp only [Bool.and_eq_true, Bool.not_eq_true'] at hbody
    obtain ⟨⟨⟨hbody, hres⟩, hnt⟩, hname⟩ := hbody
    have hnt : fn.ntmps = 31 := Nat.eq_of_beq_eq_true hnt
    split at hbody
    · rename_i c hc
      refine ⟨⟨fn, hfn, by rw [hc]; rfl, hname⟩, ?_⟩
      intro w ω β cargs hgl hargs hobj hinj
      obtain ⟨al, ag⟩ := RVs_get hargs
      have al' : cargs.size = 1 := by
        have : e87_0.args.length = 1 := by kernel_rfl
        have h2 : e87_0.args.length = cargs.toList.length := by omega
        rw [this] at h2
        simpa using h2.symm
      have r00 : Rel gl0 31 w ω ((callFr [] w β).withFd (some [])) (get? s0.env) (look s0.objs) { tmps := cargs ++ Array.replicate (fn.ntmps - cargs.size) undef, defers := [] } w ω β := by
        refine ⟨by rw [hnt]; simp [al'], rfl, ?_, fun k o hk => (nomatch hk), fun j k b hj => absurd rfl hj, Keeps.refl _ _ _, fun k b hk => absurd rfl hk, hgl, fun k hk => absurd hk (Nat.not_lt_zero k)⟩
        intro t x ht
        rw [show get? s0.env = get? (enumF 0 e87_0.args) from rfl, get?_enum0] at ht
        obtain ⟨v, hv1, hv2⟩ := ag t x ht
        have hlt : t < cargs.size := by
          grind
        refine ⟨by omega, ?_⟩
        have : (cargs ++ Array.replicate (fn.ntmps - cargs.size) undef).getD t undef = v := by
          rw [Array.getD_eq_getD_getElem?, Array.getElem?_append_left hlt, ← Array.getElem?_toList, hv1]
          rfl
        rw [this]
        exact RV_of1 hv2
      refine (callsIn_wide (n := 0)).1 (callsIn_of_wp_marks hfn hc trivial ((wpIn_wide (n := 0)).2 ?_))
      exact main87 hnt hres hbody r00
    · cases hbody
  · cases hbody
end
end Go.Vs.Tryz
