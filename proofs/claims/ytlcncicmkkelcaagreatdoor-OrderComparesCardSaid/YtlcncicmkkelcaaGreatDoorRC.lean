/- Comparing by the program: the closure compare, walked. (Parts of one proof, put together.) -/
import Derived.Test.YtlcncicmkkelcaaGreatDoorRB
import Derived.Test.YtlcncicmkkelcaaGreatDoorR9
import Derived.Test.YtlcncicmkkelcaaGreatDoorRA
set_option linter.unusedSimpArgs false
set_option linter.unusedVariables false
set_option linter.deprecated false

/- Comparing by the program: the closure compare, walked. -/
namespace Go.Vs.Tryz
open Go Go.Vs
variable {A : Oracle}

set_option maxRecDepth 10000 in
set_option maxHeartbeats 16000000 in
theorem compare58 (ds : List DataD) (ctx : List EntD) (hd : ds.length ≤ 1000) (hg : ∀ d ∈ ds, d.cons.length ≤ 6) (hc : ctx.length ≤ 1000) : ∀ n, CmpC A ds ctx n := by
  intro n
  induction n with
  | zero => intro a b l m h; have := a.weight_pos; omega
  | succ n ih =>
    intro a b l m hw ga gb hl hm
    rw [cmpF_succ]
    unfold boxC
    refine fn_of (vf := v58) (by kernel_rfl) rfl (by simp) ?_
    have s1 := size32 (A := A) a ga (by omega)
    have s2 := size32 (A := A) b gb (by omega)
    have c1 := compare67 (A := A) (sizeM a) (sizeM b)
    have k1 := kind71 (A := A) a
    have k2 := kind71 (A := A) b
    have c2 := compare67 (A := A) (kindM a) (kindM b)
    have o1 := or70 (A := A) [cmpI (sizeM a) (sizeM b), cmpI (kindM a) (kindM b)] (by simp)
    simp only [intsV, intRows, List.map_cons, List.map_nil, intRow] at o1
    have hk0 : cmpI (kindM a) (kindM b) = 0 → kindM a = kindM b := cmpI_zero.1
    have cl := clip72 (A := A) l (by omega)
    have cm := clip72 (A := A) m (by omega)
    generalize cmpI (sizeM a) (sizeM b) = cz at *
    generalize cmpI (kindM a) (kindM b) = ck at *
    unfold v58
    by_cases h0 : orI [cz, ck] = 0
    · obtain ⟨hpost, rfl, rfl⟩ := orI_post (c := cmpR (rkM ds ctx) n l m a b) h0
      rw [hpost]
      rw [h0] at o1
      obtain ⟨k4, k8⟩ := kind_of (hk0 rfl)
      by_cases h4 : a.kind = 4
      · obtain ⟨x, hx, gx, ra⟩ := ga.lam h4
        obtain ⟨y, hy, gy, rb⟩ := gb.lam (k4.1 h4)
        have hxw := Exp.child_lt (e := a) (x := x) (by simp [Exp.children, hx])
        have hyw := Exp.child_lt (e := b) (x := y) (by simp [Exp.children, hy])
        have hrec := ih x y (l ++ [a.name]) (m ++ [b.name]) (by omega) gx gy (by simp; omega) (by simp; omega)
        have hka : kindM a = 0 := by simp [kindM, h4]
        have hkb : kindM b = 0 := by simp [kindM, k4.1 h4]
        have hR : cmpR (rkM ds ctx) n l m a b = cmpF (rkM ds ctx) n (l ++ [a.name]) (m ++ [b.name]) x y := by
          unfold cmpR
          rw [if_pos h4, kid0_of hx, kid0_of hy]
        rw [hR]
        unfold boxC at hrec
        generalize cmpF (rkM ds ctx) n (l ++ [a.name]) (m ++ [b.name]) x y = z at *
        rw [hka] at k1 c2
        rw [hkb] at k2 c2
        simp (maxSteps := 4000000) (disch := first | omega | (simp; done) | (simp; omega)) [s1, s2, c1, k1, k2, c2, o1, hx, hy, cl, cm, hrec, fit1, List.getElem?_cons_zero, -getElem?_pos]
      · by_cases h8 : a.kind = 8
        · have h4b : ¬ b.kind = 4 := fun h => h4 (k4.2 h)
          obtain ⟨x, hx, _, gx, hne, hall⟩ := ga.case h8
          obtain ⟨y, hy, _, gy, hne', hall'⟩ := gb.case (k8.1 h8)
          have hka : kindM a = 2 := by simp [kindM, h8]
          have hkb : kindM b = 2 := by rw [← hk0 rfl, hka]
          have r1 := rank66 (A := A) ds ctx l m x y hd hg hc (by omega) (by omega)
          have c3 := compare67 (A := A) a.arms.length b.arms.length
          have hal := a.children_le
          have hbl := b.children_le
          rw [Exp.children_len] at hal hbl
          have hpos : 0 < a.arms.length := List.length_pos_iff.2 hne
          have hpos' : 0 < b.arms.length := List.length_pos_iff.2 hne'
          have hmn : (if b.arms.length < a.arms.length then (b.arms.length : Int) else (a.arms.length : Int)) = ((min a.arms.length b.arms.length : Nat) : Int) := by
            split <;> omega
          obtain ⟨con, hcon⟩ : ∃ con, con = cmpI (rkM ds ctx l (con0 a)) (rkM ds ctx m (con0 b)) := ⟨_, rfl⟩
          obtain ⟨zs, hz⟩ : ∃ zs, zs = List.zipWith (fun (p q : ArmH × Exp) => cmpF (rkM ds ctx) n (l ++ p.1.vars) (m ++ q.1.vars) p.2 q.2) a.arms b.arms := ⟨_, rfl⟩
          have hzl : zs.length = min a.arms.length b.arms.length := by rw [hz, List.length_zipWith]
          have hR : cmpR (rkM ds ctx) n l m a b = orI (cmpI (rkM ds ctx l x) (rkM ds ctx m y) :: con :: (zs ++ [cmpI a.arms.length b.arms.length])) := by
            unfold cmpR
            rw [if_neg h4, if_pos h8, kid0_of hx, kid0_of hy, ← hcon, ← hz]
          rw [hR]
          generalize cmpI (rkM ds ctx l x) (rkM ds ctx m y) = z1 at *
          generalize cmpI (a.arms.length : Int) b.arms.length = z9 at *
          rw [hka] at k1 c2
          rw [hkb] at k2 c2
          by_cases hz1 : z1 = 0
          · subst hz1
            have hO : orI (0 :: con :: (zs ++ [z9])) = orI (con :: (zs ++ [z9])) := rfl
            rw [hO]
            simp (maxSteps := 4000000) (disch := first | omega | (simp; done) | (simp; omega)) [s1, s2, c1, k1, k2, c2, o1, r1, hx, hy, hmn, List.getElem?_cons_zero, -getElem?_pos]
            refine wp_loopI (fun i s => (∀ y ∈ zs.take i, y = 0) ∧ (0 < i → con = 0) ∧ s = armS ds ctx l m a b (min a.arms.length b.arms.length) i) (min a.arms.length b.arms.length) ⟨by simp, by simp, by simp [armS]⟩ ?_ ?_
            · rintro i s hi ⟨hs, hci, rfl⟩
              obtain ⟨p, hp⟩ := get_of_lt (l := a.arms) (i := i) (by omega)
              obtain ⟨q, hq⟩ := get_of_lt (l := b.arms) (i := i) (by omega)
              have hpm := List.mem_of_getElem? hp
              have hqm := List.mem_of_getElem? hq
              have hzi : zs[i]? = some (cmpF (rkM ds ctx) n (l ++ p.1.vars) (m ++ q.1.vars) p.2 q.2) := by rw [hz]; exact zip_get hp hq
              have bp := bound_child (e := a) (x := p.2) (i := i + 1) (by simp [Exp.children, hx, hp])
              have bq := bound_child (e := b) (x := q.2) (i := i + 1) (by simp [Exp.children, hy, hq])
              rw [bound_some, if_neg (by omega), if_pos (by omega), Nat.add_sub_cancel, hp] at bp
              rw [bound_some, if_neg (by omega), if_pos (by omega), Nat.add_sub_cancel, hq] at bq
              simp only [Option.map_some, Option.getD_some] at bp bq
              have wp1 := Exp.child_lt (arm_mem hpm)
              have hrec := ih p.2 q.2 (l ++ p.1.vars) (m ++ q.1.vars) (by omega) (hall p hpm) (hall' q hqm) (by simp; omega) (by simp; omega)
              have hexit : ∀ z, zs[i]? = some z → con = 0 → z ≠ 0 → orI (con :: (zs ++ [z9])) = z := by
                intro z hzi hc0 hz0
                rw [hc0, orI_cons, if_pos rfl, orI_app, orI_at hzi hz0 hs, if_neg hz0]
              have key := fun rest => cmp_round ds ctx l m a b p q (min a.arms.length b.arms.length) i con _ (orI (con :: (zs ++ [z9]))) rest ⟨by omega, by omega⟩ hi (by omega) hp hq cl cm (by omega) (by omega) (by
                rintro rfl
                have := rank66 (A := A) ds ctx l m (conExp p.1.con) (conExp q.1.con) hd hg hc (by omega) (by omega)
                rw [hcon, con0_of hp, con0_of hq]
                exact this) hrec hci (by
                intro _ h
                rw [orI_cons, if_neg h]) (hexit _ hzi)
              unfold boxC at key
              apply wp_mono (key _)
              rintro e s' (⟨h1, ⟨h2, h3⟩, h4⟩ | h)
              · rw [h2] at hzi
                exact .inl ⟨h1, zeros_succ hs hzi, fun _ => h3, h4⟩
              · exact .inr h
            · rintro s ⟨hs, hci, rfl⟩
              have hcon0 : con = 0 := hci (by omega)
              have ho : orI (con :: (zs ++ [z9])) = z9 := by
                rw [hcon0, orI_cons, if_pos rfl, orI_app, if_pos (orI_zero fun y hy => hs y (by rw [List.take_of_length_le (by omega)]; exact hy)), orI_one]
              unfold l58_0 armS
              simp (maxSteps := 4000000) (disch := first | omega | (simp; done) | (simp; omega)) [c3, ho, -getElem?_pos]
          · have hO : orI (z1 :: con :: (zs ++ [z9])) = z1 := by rw [orI_cons, if_neg hz1]
            rw [hO]
            simp (maxSteps := 4000000) (disch := first | omega | (simp; done) | (simp; omega)) [s1, s2, c1, k1, k2, c2, o1, r1, hx, hy, hz1, List.getElem?_cons_zero, -getElem?_pos]
        · have ka := ga.heady h4 h8
          have kb := gb.heady (fun h => h4 (k4.2 h)) (fun h => h8 (k8.2 h))
          obtain ⟨p1, p2, p3, _, p5⟩ := spine_good a ga ka
          obtain ⟨q1, q2, q3, _, q5⟩ := spine_good b gb kb
          have hka : kindM a = 1 := by simp [kindM, h4, h8]
          have hkb : kindM b = 1 := by rw [← hk0 rfl, hka]
          have t1 := spine73 (A := A) a ga ka (by omega)
          have t2 := spine73 (A := A) b gb kb (by omega)
          have r1 := rank66 (A := A) ds ctx l m (spine a).1 (spine b).1 hd hg hc (by omega) (by omega)
          have c3 := compare67 (A := A) (spine a).2.length (spine b).2.length
          have al := all57 (A := A) ds ctx n ih l m (spine a).2 (spine b).2 (fun x hx => by have := sum_mem (f := Exp.weight) hx; exact ⟨p3 x hx, by omega, by omega⟩) (fun x hx => by have := sum_mem (f := Exp.weight) hx; exact ⟨q3 x hx, by omega⟩) (by omega) (by omega)
          have hR : cmpR (rkM ds ctx) n l m a b = orI [cmpI (rkM ds ctx l (spine a).1) (rkM ds ctx m (spine b).1), cmpI (spine a).2.length (spine b).2.length, orI (List.zipWith (cmpF (rkM ds ctx) n l m) (spine a).2 (spine b).2)] := by
            unfold cmpR
            rw [if_neg h4, if_neg h8]
          rw [hR]
          unfold boxA at al
          generalize orI (List.zipWith (cmpF (rkM ds ctx) n l m) (spine a).2 (spine b).2) = z3 at *
          generalize cmpI (rkM ds ctx l (spine a).1) (rkM ds ctx m (spine b).1) = z1 at *
          generalize cmpI ((spine a).2.length : Int) (spine b).2.length = z2 at *
          have o2 := or70 (A := A) [z1, z2, z3] (by simp)
          simp only [intsV, intRows, List.map_cons, List.map_nil, intRow] at o2
          rw [hka] at k1 c2
          rw [hkb] at k2 c2
          simp (maxSteps := 4000000) (disch := first | omega | (simp; done) | (simp; omega)) [s1, s2, c1, k1, k2, c2, o1, t1, t2, r1, c3, al, o2, -getElem?_pos]
    · have hp := orI_pre (c := cmpR (rkM ds ctx) n l m a b) h0
      rw [hp]
      generalize orI [cz, ck] = z at *
      simp (maxSteps := 4000000) (disch := first | omega | (simp; done) | (simp; omega)) [s1, s2, c1, k1, k2, c2, o1, h0, -getElem?_pos]
end Go.Vs.Tryz

/- Valid terms by the program, walked. -/
namespace Go.Vs.Tryz
open Go Go.Vs
variable {A : Oracle}

theorem notLower116 (s : Str) (h : nameOk 97 122 s) : (K A).call 116 [strV s] [] = some (boolV false, []) := by
  refine fn_of (vf := v116) (by kernel_rfl) rfl (by simp) ?_
  have h1 := lower109 (A := A) s h
  unfold v116
  simp (disch := first | omega | (simp; done) | (simp; omega)) [h1]
theorem indexS (l : List Str) (hl : l.length ≤ 1073741824) (h : ∀ s ∈ l, nameOk 97 122 s) : (K A).call 163 [strsV l, .sc (.c (.fn 116 [] []))] [] = some (intV (-1), []) := by
  refine fn_of (vf := v163) (by kernel_rfl) rfl (by simp) ?_
  unfold v163
  simp (disch := first | omega | (simp; done) | (simp; omega)) [-getElem?_pos]
  refine wp_loop (fun i => ⟨[(0, strsV l), (1, .sc (.c (.fn 116 [] []))), (7, intV l.length), (8, intV i)], []⟩) l.length ?_ ?_ ?_
  · simp
  · intro i hi
    obtain ⟨x, hx⟩ := get_of_lt hi
    have h1 := notLower116 (A := A) x (h x (List.mem_of_getElem? hx))
    unfold l163_0
    simp (disch := first | omega | (simp; done) | (simp; omega)) [hi, hx, h1, -getElem?_pos]
  · unfold l163_0
    simp (disch := first | omega | (simp; done) | (simp; omega)) [-getElem?_pos]
theorem anyS115 (l : List Str) (hl : l.length ≤ 1073741824) (h : ∀ s ∈ l, nameOk 97 122 s) : (K A).call 115 [strsV l, .sc (.c (.fn 116 [] []))] [] = some (boolV false, []) := by
  refine fn_of (vf := v115) (by kernel_rfl) rfl (by simp) ?_
  have h1 := indexS (A := A) l hl h
  unfold v115
  simp (disch := first | omega | (simp; done) | (simp; omega)) [h1]
theorem indexE (l : List Exp) (hl : l.length ≤ 1073741824) (h : ∀ x ∈ l, (K A).call 63 [expV x] [] = some (boolV true, [])) : (K A).call 164 [expsV l, .sc (.c (.fn 118 [] []))] [] = some (intV (-1), []) := by
  refine fn_of (vf := v164) (by kernel_rfl) rfl (by simp) ?_
  have hn : ∀ x ∈ l, (K A).call 118 [expV x] [] = some (boolV false, []) := by
    intro x hx
    have h1 := h x hx
    refine fn_of (vf := v118) (by kernel_rfl) rfl (by simp) ?_
    unfold v118
    simp (disch := first | omega | (simp; done) | (simp; omega)) [h1]
  unfold v164
  simp (disch := first | omega | (simp; done) | (simp; omega)) [-getElem?_pos]
  refine wp_loop (fun i => ⟨[(0, expsV l), (1, .sc (.c (.fn 118 [] []))), (7, intV l.length), (8, intV i)], []⟩) l.length ?_ ?_ ?_
  · simp
  · intro i hi
    obtain ⟨x, hx⟩ := get_of_lt hi
    have h1 := hn x (List.mem_of_getElem? hx)
    unfold l164_0
    simp (disch := first | omega | (simp; done) | (simp; omega)) [hi, hx, h1, -getElem?_pos]
  · unfold l164_0
    simp (disch := first | omega | (simp; done) | (simp; omega)) [-getElem?_pos]
theorem anyE117 (l : List Exp) (hl : l.length ≤ 1073741824) (h : ∀ x ∈ l, (K A).call 63 [expV x] [] = some (boolV true, [])) : (K A).call 117 [expsV l, .sc (.c (.fn 118 [] []))] [] = some (boolV false, []) := by
  refine fn_of (vf := v117) (by kernel_rfl) rfl (by simp) ?_
  have h1 := indexE (A := A) l hl h
  unfold v117
  simp (disch := first | omega | (simp; done) | (simp; omega)) [h1]

theorem zeroTy : (K A).call 114 [.ag [zi, zs, zi, zi, .c (.sl [])], .ag [zi, zs, zi, zi, .c (.sl [])]] [] = some (boolV true, []) := lim_of (n := 20) (by kernel_rfl)

set_option maxRecDepth 10000 in
set_option maxHeartbeats 16000000 in
theorem valid63 (e : Exp) : good e → e.weight ≤ 1073741824 → (K A).call 63 [expV e] [] = some (boolV true, []) := by
  induction e using Exp.ind with
  | h e ih =>
  intro hg hl
  refine fn_of (vf := v63) (by kernel_rfl) rfl (by simp) ?_
  obtain ⟨hpos, hnum, hty, _⟩ := hg.one
  have hz := zeroTy (A := A)
  have hal := e.children_le
  rw [Exp.children_len] at hal
  have htr : wc e.ty.row = [zi, zs, zi, zi, .c (.sl [])] := by rw [hty]; simp [tz, Ty.row, Ty.rows]
  have hch := anyE117 (A := A) e.children (by rw [Exp.children_len]; omega) (fun x hx => ih x hx (hg.child hx) (by have := Exp.child_lt hx; omega))
  have ht : e.ty.kind = 0 ∧ e.ty.name = [] ∧ e.ty.id = 0 ∧ e.ty.home = 0 ∧ e.ty.args = [] := by rw [hty]; exact ⟨rfl, rfl, rfl, rfl, rfl⟩
  rcases hg.cases with ⟨h, hn, hk, ha⟩ | ⟨h, hn, hk, ha⟩ | ⟨h, hn, ⟨x, hk, gx⟩, ha⟩ | ⟨h, hn, ⟨f, x, hk, hf, gf, gx⟩, ha⟩ | ⟨h, hn, ⟨x, hk, hx1, gx⟩, ha, hall⟩
  · have hlo := lower109 (A := A) e.name hn
    have hc := children51_leaf (A := A) e hk ha
    rw [show e.children = [] by simp [Exp.children, hk, ha]] at hch
    simp only [expsV, rows0] at hch
    unfold v63
    simp (maxSteps := 4000000) (disch := first | omega | (simp; done) | (simp; omega)) [h, hpos, hnum, hk, ha, hlo, hz, htr, hc, hch, -getElem?_pos]
    refine wp_loop (fun i => ⟨[(1, .sc (.ptr 64 0)), (127, .sc (.c (.sl []))), (128, intV 0), (129, intV i)], [(64, some (.box (wc e.row)))]⟩) 0 (by simp) (fun i hi => by omega) ?_
    unfold l63_0
    simp (maxSteps := 4000000) (disch := first | omega | (simp; done) | (simp; omega)) [hc, hch, -getElem?_pos]
  · have hlo := upper108 (A := A) e.name hn
    have hc := children51_leaf (A := A) e hk ha
    rw [show e.children = [] by simp [Exp.children, hk, ha]] at hch
    simp only [expsV, rows0] at hch
    unfold v63
    simp (maxSteps := 4000000) (disch := first | omega | (simp; done) | (simp; omega)) [h, hpos, hnum, hk, ha, hlo, hz, htr, hc, hch, -getElem?_pos]
    refine wp_loop (fun i => ⟨[(1, .sc (.ptr 64 0)), (127, .sc (.c (.sl []))), (128, intV 0), (129, intV i)], [(64, some (.box (wc e.row)))]⟩) 0 (by simp) (fun i hi => by omega) ?_
    unfold l63_0
    simp (maxSteps := 4000000) (disch := first | omega | (simp; done) | (simp; omega)) [hc, hch, -getElem?_pos]
  · have hlo := lower109 (A := A) e.name hn
    have hc := children51 (A := A) e (by simp [hk]) hl
    unfold v63
    simp (maxSteps := 4000000) (disch := first | omega | (simp; done) | (simp; omega)) [h, hpos, hnum, hk, ha, hlo, hz, htr, -getElem?_pos]
    refine wp_loop (fun i => ⟨[(1, .sc (.ptr 64 0)), (127, .sc (.c (.sl []))), (128, intV 0), (129, intV i)], [(64, some (.box (wc e.row)))]⟩) 0 (by simp) (fun i hi => by omega) ?_
    unfold l63_0
    simp (maxSteps := 4000000) (disch := first | omega | (simp; done) | (simp; omega)) [hc, hch, -getElem?_pos]
  · have hc := children51 (A := A) e (by simp [hk]) hl
    unfold v63
    simp (maxSteps := 4000000) (disch := first | omega | (simp; done) | (simp; omega)) [h, hpos, hnum, hn, hk, ha, hz, htr, -getElem?_pos]
    refine wp_loop (fun i => ⟨[(1, .sc (.ptr 64 0)), (127, .sc (.c (.sl []))), (128, intV 0), (129, intV i)], [(64, some (.box (wc e.row)))]⟩) 0 (by simp) (fun i hi => by omega) ?_
    unfold l63_0
    simp (maxSteps := 4000000) (disch := first | omega | (simp; done) | (simp; omega)) [hc, hch, -getElem?_pos]
  · have hc := children51 (A := A) e (by simp [hk]) hl
    have hpa : 0 < e.arms.length := List.length_pos_iff.2 ha
    unfold v63
    simp (maxSteps := 4000000) (disch := first | omega | (simp; done) | (simp; omega)) [h, hpos, hnum, hn, hk, ha, hpa, hz, htr, -getElem?_pos]
    refine wp_loop (fun i => ⟨[(1, .sc (.ptr 64 0)), (127, .sc (.c (.sl (Exp.armRows e.arms)))), (128, intV e.arms.length), (129, intV i)], [(64, some (.box (wc e.row)))]⟩) e.arms.length (by simp) (fun i hi => ?_) ?_
    · obtain ⟨p, hp⟩ := get_of_lt hi
      obtain ⟨q1, q2, q3, q4, _⟩ := hall p (List.mem_of_getElem? hp)
      have hu := upper108 (A := A) p.1.con q2
      have hv := anyS115 (A := A) p.1.vars (by omega) q4
      have q3' : ¬ (4 : Int) < p.1.vars.length := by omega
      unfold l63_0
      simp (maxSteps := 4000000) (disch := first | omega | (simp; done) | (simp; omega)) [hi, hp, q1, q3, q3', hu, hv, -getElem?_pos]
    · unfold l63_0
      simp (maxSteps := 4000000) (disch := first | omega | (simp; done) | (simp; omega)) [hc, hch, -getElem?_pos]
end Go.Vs.Tryz

/- Compare by the program, walked. -/
namespace Go.Vs.Tryz
open Go Go.Vs
variable {A : Oracle}

set_option maxRecDepth 10000 in
set_option maxHeartbeats 4000000 in
theorem compare15 (ds : List DataD) (ctx : List EntD) (hd : ds.length ≤ 1000) (hg : ∀ d ∈ ds, d.cons.length ≤ 6) (hc : ctx.length ≤ 1000) (n : Nat) (a b : Exp) (ha : a.weight ≤ n) (ga : good a) (gb : good b) (hwa : a.weight ≤ 1073741824) (hwb : b.weight ≤ 1073741824) :
    (K A).call 15 [datasV ds, entsV ctx, expV a, expV b] [] = some (intV (cmpF (rkM ds ctx) n [] [] a b), []) := by
  refine fn_of (vf := v15) (by kernel_rfl) rfl (by simp) ?_
  have v1 := valid63 (A := A) a ga hwa
  have v2 := valid63 (A := A) b gb hwb
  have h := compare58 (A := A) ds ctx hd hg hc n a b [] [] ha ga gb (by simpa using hwa) (by simpa using hwb)
  unfold boxC at h
  simp only [strsV, strRows0] at h
  generalize cmpF (rkM ds ctx) n [] [] a b = z at *
  unfold v15
  simp (maxSteps := 4000000) (disch := first | omega | (simp; done) | (simp; omega)) [v1, v2, h, -getElem?_pos]
end Go.Vs.Tryz

/- Spine, Size and the small parts of Compare by the reference, walked. -/
namespace Go.Vs.Tryz
open Go Go.Vs
variable {A : Oracle}

def SpineS (cur : Exp) (acc : List Exp) : St := if acc = [] then ⟨[(1, .sc (.ptr 64 0)), (2, .sc (.ptr 128 0)), (4, .sc .nil)], [(64, some (.box (wc cur.row))), (128, some (.box [zi, zi, zs, zi, .nil, .nil, zi, zs, zi, zi, .nil]))]⟩
  else ⟨[(1, .sc (.ptr 64 0)), (2, .sc (.ptr 128 0)), (4, expsV acc)], [(64, some (.box (wc cur.row))), (128, some (.box [zi, zi, zs, zi, .nil, .nil, zi, zs, zi, zi, .nil])), (768, some (.arr 11 (wr (Exp.rows acc)) acc.length))]⟩
theorem rows_consE (x : Exp) (l : List Exp) : wc x.row :: wr (Exp.rows l) = wr (Exp.rows (x :: l)) := by rw [Exp.rows]; rfl

theorem spine98 (e : Exp) (hg : good e) (hk : Heady e) (hl : e.weight ≤ 1073741824) : (K A).call 98 [expV e] [] = some (.tu [expV (spine e).1, expsV (spine e).2], []) := by
  refine fn_of (vf := v98) (by kernel_rfl) rfl (by simp) ?_
  obtain ⟨s1, s2, s3, s4, s5⟩ := spine_good e hg hk
  unfold v98
  simp (disch := first | omega | (simp; done) | (simp; omega)) [-getElem?_pos]
  refine wp_loopI (fun i s => ∃ cur acc, good cur ∧ Heady cur ∧ acc.length = i ∧ spine e = ((spine cur).1, (spine cur).2 ++ acc) ∧ s = SpineS cur acc) (spine e).2.length ⟨e, [], hg, hk, rfl, by simp, by simp [SpineS]⟩ ?_ ?_
  · rintro i s hi ⟨cur, acc, hc, hck, ha, hs, rfl⟩
    have h5 : cur.kind = 5 := by
      by_cases h5 : cur.kind = 5
      · exact h5
      · rw [hs, spine_no h5] at hi
        simp [ha] at hi
    obtain ⟨f, x, hfx, hf, gf, gx, har⟩ := hc.app h5
    have hok := okRows_exp acc
    have hal : acc.length ≤ 1073741824 := by omega
    have hcm : (acc.length + 1 == 1 + acc.length) = true := by simp [Nat.add_comm]
    refine wp_mono (Q := fun e' s' => e' = .normal ∧ s' = SpineS f (x :: acc)) ?_ ?_
    · rw [show SpineS f (x :: acc) = _ from if_neg (List.cons_ne_nil x acc)]
      by_cases hn : acc = []
      · subst hn
        rw [show SpineS cur [] = _ from if_pos rfl]
        unfold l98_0
        simp (disch := first | omega | (simp; done) | (simp; omega)) [h5, hfx, List.getElem?_cons_zero, -getElem?_pos]
      · rw [show SpineS cur acc = _ from if_neg hn]
        unfold l98_0
        simp (disch := first | omega | (simp; done) | (simp; omega)) [h5, hfx, hok, rows_consE, hcm, List.getElem?_cons_zero, -getElem?_pos]
    · rintro e' s' ⟨rfl, rfl⟩
      refine .inl ⟨rfl, f, x :: acc, gf, hf, by simp [ha], ?_, rfl⟩
      rw [hs, spine_app h5 hfx]
      simp
  · rintro s ⟨cur, acc, hc, hck, ha, hs, rfl⟩
    have h5 : ¬ cur.kind = 5 := by
      intro h5
      obtain ⟨f, x, hfx, hf, gf, gx, har⟩ := hc.app h5
      rw [hs, spine_app h5 hfx] at ha
      simp at ha
      omega
    have hr : (spine e).2 = acc := by rw [hs, spine_no h5]; simp
    have hc1 : (spine e).1 = cur := by rw [hs, spine_no h5]
    rw [hr, hc1]
    unfold l98_0 SpineS
    cases acc with
    | nil => simp (disch := first | omega | (simp; done) | (simp; omega)) [h5, -getElem?_pos]
    | cons y r => simp (disch := first | omega | (simp; done) | (simp; omega)) [h5, -getElem?_pos]
end Go.Vs.Tryz

/- Compare by the reference, walked. -/
namespace Go.Vs.Tryz
open Go Go.Vs
variable {A : Oracle}

theorem size42 (e : Exp) : good e → e.weight ≤ 1073741824 → (K A).call 42 [expV e] [] = some (intV (sizeM e), []) := by
  induction e using Exp.indW with
  | h e ih =>
  intro hg hl
  refine fn_of (vf := v42) (by kernel_rfl) rfl (by simp) ?_
  have hle := sizeM_le e
  by_cases h4 : e.kind = 4
  · obtain ⟨x, hk, gx, ha⟩ := hg.lam h4
    have hxw := Exp.child_lt (e := e) (x := x) (by simp [Exp.children, hk])
    have hx := ih x hxw gx (by omega)
    have hxl := sizeM_le x
    have hs : sizeM e = 1 + sizeM x := by rw [sizeM_eq]; simp [h4, Exp.children, hk, ha]
    unfold v42
    simp (disch := first | omega | (simp; done) | (simp; omega)) [h4, hk, hx, hs, List.getElem?_cons_zero, -getElem?_pos]
  · by_cases h8 : e.kind = 8
    · obtain ⟨x, hk, hx1, gx, ha, hall⟩ := hg.case h8
      have hs : sizeM e = 1 + (e.arms.map fun a => sizeM a.2).sum := by rw [sizeM_eq]; simp [h8, Exp.children, hk, Function.comp_def]
      have sum_i : ∀ i, ((e.arms.take i).map fun a => sizeM a.2).sum ≤ (e.arms.map fun a => sizeM a.2).sum := fun i => by rw [List.map_take]; exact sum_take
      have hal : e.arms.length ≤ 1073741824 := by have := e.children_le; rw [e.children_len] at this; omega
      unfold v42
      simp (disch := first | omega | (simp; done) | (simp; omega)) [h8, -getElem?_pos]
      refine wp_loop (fun i => ⟨[(1, .sc (.ptr 64 0)), (3, intV (1 + ((e.arms.take i).map fun a => sizeM a.2).sum : Nat)), (4, intV i)], [(64, some (.box (wc e.row)))]⟩) e.arms.length ?_ ?_ ?_
      · simp
      · intro i hi
        obtain ⟨y, hy⟩ := get_of_lt hi
        have hym : y ∈ e.arms := List.mem_of_getElem? hy
        have hyw := Exp.child_lt (arm_mem hym)
        have hrec := ih y.2 hyw (hall y hym) (by omega)
        have h1 := sum_i (i + 1)
        rw [take_next hy] at h1 ⊢
        simp only [List.map_append, List.sum_append, List.map_cons, List.map_nil, List.sum_cons, List.sum_nil] at h1 ⊢
        unfold l42_0
        simp (disch := first | omega | (simp; done) | (simp; omega)) [hi, hy, hrec, -getElem?_pos]
        rw [List.map_take] at h1
        rw [wrap_in _ (by omega)]
        omega
      · unfold l42_0
        simp (disch := first | omega | (simp; done) | (simp; omega)) [hs, -getElem?_pos]
    · have hk := hg.heady h4 h8
      obtain ⟨s1, s2, s3, s4, s5⟩ := spine_good e hg hk
      have hsp := spine98 (A := A) e hg hk hl
      generalize hL : (spine e).2 = l at s3 s4 s5 hsp
      have sum_i : ∀ i, ((l.take i).map sizeM).sum ≤ (l.map sizeM).sum := fun i => by rw [List.map_take]; exact sum_take
      unfold v42
      simp (disch := first | omega | (simp; done) | (simp; omega)) [h4, h8, hsp, -getElem?_pos]
      refine wp_loop (fun i => ⟨[(3, intV (1 + ((l.take i).map sizeM).sum : Nat)), (6, expsV l), (7, intV i)], []⟩) l.length ?_ ?_ ?_
      · simp
      · intro i hi
        obtain ⟨y, hy⟩ := get_of_lt hi
        have hym : y ∈ l := List.mem_of_getElem? hy
        have hyw : y.weight ≤ (l.map Exp.weight).sum := sum_mem (f := Exp.weight) hym
        have hrec := ih y (by omega) (s3 y hym) (by omega)
        have h1 := sum_i (i + 1)
        rw [take_next hy] at h1 ⊢
        simp only [List.map_append, List.sum_append, List.map_cons, List.map_nil, List.sum_cons, List.sum_nil] at h1 ⊢
        unfold l42_1
        simp (disch := first | omega | (simp; done) | (simp; omega)) [hi, hy, hrec, -getElem?_pos]
        rw [List.map_take] at h1
        rw [wrap_in _ (by omega)]
        omega
      · unfold l42_1
        simp (disch := first | omega | (simp; done) | (simp; omega)) [s4, -getElem?_pos]

theorem order119 (a b : Int) : (K A).call 119 [intV a, intV b] [] = some (intV (cmpI a b), []) := by
  refine fn_of (vf := v119) (by kernel_rfl) rfl (by simp) ?_
  unfold v119 cmpI
  by_cases hl : a < b
  · simp (disch := first | omega | (simp; done) | (simp; omega)) [hl]
  · by_cases hg : b < a
    · simp (disch := first | omega | (simp; done) | (simp; omega)) [hl, hg]
    · simp (disch := first | omega | (simp; done) | (simp; omega)) [hl, hg]
theorem kind120 (e : Exp) : (K A).call 120 [expV e] [] = some (intV (kindM e), []) := by
  refine fn_of (vf := v120) (by kernel_rfl) rfl (by simp) ?_
  unfold v120 kindM
  by_cases h1 : e.kind = 4
  · simp (disch := first | omega | (simp; done) | (simp; omega)) [h1]
  · by_cases h2 : e.kind = 8
    · simp (disch := first | omega | (simp; done) | (simp; omega)) [h1, h2]
    · simp (disch := first | omega | (simp; done) | (simp; omega)) [h1, h2]
theorem with121 (l m : List Str) (h : l.length + m.length ≤ 1073741824) : (K A).call 121 [strsV l, strsV m] [] = some (strsV (l ++ m), []) := by
  refine fn_of (vf := v121) (by kernel_rfl) rfl (by simp) ?_
  unfold v121
  simp (disch := first | omega | (simp; done) | (simp; omega)) [-getElem?_pos]
theorem con123 (ds : List DataD) (ctx : List EntD) (e : Exp) (bound : List Str) (hd : ds.length ≤ 1000) (hg : ∀ d ∈ ds, d.cons.length ≤ 6) (hc : ctx.length ≤ 1000) (hb : bound.length ≤ 1073741824) (he : e.arms ≠ []) (hw : e.weight ≤ 1073741824) :
    (K A).call 123 [datasV ds, entsV ctx, expV e, strsV bound] [] = some (intV (rankM ds (seenN ctx) bound (con0 e)), []) := by
  refine fn_of (vf := v123) (by kernel_rfl) rfl (by simp) ?_
  obtain ⟨p, hp⟩ := get_of_lt (l := e.arms) (i := 0) (List.length_pos_iff.2 he)
  have hpos := List.length_pos_iff.2 he
  have h := rank13 (A := A) ds ctx bound (conExp p.1.con) hd hg hc hb
  rw [con0_of hp]
  simp only [expV, conRow_eq] at h
  unfold v123
  simp (disch := first | omega | (simp; done) | (simp; omega)) [hp, h, -getElem?_pos]
end Go.Vs.Tryz

/- Compare by the reference: the comparison itself, walked. -/
namespace Go.Vs.Tryz
open Go Go.Vs
variable {A : Oracle}

set_option maxRecDepth 10000 in
set_option maxHeartbeats 16000000 in
theorem compare64 (ds : List DataD) (ctx : List EntD) (hd : ds.length ≤ 1000) (hg : ∀ d ∈ ds, d.cons.length ≤ 6) (hc : ctx.length ≤ 1000) : ∀ (n : Nat) (a b : Exp) (l m : List Str), a.weight ≤ n → good a → good b → l.length + a.weight ≤ 1073741824 → m.length + b.weight ≤ 1073741824 →
    (K A).call 64 [datasV ds, entsV ctx, expV a, expV b, strsV l, strsV m] [] = some (intV (cmpF (rkM ds ctx) n l m a b), []) := by
  intro n
  induction n with
  | zero => intro a b l m h; have := a.weight_pos; omega
  | succ n ih =>
    intro a b l m hw ga gb hl hm
    rw [cmpF_succ]
    refine fn_of (vf := v64) (by kernel_rfl) rfl (by simp) ?_
    have s1 := size42 (A := A) a ga (by omega)
    have s2 := size42 (A := A) b gb (by omega)
    have c1 := order119 (A := A) (sizeM a) (sizeM b)
    have k1 := kind120 (A := A) a
    have k2 := kind120 (A := A) b
    have c2 := order119 (A := A) (kindM a) (kindM b)
    have hk0 : cmpI (kindM a) (kindM b) = 0 → kindM a = kindM b := cmpI_zero.1
    generalize cmpI (sizeM a) (sizeM b) = cz at *
    generalize cmpI (kindM a) (kindM b) = ck at *
    unfold v64
    by_cases hz0 : cz = 0
    · subst hz0
      by_cases hck : ck = 0
      · subst hck
        have hpost : orI [0, 0, cmpR (rkM ds ctx) n l m a b] = cmpR (rkM ds ctx) n l m a b := by rw [orI_cons, if_pos rfl, orI_cons, if_pos rfl, orI_one]
        rw [hpost]
        obtain ⟨k4, k8⟩ := kind_of (hk0 rfl)
        by_cases h4 : a.kind = 4
        · obtain ⟨x, hx, gx, ra⟩ := ga.lam h4
          obtain ⟨y, hy, gy, rb⟩ := gb.lam (k4.1 h4)
          have hxw := Exp.child_lt (e := a) (x := x) (by simp [Exp.children, hx])
          have hyw := Exp.child_lt (e := b) (x := y) (by simp [Exp.children, hy])
          have hrec := ih x y (l ++ [a.name]) (m ++ [b.name]) (by omega) gx gy (by simp; omega) (by simp; omega)
          have hka : kindM a = 0 := by simp [kindM, h4]
          have hkb : kindM b = 0 := by simp [kindM, k4.1 h4]
          have w1 := with121 (A := A) l [a.name] (by simp; omega)
          have w2 := with121 (A := A) m [b.name] (by simp; omega)
          have hsr : ∀ s : Str, strRows [s] = [[.str s]] := fun _ => rfl
          simp only [strsV, hsr] at w1 w2
          have hR : cmpR (rkM ds ctx) n l m a b = cmpF (rkM ds ctx) n (l ++ [a.name]) (m ++ [b.name]) x y := by
            unfold cmpR
            rw [if_pos h4, kid0_of hx, kid0_of hy]
          rw [hR]
          generalize cmpF (rkM ds ctx) n (l ++ [a.name]) (m ++ [b.name]) x y = z at *
          rw [hka] at k1 c2
          rw [hkb] at k2 c2
          simp (maxSteps := 4000000) (disch := first | omega | (simp; done) | (simp; omega)) [s1, s2, c1, k1, k2, c2, hx, hy, w1, w2, hrec, List.getElem?_cons_zero, -getElem?_pos]
        · by_cases h8 : a.kind = 8
          · obtain ⟨x, hx, _, gx, hne, hall⟩ := ga.case h8
            obtain ⟨y, hy, _, gy, hne', hall'⟩ := gb.case (k8.1 h8)
            have hka : kindM a = 2 := by simp [kindM, h8]
            have hkb : kindM b = 2 := by rw [← hk0 rfl, hka]
            have r1 := rank13 (A := A) ds ctx l x hd hg hc (by omega)
            have r2 := rank13 (A := A) ds ctx m y hd hg hc (by omega)
            have o1 := order119 (A := A) (rankM ds (seenN ctx) l x) (rankM ds (seenN ctx) m y)
            have n1 := con123 (A := A) ds ctx a l hd hg hc (by omega) hne (by omega)
            have n2 := con123 (A := A) ds ctx b m hd hg hc (by omega) hne' (by omega)
            have o2 := order119 (A := A) (rankM ds (seenN ctx) l (con0 a)) (rankM ds (seenN ctx) m (con0 b))
            have c3 := order119 (A := A) a.arms.length b.arms.length
            have hal := a.children_le
            have hbl := b.children_le
            rw [Exp.children_len] at hal hbl
            obtain ⟨zs, hz⟩ : ∃ zs, zs = List.zipWith (fun (p q : ArmH × Exp) => cmpF (rkM ds ctx) n (l ++ p.1.vars) (m ++ q.1.vars) p.2 q.2) a.arms b.arms := ⟨_, rfl⟩
            have hzl : zs.length = min a.arms.length b.arms.length := by rw [hz, List.length_zipWith]
            have hR : cmpR (rkM ds ctx) n l m a b = orI (cmpI (rankM ds (seenN ctx) l x) (rankM ds (seenN ctx) m y) :: cmpI (rankM ds (seenN ctx) l (con0 a)) (rankM ds (seenN ctx) m (con0 b)) :: (zs ++ [cmpI a.arms.length b.arms.length])) := by
              unfold cmpR
              rw [if_neg h4, if_pos h8, kid0_of hx, kid0_of hy, ← hz]
            rw [hR]
            generalize rankM ds (seenN ctx) l (con0 a) = ra at *
            generalize rankM ds (seenN ctx) m (con0 b) = rb at *
            generalize cmpI ra rb = con at *
            generalize rankM ds (seenN ctx) l x = rx at *
            generalize rankM ds (seenN ctx) m y = ry at *
            generalize cmpI rx ry = z1 at *
            generalize cmpI (a.arms.length : Int) b.arms.length = z9 at *
            rw [hka] at k1 c2
            rw [hkb] at k2 c2
            by_cases hz1 : z1 = 0
            · subst hz1
              by_cases hcon : con = 0
              · subst hcon
                have hO : orI (0 :: 0 :: (zs ++ [z9])) = orI (zs ++ [z9]) := rfl
                rw [hO]
                simp (maxSteps := 4000000) (disch := first | omega | (simp; done) | (simp; omega)) [s1, s2, c1, k1, k2, c2, r1, r2, o1, n1, n2, o2, hx, hy, List.getElem?_cons_zero, -getElem?_pos]
                refine wp_loopI (fun i s => (∀ y ∈ zs.take i, y = 0) ∧ s = ⟨[(0, datasV ds), (1, entsV ctx), (4, strsV l), (5, strsV m), (8, .sc (.ptr 64 0)), (9, .sc (.ptr 128 0)), (25, intV i)], [(64, some (.box (wc a.row))), (128, some (.box (wc b.row)))]⟩) (min a.arms.length b.arms.length) ⟨by simp, by simp⟩ ?_ ?_
                · rintro i s hi ⟨hs, rfl⟩
                  obtain ⟨p, hp⟩ := get_of_lt (l := a.arms) (i := i) (by omega)
                  obtain ⟨q, hq⟩ := get_of_lt (l := b.arms) (i := i) (by omega)
                  have hpm := List.mem_of_getElem? hp
                  have hqm := List.mem_of_getElem? hq
                  have hzi : zs[i]? = some (cmpF (rkM ds ctx) n (l ++ p.1.vars) (m ++ q.1.vars) p.2 q.2) := by rw [hz]; exact zip_get hp hq
                  have bp := bound_child (e := a) (x := p.2) (i := i + 1) (by simp [Exp.children, hx, hp])
                  have bq := bound_child (e := b) (x := q.2) (i := i + 1) (by simp [Exp.children, hy, hq])
                  rw [bound_some, if_neg (by omega), if_pos (by omega), Nat.add_sub_cancel, hp] at bp
                  rw [bound_some, if_neg (by omega), if_pos (by omega), Nat.add_sub_cancel, hq] at bq
                  simp only [Option.map_some, Option.getD_some] at bp bq
                  have wp1 := Exp.child_lt (arm_mem hpm)
                  have hrec := ih p.2 q.2 (l ++ p.1.vars) (m ++ q.1.vars) (by omega) (hall p hpm) (hall' q hqm) (by simp; omega) (by simp; omega)
                  have w1 := with121 (A := A) l p.1.vars (by omega)
                  have w2 := with121 (A := A) m q.1.vars (by omega)
                  have hia : i < a.arms.length := by omega
                  have hib : i < b.arms.length := by omega
                  generalize cmpF (rkM ds ctx) n (l ++ p.1.vars) (m ++ q.1.vars) p.2 q.2 = z at *
                  unfold l64_1
                  by_cases hz0 : z = 0
                  · subst hz0
                    have hs' := zeros_succ hs hzi
                    simp (maxSteps := 4000000) (disch := first | omega | (simp; done) | (simp; omega)) [hia, hib, hp, hq, w1, w2, hrec, -getElem?_pos]
                    exact hs'
                  · have ho : orI (zs ++ [z9]) = z := by rw [orI_app, orI_at hzi hz0 hs, if_neg hz0]
                    simp (maxSteps := 4000000) (disch := first | omega | (simp; done) | (simp; omega)) [hia, hib, hp, hq, w1, w2, hrec, hz0, ho, -getElem?_pos]
                · rintro s ⟨hs, rfl⟩
                  have ho : orI (zs ++ [z9]) = z9 := by
                    rw [orI_app, if_pos (orI_zero fun y hy => hs y (by rw [List.take_of_length_le (by omega)]; exact hy)), orI_one]
                  unfold l64_1
                  by_cases hab : a.arms.length ≤ b.arms.length
                  · have hm1 : min a.arms.length b.arms.length = a.arms.length := by omega
                    rw [hm1]
                    simp (maxSteps := 4000000) (disch := first | omega | (simp; done) | (simp; omega)) [c3, ho, -getElem?_pos]
                  · have hm1 : min a.arms.length b.arms.length = b.arms.length := by omega
                    have hlt : b.arms.length < a.arms.length := by omega
                    rw [hm1]
                    simp (maxSteps := 4000000) (disch := first | omega | (simp; done) | (simp; omega)) [c3, ho, hlt, -getElem?_pos]
              · have hO : orI (0 :: con :: (zs ++ [z9])) = con := by rw [orI_cons, if_pos rfl, orI_cons, if_neg hcon]
                rw [hO]
                simp (maxSteps := 4000000) (disch := first | omega | (simp; done) | (simp; omega)) [s1, s2, c1, k1, k2, c2, r1, r2, o1, n1, n2, o2, hx, hy, hcon, List.getElem?_cons_zero, -getElem?_pos]
            · have hO : orI (z1 :: con :: (zs ++ [z9])) = z1 := by rw [orI_cons, if_neg hz1]
              rw [hO]
              simp (maxSteps := 4000000) (disch := first | omega | (simp; done) | (simp; omega)) [s1, s2, c1, k1, k2, c2, r1, r2, o1, hx, hy, hz1, List.getElem?_cons_zero, -getElem?_pos]
          · have ka := ga.heady h4 h8
            have kb := gb.heady (fun h => h4 (k4.2 h)) (fun h => h8 (k8.2 h))
            obtain ⟨p1, p2, p3, _, p5⟩ := spine_good a ga ka
            obtain ⟨q1, q2, q3, _, q5⟩ := spine_good b gb kb
            have hka : kindM a = 1 := by simp [kindM, h4, h8]
            have hkb : kindM b = 1 := by rw [← hk0 rfl, hka]
            have t1 := spine98 (A := A) a ga ka (by omega)
            have t2 := spine98 (A := A) b gb kb (by omega)
            have r1 := rank13 (A := A) ds ctx l (spine a).1 hd hg hc (by omega)
            have r2 := rank13 (A := A) ds ctx m (spine b).1 hd hg hc (by omega)
            have o1 := order119 (A := A) (rankM ds (seenN ctx) l (spine a).1) (rankM ds (seenN ctx) m (spine b).1)
            have c3 := order119 (A := A) (spine a).2.length (spine b).2.length
            have hR : cmpR (rkM ds ctx) n l m a b = orI [cmpI (rankM ds (seenN ctx) l (spine a).1) (rankM ds (seenN ctx) m (spine b).1), cmpI (spine a).2.length (spine b).2.length, orI (List.zipWith (cmpF (rkM ds ctx) n l m) (spine a).2 (spine b).2)] := by
              unfold cmpR
              rw [if_neg h4, if_neg h8]
            rw [hR]
            have hzero : cmpI ((spine a).2.length : Int) (spine b).2.length = 0 → (spine a).2.length = (spine b).2.length := fun h => by have := cmpI_zero.1 h; omega
            generalize rankM ds (seenN ctx) l (spine a).1 = rx at *
            generalize rankM ds (seenN ctx) m (spine b).1 = ry at *
            generalize cmpI rx ry = z1 at *
            generalize hxs : (spine a).2 = xs at *
            generalize hys : (spine b).2 = ys at *
            generalize cmpI (xs.length : Int) ys.length = z2 at *
            obtain ⟨zs, hz⟩ : ∃ zs, zs = List.zipWith (cmpF (rkM ds ctx) n l m) xs ys := ⟨_, rfl⟩
            rw [← hz]
            rw [hka] at k1 c2
            rw [hkb] at k2 c2
            by_cases hz1 : z1 = 0
            · subst hz1
              by_cases hz2 : z2 = 0
              · subst hz2
                have hlen := hzero rfl
                have hzl : zs.length = xs.length := by rw [hz, List.length_zipWith]; omega
                have hO : orI [0, 0, orI zs] = orI zs := by rw [orI_cons, if_pos rfl, orI_cons, if_pos rfl, orI_one]
                rw [hO]
                simp (maxSteps := 4000000) (disch := first | omega | (simp; done) | (simp; omega)) [s1, s2, c1, k1, k2, c2, t1, t2, r1, r2, o1, c3, -getElem?_pos]
                refine wp_loopI (fun i s => (∀ y ∈ zs.take i, y = 0) ∧ s = ⟨[(0, datasV ds), (1, entsV ctx), (4, strsV l), (5, strsV m), (16, expsV xs), (18, expsV ys), (21, intV i)], []⟩) xs.length ⟨by simp, by simp⟩ ?_ ?_
                · rintro i s hi ⟨hs, rfl⟩
                  obtain ⟨x, hxi⟩ := get_of_lt (l := xs) (i := i) (by omega)
                  obtain ⟨y, hyi⟩ := get_of_lt (l := ys) (i := i) (by omega)
                  have hzi : zs[i]? = some (cmpF (rkM ds ctx) n l m x y) := by rw [hz]; exact zip_get hxi hyi
                  have mx := List.mem_of_getElem? hxi
                  have my := List.mem_of_getElem? hyi
                  have w1 := sum_mem (f := Exp.weight) mx
                  have w2 := sum_mem (f := Exp.weight) my
                  have hrec := ih x y l m (by omega) (p3 x mx) (q3 y my) (by omega) (by omega)
                  generalize cmpF (rkM ds ctx) n l m x y = z at *
                  unfold l64_0
                  by_cases hz0 : z = 0
                  · subst hz0
                    have hs' := zeros_succ hs hzi
                    simp (maxSteps := 4000000) (disch := first | omega | (simp; done) | (simp; omega)) [hi, hxi, hyi, hrec, -getElem?_pos]
                    exact hs'
                  · have ho := orI_at hzi hz0 hs
                    simp (maxSteps := 4000000) (disch := first | omega | (simp; done) | (simp; omega)) [hi, hxi, hyi, hrec, hz0, ho, -getElem?_pos]
                · rintro s ⟨hs, rfl⟩
                  have ho : orI zs = 0 := orI_zero fun y hy => hs y (by rw [List.take_of_length_le (by omega)]; exact hy)
                  unfold l64_0
                  simp (maxSteps := 4000000) (disch := first | omega | (simp; done) | (simp; omega)) [ho, -getElem?_pos]
              · have hO : orI [0, z2, orI zs] = z2 := by rw [orI_cons, if_pos rfl, orI_cons, if_neg hz2]
                rw [hO]
                simp (maxSteps := 4000000) (disch := first | omega | (simp; done) | (simp; omega)) [s1, s2, c1, k1, k2, c2, t1, t2, r1, r2, o1, c3, hz2, -getElem?_pos]
            · have hO : orI [z1, z2, orI zs] = z1 := by rw [orI_cons, if_neg hz1]
              rw [hO]
              simp (maxSteps := 4000000) (disch := first | omega | (simp; done) | (simp; omega)) [s1, s2, c1, k1, k2, c2, t1, t2, r1, r2, o1, hz1, -getElem?_pos]
      · have hO : orI [0, ck, cmpR (rkM ds ctx) n l m a b] = ck := by rw [orI_cons, if_pos rfl, orI_cons, if_neg hck]
        rw [hO]
        simp (maxSteps := 4000000) (disch := first | omega | (simp; done) | (simp; omega)) [s1, s2, c1, k1, k2, c2, hck, -getElem?_pos]
    · have hO : orI [cz, ck, cmpR (rkM ds ctx) n l m a b] = cz := by rw [orI_cons, if_neg hz0]
      rw [hO]
      simp (maxSteps := 4000000) (disch := first | omega | (simp; done) | (simp; omega)) [s1, s2, c1, hz0, -getElem?_pos]

theorem compare16 (ds : List DataD) (ctx : List EntD) (hd : ds.length ≤ 1000) (hg : ∀ d ∈ ds, d.cons.length ≤ 6) (hc : ctx.length ≤ 1000) (n : Nat) (a b : Exp) (ha : a.weight ≤ n) (ga : good a) (gb : good b) (hwa : a.weight ≤ 1073741824) (hwb : b.weight ≤ 1073741824) :
    (K A).call 16 [datasV ds, entsV ctx, expV a, expV b] [] = some (intV (cmpF (rkM ds ctx) n [] [] a b), []) := by
  refine fn_of (vf := v16) (by kernel_rfl) rfl (by simp) ?_
  have h := compare64 (A := A) ds ctx hd hg hc n a b [] [] ha ga gb (by simpa using hwa) (by simpa using hwb)
  simp only [strsV, strRows0] at h
  generalize cmpF (rkM ds ctx) n [] [] a b = z at *
  unfold v16
  simp (disch := first | omega | (simp; done) | (simp; omega)) [h, -getElem?_pos]
end Go.Vs.Tryz
