/- Comparing by the program: the closure compare, walked. (Parts of one proof, put together.) -/
import Derived.Test.YtlcncicmkkelcaaGreatDoorRB
import Derived.Test.YtlcncicmkkelcaaGreatDoorRG
set_option linter.unusedSimpArgs false
set_option linter.unusedVariables false
set_option linter.deprecated false

/- Comparing by the program: the closure compare, walked. -/
namespace Go.Vs.Tryz
open Go Go.Vs
variable {A : Oracle}

set_option maxRecDepth 10000 in
set_option maxHeartbeats 16000000 in
theorem compare58 (ds : List DataD) (ctx : List EntD) (hd : ds.length ≤ 1000) (hg : ∀ d ∈ ds, d.cons.length ≤ 6) (hc : ctx.length ≤ 1000) : ∀ n, CmpC A ds ctx n := by
  intro n
  induction n with
  | zero => intro a b l m h; have := a.weight_pos; omega
  | succ n ih =>
    intro a b l m hw ga gb hl hm
    rw [cmpF_succ]
    unfold boxC
    refine fn_of (vf := v58) (by kernel_rfl) rfl (by simp) ?_
    have s1 := size32 (A := A) a ga (by omega)
    have s2 := size32 (A := A) b gb (by omega)
    have c1 := compare67 (A := A) (sizeM a) (sizeM b)
    have k1 := kind71 (A := A) a
    have k2 := kind71 (A := A) b
    have c2 := compare67 (A := A) (kindM a) (kindM b)
    have o1 := or70 (A := A) [cmpI (sizeM a) (sizeM b), cmpI (kindM a) (kindM b)] (by simp)
    simp only [intsV, intRows, List.map_cons, List.map_nil, intRow] at o1
    have hk0 : cmpI (kindM a) (kindM b) = 0 → kindM a = kindM b := cmpI_zero.1
    have cl := clip72 (A := A) l (by omega)
    have cm := clip72 (A := A) m (by omega)
    generalize cmpI (sizeM a) (sizeM b) = cz at *
    generalize cmpI (kindM a) (kindM b) = ck at *
    unfold v58
    by_cases h0 : orI [cz, ck] = 0
    · obtain ⟨hpost, rfl, rfl⟩ := orI_post (c := cmpR (rkM ds ctx) n l m a b) h0
      rw [hpost]
      rw [h0] at o1
      obtain ⟨k4, k8⟩ := kind_of (hk0 rfl)
      by_cases h4 : a.kind = 4
      · obtain ⟨x, hx, gx, ra⟩ := ga.lam h4
        obtain ⟨y, hy, gy, rb⟩ := gb.lam (k4.1 h4)
        have hxw := Exp.child_lt (e := a) (x := x) (by simp [Exp.children, hx])
        have hyw := Exp.child_lt (e := b) (x := y) (by simp [Exp.children, hy])
        have hrec := ih x y (l ++ [a.name]) (m ++ [b.name]) (by omega) gx gy (by simp; omega) (by simp; omega)
        have hka : kindM a = 0 := by simp [kindM, h4]
        have hkb : kindM b = 0 := by simp [kindM, k4.1 h4]
        have hR : cmpR (rkM ds ctx) n l m a b = cmpF (rkM ds ctx) n (l ++ [a.name]) (m ++ [b.name]) x y := by
          unfold cmpR
          rw [if_pos h4, kid0_of hx, kid0_of hy]
        rw [hR]
        unfold boxC at hrec
        generalize cmpF (rkM ds ctx) n (l ++ [a.name]) (m ++ [b.name]) x y = z at *
        rw [hka] at k1 c2
        rw [hkb] at k2 c2
        simp (maxSteps := 4000000) (disch := first | omega | (simp; done) | (simp; omega)) [s1, s2, c1, k1, k2, c2, o1, hx, hy, cl, cm, hrec, fit1, List.getElem?_cons_zero, -getElem?_pos]
      · by_cases h8 : a.kind = 8
        · have h4b : ¬ b.kind = 4 := fun h => h4 (k4.2 h)
          obtain ⟨x, hx, _, gx, hne, hall⟩ := ga.case h8
          obtain ⟨y, hy, _, gy, hne', hall'⟩ := gb.case (k8.1 h8)
          have hka : kindM a = 2 := by simp [kindM, h8]
          have hkb : kindM b = 2 := by rw [← hk0 rfl, hka]
          have r1 := rank66 (A := A) ds ctx l m x y hd hg hc (by omega) (by omega)
          have c3 := compare67 (A := A) a.arms.length b.arms.length
          have hal := a.children_le
          have hbl := b.children_le
          rw [Exp.children_len] at hal hbl
          have hpos : 0 < a.arms.length := List.length_pos_iff.2 hne
          have hpos' : 0 < b.arms.length := List.length_pos_iff.2 hne'
          have hmn : (if b.arms.length < a.arms.length then (b.arms.length : Int) else (a.arms.length : Int)) = ((min a.arms.length b.arms.length : Nat) : Int) := by
            split <;> omega
          obtain ⟨con, hcon⟩ : ∃ con, con = cmpI (rkM ds ctx l (con0 a)) (rkM ds ctx m (con0 b)) := ⟨_, rfl⟩
          obtain ⟨zs, hz⟩ : ∃ zs, zs = List.zipWith (fun (p q : ArmH × Exp) => cmpF (rkM ds ctx) n (l ++ p.1.vars) (m ++ q.1.vars) p.2 q.2) a.arms b.arms := ⟨_, rfl⟩
          have hzl : zs.length = min a.arms.length b.arms.length := by rw [hz, List.length_zipWith]
          have hR : cmpR (rkM ds ctx) n l m a b = orI (cmpI (rkM ds ctx l x) (rkM ds ctx m y) :: con :: (zs ++ [cmpI a.arms.length b.arms.length])) := by
            unfold cmpR
            rw [if_neg h4, if_pos h8, kid0_of hx, kid0_of hy, ← hcon, ← hz]
          rw [hR]
          generalize cmpI (rkM ds ctx l x) (rkM ds ctx m y) = z1 at *
          generalize cmpI (a.arms.length : Int) b.arms.length = z9 at *
          rw [hka] at k1 c2
          rw [hkb] at k2 c2
          by_cases hz1 : z1 = 0
          · subst hz1
            have hO : orI (0 :: con :: (zs ++ [z9])) = orI (con :: (zs ++ [z9])) := rfl
            rw [hO]
            simp (maxSteps := 4000000) (disch := first | omega | (simp; done) | (simp; omega)) [s1, s2, c1, k1, k2, c2, o1, r1, hx, hy, hmn, List.getElem?_cons_zero, -getElem?_pos]
            refine wp_loopI (fun i s => (∀ y ∈ zs.take i, y = 0) ∧ (0 < i → con = 0) ∧ s = armS ds ctx l m a b (min a.arms.length b.arms.length) i) (min a.arms.length b.arms.length) ⟨by simp, by simp, by simp [armS]⟩ ?_ ?_
            · rintro i s hi ⟨hs, hci, rfl⟩
              obtain ⟨p, hp⟩ := get_of_lt (l := a.arms) (i := i) (by omega)
              obtain ⟨q, hq⟩ := get_of_lt (l := b.arms) (i := i) (by omega)
              have hpm := List.mem_of_getElem? hp
              have hqm := List.mem_of_getElem? hq
              have hzi : zs[i]? = some (cmpF (rkM ds ctx) n (l ++ p.1.vars) (m ++ q.1.vars) p.2 q.2) := by rw [hz]; exact zip_get hp hq
              have bp := bound_child (e := a) (x := p.2) (i := i + 1) (by simp [Exp.children, hx, hp])
              have bq := bound_child (e := b) (x := q.2) (i := i + 1) (by simp [Exp.children, hy, hq])
              rw [bound_some, if_neg (by omega), if_pos (by omega), Nat.add_sub_cancel, hp] at bp
              rw [bound_some, if_neg (by omega), if_pos (by omega), Nat.add_sub_cancel, hq] at bq
              simp only [Option.map_some, Option.getD_some] at bp bq
              have wp1 := Exp.child_lt (arm_mem hpm)
              have hrec := ih p.2 q.2 (l ++ p.1.vars) (m ++ q.1.vars) (by omega) (hall p hpm) (hall' q hqm) (by simp; omega) (by simp; omega)
              have hexit : ∀ z, zs[i]? = some z → con = 0 → z ≠ 0 → orI (con :: (zs ++ [z9])) = z := by
                intro z hzi hc0 hz0
                rw [hc0, orI_cons, if_pos rfl, orI_app, orI_at hzi hz0 hs, if_neg hz0]
              have key := fun rest => cmp_round ds ctx l m a b p q (min a.arms.length b.arms.length) i con _ (orI (con :: (zs ++ [z9]))) rest ⟨by omega, by omega⟩ hi (by omega) hp hq cl cm (by omega) (by omega) (by
                rintro rfl
                have := rank66 (A := A) ds ctx l m (conExp p.1.con) (conExp q.1.con) hd hg hc (by omega) (by omega)
                rw [hcon, con0_of hp, con0_of hq]
                exact this) hrec hci (by
                intro _ h
                rw [orI_cons, if_neg h]) (hexit _ hzi)
              unfold boxC at key
              apply wp_mono (key _)
              rintro e s' (⟨h1, ⟨h2, h3⟩, h4⟩ | h)
              · rw [h2] at hzi
                exact .inl ⟨h1, zeros_succ hs hzi, fun _ => h3, h4⟩
              · exact .inr h
            · rintro s ⟨hs, hci, rfl⟩
              have hcon0 : con = 0 := hci (by omega)
              have ho : orI (con :: (zs ++ [z9])) = z9 := by
                rw [hcon0, orI_cons, if_pos rfl, orI_app, if_pos (orI_zero fun y hy => hs y (by rw [List.take_of_length_le (by omega)]; exact hy)), orI_one]
              unfold l58_0 armS
              simp (maxSteps := 4000000) (disch := first | omega | (simp; done) | (simp; omega)) [c3, ho, -getElem?_pos]
          · have hO : orI (z1 :: con :: (zs ++ [z9])) = z1 := by rw [orI_cons, if_neg hz1]
            rw [hO]
            simp (maxSteps := 4000000) (disch := first | omega | (simp; done) | (simp; omega)) [s1, s2, c1, k1, k2, c2, o1, r1, hx, hy, hz1, List.getElem?_cons_zero, -getElem?_pos]
        · have ka := ga.heady h4 h8
          have kb := gb.heady (fun h => h4 (k4.2 h)) (fun h => h8 (k8.2 h))
          obtain ⟨p1, p2, p3, _, p5⟩ := spine_good a ga ka
          obtain ⟨q1, q2, q3, _, q5⟩ := spine_good b gb kb
          have hka : kindM a = 1 := by simp [kindM, h4, h8]
          have hkb : kindM b = 1 := by rw [← hk0 rfl, hka]
          have t1 := spine73 (A := A) a ga ka (by omega)
          have t2 := spine73 (A := A) b gb kb (by omega)
          have r1 := rank66 (A := A) ds ctx l m (spine a).1 (spine b).1 hd hg hc (by omega) (by omega)
          have c3 := compare67 (A := A) (spine a).2.length (spine b).2.length
          have al := all57 (A := A) ds ctx n ih l m (spine a).2 (spine b).2 (fun x hx => by have := sum_mem (f := Exp.weight) hx; exact ⟨p3 x hx, by omega, by omega⟩) (fun x hx => by have := sum_mem (f := Exp.weight) hx; exact ⟨q3 x hx, by omega⟩) (by omega) (by omega)
          have hR : cmpR (rkM ds ctx) n l m a b = orI [cmpI (rkM ds ctx l (spine a).1) (rkM ds ctx m (spine b).1), cmpI (spine a).2.length (spine b).2.length, orI (List.zipWith (cmpF (rkM ds ctx) n l m) (spine a).2 (spine b).2)] := by
            unfold cmpR
            rw [if_neg h4, if_neg h8]
          rw [hR]
          unfold boxA at al
          generalize orI (List.zipWith (cmpF (rkM ds ctx) n l m) (spine a).2 (spine b).2) = z3 at *
          generalize cmpI (rkM ds ctx l (spine a).1) (rkM ds ctx m (spine b).1) = z1 at *
          generalize cmpI ((spine a).2.length : Int) (spine b).2.length = z2 at *
          have o2 := or70 (A := A) [z1, z2, z3] (by simp)
          simp only [intsV, intRows, List.map_cons, List.map_nil, intRow] at o2
          rw [hka] at k1 c2
          rw [hkb] at k2 c2
          simp (maxSteps := 4000000) (disch := first | omega | (simp; done) | (simp; omega)) [s1, s2, c1, k1, k2, c2, o1, t1, t2, r1, c3, al, o2, -getElem?_pos]
    · have hp := orI_pre (c := cmpR (rkM ds ctx) n l m a b) h0
      rw [hp]
      generalize orI [cz, ck] = z at *
      simp (maxSteps := 4000000) (disch := first | omega | (simp; done) | (simp; omega)) [s1, s2, c1, k1, k2, c2, o1, h0, -getElem?_pos]
end Go.Vs.Tryz

/- Compare by the program, walked. -/
namespace Go.Vs.Tryz
open Go Go.Vs
variable {A : Oracle}

set_option maxRecDepth 10000 in
set_option maxHeartbeats 4000000 in
theorem compare15 (ds : List DataD) (ctx : List EntD) (hd : ds.length ≤ 1000) (hg : ∀ d ∈ ds, d.cons.length ≤ 6) (hc : ctx.length ≤ 1000) (n : Nat) (a b : Exp) (ha : a.weight ≤ n) (ga : good a) (gb : good b) (hwa : a.weight ≤ 1073741824) (hwb : b.weight ≤ 1073741824) :
    (K A).call 15 [datasV ds, entsV ctx, expV a, expV b] [] = some (intV (cmpF (rkM ds ctx) n [] [] a b), []) := by
  refine fn_of (vf := v15) (by kernel_rfl) rfl (by simp) ?_
  have v1 := valid63 (A := A) a ga hwa
  have v2 := valid63 (A := A) b gb hwb
  have h := compare58 (A := A) ds ctx hd hg hc n a b [] [] ha ga gb (by simpa using hwa) (by simpa using hwb)
  unfold boxC at h
  simp only [strsV, strRows0] at h
  generalize cmpF (rkM ds ctx) n [] [] a b = z at *
  unfold v15
  simp (maxSteps := 4000000) (disch := first | omega | (simp; done) | (simp; omega)) [v1, v2, h, -getElem?_pos]
end Go.Vs.Tryz
