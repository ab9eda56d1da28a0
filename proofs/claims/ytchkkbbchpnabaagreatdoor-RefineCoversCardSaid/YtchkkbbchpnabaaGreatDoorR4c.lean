/- With and Strip by the reference, walked. -/
import Derived.Test.YtchkkbbchpnabaaGreatDoorR3c
import Derived.Test.YtchkkbbchpnabaaGreatDoorR2c
import Derived.Test.YtchkkbbchpnabaaGreatDoorR1c
set_option linter.unusedSimpArgs false
set_option linter.unusedVariables false
set_option linter.deprecated false

/- With and Strip by the reference, walked. -/
namespace Go.Vs
open Go
def elK (x : Option Obj) (N i : Nat) : Bool := match x with
  | some (.arr _ rows _) => rows.length == N && Nat.blt i N
  | _ => false
@[simp] theorem elK_some {s p N i : Nat} {rows : List (List W)} : elK (some (.arr s rows p)) N i = (rows.length == N && Nat.blt i N) := rfl
@[simp] theorem elOk_eq {L : Nat → Option Obj} {k N i : Nat} : elOk L k N i = elK (L k) N i := rfl
end Go.Vs
namespace Go.Vs.Tryz
open Go Go.Vs
variable {A : Oracle}
abbrev exsV (l : List Exp) : V := .sc (.c (.sl (Exp.rows l)))

/-- The arms with other bodies. -/
def armsW (zz : List (ArmH × Exp)) (cs : List Exp) : List (ArmH × Exp) := List.zipWith (fun (a : ArmH × Exp) c => (a.1, c)) zz cs
@[simp] theorem armsW_len (zz : List (ArmH × Exp)) (cs : List Exp) : (armsW zz cs).length = min zz.length cs.length := by simp [armsW]
theorem set_step {α : Type} {zs zz : List α} {i : Nat} {x : α} (hl : zs.length = zz.length) (hx : zs[i]? = some x) : (zs.take i ++ zz.drop i).set i x = zs.take (i + 1) ++ zz.drop (i + 1) := by
  have hi := (List.getElem?_eq_some_iff.1 hx).1
  have htl : (zs.take i).length = i := by simp; omega
  rw [take_next hx, List.append_assoc]
  have hd : zz.drop i = zz[i]'(by omega) :: zz.drop (i + 1) := List.drop_eq_getElem_cons (by omega)
  rw [hd, List.set_append_right _ _ (by omega), htl, Nat.sub_self, List.set_cons_zero]
  rfl
theorem armrows_set (l : List (ArmH × Exp)) (i : Nat) (x : ArmH × Exp) : setRow (wr (Exp.armRows l)) i (wc (armRow x)) = wr (Exp.armRows (l.set i x)) := by
  rw [setRow_set]
  simp [Exp.armRows_map, wr, List.map_set]
theorem arm_splice (a : ArmH × Exp) (c : Exp) : splice (wc (armRow a)) 3 (wc c.row) = some (wc (armRow (a.1, c))) := by
  rw [armRow, armRow, Exp.row_eq a.2, Exp.row_eq c]
  rfl
theorem get_step {α : Type} {zs zz : List α} {i : Nat} (hl : zs.length = zz.length) (hi : i < zz.length) : (zs.take i ++ zz.drop i)[i]? = zz[i]? := by
  have htl : (zs.take i).length = i := by simp; omega
  rw [List.getElem?_append_right (by omega), htl, Nat.sub_self, List.getElem?_drop]
  rfl
theorem len_step {α : Type} {zs zz : List α} {i : Nat} (hl : zs.length = zz.length) : (zs.take i ++ zz.drop i).length = zz.length := by
  simp
  omega

set_option maxRecDepth 10000 in
set_option maxHeartbeats 4000000 in
theorem with92 (e : Exp) (cs : List Exp) (h : cs.length = e.kids.length + e.arms.length) (hl : e.weight ≤ 687194767360) : (K A).call 24 [expV e, exsV cs] [] =
    some (.ag [.c (.int .i64 e.kind), .c (.int .i64 e.pos), .c (.str e.name), .c (.int .i64 e.num), .arr 0 e.kids.length, .arr 1 e.arms.length, .c (.int .i64 e.ty.kind), .c (.str e.ty.name), .c (.int .i64 e.ty.id), .c (.int .i64 e.ty.home), .c (.sl (Ty.rows e.ty.args))],
      [.arr 11 (wr (Exp.rows (cs.take e.kids.length))) 0, .arr 14 (wr (Exp.armRows (armsW e.arms (cs.drop e.kids.length)))) 0]) := by
  refine fn_of (vf := v24) (by kernel_rfl) rfl (by simp) ?_
  have hle := e.children_le
  rw [e.children_len] at hle
  have hrow : wc e.row = [.c (.int .i64 e.kind), .c (.int .i64 e.pos), .c (.str e.name), .c (.int .i64 e.num), .c (.sl (Exp.rows e.kids)), .c (.sl (Exp.armRows e.arms)), .c (.int .i64 e.ty.kind), .c (.str e.ty.name), .c (.int .i64 e.ty.id), .c (.int .i64 e.ty.home), .c (.sl (Ty.rows e.ty.args))] := by rw [Exp.row_eq]; rfl
  have hzl : (armsW e.arms (cs.drop e.kids.length)).length = e.arms.length := by rw [armsW_len, List.length_drop]; omega
  have hfit : rowsFit 11 (Exp.rows cs) = true := by rw [Exp.rows_map]; exact fit_map Exp.row_len cs
  have htk : (Exp.rows cs).take e.kids.length = Exp.rows (cs.take e.kids.length) := by simp [Exp.rows_map, List.map_take]
  have hcl : (cs.take e.kids.length).length = e.kids.length := by rw [List.length_take]; omega
  unfold v24
  simp (maxSteps := 4000000) (disch := first | omega | (simp; done) | (simp; omega)) [h, hrow, hfit, htk, hcl, -getElem?_pos]
  refine wp_loop (fun i => ⟨[(1, exsV cs), (4, .sc (.ptr 128 0)), (5, intV e.kids.length), (6, .sc (.ptr 1152 0)), (7, intV i)],
    [(128, some (.box [zi, zi, zs, zi, .nil, .nil, zi, zs, zi, zi, .nil])), (1152, some (.box [.c (.int .i64 e.kind), .c (.int .i64 e.pos), .c (.str e.name), .c (.int .i64 e.num), .arr 1472 e.kids.length, .arr 1664 e.arms.length, .c (.int .i64 e.ty.kind), .c (.str e.ty.name), .c (.int .i64 e.ty.id), .c (.int .i64 e.ty.home), .c (.sl (Ty.rows e.ty.args))])),
      (1472, some (.arr 11 (wr (Exp.rows (cs.take e.kids.length))) 0)), (1664, some (.arr 14 (wr (Exp.armRows ((armsW e.arms (cs.drop e.kids.length)).take i ++ e.arms.drop i))) 0))]⟩) e.arms.length ?_ ?_ ?_
  · simp
  · intro i hi
    obtain ⟨a, ha⟩ := get_of_lt hi
    obtain ⟨c, hc⟩ := get_of_lt (l := cs) (i := e.kids.length + i) (by omega)
    have hz : (armsW e.arms (cs.drop e.kids.length))[i]? = some (a.1, c) := by
      unfold armsW
      rw [List.getElem?_zipWith, ha, List.getElem?_drop, hc]
    have hg := get_step hzl hi
    rw [ha] at hg
    have hs := set_step hzl hz
    have hln := len_step (i := i) hzl
    rw [← hs]
    generalize (armsW e.arms (cs.drop e.kids.length)).take i ++ e.arms.drop i = zz at hg hln ⊢
    have hset := armrows_set zz i (a.1, c)
    have hsp := arm_splice a c
    have hnb : natBelow (intV ((e.kids.length : Int) + i)) cs.length = some (e.kids.length + i) := natBelow_cast (k := .i64) (n := e.kids.length + i) (by omega)
    unfold l24_0
    simp (maxSteps := 4000000) (disch := first | omega | (simp; done) | (simp; omega)) [hi, hg, hln, hc, hnb, hsp, hset, blt_dec, -getElem?_pos]
  · have ht : (armsW e.arms (cs.drop e.kids.length)).take e.arms.length ++ e.arms.drop e.arms.length = armsW e.arms (cs.drop e.kids.length) := by
      rw [List.drop_length, List.append_nil, List.take_of_length_le (by omega)]
    rw [ht]
    unfold l24_0
    simp (maxSteps := 4000000) (disch := first | omega | (simp; done) | (simp; omega)) [hzl, -getElem?_pos]

/-- The arms without positions. -/
def armsP (l : List (ArmH × Exp)) : List (ArmH × Exp) := l.map fun a => (⟨0, a.1.con, a.1.vars⟩, a.2)
@[simp] theorem armsP_len (l : List (ArmH × Exp)) : (armsP l).length = l.length := by simp [armsP]
theorem pos_splice (a : ArmH × Exp) : splice (wc (armRow a)) 0 [W.c (.int .i64 0)] = some (wc (armRow ((⟨0, a.1.con, a.1.vars⟩ : ArmH), a.2))) := by
  rw [armRow, armRow, Exp.row_eq a.2]
  rfl
theorem strip_arms (e : Exp) : armsP (armsW e.arms ((e.children.map stripM).drop e.kids.length)) = (stripM e).arms := by
  obtain ⟨_, _, _, _, _, h6, _, h8⟩ := strip_parts e
  have hd : (e.children.map stripM).drop e.kids.length = e.arms.map fun a => stripM a.2 := by simp [Exp.children]
  refine List.ext_getElem? fun i => ?_
  rw [h8, hd]
  unfold armsP armsW
  rw [List.getElem?_map, List.getElem?_zipWith, List.getElem?_map]
  cases e.arms[i]? <;> rfl
theorem strip_kids (e : Exp) : (e.children.map stripM).take e.kids.length = (stripM e).kids := by
  rw [stripM_eq]
  rfl
theorem strip_row (e : Exp) : wc (stripM e).row = [.c (.int .i64 e.kind), .c (.int .i64 0), .c (.str e.name), .c (.int .i64 e.num), .c (.sl (Exp.rows (stripM e).kids)), .c (.sl (Exp.armRows (stripM e).arms)), .c (.int .i64 e.ty.kind), .c (.str e.ty.name), .c (.int .i64 e.ty.id), .c (.int .i64 e.ty.home), .c (.sl (Ty.rows e.ty.args))] := by
  obtain ⟨h1, h2, h3, h4, _, _, _, _⟩ := strip_parts e
  have hp : (stripM e).pos = 0 := by rw [stripM_eq]; rfl
  rw [Exp.row_eq, h1, h2, h3, h4, hp]
  rfl

set_option maxRecDepth 10000 in
set_option maxHeartbeats 4000000 in
theorem strip97 (e : Exp) : e.weight ≤ 687194767360 → (K A).call 27 [expV e] [] = some (expV (stripM e), []) := by
  induction e using Exp.ind with
  | h e ih =>
  intro hl
  refine fn_of (vf := v27) (by kernel_rfl) rfl (by simp) ?_
  have hle := e.children_le
  rw [e.children_len] at hle
  have hc := children50 (A := A) e (by omega)
  have hml : (e.children.map stripM).length = e.children.length := by simp
  have hw := with92 (A := A) e (e.children.map stripM) (by rw [hml, e.children_len]) hl
  have hal : (armsW e.arms ((e.children.map stripM).drop e.kids.length)).length = e.arms.length := by rw [armsW_len, List.length_drop, hml, e.children_len]; omega
  rw [strip_kids] at hw
  have hks : (stripM e).kids.length = e.kids.length := (strip_parts e).2.2.2.2.1
  have has : (stripM e).arms.length = e.arms.length := (strip_parts e).2.2.2.2.2.1
  unfold v27
  simp (maxSteps := 4000000) (disch := first | omega | (simp; done) | (simp; omega)) [hc, -getElem?_pos]
  refine wp_loop (fun i => ⟨[(1, .sc (.ptr 64 0)), (2, .sc (.ptr 128 0)), (3, .sc (.arr 288 e.children.length)), (4, intV i)],
    [(64, some (.box (wc e.row))), (128, some (.box [zi, zi, zs, zi, .nil, .nil, zi, zs, zi, zi, .nil])), (288, some (.arr 11 (wr (Exp.rows ((e.children.map stripM).take i ++ e.children.drop i))) 0))]⟩) e.children.length ?_ ?_ ?_
  · simp
  · intro i hi
    obtain ⟨x, hx⟩ := get_of_lt hi
    have hmem := List.mem_of_getElem? hx
    have hrec := ih x hmem (by have := Exp.child_lt hmem; omega)
    have hz : (e.children.map stripM)[i]? = some (stripM x) := by simp [hx]
    have hg := get_step hml hi
    rw [hx] at hg
    have hs := set_step hml hz
    have hln := len_step (i := i) hml
    rw [← hs]
    generalize (e.children.map stripM).take i ++ e.children.drop i = zz at hg hln ⊢
    have hset := rows_set zz i (stripM x)
    have hi' : (i : Int) < (e.kids.length : Int) + e.arms.length := by rw [e.children_len] at hi; omega
    rw [e.children_len] at hln hi
    unfold l27_0
    simp (maxSteps := 4000000) (disch := first | omega | (simp; done) | (simp; omega)) [hi, hi', hg, hln, hrec, hset, blt_dec, -getElem?_pos]
  · have ht : (e.children.map stripM).take e.children.length ++ e.children.drop e.children.length = e.children.map stripM := by
      rw [List.drop_length, List.append_nil, List.take_of_length_le (by omega)]
    rw [ht]
    unfold l27_0
    simp (maxSteps := 4000000) (disch := first | omega | (simp; done) | (simp; omega)) [hw, hml, -getElem?_pos]
    have hsa := strip_arms e
    generalize armsW e.arms ((e.children.map stripM).drop e.kids.length) = ws at *
    have hpl : (armsP ws).length = ws.length := armsP_len ws
    refine wp_loop (fun i => ⟨[(2, .sc (.ptr 128 0)), (5, .sc (.ptr 1664 0)), (6, intV i)],
      [(128, some (.box [zi, zi, zs, zi, .nil, .nil, zi, zs, zi, zi, .nil])), (288, some (.arr 11 (wr (Exp.rows (e.children.map stripM))) (e.kids.length + e.arms.length))), (1632, some (.arr 11 (wr (Exp.rows (stripM e).kids)) 0)),
        (1633, some (.arr 14 (wr (Exp.armRows ((armsP ws).take i ++ ws.drop i))) 0)),
        (1664, some (.box [.c (.int .i64 e.kind), zi, .c (.str e.name), .c (.int .i64 e.num), .arr 1632 e.kids.length, .arr 1633 e.arms.length, .c (.int .i64 e.ty.kind), .c (.str e.ty.name), .c (.int .i64 e.ty.id), .c (.int .i64 e.ty.home), .c (.sl (Ty.rows e.ty.args))]))]⟩) e.arms.length ?_ ?_ ?_
    · simp
    · intro i hi
      obtain ⟨a, ha⟩ := get_of_lt (l := ws) (i := i) (by omega)
      have hz : (armsP ws)[i]? = some ((⟨0, a.1.con, a.1.vars⟩ : ArmH), a.2) := by
        unfold armsP
        rw [List.getElem?_map, ha]
        rfl
      have hg := get_step (i := i) hpl (by omega)
      rw [ha] at hg
      have hs := set_step hpl hz
      have hln := len_step (i := i) hpl
      rw [← hs]
      generalize (armsP ws).take i ++ ws.drop i = zz at hg hln ⊢
      have hset := armrows_set zz i ((⟨0, a.1.con, a.1.vars⟩ : ArmH), a.2)
      have hsp := pos_splice a
      have hln2 : zz.length = e.arms.length := by omega
      unfold l27_1
      simp (maxSteps := 4000000) (disch := first | omega | (simp; done) | (simp; omega)) [hi, hg, hln2, hsp, hset, blt_dec, -getElem?_pos]
    · have ht : (armsP ws).take e.arms.length ++ ws.drop e.arms.length = (stripM e).arms := by
        rw [← hal, List.drop_length, List.append_nil, List.take_of_length_le (by omega), hsa]
      rw [ht]
      have hsr := strip_row e
      unfold l27_1
      simp (maxSteps := 4000000) (disch := first | omega | (simp; done) | (simp; omega)) [hsr, hks, has, -getElem?_pos]
end Go.Vs.Tryz

/- The canonical form by the reference, walked. -/
namespace Go.Vs
open Go
section
variable {C : Ctx} {E : Nat → Option V} {L : Nat → Option Obj} {oid : Nat}
def mkSK (oid s bytes : Nat) (zero : List W) (v : V) : Option (V × Upd) := match intOf v with
  | some (.ofNat m) => bif Nat.ble (m * bytes) maxBytes && zero.length == s && Nat.blt 0 s && Nat.ble m maxRows then
      some (.sc (.arr oid m), [(oid, some (.arr s (List.replicate m zero) 0))]) else none
  | _ => none
@[simp] theorem x_mkS {s bytes : Nat} {zero : List W} {n : Opd} : exec1 C E L oid (.mkS s bytes zero n) = newK (L oid) (mkSK oid s bytes zero (n.val C E)) := by
  simp only [exec1, newK, mkSK]
  cases L oid with
  | some _ => rfl
  | none =>
    cases intOf (n.val C E) with
    | none => rfl
    | some z => cases z <;> rfl
@[simp] theorem mkSK_nat {s bytes m : Nat} {zero : List W} {k : IntKind} (h1 : m * bytes ≤ 140737488355328) (h2 : zero.length = s) (h3 : 0 < s) (h4 : m ≤ 9223372036854775807) : mkSK oid s bytes zero (.sc (.c (.int k (m : Int)))) = some (.sc (.arr oid m), [(oid, some (.arr s (List.replicate m zero) 0))]) := by
  have e : mkSK oid s bytes zero (.sc (.c (.int k (m : Int)))) = bif Nat.ble (m * bytes) maxBytes && zero.length == s && Nat.blt 0 s && Nat.ble m maxRows then
      some (.sc (.arr oid m), [(oid, some (.arr s (List.replicate m zero) 0))]) else none := rfl
  rw [e, Nat.ble_eq_true_of_le (by unfold maxBytes; exact h1), Nat.ble_eq_true_of_le (by unfold maxRows; exact h4), show Nat.blt 0 s = true from Nat.ble_eq_true_of_le h3, h2]
  simp
end
end Go.Vs
namespace Go.Vs.Tryz
open Go Go.Vs
variable {A : Oracle}

theorem place125 (l : List Str) (s : Str) (h : l.length ≤ 687194767360) : (K A).call 50 [strsV l, strV s] [] = some (intV (rlast l s), []) := by
  refine fn_of (vf := v50) (by kernel_rfl) rfl (by simp) ?_
  unfold v50
  have hp := place_le l.reverse s
  rw [List.length_reverse] at hp
  simp (disch := first | omega | (simp; done) | (simp; omega))
  refine wp_loop (fun i => ⟨[(0, strsV l), (1, strV s), (5, intV ((l.length : Int) - 1 - i))], []⟩) (place l.reverse s) ?_ ?_ ?_
  · simp
  · intro i hi
    obtain ⟨x, hx, hne⟩ := place_lt hi
    have hlt : i < l.length := by omega
    rw [rev_get hlt] at hx
    have hc : (l.length : Int) - 1 - i = ((l.length - 1 - i : Nat) : Int) := by omega
    have hc2 : (l.length : Int) - 1 - (i + 1) = ((l.length - 1 - i : Nat) : Int) - 1 := by omega
    unfold l50_0
    simp (disch := first | omega | (simp; done) | (simp; omega)) [hc, hc2, hx, hne, -getElem?_pos]
  · unfold l50_0
    by_cases hm : place l.reverse s < l.length
    · have hx := place_at (l := l.reverse) (s := s) (by simpa using hm)
      have hmem : s ∈ l := by
        have := place_mem.1 (show place l.reverse s < l.reverse.length by simpa using hm)
        simpa using this
      rw [rev_get hm] at hx
      have hc : (l.length : Int) - 1 - (place l.reverse s : Nat) = ((l.length - 1 - place l.reverse s : Nat) : Int) := by omega
      simp (disch := first | omega | (simp; done) | (simp; omega)) [hc, hx, hmem, rlast, -getElem?_pos]
    · have hn : s ∉ l := fun h => hm (by have := place_mem.2 (List.mem_reverse.2 h); simpa using this)
      have hc : (l.length : Int) - 1 - (place l.reverse s : Nat) = -1 := by omega
      simp (disch := first | omega | (simp; done) | (simp; omega)) [hc, hn, rlast, -getElem?_pos]

/-- The arms with new variables. -/
def armsN (taken : List Str) (n : Nat) (l : List (ArmH × Exp)) : List (ArmH × Exp) := l.map fun a => (⟨a.1.pos, a.1.con, news taken n a.1.vars.length⟩, a.2)
@[simp] theorem armsN_len (taken : List Str) (n : Nat) (l : List (ArmH × Exp)) : (armsN taken n l).length = l.length := by simp [armsN]
theorem vars_splice (a : ArmH × Exp) (vs : List Str) : splice (wc (armRow a)) 2 [W.c (.sl (strRows vs))] = some (wc (armRow ((⟨a.1.pos, a.1.con, vs⟩ : ArmH), a.2))) := by
  rw [armRow, armRow, Exp.row_eq a.2]
  rfl
theorem strrows_set (l : List Str) (i : Nat) (x : Str) : setRow (wr (strRows l)) i [W.c (.str x)] = wr (strRows (l.set i x)) := by
  rw [setRow_set]
  simp [strRows, wr, List.map_set, strRow]
theorem rep_rows (n : Nat) : List.replicate n [zs] = wr (strRows (List.replicate n [])) := by
  simp [wr, strRows, strRow]
theorem canon_arms (taken : List Str) (e : Exp) (old names : List Str) : armsN taken old.length (armsW e.arms ((canonC taken e old names).drop e.kids.length)) =
    List.zipWith (fun (a : ArmH × Exp) c => ((⟨a.1.pos, a.1.con, news taken old.length a.1.vars.length⟩ : ArmH), c)) e.arms ((canonC taken e old names).drop e.kids.length) := by
  unfold armsN armsW
  rw [List.map_zipWith]
theorem news_succ (taken : List Str) (n k : Nat) : news taken n (k + 1) = news taken n k ++ [freshS (n + k) taken] := by
  simp [news, List.range_succ]

abbrev zbox2 : Obj := .box [zi, zi, zs, zi, .nil, .nil, zi, zs, zi, zi, .nil]

set_option maxRecDepth 10000 in
set_option maxHeartbeats 16000000 in
theorem canonical96 (taken : List Str) (ht : taken.length ≤ 500000) (e : Exp) : ∀ old names : List Str, e.wf → names.length = old.length → old.length + e.weight ≤ 500000 →
    (K A).call 26 [expV e, strsV taken, strsV old, strsV names] [] = some (expV (canonM taken e old names), []) := by
  induction e using Exp.ind with
  | h e ih =>
  intro old names hw hn hl
  refine fn_of (vf := v26) (by kernel_rfl) rfl (by simp) ?_
  have hle := e.children_le
  rw [e.children_len] at hle
  by_cases hk : e.kind = 1
  · have hp := place125 (A := A) old e.name (by omega)
    rw [canonM_var hk]
    by_cases hm : e.name ∈ old
    · obtain ⟨q1, q2⟩ : 0 ≤ rlast old e.name ∧ rlast old e.name < old.length := by
        refine ⟨rlast_mem hm, ?_⟩
        unfold rlast
        rw [if_pos hm]
        have := place_mem.2 (List.mem_reverse.2 hm)
        rw [List.length_reverse] at this
        omega
      obtain ⟨k, hk2⟩ : ∃ k : Nat, rlast old e.name = k := ⟨(rlast old e.name).toNat, by omega⟩
      obtain ⟨s, hs⟩ := get_of_lt (l := names) (i := k) (by omega)
      rw [hk2] at hp
      have hrow : wc (Exp.mk e.kind e.pos s e.num e.kids e.arms e.ty).row = [.c (.int .i64 e.kind), .c (.int .i64 e.pos), .c (.str s), .c (.int .i64 e.num), .c (.sl (Exp.rows e.kids)), .c (.sl (Exp.armRows e.arms)), .c (.int .i64 e.ty.kind), .c (.str e.ty.name), .c (.int .i64 e.ty.id), .c (.int .i64 e.ty.home), .c (.sl (Ty.rows e.ty.args))] := by rw [Exp.row_eq]; rfl
      have hrow0 : wc e.row = [.c (.int .i64 e.kind), .c (.int .i64 e.pos), .c (.str e.name), .c (.int .i64 e.num), .c (.sl (Exp.rows e.kids)), .c (.sl (Exp.armRows e.arms)), .c (.int .i64 e.ty.kind), .c (.str e.ty.name), .c (.int .i64 e.ty.id), .c (.int .i64 e.ty.home), .c (.sl (Ty.rows e.ty.args))] := by rw [Exp.row_eq]; rfl
      rw [if_pos q1, hk2, Int.toNat_natCast, hs, Option.getD_some]
      have hrow1 := hrow
      rw [hk] at hrow1
      unfold v26
      simp (maxSteps := 4000000) (disch := first | omega | (simp; done) | (simp; omega)) [hk, hp, hs, hrow1, hrow0, -getElem?_pos]
    · have hr : rlast old e.name = -1 := rlast_no hm
      rw [hr] at hp
      rw [hr, if_neg (by decide)]
      unfold v26
      simp (maxSteps := 4000000) (disch := first | omega | (simp; done) | (simp; omega)) [hk, hp, -getElem?_pos]
  · rw [canonM_no hk]
    have hc := children50 (A := A) e (by omega)
    have hcl := canonC_len taken e old names
    unfold v26
    simp (maxSteps := 4000000) (disch := first | omega | (simp; done) | (simp; omega)) [hk, hc, -getElem?_pos]
    refine wp_loop (fun i => ⟨[(1, strsV taken), (2, strsV old), (3, strsV names), (4, .sc (.ptr 64 0)), (8, .sc (.ptr 128 0)), (10, .sc (.arr 1440 e.children.length)), (11, .sc (.arr 1537 i)), (12, intV i)],
      [(64, some (.box (wc e.row))), (128, some zbox2), (1440, some (.arr 11 (wr (Exp.rows e.children)) 0)), (1537, some (.arr 11 (wr (Exp.rows ((canonC taken e old names).take i))) 0))]⟩) e.children.length ?_ ?_ ?_
    · simp
    · intro i hi
      obtain ⟨x, hx⟩ := get_of_lt hi
      have hmem := List.mem_of_getElem? hx
      have hxw := Exp.child_lt hmem
      have hbc := bound_child hx
      have hb := bound91 (A := A) e i hw.one hi (by omega)
      have hcx := canonC_get (taken := taken) (old := old) (names := names) hx
      have hrec := ih x hmem (old ++ e.bound i) (names ++ news taken old.length (e.bound i).length) (hw.child hmem) (by simp [hn]) (by simp; omega)
      generalize e.bound i = b at *
      rw [take_next hcx]
      have hi' : (i : Int) < (e.kids.length : Int) + e.arms.length := by rw [e.children_len] at hi; omega
      have hctl : ((canonC taken e old names).take i).length = i := by rw [List.length_take, hcl]; rw [e.children_len] at hi; omega
      generalize (canonC taken e old names).take i = cs at *
      unfold l26_1
      simp (maxSteps := 4000000) (disch := first | omega | (simp; done) | (simp; omega)) [hi', hx, hb, hctl, hn, -getElem?_pos]
      refine wp_loop (fun k => ⟨[(1, strsV taken), (2, strsV old), (3, strsV names), (4, .sc (.ptr 64 0)), (8, .sc (.ptr 128 0)), (10, .sc (.arr 1440 e.children.length)), (11, .sc (.arr 1537 i)), (12, intV i), (13, .sc (.arr 1984 (old.length + k))), (14, .sc (.arr 2112 (old.length + k))), (15, strsV b), (16, intV k)],
        [(64, some (.box (wc e.row))), (128, some zbox2), (1440, some (.arr 11 (wr (Exp.rows e.children)) 0)), (1537, some (.arr 11 (wr (Exp.rows cs)) 0)), (1984, some (.arr 1 (wr (strRows (old ++ b.take k))) 0)), (2112, some (.arr 1 (wr (strRows (names ++ news taken old.length k))) 0))]⟩) b.length ?_ ?_ ?_
      · simp [news]
      · intro k hk3
        obtain ⟨s, hs⟩ := get_of_lt hk3
        have hf := fresh29 (A := A) (old.length + k) taken (by omega) (by omega)
        have hbk : (b.take k).length = k := by simp; omega
        rw [show ((old.length + k : Nat) : Int) = (old.length : Int) + k by omega] at hf
        rw [news_succ, take_next hs]
        unfold l26_0
        simp (maxSteps := 4000000) (disch := first | omega | (simp; done) | (simp; omega)) [hk3, hs, hf, hbk, hn, Nat.add_assoc, -getElem?_pos]
      · have hbt : b.take b.length = b := List.take_of_length_le (by omega)
        rw [hbt]
        unfold l26_0
        simp (maxSteps := 4000000) (disch := first | omega | (simp; done) | (simp; omega)) [hrec, hx, hctl, hn, -getElem?_pos]
    · have hcl2 : (canonC taken e old names).length = e.children.length := by rw [hcl, e.children_len]
      have ht2 : (canonC taken e old names).take e.children.length = canonC taken e old names := List.take_of_length_le (by omega)
      rw [ht2]
      have hwith := with92 (A := A) e (canonC taken e old names) hcl (by omega)
      have harm := canon_arms taken e old names
      obtain ⟨ws, hws⟩ : ∃ ws, ws = armsW e.arms ((canonC taken e old names).drop e.kids.length) := ⟨_, rfl⟩
      have hwl : ws.length = e.arms.length := by rw [hws, armsW_len, List.length_drop, hcl]; omega
      have hwv : ∀ a ∈ ws, a.1.vars.length ≤ e.weight := by
        intro a ha
        obtain ⟨j, hj⟩ := List.mem_iff_getElem?.1 ha
        rw [hws] at hj
        unfold armsW at hj
        rw [List.getElem?_zipWith] at hj
        cases h1 : e.arms[j]? with
        | none => rw [h1] at hj; simp at hj
        | some b =>
          rw [h1] at hj
          cases h2 : ((canonC taken e old names).drop e.kids.length)[j]? with
          | none => rw [h2] at hj; simp at hj
          | some c =>
            rw [h2] at hj
            simp only [Option.some.injEq] at hj
            subst hj
            have hb := Exp.vars_le (e := e) (a := b) (List.mem_of_getElem? h1)
            exact hb
      rw [← hws] at hwith harm
      rw [← harm]
      have hkl : ((canonC taken e old names).take e.kids.length).length = e.kids.length := by rw [List.length_take, hcl]; omega
      generalize (canonC taken e old names).take e.kids.length = ks at *
      have hf0 := fresh29 (A := A) old.length taken (by omega) (by omega)
      have fin : ∀ nm : Str, wp (K A) (.loop l26_3) (blockQ 4 (thenQ (K A) (.seq (.region [] [o 139 (.load true 11 (tv 17)), on (.store 11 (tv 8) (tv 139) [])] [] [8]) .ret) (doneQ false 0 [.cell 8 true 11] (expV (.mk e.kind e.pos nm e.num ks (armsN taken old.length ws) e.ty), []))))
          ⟨[(1, strsV taken), (2, strsV old), (8, .sc (.ptr 128 0)), (17, .sc (.ptr 5248 0)), (18, intV 0)],
            [(128, some zbox2), (1440, some (.arr 11 (wr (Exp.rows e.children)) 0)), (1537, some (.arr 11 (wr (Exp.rows (canonC taken e old names))) (e.kids.length + e.arms.length))), (5216, some (.arr 11 (wr (Exp.rows ks)) 0)), (5217, some (.arr 14 (wr (Exp.armRows ws)) 0)),
              (5248, some (.box [.c (.int .i64 e.kind), .c (.int .i64 e.pos), .c (.str nm), .c (.int .i64 e.num), .arr 5216 e.kids.length, .arr 5217 e.arms.length, .c (.int .i64 e.ty.kind), .c (.str e.ty.name), .c (.int .i64 e.ty.id), .c (.int .i64 e.ty.home), .c (.sl (Ty.rows e.ty.args))]))]⟩ := by
        intro nm
        generalize canonC taken e old names = cc
        have hpl : (armsN taken old.length ws).length = ws.length := armsN_len _ _ _
        refine wp_loop (fun i => ⟨[(1, strsV taken), (2, strsV old), (8, .sc (.ptr 128 0)), (17, .sc (.ptr 5248 0)), (18, intV i)],
            [(128, some zbox2), (1440, some (.arr 11 (wr (Exp.rows e.children)) 0)), (1537, some (.arr 11 (wr (Exp.rows cc)) (e.kids.length + e.arms.length))), (5216, some (.arr 11 (wr (Exp.rows ks)) 0)), (5217, some (.arr 14 (wr (Exp.armRows ((armsN taken old.length ws).take i ++ ws.drop i))) 0)),
              (5248, some (.box [.c (.int .i64 e.kind), .c (.int .i64 e.pos), .c (.str nm), .c (.int .i64 e.num), .arr 5216 e.kids.length, .arr 5217 e.arms.length, .c (.int .i64 e.ty.kind), .c (.str e.ty.name), .c (.int .i64 e.ty.id), .c (.int .i64 e.ty.home), .c (.sl (Ty.rows e.ty.args))]))]⟩) e.arms.length ?_ ?_ ?_
        · simp
        · intro i hi
          obtain ⟨a, ha⟩ := get_of_lt (l := ws) (i := i) (by omega)
          have hav := hwv a (List.mem_of_getElem? ha)
          have hz : (armsN taken old.length ws)[i]? = some ((⟨a.1.pos, a.1.con, news taken old.length a.1.vars.length⟩ : ArmH), a.2) := by
            unfold armsN
            rw [List.getElem?_map, ha]
            rfl
          have hg := get_step (i := i) hpl (by omega)
          rw [ha] at hg
          have hs := set_step hpl hz
          have hln := len_step (i := i) hpl
          rw [← hs]
          generalize (armsN taken old.length ws).take i ++ ws.drop i = zz at hg hln ⊢
          have hset := armrows_set zz i ((⟨a.1.pos, a.1.con, news taken old.length a.1.vars.length⟩ : ArmH), a.2)
          have hsp := vars_splice a (news taken old.length a.1.vars.length)
          have hln2 : zz.length = e.arms.length := by omega
          have hrl : (List.replicate a.1.vars.length ([] : Str)).length = a.1.vars.length := by simp
          have hnl : (news taken old.length a.1.vars.length).length = (List.replicate a.1.vars.length ([] : Str)).length := by simp
          unfold l26_3
          simp (maxSteps := 4000000) (disch := first | omega | (simp; done) | (simp; omega)) [hi, hg, hln2, rep_rows, blt_dec, -getElem?_pos]
          refine wp_loop (fun k => ⟨[(1, strsV taken), (2, strsV old), (8, .sc (.ptr 128 0)), (17, .sc (.ptr 5248 0)), (18, intV i), (19, .sc (.arr 7424 a.1.vars.length)), (20, intV k)],
            [(128, some zbox2), (1440, some (.arr 11 (wr (Exp.rows e.children)) 0)), (1537, some (.arr 11 (wr (Exp.rows cc)) (e.kids.length + e.arms.length))), (5216, some (.arr 11 (wr (Exp.rows ks)) 0)), (5217, some (.arr 14 (wr (Exp.armRows zz)) 0)),
              (5248, some (.box [.c (.int .i64 e.kind), .c (.int .i64 e.pos), .c (.str nm), .c (.int .i64 e.num), .arr 5216 e.kids.length, .arr 5217 e.arms.length, .c (.int .i64 e.ty.kind), .c (.str e.ty.name), .c (.int .i64 e.ty.id), .c (.int .i64 e.ty.home), .c (.sl (Ty.rows e.ty.args))])),
              (7424, some (.arr 1 (wr (strRows ((news taken old.length a.1.vars.length).take k ++ (List.replicate a.1.vars.length ([] : Str)).drop k))) 0))]⟩) a.1.vars.length ?_ ?_ ?_
          · simp
          · intro k hk3
            have hz2 := news_get (taken := taken) (n := old.length) hk3
            have hs2 := set_step hnl hz2
            have hln3 := len_step (i := k) hnl
            have hf := fresh29 (A := A) (old.length + k) taken (by omega) (by omega)
            rw [show ((old.length + k : Nat) : Int) = (old.length : Int) + k by omega] at hf
            have hg3 := get_step (i := k) hnl (by rw [hrl]; exact hk3)
            rw [List.getElem?_replicate, if_pos hk3] at hg3
            rw [← hs2]
            generalize (news taken old.length a.1.vars.length).take k ++ (List.replicate a.1.vars.length ([] : Str)).drop k = vv at hg3 hln3 ⊢
            rw [hrl] at hln3
            have hst := strrows_set vv k (freshS (old.length + k) taken)
            unfold l26_2
            simp (maxSteps := 4000000) (disch := first | omega | (simp; done) | (simp; omega)) [hk3, hf, hln3, hg3, hst, blt_dec, -getElem?_pos]
          · have hend : (news taken old.length a.1.vars.length).take a.1.vars.length ++ (List.replicate a.1.vars.length ([] : Str)).drop a.1.vars.length = news taken old.length a.1.vars.length := by
              rw [List.take_of_length_le (by simp), List.drop_of_length_le (by simp), List.append_nil]
            rw [hend]
            unfold l26_2
            simp (maxSteps := 4000000) (disch := first | omega | (simp; done) | (simp; omega)) [hi, hg, hln2, hsp, hset, blt_dec, -getElem?_pos]
        · have hend : (armsN taken old.length ws).take e.arms.length ++ ws.drop e.arms.length = armsN taken old.length ws := by
            rw [List.take_of_length_le (by omega), List.drop_of_length_le (by omega), List.append_nil]
          rw [hend]
          have hrow : wc (Exp.mk e.kind e.pos nm e.num ks (armsN taken old.length ws) e.ty).row = [.c (.int .i64 e.kind), .c (.int .i64 e.pos), .c (.str nm), .c (.int .i64 e.num), .c (.sl (Exp.rows ks)), .c (.sl (Exp.armRows (armsN taken old.length ws))), .c (.int .i64 e.ty.kind), .c (.str e.ty.name), .c (.int .i64 e.ty.id), .c (.int .i64 e.ty.home), .c (.sl (Ty.rows e.ty.args))] := by rw [Exp.row_eq]; rfl
          have hal : (armsN taken old.length ws).length = e.arms.length := by omega
          unfold l26_3
          simp (maxSteps := 4000000) (disch := first | omega | (simp; done) | (simp; omega)) [hrow, hal, hkl, -getElem?_pos]
      by_cases h4 : e.kind = 4
      · have f := fin (freshS old.length taken)
        rw [if_pos (.inl h4)]
        unfold l26_1
        rw [h4] at f hwith
        simp (maxSteps := 4000000) (disch := first | omega | (simp; done) | (simp; omega)) [hwith, hcl, hcl2, h4, hf0, -getElem?_pos]
        exact f
      · by_cases h6 : e.kind = 6
        · have f := fin (freshS old.length taken)
          rw [if_pos (.inr (.inl h6))]
          unfold l26_1
          rw [h6] at f hwith
          simp (maxSteps := 4000000) (disch := first | omega | (simp; done) | (simp; omega)) [hwith, hcl, hcl2, h6, hf0, -getElem?_pos]
          exact f
        · by_cases h7 : e.kind = 7
          · have f := fin (freshS old.length taken)
            rw [if_pos (.inr (.inr h7))]
            unfold l26_1
            rw [h7] at f hwith
            simp (maxSteps := 4000000) (disch := first | omega | (simp; done) | (simp; omega)) [hwith, hcl, hcl2, h7, hf0, -getElem?_pos]
            exact f
          · have f := fin e.name
            rw [if_neg (by omega)]
            unfold l26_1
            simp (maxSteps := 4000000) (disch := first | omega | (simp; done) | (simp; omega)) [hwith, hcl, hcl2, h4, h6, h7, -getElem?_pos]
            exact f
end Go.Vs.Tryz

/- The reference's canonical forms, walked. -/
namespace Go.Vs.Tryz
open Go Go.Vs
variable {A : Oracle}

set_option maxHeartbeats 4000000 in
theorem canonical40 (e : Exp) (taken : List Str) (hw : e.wf) (ht : taken.length + e.weight ≤ 500000) :
    (K A).call 13 [expV e, strsV taken] [] = some (expV (canonT e taken), []) := by
  refine fn_of (vf := v13) (by kernel_rfl) rfl (by simp) ?_
  have h1 := strip97 (A := A) e (by omega)
  have h2 := free20 (A := A) e hw (by omega)
  have hl := freeR_len e [] []
  rw [free_same e hw] at h2 hl
  have h3 := canonical96 (A := A) (taken ++ freeP e) (by simp at hl ⊢; omega) (stripM e) [] [] (strip_wf e hw) rfl (by rw [strip_weight]; simp; omega)
  simp [strsV] at h3
  simp at hl
  unfold v13 canonT
  simp (disch := first | omega | (simp; done) | (simp; omega)) [h1, h2, h3]

/-- The other names. -/
def renTo (k : Nat) : List Str := [[118, 49], 118 :: numS (k + 2)]
end Go.Vs.Tryz

/- Valid names and the plain type, walked. -/
namespace Go.Vs.Tryz
open Go Go.Vs
variable {A : Oracle}

/-- A sign of a name. -/
def charOk (c : UInt8) : Bool := (97 ≤ c.toNat && c.toNat ≤ 122) || (65 ≤ c.toNat && c.toNat ≤ 90) || (48 ≤ c.toNat && c.toNat ≤ 57) || c.toNat == 95
def keyWords : List Str := [[100, 97, 116, 97], [108, 101, 116], [114, 101, 99], [105, 110], [99, 97, 115, 101], [111, 102], [101, 110, 100]]
/-- A name whose first letter is from lo to hi. -/
def nameOk (lo hi : Nat) (s : Str) : Prop := s.length ≤ 12 ∧ (∃ c, s[0]? = some c ∧ lo ≤ c.toNat ∧ c.toNat ≤ hi) ∧ (∀ c ∈ s, charOk c = true) ∧ s ∉ keyWords

theorem name170 (lo hi : Nat) (s : Str) (h : nameOk lo hi s) : (K A).call 239 [strV s, .sc (.c (.int .u8 lo)), .sc (.c (.int .u8 hi))] [] = some (boolV true, []) := by
  refine fn_of (vf := v239) (by kernel_rfl) rfl (by simp) ?_
  obtain ⟨h1, ⟨c, hc, h2, h3⟩, h4, h5⟩ := h
  simp only [keyWords, List.mem_cons, List.not_mem_nil, or_false, not_or] at h5
  obtain ⟨k1, k2, k3, k4, k5, k6, k7⟩ := h5
  have hl : 0 < s.length := (List.getElem?_eq_some_iff.1 hc).1
  have e1 : ¬ (s.length : Int) < 1 := by omega
  have e2 : ¬ (12 : Int) < s.length := by omega
  have e3 : ¬ (c.toNat : Int) < lo := by omega
  have e4 : ¬ (hi : Int) < c.toNat := by omega
  unfold v239
  simp (disch := first | omega | (simp; done) | (simp; omega)) [e1, e2, e3, e4, hc, -getElem?_pos]
  refine wp_loopI (fun i t => t = ⟨[(0, strV s), (31, intV s.length), (32, intV i)], []⟩) s.length (by simp) ?_ ?_
  · rintro i t hi rfl
    obtain ⟨d, hd⟩ := get_of_lt hi
    have hdo := h4 d (List.mem_of_getElem? hd)
    simp only [charOk, Bool.or_eq_true, Bool.and_eq_true, decide_eq_true_eq, beq_iff_eq] at hdo
    unfold l239_0
    by_cases a1 : 97 ≤ d.toNat
    · by_cases a2 : d.toNat ≤ 122
      · have b1 : (97 : Int) ≤ d.toNat := by omega
        have b2 : (d.toNat : Int) ≤ 122 := by omega
        simp (disch := first | omega | (simp; done) | (simp; omega)) [hi, hd, b1, b2, -getElem?_pos]
      · omega
    · have b1 : ¬ (97 : Int) ≤ d.toNat := by omega
      by_cases a3 : 65 ≤ d.toNat
      · have b3 : (65 : Int) ≤ d.toNat := by omega
        by_cases a4 : d.toNat ≤ 90
        · have b4 : (d.toNat : Int) ≤ 90 := by omega
          simp (disch := first | omega | (simp; done) | (simp; omega)) [hi, hd, b1, b3, b4, -getElem?_pos]
        · have b4 : ¬ (d.toNat : Int) ≤ 90 := by omega
          have b5 : (d.toNat : Int) = 95 := by omega
          simp (disch := first | omega | (simp; done) | (simp; omega)) [hi, hd, b5, -getElem?_pos]
      · have b3 : ¬ (65 : Int) ≤ d.toNat := by omega
        have b4 : ¬ (d.toNat : Int) < 48 := by omega
        have b5 : ¬ (57 : Int) < d.toNat := by omega
        simp (disch := first | omega | (simp; done) | (simp; omega)) [hi, hd, b1, b3, b4, b5, -getElem?_pos]
  · rintro t rfl
    unfold l239_0
    simp (disch := first | omega | (simp; done) | (simp; omega)) [k1, k2, k3, k4, k5, k6, k7, -getElem?_pos]

theorem lower109 (s : Str) (h : nameOk 97 122 s) : (K A).call 154 [strV s] [] = some (boolV true, []) := by
  have h1 : (K A).call 239 [strV s, .sc (.c (.int .u8 97)), .sc (.c (.int .u8 122))] [] = some (boolV true, []) := name170 (A := A) 97 122 s h
  have hs : ¬ s = [] := by
    rintro rfl
    obtain ⟨_, ⟨c, hc, _⟩, _⟩ := h
    cases hc
  have hv : (K A).call 155 [tyV (.mk 5 s 0 0 [])] [] = some (boolV true, []) := by
    refine fn_of (vf := v155) (by kernel_rfl) rfl (by simp) ?_
    unfold v155
    simp (disch := first | omega | (simp; done) | (simp; omega)) [h1, hs, Ty.kind, Ty.name, Ty.id, Ty.home, Ty.args, -getElem?_pos]
  refine fn_of (vf := v154) (by kernel_rfl) rfl (by simp) ?_
  simp [tyV, Ty.row, Ty.rows] at hv
  unfold v154
  simp (disch := first | omega | (simp; done) | (simp; omega)) [hv, -getElem?_pos]

end Go.Vs.Tryz
