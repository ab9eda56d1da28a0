/- show.Program at one binding: walked around its strings.Builder. -/
import Derived.Test.YtchkkbbchpnabaaGreatDoorBbc
import Derived.Test.YtchkkbbchpnabaaGreatDoorTdc
set_option linter.unusedSimpArgs false
set_option linter.unusedVariables false
set_option linter.deprecated false

/- show.Program at one binding: walked around its strings.Builder. -/
namespace Go.Vs
open Go Go.RowKit
section
variable {P : Program} {C : Ctx} {N : Nat} {w0 : World} {ω0 : Nat → Nat} {S : Fr} {E E' : Nat → Option V} {L L' : Nat → Option Obj}
/-- Operations in the order of the text, and what follows. -/
theorem list_okK (hC : OracleOk P C) {ops : Array Oper} {Q : Exit → Act → World → Prop} {rest : List Oper} : ∀ {os : List Oper} {vops : List VOper} {rs : List Rec} {E : Nat → Option V} {L : Nat → Option Obj} {a : Act} {w : World} {ω : Nat → Nat} {β : Nat → Option Nat},
    Rel C.gl N w0 ω0 S E L a w ω β → mAllO P N ops os vops = true → rs.length = vops.length → Runs C (vops.zip rs) E L E' L' →
    (∀ a w ω β, Rel C.gl N w0 ω0 S E' L' a w ω β → wpList P ops Q rest a w) → wpList P ops Q (os ++ rest) a w
  | [], [], rs, E, L, a, w, ω, β, r, _, _, h, hQ => by
    simp only [List.zip_nil_left, Runs] at h
    obtain ⟨rfl, rfl⟩ := h
    exact hQ a w ω β r
  | [], _ :: _, _, _, _, _, _, _, _, _, h, _, _, _ => by simp [mAllO] at h
  | _ :: _, [], _, _, _, _, _, _, _, _, h, _, _, _ => by simp [mAllO] at h
  | o :: os, x :: xs, [], _, _, _, _, _, _, _, _, h, _, _ => by grind
  | o :: os, x :: xs, y :: rs, E, L, a, w, ω, β, r, hm, hl, h, hQ => by
    simp only [mAllO, Bool.and_eq_true] at hm
    obtain ⟨v, u, h1, _, h3⟩ := h
    exact oper_ok hC r hm.1 h1 fun a' w' ω' β' r' => list_okK hC r' hm.2 (by grind) h3 hQ
end
theorem wpList_enter {P : Program} {ops : Array Oper} {Q : Exit → Act → World → Prop} {o : Oper} {rest : List Oper} {a : Act} {w : World} {f : FuncId} {args : Array Value} (hg : o.guard = none) (run : (execOp a.eval o).run P w = .ok (.enter f args) w)
    (h : Calls P f args w fun e w' => ∃ v, e = .returned v ∧ wpList P ops Q rest (a.put o.dst v) w') : wpList P ops Q (o :: rest) a w := by
  rw [wpList, if_pos (by simp [Region.wanted, hg])]
  left
  unfold Oper.wp
  rw [run, Oper.upon_enter]
  refine h.mono ?_
  rintro e w' ⟨v, rfl, hw⟩
  exact hw
theorem wpList_value {P : Program} {ops : Array Oper} {Q : Exit → Act → World → Prop} {o : Oper} {rest : List Oper} {a : Act} {w w' : World} {v : Value} (hg : o.guard = none) (run : (execOp a.eval o).run P w = .ok (.value v) w')
    (h : wpList P ops Q rest (a.put o.dst v) w') : wpList P ops Q (o :: rest) a w := by
  rw [wpList, if_pos (by simp [Region.wanted, hg])]
  left
  unfold Oper.wp
  rw [run, Oper.upon_value]
  exact h
/-- What is published of the blocks below B. -/
def pubB (B : Nat) (ω : Nat → Nat) : Nat → Nat := fun b => if b < B then ω b else 0
theorem keepsB {w w' : World} {ω : Nat → Nat} {S : Nat → Prop} (hs : w.heap.size ≤ w'.heap.size) (hh : ∀ b, b < w.heap.size → w'.heap[b]? = w.heap[b]?) (h1 : w'.os = w.os) (h2 : w'.tape = w.tape) (h3 : w'.output = w.output) : Keeps w ω S w' (pubB w.heap.size ω) :=
  ⟨⟨fun b i hi v hv => by
    obtain ⟨cs, t, fr, h⟩ := cells_of_at hv
    have hlt := (Array.getElem?_eq_some_iff.1 h).1
    have h' : w'.heap[b]? = some (.cells cs t fr) := (hh b hlt).trans h
    refine ⟨?_, by unfold pubB; rw [if_pos hlt]; exact hi⟩
    rw [at?_block h', ← at?_block h]
    exact hv⟩, hs, fun b hb _ => ⟨hh b hb, by unfold pubB; rw [if_pos hb]⟩, h1, h2, h3⟩
theorem RW_bytes {w : World} {ω : Nat → Nat} {β : Nat → Option Nat} {L : Nat → Option Obj} : ∀ l : List UInt8, RWlist w ω β L (l.map fun x => [W.c (Cell.int .u8 x.toNat)]).flatten (Lib.byteCells l)
  | [] => trivial
  | x :: l => ⟨rfl, RW_bytes l⟩
theorem bytes_RW {w : World} {ω : Nat → Nat} {β : Nat → Option Nat} {L : Nat → Option Obj} : ∀ {l : List UInt8} {vs : List Value}, RWlist w ω β L (l.map fun x => [W.c (Cell.int .u8 x.toNat)]).flatten vs → vs = Lib.byteCells l
  | [], [], _ => rfl
  | [], _ :: _, h => h.elim
  | _ :: _, [], h => h.elim
  | x :: l, v :: vs, h => by
    have h1 : v = .int .u8 x.toNat := h.1
    rw [h1, bytes_RW (l := l) h.2]
    rfl

namespace Tryz
open Go.Proofs Go.Proofs.Tryz
def q0 : VCode := .region [] [⟨some 1, .boxD (.t 0), none, 0, []⟩, ⟨some 2, .mv (.k (.sc (.c (.str [])))), none, 0, []⟩] [] [1]
def l87a : VCode := .seq (.region [] [⟨some 12, .bin .lss 0 (.t 11) (.t 10), none, 0, []⟩] [] [1, 3, 9, 10, 11, 12])
 (.seq (.cond (.t 12) .skip (.exit 0))
 (.seq (.block 1 (.seq (.region [] [⟨some 13, .idxA 4 (.t 9) (.t 11), none, 0, []⟩, ⟨some 14, .load true 4 (.t 13), none, 0, []⟩,
    ⟨some 5, .new [.c (.int .i64 0), .c (.str []), .nil, .nil] [], none, 704, []⟩, ⟨none, .store 4 (.t 5) (.t 14) [], none, 0, []⟩] [] [1, 3, 5, 9, 10, 11])
  (.region [] [⟨some 15, .load true 4 (.t 5), none, 0, []⟩, ⟨some 16, .call (.k (.sc (.c (.fn 173 [] [])))) [(false, .t 15)] [], none, 896, []⟩,
    ⟨some 17, .call (.k (.sc (.c (.fn 172 [] [])))) [(true, .t 3), (false, .t 16)] [], none, 960, []⟩] [] [1, 3, 9, 10, 11])))
 (.region [] [⟨some 18, .bin .add 0 (.t 11) (.k (.sc (.c (.int .i64 1)))), none, 0, []⟩, ⟨some 11, .mv (.t 18), none, 0, []⟩] [] [1, 3, 9, 10, 11])))
def q2 : VCode := .seq (.region [] [⟨some 8, .fld 0 (.t 1), none, 0, []⟩, ⟨some 9, .load false 1 (.t 8), none, 0, []⟩, ⟨some 10, .len false (.t 9), none, 0, []⟩,
   ⟨some 11, .mv (.k (.sc (.c (.int .i64 0)))), none, 0, []⟩] [] [1, 3, 9, 10, 11]) (.block 0 (.loop l87a))
def q3 : VCode := .region [] [⟨some 19, .fld 1 (.t 1), none, 0, []⟩, ⟨some 20, .load false 1 (.t 19), none, 0, []⟩, ⟨some 21, .len false (.t 20), none, 0, []⟩,
   ⟨some 22, .mv (.k (.sc (.c (.int .i64 0)))), none, 0, []⟩] [] [3, 20, 21, 22]
def r0 : VCode := .region [] [⟨some 23, .bin .lss 0 (.t 22) (.t 21), none, 0, []⟩] [] [3, 20, 21, 22, 23]
def r1 : VCode := .cond (.t 23) .skip (.exit 2)
def r2 : VCode := .region [] [⟨some 24, .idxA 20 (.t 20) (.t 22), none, 0, []⟩, ⟨some 25, .load true 20 (.t 24), none, 0, []⟩,
    ⟨some 7, .new [.c (.int .i64 0), .c (.bool false), .c (.str []), .c (.bool false), .c (.int .i64 0), .c (.str []), .c (.int .i64 0), .c (.int .i64 0), .nil, .c (.int .i64 0), .c (.int .i64 0), .c (.str []), .c (.int .i64 0), .nil, .nil, .c (.int .i64 0), .c (.str []), .c (.int .i64 0), .c (.int .i64 0), .nil] [], none, 1600, []⟩,
    ⟨none, .store 20 (.t 7) (.t 25) [], none, 0, []⟩] [] [3, 7, 20, 21, 22]
def rw12 : List VOper := [⟨some 26, .load true 20 (.t 7), none, 0, []⟩, ⟨some 27, .call (.k (.sc (.c (.fn 174 [] [])))) [(false, .t 26)] [], none, 1792, []⟩]
def r3 : VCode := .region [] [⟨some 29, .bin .add 0 (.t 22) (.k (.sc (.c (.int .i64 1)))), none, 0, []⟩, ⟨some 22, .mv (.t 29), none, 0, []⟩] [] [3, 21, 22]
def rmv : List VOper := [⟨some 2, .mv (.t 30), none, 0, []⟩]

noncomputable section
def mNew (os : List Oper) : Bool := match os with
  | [o] => o.dst == some 3 && o.guard.isNone && (match o.op with | .alloc t => t == 270 | _ => false)
  | _ => false
def mWr (ops : Array Oper) (os : List Oper) : Bool := match os with
  | [o1, o2, o3] => mAllO prog 31 ops [o1, o2] rw12 && o3.dst == some 28 && o3.guard.isNone && (match o3.op with
    | .call { callee := .value g, args := ⟨[x, y]⟩, argTypes := _ } => mOpd g (.k (.sc (.c (.fn 172 [] [])))) && mOpd x (.t 3) && mOpd y (.t 27)
    | _ => false)
  | _ => false
def mStr (ops : Array Oper) (os : List Oper) : Bool := match os with
  | [o1, o2] => mAllO prog 31 ops [o2] rmv && o1.dst == some 30 && o1.guard.isNone && (match o1.op with
    | .call { callee := .value g, args := ⟨[x]⟩, argTypes := _ } => mOpd g (.k (.sc (.c (.fn 175 [] [])))) && mOpd x (.t 3)
    | _ => false)
  | _ => false
def m87 (c : Code) : Bool := match c with
  | .seq c0 (.seq (.region _ o1 false) (.seq c2 (.seq (.seq c3 (.block 2 (.loop (.seq g0 (.seq g1 (.seq (.block 3 (.seq g2 (.region _ oW false))) g3)))))) (.seq (.region _ oS false) .ret)))) =>
    mCode prog 31 c0 q0 && mNew o1.toList && mCode prog 31 c2 q2 && mCode prog 31 c3 q3 && mCode prog 31 g0 r0 && mCode prog 31 g1 r1 && mCode prog 31 g2 r2 && mWr oW oW.toList && mCode prog 31 g3 r3 && mStr oS oS.toList
  | _ => false
set_option maxRecDepth 100000 in
theorem body87 : (match prog.funcs[87]? with | some fn => (match fn.body with | some c => m87 c | none => false) && mRes prog fn.results.toList [.tmp 2] && Nat.beq fn.ntmps 31 && Bool.not (fn.name == "runtime.NumGoroutine") | none => false) = true := by kernel_rfl
theorem call172 : (match prog.funcs[172]? with | some fn => fn.body.isSome && Bool.not (fn.name == "runtime.NumGoroutine") | none => false) = true := by kernel_rfl
theorem call175 : (match prog.funcs[175]? with | some fn => fn.body.isSome && Bool.not (fn.name == "runtime.NumGoroutine") | none => false) = true := by kernel_rfl
theorem zero270 : (prog.info? 270).map (fun i => i.zero.map (·.cells)) = some (some #[.pointer none, .slice none 0 0]) := by kernel_rfl

/- ## The frame's states, reckoned -/
def C0 : Ctx := ⟨evk [] 300, gl0⟩
def runN (c : VCode) (s : St) : Option St := match run C0 300 c s with | some (.normal, s') => some s' | _ => none
theorem runN_some {c : VCode} {s s' : St} (h : runN c s = some s') : run C0 300 c s = some (.normal, s') := by
  unfold runN at h
  split at h
  · rename_i x hx; cases h; exact hx
  · cases h
def bldO (cells : List W) : Obj := .arr 2 [cells] 0
def s0 : St := ⟨enumF 0 e87_0.args, []⟩
def sB (s : St) : St := ⟨put s.env 3 (.sc (.el 192 1 0 0)), put s.objs 192 (some (bldO [.c .nilptr, .nil]))⟩
def s4 (s : St) : Option St := (runN q2 (sB s)).bind (runN q3)
def s8 (s : St) : Option St := ((runN r0 s).bind (runN r1)).bind fun s => (runN r2 s).bind (execL C0 rw12)
def txt : List UInt8 := [108, 101, 116, 32, 102, 32, 58, 32, 97, 32, 45, 62, 32, 97, 32, 61, 32, 92, 120, 46, 32, 120, 59, 10]
def rowsT : List (List W) := txt.map fun x => [W.c (Cell.int .u8 x.toNat)]
def s9 : St := ⟨[(3, .sc (.el 192 1 0 0)), (21, .sc (.c (.int .i64 1))), (22, .sc (.c (.int .i64 0)))], [(192, some (bldO [.el 192 1 0 0, .arr 193 24])), (193, some (.arr 1 rowsT 0))]⟩
set_option maxRecDepth 100000
theorem seg0 : (runN q0 s0).map (fun s => (look s.objs 192).isNone) = some true := by kernel_rfl
theorem seg4 : ((runN q0 s0).bind s4).map (fun s => get? s.env 22) = some (some (.sc (.c (.int .i64 0)))) := by kernel_rfl
theorem seg8 : (((runN q0 s0).bind s4).bind s8).map (fun s => (get? s.env 3, get? s.env 27, get? s.env 21, get? s.env 22, look s.objs 192)) =
    some (some (.sc (.el 192 1 0 0)), some (.sc (.c (.str txt))), some (.sc (.c (.int .i64 1))), some (.sc (.c (.int .i64 0))), some (bldO [.c .nilptr, .nil])) := by kernel_rfl
def s10 : Option (St × St) := (runN r3 s9).bind fun s => (runN r0 s).bind fun s' => match run C0 300 r1 s' with | some (.exit 2, t) => some (s, t) | _ => none
theorem seg10 : s10.map (fun p => (get? p.1.env 22, get? p.2.env 3, look p.2.objs 192, look p.2.objs 193)) =
    some (some (.sc (.c (.int .i64 1))), some (.sc (.el 192 1 0 0)), some (bldO [.el 192 1 0 0, .arr 193 24]), some (.arr 1 rowsT 0)) := by kernel_rfl
def s11 : St := ⟨[(30, .sc (.c (.str txt)))], []⟩
theorem seg11 : (execL C0 rmv s11).bind (finish false 0 [.tmp 2]) = some (e87_0.rv, []) := by kernel_rfl

theorem some_of {α γ : Type} {o : Option α} {f : α → γ} {y : γ} (h : o.map f = some y) : ∃ x, o = some x ∧ f x = y := by
  cases o with
  | none => cases h
  | some x => exact ⟨x, rfl, by simpa using h⟩

variable {w0 w : World} {ω0 ω : Nat → Nat} {S : Fr} {E : Nat → Option V} {L : Nat → Option Obj} {a : Act} {β : Nat → Option Nat}

theorem elV_ptr (r : Rel gl0 31 w0 ω0 S E L a w ω β) {t b : Nat} {cells : List W} (ht : E t = some (.sc (.el 192 1 0 0))) (hk : L 192 = some (bldO cells)) (hb : β 192 = some b) : a.tmps.getD t undef = .pointer (some ⟨b, 0, none⟩) := by
  have h := (r.env t _ ht).2
  simp only [RV, RV1, RW] at h
  obtain ⟨s, rows, p, h1, _, _, h4⟩ := h
  rw [hk] at h1
  cases h1
  obtain ⟨b', h5, h6⟩ := h4 rfl (by decide)
  rw [hb] at h5
  cases h5
  simpa using h6

/-- The builder's block. -/
theorem bld_block (r : Rel gl0 31 w0 ω0 S E L a w ω β) {b : Nat} {c1 c2 : W} (hk : L 192 = some (bldO [c1, c2])) (hb : β 192 = some b) {cur : Array Value} {t : TypeId} (hh : w.heap[b]? = some (.cells cur t (0, 0))) (hs : cur.size = 2) :
    ∃ v1 v2, w.heap[b]? = some (.cells #[v1, v2] t (0, 0)) ∧ RW w ω β L c1 v1 ∧ RW w ω β L c2 v2 := by
  obtain ⟨_, _, _, h4⟩ := r.obj 192 _ hk
  rcases h4 with ⟨b', cap, cur', t', k1, k2, k3, k4, k5, k6, k7⟩ | ⟨k1, _⟩
  · rw [hb] at k1
    cases k1
    rw [hh] at k2
    cases k2
    obtain ⟨l⟩ := cur
    match l, hs with
    | [v1, v2], _ =>
      have k6' : RWlist w ω β L [c1, c2] [v1, v2] := k6
      exact ⟨v1, v2, hh, k6'.1, k6'.2.1⟩
  · rw [hb] at k1
    cases k1


/-- What is owed at the end. -/
def Owed (w : World) (ω : Nat → Nat) (β : Nat → Option Nat) (e : Ending) (w' : World) : Prop := ∃ vv ω' β', e = .returned vv ∧ RV w' ω' β' (Lof []) e87_0.rv vv ∧
      (∀ k o, Lof [] k = some o → ObjOk w' ω' β' (Lof []) k o) ∧
      (∀ j k b, Lof [] j ≠ none → Lof [] k ≠ none → β' j = some b → β' k = some b → j = k) ∧
      Keeps w ω (fun b => ∃ k, Lof [] k ≠ none ∧ β k = some b) w' ω' ∧
      (∀ k b, Lof [] k ≠ none → β' k = some b → (∃ j, Lof [] j ≠ none ∧ β j = some b) ∨ w.heap.size ≤ b) ∧
      (∀ k, Tr w β w' β' (Lof []) (Lof []) k)

/-- Nothing is kept of the objects. -/
theorem runH {S : Fr} {w0 : World} {vc : VCode} (hk : ∀ k, ¬ S.kept k) (hB : noB vc = true) : RunH S w0 vc := .inl ⟨hB, fun k h => absurd h (hk k)⟩
theorem runHd {w0 w : World} {β : Nat → Option Nat} {L : Nat → Option Obj} {fd : Option (List Deferred)} {ks : List Nat} {vc : VCode} (hB : noB vc = true) (hd : dropsOf vc = []) : RunH (dfrFr 0 fd w β L ks) w0 vc := .inl ⟨hB, fun k _ h => by rw [hd] at h; cases h⟩


set_option maxHeartbeats 4000000 in
theorem tail87 {fn : Func} (hnt : fn.ntmps = 31) (hres : mRes prog fn.results.toList [.tmp 2] = true) {id : Nat} {oS : Array Oper} (hS : mStr oS oS.toList = true) {w : World} {ω : Nat → Nat} {β : Nat → Option Nat} {a : Act} {w5 : World} {b : Nat} {p : Value}
    (ha : a.tmps.size = 31) (hd : a.defers = []) (hk : Keeps w ω (fun b => ∃ k, Lof [] k ≠ none ∧ β k = some b) w5 (pubB w.heap.size ω)) (h3 : a.tmps.getD 3 undef = .pointer (some ⟨b, 0, none⟩)) (hb : Lib.BuilderAt 270 5 w.heap.size b p (Lib.byteCells txt) w5) :
    (Code.seq (.region id oS false) .ret).wp prog (bodyPostM Fence.wide 0 prog fn (Owed w ω β)) a w5 := by
  refine Go.wp_seq (wp_region_list ?_)
  generalize hos : oS.toList = os at hS
  match os, hS with
  | [o1, o2], hS =>
    simp only [mStr, Bool.and_eq_true, beq_iff_eq, Option.isNone_iff_eq_none] at hS
    obtain ⟨⟨⟨hmv, hd1⟩, hg1⟩, hop⟩ := hS
    split at hop
    · rename_i g x ts ho
      simp only [Bool.and_eq_true] at hop
      have rE : Rel gl0 31 w ω ((callFr [] w β).withFd (some [])) (fun t => bif t == 3 then some (.sc .un) else none) (fun _ => none) a w5 (pubB w.heap.size ω) β :=
        ⟨ha, hd, fun t v ht => by
          cases h : (t == 3) with
          | false => rw [h] at ht; cases ht
          | true =>
            rw [h] at ht
            cases ht
            have := eq_of_beq h
            subst this
            exact ⟨by decide, by simp [RV, RV1, RW]⟩, fun k o hk => (nomatch hk), fun j k b hj => absurd rfl hj, hk, fun k b hk => absurd rfl hk, fun _ => by simp [gl0, RDcells], fun k hk => absurd hk (Nat.not_lt_zero k)⟩
      have hgv := mOpd_ok (C := C0) rE hop.1
      obtain ⟨cs, hfv, hcs⟩ : ∃ cs : Array Value, a.eval g = .func (.func 175) #[] cs ∧ RDcaps w5 (pubB w.heap.size ω) [] [] cs.toList := by simpa only [Opd.val, RV, RV1, RW, RD] using hgv
      have hcs0 : cs = #[] := by
        obtain ⟨l⟩ := cs
        match l, hcs with
        | [], _ => rfl
        | _ :: _, h => simp [RDcaps] at h
      subst hcs0
      have hx : a.eval x = .pointer (some ⟨b, 0, none⟩) := by
        have hx3 : x = .tmp 3 := by
          cases x <;> simp [mOpd] at hop
          rw [hop.2]
        rw [hx3]
        exact h3
      have hc175 := call175
      split at hc175
      · rename_i f5 hf5
        simp only [Bool.and_eq_true, Bool.not_eq_true'] at hc175
        obtain ⟨bd, hbd⟩ := Option.isSome_iff_exists.1 hc175.1
        have hn5 : f5.name ≠ "runtime.NumGoroutine" := by
          have := hc175.2
          grind
        have run : (execOp a.eval o1).run prog w5 = .ok (.enter 175 #[.pointer (some ⟨b, 0, none⟩)]) w5 := by
          simp [execOp, ho, resolve, hfv, hx, Deferred.ofValue, invoke, callFunc, hf5, hn5, hbd]
        refine wpList_enter hg1 run ((string175 w.heap.size b p txt w5 hb (by decide)).mono ?_)
        rintro e w6 ⟨rfl, hbel⟩
        refine ⟨_, rfl, ?_⟩
        rw [hd1]
        have hk6 : Keeps w ω (fun b => ∃ k, Lof [] k ≠ none ∧ β k = some b) w6 (pubB w.heap.size ω) :=
          keepsB (Nat.le_trans hk.size hbel.size) (fun c hc => (hbel.block c hc).trans (hk.same c hc (fun ⟨k, h, _⟩ => h rfl)).1) (hbel.os.trans hk.os) (hbel.tape.trans hk.tape) (hbel.output.trans hk.output)
        have r6 : Rel gl0 31 w ω ((callFr [] w β).withFd (some [])) (get? s11.env) (look s11.objs) (a.put (some 30) (.string ⟨txt.toArray⟩)) w6 (pubB w.heap.size ω) β := by
          refine ⟨by simp [Act.put, ha], hd, fun t v ht => ?_, fun k o hk => (nomatch hk), fun j k b hj => absurd rfl hj, hk6, fun k b hk => absurd rfl hk, fun _ => by simp [gl0, RDcells], fun k hk => absurd hk (Nat.not_lt_zero k)⟩
          have ht' : t = 30 ∧ v = .sc (.c (.str txt)) := by
            simp only [s11, get?] at ht
            cases h : (30 == t) with
            | false => rw [h] at ht; cases ht
            | true => rw [h] at ht; cases ht; exact ⟨(eq_of_beq h).symm, rfl⟩
          obtain ⟨rfl, rfl⟩ := ht'
          refine ⟨by decide, ?_⟩
          have : (a.put (some 30) (.string ⟨txt.toArray⟩)).tmps.getD 30 undef = .string ⟨txt.toArray⟩ := by simp [Act.put, ha]
          rw [this]
          simp only [RV, RV1, RW, RD]
          exact ⟨_, rfl, by simp⟩
        obtain ⟨s12, e1, e2⟩ := Option.bind_eq_some_iff.1 seg11
        obtain ⟨rs, e3⟩ := execL_execR e1
        obtain ⟨e4, e5⟩ := execR_runs e3
        have := list_okK (C := C0) (Q := Exit.then (Code.ret.wp prog (bodyPostM Fence.wide 0 prog fn (Owed w ω β))) (bodyPostM Fence.wide 0 prog fn (Owed w ω β))) (rest := []) okE r6 hmv e4 e5 fun a7 w7 ω7 β7 r7 => ?_
        · simpa using this
        · refine Go.wp_ret ?_
          have hd7 : a7.defers = [] := r7.defers
          show LeavesInM Fence.wide 0 prog fn a7.tmps (Owed w ω β) a7.defers .returning w7
          rw [hd7]
          have r8 : Rel gl0 31 w ω (callFr [] w β) (get? s12.env) (look s12.objs) { tmps := a7.tmps, defers := [] } w7 ω7 β7 := ⟨r7.size, trivial, r7.env, r7.obj, r7.inj, r7.keeps, r7.mine, r7.gl, r7.inv⟩
          obtain ⟨v, ω9, β9, q1, q2⟩ := finish_ok (P := prog) (C := C0) (vf := ⟨1, .skip, [.tmp 2], false⟩) r8 (by simp) hres e2
          exact ⟨v, q1, v, ω9, β9, rfl, q2⟩
      · cases hc175
    · cases hop
end
end Tryz
end Go.Vs
