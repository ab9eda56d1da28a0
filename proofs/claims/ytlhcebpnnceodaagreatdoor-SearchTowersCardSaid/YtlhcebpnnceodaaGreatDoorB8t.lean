/- The tables once more, by number: cheap to look up. -/
import Derived.Test.YtlhcebpnnceodaaGreatDoorB4t
import Derived.Test.YtlhcebpnnceodaaGreatDoorQat
set_option linter.unusedSimpArgs false
set_option linter.unusedVariables false
set_option linter.deprecated false

/- The tables once more, by number: cheap to look up. -/
namespace Go.Vs.Tryz
open Go Go.Vs Go.Proofs.Tryz
set_option maxRecDepth 100000
noncomputable section
def getT (l : TL) (k : Nat) : Option VFun := @List.rec (Nat × VFun) (fun _ => Option VFun) none (fun p _ ih => @Bool.rec (fun _ => Option VFun) ih (some p.2) (Nat.beq p.1 k)) l
theorem getT_eq (l : TL) (k : Nat) : getT l k = get? l k := by
  induction l with
  | nil => rfl
  | cons p r ih =>
    obtain ⟨j, v⟩ := p
    show @Bool.rec (fun _ => Option VFun) (getT r k) (some v) (Nat.beq j k) = bif j == k then some v else get? r k
    rw [beqN, ih]
    cases (j == k) <;> rfl
theorem okT {l : TL} (h : l.all mP = true) (f : Nat) (v : VFun) (e : getT l f = some v) : mFun prog f v = true := by
  rw [getT_eq] at e
  exact all_get h f v e
def OkT (t : FuncId → Option VFun) : Prop := ∀ f v, t f = some v → mFun prog f v = true
def sp (n : Nat) (a b : FuncId → Option VFun) (f : FuncId) : Option VFun := @Bool.rec (fun _ => Option VFun) (b f) (a f) (Nat.ble f n)
theorem sp_ok {n : Nat} {a b : FuncId → Option VFun} (ha : OkT a) (hb : OkT b) : OkT (sp n a b) := by
  intro f v e
  unfold sp at e
  cases h : Nat.ble f n with
  | true => rw [h] at e; exact ha f v e
  | false => rw [h] at e; exact hb f v e
def h0 : TL := [(3,v3),(4,v4),(5,v5),(6,v6),(7,v7),(8,v8),(9,v9),(10,v10)]
theorem hk0 : h0.all mP = true := by kernel_rfl
def h1 : TL := [(11,v11),(12,v12),(13,v13),(14,v14),(15,v15),(16,v16),(17,v17),(18,v18)]
theorem hk1 : h1.all mP = true := by kernel_rfl
def h2 : TL := [(19,v19),(20,v20),(21,v21),(23,v23),(24,v24),(25,v25),(26,v26),(27,v27)]
theorem hk2 : h2.all mP = true := by kernel_rfl
def h3 : TL := [(28,v28),(29,v29),(30,v30),(31,v31),(32,v32),(33,v33),(34,v34),(35,v35)]
theorem hk3 : h3.all mP = true := by kernel_rfl
def h4 : TL := [(36,v36),(37,v37),(38,v38),(39,v39),(40,v40),(41,v41),(42,v42),(43,v43)]
theorem hk4 : h4.all mP = true := by kernel_rfl
def h5 : TL := [(44,v44),(45,v45),(46,v46),(48,v48),(49,v49),(50,v50),(51,v51),(52,v52)]
theorem hk5 : h5.all mP = true := by kernel_rfl
def h6 : TL := [(53,v53),(54,v54),(55,v55),(56,v56),(57,v57),(60,v60),(61,v61),(62,v62)]
theorem hk6 : h6.all mP = true := by kernel_rfl
def h7 : TL := [(63,v63),(64,v64),(65,v65),(66,v66),(67,v67),(71,v71),(72,v72),(73,v73)]
theorem hk7 : h7.all mP = true := by kernel_rfl
def h8 : TL := [(74,v74),(75,v75),(76,v76),(77,v77),(78,v78),(79,v79),(80,v80),(81,v81)]
theorem hk8 : h8.all mP = true := by kernel_rfl
def h9 : TL := [(82,v82),(84,v84),(87,v87),(89,v89),(90,v90),(94,v94),(95,v95),(96,v96)]
theorem hk9 : h9.all mP = true := by kernel_rfl
def h10 : TL := [(97,v97),(98,v98),(99,v99),(100,v100),(101,v101),(102,v102),(103,v103),(104,v104)]
theorem hk10 : h10.all mP = true := by kernel_rfl
def h11 : TL := [(110,v110),(111,v111),(112,v112),(113,v113),(114,v114),(115,v115),(116,v116),(117,v117)]
theorem hk11 : h11.all mP = true := by kernel_rfl
def h12 : TL := [(118,v118),(120,v120),(126,v126),(129,v129),(130,v130),(131,v131),(134,v134),(135,v135)]
theorem hk12 : h12.all mP = true := by kernel_rfl
def h13 : TL := [(136,v136),(143,v143),(145,v145),(147,v147),(148,v148),(155,v155),(156,v156),(157,v157)]
theorem hk13 : h13.all mP = true := by kernel_rfl
def h14 : TL := [(158,v158),(181,v181)]
theorem hk14 : h14.all mP = true := by kernel_rfl
def Tf : FuncId → Option VFun := (sp 62 (sp 27 (sp 10 (getT h0) (sp 18 (getT h1) (getT h2))) (sp 43 (sp 35 (getT h3) (getT h4)) (sp 52 (getT h5) (getT h6)))) (sp 104 (sp 81 (sp 73 (getT h7) (getT h8)) (sp 96 (getT h9) (getT h10))) (sp 135 (sp 117 (getT h11) (getT h12)) (sp 157 (getT h13) (getT h14)))))
theorem Tf_ok : OkT Tf := (sp_ok (sp_ok (sp_ok (okT hk0) (sp_ok (okT hk1) (okT hk2))) (sp_ok (sp_ok (okT hk3) (okT hk4)) (sp_ok (okT hk5) (okT hk6)))) (sp_ok (sp_ok (sp_ok (okT hk7) (okT hk8)) (sp_ok (okT hk9) (okT hk10))) (sp_ok (sp_ok (okT hk11) (okT hk12)) (sp_ok (okT hk13) (okT hk14)))))
abbrev evk (l : List KE) (n : Nat) (f : FuncId) (args : List V) (objs : List Obj) : Option (V × List Obj) := evalK (findO l) Tf X gl0 n f args objs
def KOk (e : KE) : Prop := FnOk prog gl0 e.f e.args e.objs e.rv e.os
/-- What the evaluator says, the program does. -/
theorem evk_ok {l : List KE} (hl : ∀ e ∈ l, KOk e) {n : Nat} {f : FuncId} {args : List V} {objs : List Obj} {rv : V} {objs' : List Obj} (h : evk l n f args objs = some (rv, objs')) : FnOk prog gl0 f args objs rv objs' :=
  evalK_ok follows Tf_ok X_ok (findO_ok (Q := FnOk prog gl0) hl) n h
end
end Go.Vs.Tryz

/- SearchTowers: the arguments and the answers of the search. -/
namespace Go.Vs.Tryz
open Go Go.Vs
def natRow : List Cell := [.int .i64 119, .str [78, 97, 116], .sl [], .sl [[.int .i64 130, .str [90, 101, 114, 111], .sl []], [.int .i64 137, .str [83, 117, 99, 99], .sl [[.int .i64 4, .str [78, 97, 116], .int .i64 0, .int .i64 0, .sl []]]]]]
def twA (k : Int) : List V := [.sc (.c (.sl [natRow])), .sc (.c (.sl [])), .ag [.c (.int .i64 4), .c (.str [78, 97, 116]), .c (.int .i64 0), .c (.int .i64 0), .c (.sl [])], .sc (.c (.int .i64 k)), .sc (.c (.int .i64 10))]
def zeroE : List Cell := [.int .i64 2, .int .i64 0, .str [90, 101, 114, 111], .int .i64 0, .sl [], .sl [], .int .i64 0, .str [], .int .i64 0, .int .i64 0, .sl []]
def succE : List Cell := [.int .i64 2, .int .i64 0, .str [83, 117, 99, 99], .int .i64 0, .sl [], .sl [], .int .i64 0, .str [], .int .i64 0, .int .i64 0, .sl []]
def towE : Nat → List Cell
  | 0 => zeroE
  | n + 1 => [.int .i64 5, .int .i64 0, .str [], .int .i64 0, .sl [succE, towE n], .sl [], .int .i64 0, .str [], .int .i64 0, .int .i64 0, .sl []]
def twR (n : Nat) : V × List Obj := (.tu [.sc (.c (.sl [towE n])), .sc (.c (.bool false))], [])
end Go.Vs.Tryz

/- SearchTowers: calls of the search whose answers are known. -/
namespace Go.Vs.Tryz
open Go Go.Vs
set_option maxRecDepth 100000
noncomputable section
def x0:V:=(.sc (.ptr 15 0))
def x1:W:=(.c (.int .i64 4))
def x2:Cell:=(.str [78,97,116])
def x3:W:=(.c (.int .i64 0))
def x4:List W:=[(.c (.sl [])),x1,(.c x2),x3,x3,(.c (.sl []))]
def x5:W:=(.c (.int .i64 2))
def x6:W:=(.clo 100 [true,true,true,true,true,true,true] [[(.ptr 11 0)],[(.ptr 10 0)],[(.ptr 9 0)],[(.ptr 8 0)],[(.ptr 7 0)],[(.ptr 6 0)],[(.ptr 5 0)]])
def x7:W:=(.c (.bool false))
def x8:W:=(.c (.int .i64 10))
def x9:Obj:=(.box [(.arr 2 0)])
def x10:Obj:=(.box [(.ptr 15 0)])
def x11:Obj:=(.box [(.clo 19 [true,true,true,true] [[(.ptr 4 0)],[(.ptr 3 0)],[(.ptr 1 0)],[(.ptr 0 0)]])])
def x12:List Cell:=[(.int .i64 4),x2,(.int .i64 0),(.int .i64 0),(.sl [])]
def x13:Obj:=(.box [(.c (.sl [x12]))])
def x14:Cell:=(.str [83,117,99,99])
def x15:Obj:=(.box [x5,x3,(.c x14),x3,(.c (.sl [])),(.c (.sl [])),x3,(.c (.str [])),x3,x3,(.c (.sl []))])
def x16:List W:=[x1,(.c (.str [45,62])),x3,x3,(.c (.sl [x12,x12]))]
def x17:Obj:=(.arr 5 [x16] 0)
def x18:W:=(.c (.bool true))
def x19:List W:=[x3,x7,x3,(.c (.str [])),x3,x3,.nil,x3,x7,x18]
def x20:W:=(.c (.int .i64 1000000))
def x21:List W:=[x3,x7,x3,(.c (.str [])),x3,x3,.nil,x20,x18,x7]
def x22:W:=(.c (.int .i64 1))
def x23:List W:=[x22,x7,x3,(.c (.str [])),x3,x3,.nil,x3,x7,x18]
def x24:List W:=[x22,x7,x3,(.c (.str [])),x3,x3,.nil,x20,x18,x7]
def x25:List W:=[x5,x7,x3,(.c (.str [])),x3,x3,.nil,x3,x7,x18]
def x26:List W:=[x5,x7,x3,(.c (.str [])),x3,x3,.nil,x20,x18,x7]
def x27:Obj:=(.arr 10 [x19,x21,x23,x24,x25,x26] 0)
def x28:List W:=[x18,x1,(.c x2),x3,x3,(.c (.sl [])),x20,x18]
def x29:Obj:=(.arr 8 [x28,x28,x28] 0)
def x30:W:=(.c (.sl [[(.int .i64 119),x2,(.sl []),(.sl [[(.int .i64 130),(.str [90,101,114,111]),(.sl [])],[(.int .i64 137),x14,(.sl [x12])]])]]))
def x31:Obj:=(.box [x30,(.vw 14 3 0 3),(.vw 13 6 0 6),(.vw 12 1 0 1),(.c (.sl []))])
def x32:W:=(.c (.int .i64 5))
def x33:List Cell:=[(.int .i64 2),(.int .i64 0),x14,(.int .i64 0),(.sl []),(.sl []),(.int .i64 0),(.str []),(.int .i64 0),(.int .i64 0),(.sl [])]
def x34:Cell:=(.sl [x33,[(.int .i64 5),(.int .i64 0),(.str []),(.int .i64 0),(.sl [x33,[(.int .i64 2),(.int .i64 0),(.str [90,101,114,111]),(.int .i64 0),(.sl []),(.sl []),(.int .i64 0),(.str []),(.int .i64 0),(.int .i64 0),(.sl [])]]),(.sl []),(.int .i64 0),(.str []),(.int .i64 0),(.int .i64 0),(.sl [])]])
def x35:Obj:=(.box [(.arr 2 1)])
def x36:Obj:=(.arr 5 [x16,x16,x16] 0)
def x37:W:=(.c (.int .i64 3))
def x38:List W:=[x37,x7,x3,(.c (.str [])),x3,x3,.nil,x3,x7,x18]
def x39:List W:=[x37,x7,x3,(.c (.str [])),x3,x3,.nil,x20,x18,x7]
def x40:List W:=[x1,x7,x3,(.c (.str [])),x3,x3,.nil,x3,x7,x18]
def x41:List W:=[x1,x7,x3,(.c (.str [])),x3,x3,.nil,x20,x18,x7]
def x42:List W:=[x32,x7,x3,(.c (.str [])),x3,x3,.nil,x3,x7,x18]
def x43:List W:=[x32,x7,x3,(.c (.str [])),x3,x3,.nil,x20,x18,x7]
def x44:W:=(.c (.int .i64 6))
def x45:List W:=[x44,x7,x3,(.c (.str [])),x3,x3,.nil,x3,x7,x18]
def x46:List W:=[x44,x7,x3,(.c (.str [])),x3,x3,.nil,x20,x18,x7]
def x47:W:=(.c (.int .i64 7))
def x48:List W:=[x47,x7,x3,(.c (.str [])),x3,x3,.nil,x3,x7,x18]
def x49:List W:=[x47,x7,x3,(.c (.str [])),x3,x3,.nil,x20,x18,x7]
def x50:List W:=[(.c (.int .i64 8)),x7,x3,(.c (.str [])),x3,x3,.nil,x3,x7,x18]
def x51:List W:=[(.c (.int .i64 8)),x7,x3,(.c (.str [])),x3,x3,.nil,x20,x18,x7]
def x52:Obj:=(.arr 10 [x19,x21,x23,x24,x25,x26,x38,x39,x40,x41,x42,x43,x45,x46,x48,x49,x50,x51] 0)
def x53:List W:=[x7,x3,(.c (.str [])),x3,x3,.nil,x20,x18]
def x54:V:=(.sc (.ptr 22 0))
def x55:W:=(.clo 100 [true,true,true,true,true,true,true] [[(.ptr 18 0)],[(.ptr 17 0)],[(.ptr 16 0)],[(.ptr 15 0)],[(.ptr 14 0)],[(.ptr 13 0)],[(.ptr 12 0)]])
def x56:Obj:=(.box [(.ptr 22 0)])
def x57:Obj:=(.arr 5 [x16,x16] 0)
def x58:Obj:=(.arr 10 [x19,x21,x23,x24,x25,x26,x38,x39,x40,x41,x42,x43] 0)
def x59:Obj:=(.arr 8 [x28,x28,x28,x28,x28,x28] 0)
def x60:Obj:=(.box [x30,(.vw 21 6 0 6),(.vw 20 12 0 12),(.vw 19 2 0 2),(.c (.sl []))])
def x61:Cell:=(.sl [x33,[(.int .i64 5),(.int .i64 0),(.str []),(.int .i64 0),x34,(.sl []),(.int .i64 0),(.str []),(.int .i64 0),(.int .i64 0),(.sl [])]])
def x62:Obj:=(.arr 11 [[x32,x3,(.c (.str [])),x3,(.c x61),(.c (.sl [])),x3,(.c (.str [])),x3,x3,(.c (.sl []))]] 0)
def x63:Obj:=(.arr 5 [x16,x16,x16,x16] 0)
def x64:List W:=[(.c (.int .i64 9)),x7,x3,(.c (.str [])),x3,x3,.nil,x3,x7,x18]
def x65:List W:=[(.c (.int .i64 9)),x7,x3,(.c (.str [])),x3,x3,.nil,x20,x18,x7]
def x66:List W:=[x8,x7,x3,(.c (.str [])),x3,x3,.nil,x3,x7,x18]
def x67:List W:=[x8,x7,x3,(.c (.str [])),x3,x3,.nil,x20,x18,x7]
def x68:List W:=[(.c (.int .i64 11)),x7,x3,(.c (.str [])),x3,x3,.nil,x3,x7,x18]
def x69:List W:=[(.c (.int .i64 11)),x7,x3,(.c (.str [])),x3,x3,.nil,x20,x18,x7]
def x70:Obj:=(.arr 10 [x19,x21,x23,x24,x25,x26,x38,x39,x40,x41,x42,x43,x45,x46,x48,x49,x50,x51,x64,x65,x66,x67,x68,x69] 0)
def x71:V:=(.sc (.ptr 29 0))
def x72:W:=(.clo 100 [true,true,true,true,true,true,true] [[(.ptr 25 0)],[(.ptr 24 0)],[(.ptr 23 0)],[(.ptr 22 0)],[(.ptr 21 0)],[(.ptr 20 0)],[(.ptr 19 0)]])
def x73:Obj:=(.box [(.ptr 29 0)])
def x74:Obj:=(.arr 8 [x28,x28,x28,x28,x28,x28,x28,x28,x28] 0)
def x75:Obj:=(.box [x30,(.vw 28 9 0 9),(.vw 27 18 0 18),(.vw 26 3 0 3),(.c (.sl []))])
def x76:Cell:=(.sl [x33,[(.int .i64 5),(.int .i64 0),(.str []),(.int .i64 0),x61,(.sl []),(.int .i64 0),(.str []),(.int .i64 0),(.int .i64 0),(.sl [])]])
def x77:Obj:=(.arr 11 [[x32,x3,(.c (.str [])),x3,(.c x76),(.c (.sl [])),x3,(.c (.str [])),x3,x3,(.c (.sl []))]] 0)
def x78:Obj:=(.arr 5 [x16,x16,x16,x16,x16] 0)
def x79:List W:=[(.c (.int .i64 12)),x7,x3,(.c (.str [])),x3,x3,.nil,x3,x7,x18]
def x80:List W:=[(.c (.int .i64 12)),x7,x3,(.c (.str [])),x3,x3,.nil,x20,x18,x7]
def x81:List W:=[(.c (.int .i64 13)),x7,x3,(.c (.str [])),x3,x3,.nil,x3,x7,x18]
def x82:List W:=[(.c (.int .i64 13)),x7,x3,(.c (.str [])),x3,x3,.nil,x20,x18,x7]
def x83:List W:=[(.c (.int .i64 14)),x7,x3,(.c (.str [])),x3,x3,.nil,x3,x7,x18]
def x84:List W:=[(.c (.int .i64 14)),x7,x3,(.c (.str [])),x3,x3,.nil,x20,x18,x7]
def x85:Obj:=(.arr 10 [x19,x21,x23,x24,x25,x26,x38,x39,x40,x41,x42,x43,x45,x46,x48,x49,x50,x51,x64,x65,x66,x67,x68,x69,x79,x80,x81,x82,x83,x84] 0)
def x86:V:=(.sc (.ptr 36 0))
def x87:W:=(.clo 100 [true,true,true,true,true,true,true] [[(.ptr 32 0)],[(.ptr 31 0)],[(.ptr 30 0)],[(.ptr 29 0)],[(.ptr 28 0)],[(.ptr 27 0)],[(.ptr 26 0)]])
def x88:Obj:=(.box [(.ptr 36 0)])
def x89:Obj:=(.arr 8 [x28,x28,x28,x28,x28,x28,x28,x28,x28,x28,x28,x28] 0)
def x90:Obj:=(.box [x30,(.vw 35 12 0 12),(.vw 34 24 0 24),(.vw 33 4 0 4),(.c (.sl []))])
def x91:Cell:=(.sl [x33,[(.int .i64 5),(.int .i64 0),(.str []),(.int .i64 0),x76,(.sl []),(.int .i64 0),(.str []),(.int .i64 0),(.int .i64 0),(.sl [])]])
def x92:Obj:=(.arr 11 [[x32,x3,(.c (.str [])),x3,(.c x91),(.c (.sl [])),x3,(.c (.str [])),x3,x3,(.c (.sl []))]] 0)
def x93:Obj:=(.arr 5 [x16,x16,x16,x16,x16,x16] 0)
def x94:List W:=[(.c (.int .i64 15)),x7,x3,(.c (.str [])),x3,x3,.nil,x3,x7,x18]
def x95:List W:=[(.c (.int .i64 15)),x7,x3,(.c (.str [])),x3,x3,.nil,x20,x18,x7]
def x96:List W:=[(.c (.int .i64 16)),x7,x3,(.c (.str [])),x3,x3,.nil,x3,x7,x18]
def x97:List W:=[(.c (.int .i64 16)),x7,x3,(.c (.str [])),x3,x3,.nil,x20,x18,x7]
def x98:List W:=[(.c (.int .i64 17)),x7,x3,(.c (.str [])),x3,x3,.nil,x3,x7,x18]
def x99:List W:=[(.c (.int .i64 17)),x7,x3,(.c (.str [])),x3,x3,.nil,x20,x18,x7]
def x100:Obj:=(.arr 10 [x19,x21,x23,x24,x25,x26,x38,x39,x40,x41,x42,x43,x45,x46,x48,x49,x50,x51,x64,x65,x66,x67,x68,x69,x79,x80,x81,x82,x83,x84,x94,x95,x96,x97,x98,x99] 0)
def x101:V:=(.sc (.clo 100 [true,true,true,true,true,true,true] [[(.ptr 39 0)],[(.ptr 38 0)],[(.ptr 37 0)],[(.ptr 36 0)],[(.ptr 35 0)],[(.ptr 34 0)],[(.ptr 33 0)]]))
def x102:Obj:=(.box [(.ptr 43 0)])
def x103:Obj:=(.arr 11 [[x32,x3,(.c (.str [])),x3,(.c (.sl [x33,[(.int .i64 5),(.int .i64 0),(.str []),(.int .i64 0),x91,(.sl []),(.int .i64 0),(.str []),(.int .i64 0),(.int .i64 0),(.sl [])]])),(.c (.sl [])),x3,(.c (.str [])),x3,x3,(.c (.sl []))]] 0)
def x104:Obj:=(.arr 5 [x16,x16,x16,x16,x16,x16,x16] 0)
def x105:Obj:=(.arr 10 [x19,x21,x23,x24,x25,x26,x38,x39,x40,x41,x42,x43,x45,x46,x48,x49,x50,x51,x64,x65,x66,x67,x68,x69,x79,x80,x81,x82,x83,x84,x94,x95,x96,x97,x98,x99,[(.c (.int .i64 18)),x7,x3,(.c (.str [])),x3,x3,.nil,x3,x7,x18],[(.c (.int .i64 18)),x7,x3,(.c (.str [])),x3,x3,.nil,x20,x18,x7],[(.c (.int .i64 19)),x7,x3,(.c (.str [])),x3,x3,.nil,x3,x7,x18],[(.c (.int .i64 19)),x7,x3,(.c (.str [])),x3,x3,.nil,x20,x18,x7],[(.c (.int .i64 20)),x7,x3,(.c (.str [])),x3,x3,.nil,x3,x7,x18],[(.c (.int .i64 20)),x7,x3,(.c (.str [])),x3,x3,.nil,x20,x18,x7]] 0)
def x106:Cell:=(.str [73,110,116])
def x107:List W:=[(.c (.sl [])),x1,(.c x106),x3,x3,(.c (.sl []))]
def x108:Obj:=(.box [(.c (.int .i64 100))])
def x109:List Cell:=[(.int .i64 4),x106,(.int .i64 0),(.int .i64 0),(.sl [])]
def x110:Obj:=(.box [(.c (.sl [x109]))])
def x111:Obj:=(.box [x22,x3,(.c (.str [102])),x3,(.c (.sl [])),(.c (.sl [])),x3,(.c (.str [])),x3,x3,(.c (.sl []))])
def x112:List W:=[x1,(.c (.str [45,62])),x3,x3,(.c (.sl [x109,x109]))]
def x113:List W:=[x18,x1,(.c x106),x3,x3,(.c (.sl [])),x20,x18]
def x114:W:=(.c (.sl [[(.str [102]),(.int .i64 0),(.int .i64 4),(.str [45,62]),(.int .i64 0),(.int .i64 0),(.sl [x109,x109])],[(.str [120]),(.int .i64 0),(.int .i64 4),x106,(.int .i64 0),(.int .i64 0),(.sl [])]]))
def x115:List Cell:=[(.int .i64 1),(.int .i64 0),(.str [102]),(.int .i64 0),(.sl []),(.sl []),(.int .i64 0),(.str []),(.int .i64 0),(.int .i64 0),(.sl [])]
def x116:List Cell:=[(.int .i64 5),(.int .i64 0),(.str []),(.int .i64 0),(.sl [x115,[(.int .i64 1),(.int .i64 0),(.str [120]),(.int .i64 0),(.sl []),(.sl []),(.int .i64 0),(.str []),(.int .i64 0),(.int .i64 0),(.sl [])]]),(.sl []),(.int .i64 0),(.str []),(.int .i64 0),(.int .i64 0),(.sl [])]
def x117:Cell:=(.sl [x115,[(.int .i64 5),(.int .i64 0),(.str []),(.int .i64 0),(.sl [x115,[(.int .i64 5),(.int .i64 0),(.str []),(.int .i64 0),(.sl [x115,[(.int .i64 5),(.int .i64 0),(.str []),(.int .i64 0),(.sl [x115,[(.int .i64 5),(.int .i64 0),(.str []),(.int .i64 0),(.sl [x115,x116]),(.sl []),(.int .i64 0),(.str []),(.int .i64 0),(.int .i64 0),(.sl [])]]),(.sl []),(.int .i64 0),(.str []),(.int .i64 0),(.int .i64 0),(.sl [])]]),(.sl []),(.int .i64 0),(.str []),(.int .i64 0),(.int .i64 0),(.sl [])]]),(.sl []),(.int .i64 0),(.str []),(.int .i64 0),(.int .i64 0),(.sl [])]])
def x118:Obj:=(.arr 11 [[x32,x3,(.c (.str [])),x3,(.c x117),(.c (.sl [])),x3,(.c (.str [])),x3,x3,(.c (.sl []))]] 0)
def x119:List W:=[x1,(.c x106),x3,x3,(.c (.sl []))]
def e3_2:KE:=⟨18,[x0,(.ag x4),(.sc x5),(.sc x6)],[(.box [x7]),(.box [x8]),(.arr 11 [] 0),x9,x10,x11,(.box [x5]),(.box [x5]),x13,(.box x4),x10,x15,x17,x27,x29,x31],(.sc x18),[(.box [x7]),(.box [x8]),(.arr 11 [[x32,x3,(.c (.str [])),x3,(.c x34),(.c (.sl [])),x3,(.c (.str [])),x3,x3,(.c (.sl []))]] 0),x35,x10,x11,(.box [x5]),(.box [x5]),x13,(.box x4),x10,x15,x36,x52,(.arr 8 [x28,x28,x28,x28,x53,x53,x53,x53,x53] 0),(.box [x30,(.vw 14 9 0 4),(.vw 13 18 0 8),(.vw 12 3 0 1),(.c (.sl []))])]⟩
def e4_2:KE:=⟨18,[x54,(.ag x4),(.sc x5),(.sc x55)],[(.box [x7]),(.box [x8]),(.arr 11 [] 0),x9,x56,x11,(.box [x37]),(.box [x37]),x13,(.box x4),x56,x15,(.box [x6]),(.box [x5]),(.box [x5]),x13,(.box x4),x56,x15,x57,x58,x59,x60],(.sc x18),[(.box [x7]),(.box [x8]),x62,x35,x56,x11,(.box [x37]),(.box [x37]),x13,(.box x4),x56,x15,(.box [x6]),(.box [x5]),(.box [x5]),x13,(.box x4),x56,x15,x63,x70,(.arr 8 [x28,x28,x28,x28,x28,x28,x28,x53,x53,x53,x53,x53] 0),(.box [x30,(.vw 21 12 0 7),(.vw 20 24 0 14),(.vw 19 4 0 2),(.c (.sl []))])]⟩
def e4_3:KE:=⟨18,[x0,(.ag x4),(.sc x37),(.sc x6)],[(.box [x7]),(.box [x8]),(.arr 11 [] 0),x9,x10,x11,(.box [x37]),(.box [x37]),x13,(.box x4),x10,x15,x17,x27,x29,x31],(.sc x18),[(.box [x7]),(.box [x8]),x62,x35,x10,x11,(.box [x37]),(.box [x37]),x13,(.box x4),x10,x15,x63,x70,(.arr 8 [x28,x28,x28,x28,x53,x53,x53,x53,x53,x53,x53,x53] 0),(.box [x30,(.vw 14 12 0 4),(.vw 13 24 0 8),(.vw 12 4 0 1),(.c (.sl []))])]⟩
def e5_2:KE:=⟨18,[x71,(.ag x4),(.sc x5),(.sc x72)],[(.box [x7]),(.box [x8]),(.arr 11 [] 0),x9,x73,x11,(.box [x1]),(.box [x1]),x13,(.box x4),x73,x15,(.box [x6]),(.box [x37]),(.box [x37]),x13,(.box x4),x73,x15,(.box [x55]),(.box [x5]),(.box [x5]),x13,(.box x4),x73,x15,x36,x52,x74,x75],(.sc x18),[(.box [x7]),(.box [x8]),x77,x35,x73,x11,(.box [x1]),(.box [x1]),x13,(.box x4),x73,x15,(.box [x6]),(.box [x37]),(.box [x37]),x13,(.box x4),x73,x15,(.box [x55]),(.box [x5]),(.box [x5]),x13,(.box x4),x73,x15,x78,x85,(.arr 8 [x28,x28,x28,x28,x28,x28,x28,x28,x28,x28,x53,x53,x53,x53,x53] 0),(.box [x30,(.vw 28 15 0 10),(.vw 27 30 0 20),(.vw 26 5 0 3),(.c (.sl []))])]⟩
def e5_3:KE:=⟨18,[x54,(.ag x4),(.sc x37),(.sc x55)],[(.box [x7]),(.box [x8]),(.arr 11 [] 0),x9,x56,x11,(.box [x1]),(.box [x1]),x13,(.box x4),x56,x15,(.box [x6]),(.box [x37]),(.box [x37]),x13,(.box x4),x56,x15,x57,x58,x59,x60],(.sc x18),[(.box [x7]),(.box [x8]),x77,x35,x56,x11,(.box [x1]),(.box [x1]),x13,(.box x4),x56,x15,(.box [x6]),(.box [x37]),(.box [x37]),x13,(.box x4),x56,x15,x78,x85,(.arr 8 [x28,x28,x28,x28,x28,x28,x28,x53,x53,x53,x53,x53,x53,x53,x53] 0),(.box [x30,(.vw 21 15 0 7),(.vw 20 30 0 14),(.vw 19 5 0 2),(.c (.sl []))])]⟩
def e5_4:KE:=⟨18,[x0,(.ag x4),(.sc x1),(.sc x6)],[(.box [x7]),(.box [x8]),(.arr 11 [] 0),x9,x10,x11,(.box [x1]),(.box [x1]),x13,(.box x4),x10,x15,x17,x27,x29,x31],(.sc x18),[(.box [x7]),(.box [x8]),x77,x35,x10,x11,(.box [x1]),(.box [x1]),x13,(.box x4),x10,x15,x78,x85,(.arr 8 [x28,x28,x28,x28,x53,x53,x53,x53,x53,x53,x53,x53,x53,x53,x53] 0),(.box [x30,(.vw 14 15 0 4),(.vw 13 30 0 8),(.vw 12 5 0 1),(.c (.sl []))])]⟩
def e6_2:KE:=⟨18,[x86,(.ag x4),(.sc x5),(.sc x87)],[(.box [x7]),(.box [x8]),(.arr 11 [] 0),x9,x88,x11,(.box [x32]),(.box [x32]),x13,(.box x4),x88,x15,(.box [x6]),(.box [x1]),(.box [x1]),x13,(.box x4),x88,x15,(.box [x55]),(.box [x37]),(.box [x37]),x13,(.box x4),x88,x15,(.box [x72]),(.box [x5]),(.box [x5]),x13,(.box x4),x88,x15,x63,x70,x89,x90],(.sc x18),[(.box [x7]),(.box [x8]),x92,x35,x88,x11,(.box [x32]),(.box [x32]),x13,(.box x4),x88,x15,(.box [x6]),(.box [x1]),(.box [x1]),x13,(.box x4),x88,x15,(.box [x55]),(.box [x37]),(.box [x37]),x13,(.box x4),x88,x15,(.box [x72]),(.box [x5]),(.box [x5]),x13,(.box x4),x88,x15,x93,x100,(.arr 8 [x28,x28,x28,x28,x28,x28,x28,x28,x28,x28,x28,x28,x28,x53,x53,x53,x53,x53] 0),(.box [x30,(.vw 35 18 0 13),(.vw 34 36 0 26),(.vw 33 6 0 4),(.c (.sl []))])]⟩
def e6_3:KE:=⟨18,[x71,(.ag x4),(.sc x37),(.sc x72)],[(.box [x7]),(.box [x8]),(.arr 11 [] 0),x9,x73,x11,(.box [x32]),(.box [x32]),x13,(.box x4),x73,x15,(.box [x6]),(.box [x1]),(.box [x1]),x13,(.box x4),x73,x15,(.box [x55]),(.box [x37]),(.box [x37]),x13,(.box x4),x73,x15,x36,x52,x74,x75],(.sc x18),[(.box [x7]),(.box [x8]),x92,x35,x73,x11,(.box [x32]),(.box [x32]),x13,(.box x4),x73,x15,(.box [x6]),(.box [x1]),(.box [x1]),x13,(.box x4),x73,x15,(.box [x55]),(.box [x37]),(.box [x37]),x13,(.box x4),x73,x15,x93,x100,(.arr 8 [x28,x28,x28,x28,x28,x28,x28,x28,x28,x28,x53,x53,x53,x53,x53,x53,x53,x53] 0),(.box [x30,(.vw 28 18 0 10),(.vw 27 36 0 20),(.vw 26 6 0 3),(.c (.sl []))])]⟩
def e6_4:KE:=⟨18,[x54,(.ag x4),(.sc x1),(.sc x55)],[(.box [x7]),(.box [x8]),(.arr 11 [] 0),x9,x56,x11,(.box [x32]),(.box [x32]),x13,(.box x4),x56,x15,(.box [x6]),(.box [x1]),(.box [x1]),x13,(.box x4),x56,x15,x57,x58,x59,x60],(.sc x18),[(.box [x7]),(.box [x8]),x92,x35,x56,x11,(.box [x32]),(.box [x32]),x13,(.box x4),x56,x15,(.box [x6]),(.box [x1]),(.box [x1]),x13,(.box x4),x56,x15,x93,x100,(.arr 8 [x28,x28,x28,x28,x28,x28,x28,x53,x53,x53,x53,x53,x53,x53,x53,x53,x53,x53] 0),(.box [x30,(.vw 21 18 0 7),(.vw 20 36 0 14),(.vw 19 6 0 2),(.c (.sl []))])]⟩
def e6_5:KE:=⟨18,[x0,(.ag x4),(.sc x32),(.sc x6)],[(.box [x7]),(.box [x8]),(.arr 11 [] 0),x9,x10,x11,(.box [x32]),(.box [x32]),x13,(.box x4),x10,x15,x17,x27,x29,x31],(.sc x18),[(.box [x7]),(.box [x8]),x92,x35,x10,x11,(.box [x32]),(.box [x32]),x13,(.box x4),x10,x15,x93,x100,(.arr 8 [x28,x28,x28,x28,x53,x53,x53,x53,x53,x53,x53,x53,x53,x53,x53,x53,x53,x53] 0),(.box [x30,(.vw 14 18 0 4),(.vw 13 36 0 8),(.vw 12 6 0 1),(.c (.sl []))])]⟩
def e7_2:KE:=⟨18,[(.sc (.ptr 43 0)),(.ag x4),(.sc x5),x101],[(.box [x7]),(.box [x8]),(.arr 11 [] 0),x9,x102,x11,(.box [x44]),(.box [x44]),x13,(.box x4),x102,x15,(.box [x6]),(.box [x32]),(.box [x32]),x13,(.box x4),x102,x15,(.box [x55]),(.box [x1]),(.box [x1]),x13,(.box x4),x102,x15,(.box [x72]),(.box [x37]),(.box [x37]),x13,(.box x4),x102,x15,(.box [x87]),(.box [x5]),(.box [x5]),x13,(.box x4),x102,x15,x78,x85,(.arr 8 [x28,x28,x28,x28,x28,x28,x28,x28,x28,x28,x28,x28,x28,x28,x28] 0),(.box [x30,(.vw 42 15 0 15),(.vw 41 30 0 30),(.vw 40 5 0 5),(.c (.sl []))])],(.sc x18),[(.box [x7]),(.box [x8]),x103,x35,x102,x11,(.box [x44]),(.box [x44]),x13,(.box x4),x102,x15,(.box [x6]),(.box [x32]),(.box [x32]),x13,(.box x4),x102,x15,(.box [x55]),(.box [x1]),(.box [x1]),x13,(.box x4),x102,x15,(.box [x72]),(.box [x37]),(.box [x37]),x13,(.box x4),x102,x15,(.box [x87]),(.box [x5]),(.box [x5]),x13,(.box x4),x102,x15,x104,x105,(.arr 8 [x28,x28,x28,x28,x28,x28,x28,x28,x28,x28,x28,x28,x28,x28,x28,x28,x53,x53,x53,x53,x53] 0),(.box [x30,(.vw 42 21 0 16),(.vw 41 42 0 32),(.vw 40 7 0 5),(.c (.sl []))])]⟩
def e7_3:KE:=⟨18,[x86,(.ag x4),(.sc x37),(.sc x87)],[(.box [x7]),(.box [x8]),(.arr 11 [] 0),x9,x88,x11,(.box [x44]),(.box [x44]),x13,(.box x4),x88,x15,(.box [x6]),(.box [x32]),(.box [x32]),x13,(.box x4),x88,x15,(.box [x55]),(.box [x1]),(.box [x1]),x13,(.box x4),x88,x15,(.box [x72]),(.box [x37]),(.box [x37]),x13,(.box x4),x88,x15,x63,x70,x89,x90],(.sc x18),[(.box [x7]),(.box [x8]),x103,x35,x88,x11,(.box [x44]),(.box [x44]),x13,(.box x4),x88,x15,(.box [x6]),(.box [x32]),(.box [x32]),x13,(.box x4),x88,x15,(.box [x55]),(.box [x1]),(.box [x1]),x13,(.box x4),x88,x15,(.box [x72]),(.box [x37]),(.box [x37]),x13,(.box x4),x88,x15,x104,x105,(.arr 8 [x28,x28,x28,x28,x28,x28,x28,x28,x28,x28,x28,x28,x28,x53,x53,x53,x53,x53,x53,x53,x53] 0),(.box [x30,(.vw 35 21 0 13),(.vw 34 42 0 26),(.vw 33 7 0 4),(.c (.sl []))])]⟩
def e7_4:KE:=⟨18,[x71,(.ag x4),(.sc x1),(.sc x72)],[(.box [x7]),(.box [x8]),(.arr 11 [] 0),x9,x73,x11,(.box [x44]),(.box [x44]),x13,(.box x4),x73,x15,(.box [x6]),(.box [x32]),(.box [x32]),x13,(.box x4),x73,x15,(.box [x55]),(.box [x1]),(.box [x1]),x13,(.box x4),x73,x15,x36,x52,x74,x75],(.sc x18),[(.box [x7]),(.box [x8]),x103,x35,x73,x11,(.box [x44]),(.box [x44]),x13,(.box x4),x73,x15,(.box [x6]),(.box [x32]),(.box [x32]),x13,(.box x4),x73,x15,(.box [x55]),(.box [x1]),(.box [x1]),x13,(.box x4),x73,x15,x104,x105,(.arr 8 [x28,x28,x28,x28,x28,x28,x28,x28,x28,x28,x53,x53,x53,x53,x53,x53,x53,x53,x53,x53,x53] 0),(.box [x30,(.vw 28 21 0 10),(.vw 27 42 0 20),(.vw 26 7 0 3),(.c (.sl []))])]⟩
def e7_5:KE:=⟨18,[x54,(.ag x4),(.sc x32),(.sc x55)],[(.box [x7]),(.box [x8]),(.arr 11 [] 0),x9,x56,x11,(.box [x44]),(.box [x44]),x13,(.box x4),x56,x15,(.box [x6]),(.box [x32]),(.box [x32]),x13,(.box x4),x56,x15,x57,x58,x59,x60],(.sc x18),[(.box [x7]),(.box [x8]),x103,x35,x56,x11,(.box [x44]),(.box [x44]),x13,(.box x4),x56,x15,(.box [x6]),(.box [x32]),(.box [x32]),x13,(.box x4),x56,x15,x104,x105,(.arr 8 [x28,x28,x28,x28,x28,x28,x28,x53,x53,x53,x53,x53,x53,x53,x53,x53,x53,x53,x53,x53,x53] 0),(.box [x30,(.vw 21 21 0 7),(.vw 20 42 0 14),(.vw 19 7 0 2),(.c (.sl []))])]⟩
def e7_6:KE:=⟨18,[x0,(.ag x4),(.sc x44),(.sc x6)],[(.box [x7]),(.box [x8]),(.arr 11 [] 0),x9,x10,x11,(.box [x44]),(.box [x44]),x13,(.box x4),x10,x15,x17,x27,x29,x31],(.sc x18),[(.box [x7]),(.box [x8]),x103,x35,x10,x11,(.box [x44]),(.box [x44]),x13,(.box x4),x10,x15,x104,x105,(.arr 8 [x28,x28,x28,x28,x53,x53,x53,x53,x53,x53,x53,x53,x53,x53,x53,x53,x53,x53,x53,x53,x53] 0),(.box [x30,(.vw 14 21 0 4),(.vw 13 42 0 8),(.vw 12 7 0 1),(.c (.sl []))])]⟩
def ef_2:KE:=⟨18,[(.sc (.ptr 43 0)),(.ag x107),(.sc x5),x101],[(.box [x7]),x108,(.arr 11 [] 0),x9,x102,x11,(.box [x44]),(.box [x44]),x110,(.box x107),x102,x111,(.box [x6]),(.box [x32]),(.box [x32]),x110,(.box x107),x102,x111,(.box [x55]),(.box [x1]),(.box [x1]),x110,(.box x107),x102,x111,(.box [x72]),(.box [x37]),(.box [x37]),x110,(.box x107),x102,x111,(.box [x87]),(.box [x5]),(.box [x5]),x110,(.box x107),x102,x111,(.arr 5 [x112,x112,x112,x112,x112] 0),x85,(.arr 8 [x113,x113,x113,x113,x113,x113,x113,x113,x113,x113,x113,x113,x113,x113,x113] 0),(.box [(.c (.sl [])),(.vw 42 15 0 15),(.arr 41 30),(.vw 40 5 0 5),x114])],(.sc x18),[(.box [x7]),x108,x118,x35,x102,x11,(.box [x44]),(.box [x44]),x110,(.box x107),x102,x111,(.box [x6]),(.box [x32]),(.box [x32]),x110,(.box x107),x102,x111,(.box [x55]),(.box [x1]),(.box [x1]),x110,(.box x107),x102,x111,(.box [x72]),(.box [x37]),(.box [x37]),x110,(.box x107),x102,x111,(.box [x87]),(.box [x5]),(.box [x5]),x110,(.box x107),x102,x111,(.arr 5 [x112,x112,x112,x112,x112,x119,x119] 0),x105,(.arr 8 [x113,x113,x113,x113,x113,x113,x113,x113,x113,x113,x113,x113,x113,x113,x113,x113,x53,x53,x53,x53,x53] 0),(.box [(.c (.sl [])),(.vw 42 21 0 16),(.vw 41 42 0 32),(.vw 40 7 0 5),x114])]⟩
def ef_3:KE:=⟨18,[x86,(.ag x107),(.sc x37),(.sc x87)],[(.box [x7]),x108,(.arr 11 [] 0),x9,x88,x11,(.box [x44]),(.box [x44]),x110,(.box x107),x88,x111,(.box [x6]),(.box [x32]),(.box [x32]),x110,(.box x107),x88,x111,(.box [x55]),(.box [x1]),(.box [x1]),x110,(.box x107),x88,x111,(.box [x72]),(.box [x37]),(.box [x37]),x110,(.box x107),x88,x111,(.arr 5 [x112,x112,x112,x112] 0),x70,(.arr 8 [x113,x113,x113,x113,x113,x113,x113,x113,x113,x113,x113,x113] 0),(.box [(.c (.sl [])),(.vw 35 12 0 12),(.arr 34 24),(.vw 33 4 0 4),x114])],(.sc x18),[(.box [x7]),x108,x118,x35,x88,x11,(.box [x44]),(.box [x44]),x110,(.box x107),x88,x111,(.box [x6]),(.box [x32]),(.box [x32]),x110,(.box x107),x88,x111,(.box [x55]),(.box [x1]),(.box [x1]),x110,(.box x107),x88,x111,(.box [x72]),(.box [x37]),(.box [x37]),x110,(.box x107),x88,x111,(.arr 5 [x112,x112,x112,x112,x119,x119,x119] 0),x105,(.arr 8 [x113,x113,x113,x113,x113,x113,x113,x113,x113,x113,x113,x113,x113,x53,x53,x53,x53,x53,x53,x53,x53] 0),(.box [(.c (.sl [])),(.vw 35 21 0 13),(.vw 34 42 0 26),(.vw 33 7 0 4),x114])]⟩
def ef_4:KE:=⟨18,[x71,(.ag x107),(.sc x1),(.sc x72)],[(.box [x7]),x108,(.arr 11 [] 0),x9,x73,x11,(.box [x44]),(.box [x44]),x110,(.box x107),x73,x111,(.box [x6]),(.box [x32]),(.box [x32]),x110,(.box x107),x73,x111,(.box [x55]),(.box [x1]),(.box [x1]),x110,(.box x107),x73,x111,(.arr 5 [x112,x112,x112] 0),x52,(.arr 8 [x113,x113,x113,x113,x113,x113,x113,x113,x113] 0),(.box [(.c (.sl [])),(.vw 28 9 0 9),(.arr 27 18),(.vw 26 3 0 3),x114])],(.sc x18),[(.box [x7]),x108,x118,x35,x73,x11,(.box [x44]),(.box [x44]),x110,(.box x107),x73,x111,(.box [x6]),(.box [x32]),(.box [x32]),x110,(.box x107),x73,x111,(.box [x55]),(.box [x1]),(.box [x1]),x110,(.box x107),x73,x111,(.arr 5 [x112,x112,x112,x119,x119,x119,x119] 0),x105,(.arr 8 [x113,x113,x113,x113,x113,x113,x113,x113,x113,x113,x53,x53,x53,x53,x53,x53,x53,x53,x53,x53,x53] 0),(.box [(.c (.sl [])),(.vw 28 21 0 10),(.vw 27 42 0 20),(.vw 26 7 0 3),x114])]⟩
def ef_5:KE:=⟨18,[x54,(.ag x107),(.sc x32),(.sc x55)],[(.box [x7]),x108,(.arr 11 [] 0),x9,x56,x11,(.box [x44]),(.box [x44]),x110,(.box x107),x56,x111,(.box [x6]),(.box [x32]),(.box [x32]),x110,(.box x107),x56,x111,(.arr 5 [x112,x112] 0),x58,(.arr 8 [x113,x113,x113,x113,x113,x113] 0),(.box [(.c (.sl [])),(.vw 21 6 0 6),(.arr 20 12),(.vw 19 2 0 2),x114])],(.sc x18),[(.box [x7]),x108,x118,x35,x56,x11,(.box [x44]),(.box [x44]),x110,(.box x107),x56,x111,(.box [x6]),(.box [x32]),(.box [x32]),x110,(.box x107),x56,x111,(.arr 5 [x112,x112,x119,x119,x119,x119,x119] 0),x105,(.arr 8 [x113,x113,x113,x113,x113,x113,x113,x53,x53,x53,x53,x53,x53,x53,x53,x53,x53,x53,x53,x53,x53] 0),(.box [(.c (.sl [])),(.vw 21 21 0 7),(.vw 20 42 0 14),(.vw 19 7 0 2),x114])]⟩
def ef_6:KE:=⟨18,[x0,(.ag x107),(.sc x44),(.sc x6)],[(.box [x7]),x108,(.arr 11 [] 0),x9,x10,x11,(.box [x44]),(.box [x44]),x110,(.box x107),x10,x111,(.arr 5 [x112] 0),x27,(.arr 8 [x113,x113,x113] 0),(.box [(.c (.sl [])),(.vw 14 3 0 3),(.arr 13 6),(.vw 12 1 0 1),x114])],(.sc x18),[(.box [x7]),x108,x118,x35,x10,x11,(.box [x44]),(.box [x44]),x110,(.box x107),x10,x111,(.arr 5 [x112,x119,x119,x119,x119,x119,x119] 0),x105,(.arr 8 [x113,x113,x113,x113,x53,x53,x53,x53,x53,x53,x53,x53,x53,x53,x53,x53,x53,x53,x53,x53,x53] 0),(.box [(.c (.sl [])),(.vw 14 21 0 4),(.vw 13 42 0 8),(.vw 12 7 0 1),x114])]⟩
def eg_0:KE:=⟨7,[(.sc (.c (.sl []))),(.sc x114),(.ag x119),(.sc x5),(.sc x32)],[],(.tu [(.sc (.c (.sl [x116]))),(.sc x7)]),[]⟩
def eg_1:KE:=⟨7,[(.sc (.c (.sl []))),(.sc x114),(.ag x119),(.sc x47),(.sc (.c (.int .i64 100)))],[],(.tu [(.sc (.c (.sl [[(.int .i64 5),(.int .i64 0),(.str []),(.int .i64 0),x117,(.sl []),(.int .i64 0),(.str []),(.int .i64 0),(.int .i64 0),(.sl [])]]))),(.sc x7)]),[]⟩
end
end Go.Vs.Tryz
