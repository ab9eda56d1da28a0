/- The tables once more, by number: cheap to look up. -/
import Derived.Test.YtchkkbbchpnabaaGreatDoorB4c
import Derived.Test.YtchkkbbchpnabaaGreatDoorQac
set_option linter.unusedSimpArgs false
set_option linter.unusedVariables false
set_option linter.deprecated false

/- The tables once more, by number: cheap to look up. -/
namespace Go.Vs.Tryz
open Go Go.Vs Go.Proofs.Tryz
set_option maxRecDepth 100000
noncomputable section
def getT (l : TL) (k : Nat) : Option VFun := @List.rec (Nat × VFun) (fun _ => Option VFun) none (fun p _ ih => @Bool.rec (fun _ => Option VFun) ih (some p.2) (Nat.beq p.1 k)) l
theorem getT_eq (l : TL) (k : Nat) : getT l k = get? l k := by
  induction l with
  | nil => rfl
  | cons p r ih =>
    obtain ⟨j, v⟩ := p
    show @Bool.rec (fun _ => Option VFun) (getT r k) (some v) (Nat.beq j k) = bif j == k then some v else get? r k
    rw [beqN, ih]
    cases (j == k) <;> rfl
theorem okT {l : TL} (h : l.all mP = true) (f : Nat) (v : VFun) (e : getT l f = some v) : mFun prog f v = true := by
  rw [getT_eq] at e
  exact all_get h f v e
def OkT (t : FuncId → Option VFun) : Prop := ∀ f v, t f = some v → mFun prog f v = true
def sp (n : Nat) (a b : FuncId → Option VFun) (f : FuncId) : Option VFun := @Bool.rec (fun _ => Option VFun) (b f) (a f) (Nat.ble f n)
theorem sp_ok {n : Nat} {a b : FuncId → Option VFun} (ha : OkT a) (hb : OkT b) : OkT (sp n a b) := by
  intro f v e
  unfold sp at e
  cases h : Nat.ble f n with
  | true => rw [h] at e; exact ha f v e
  | false => rw [h] at e; exact hb f v e
def h0 : TL := [(3,v3),(4,v4),(5,v5),(6,v6),(7,v7),(8,v8),(9,v9),(10,v10)]
theorem hk0 : h0.all mP = true := by kernel_rfl
def h1 : TL := [(11,v11),(12,v12),(13,v13),(14,v14),(15,v15),(16,v16),(17,v17),(18,v18)]
theorem hk1 : h1.all mP = true := by kernel_rfl
def h2 : TL := [(19,v19),(20,v20),(21,v21),(22,v22),(23,v23),(24,v24),(25,v25),(26,v26)]
theorem hk2 : h2.all mP = true := by kernel_rfl
def h3 : TL := [(27,v27),(28,v28),(29,v29),(30,v30),(31,v31),(32,v32),(33,v33),(34,v34)]
theorem hk3 : h3.all mP = true := by kernel_rfl
def h4 : TL := [(35,v35),(37,v37),(38,v38),(41,v41),(42,v42),(44,v44),(45,v45),(46,v46)]
theorem hk4 : h4.all mP = true := by kernel_rfl
def h5 : TL := [(47,v47),(48,v48),(49,v49),(50,v50),(51,v51),(52,v52),(53,v53),(54,v54)]
theorem hk5 : h5.all mP = true := by kernel_rfl
def h6 : TL := [(55,v55),(56,v56),(57,v57),(58,v58),(59,v59),(60,v60),(61,v61),(62,v62)]
theorem hk6 : h6.all mP = true := by kernel_rfl
def h7 : TL := [(63,v63),(65,v65),(66,v66),(67,v67),(71,v71),(72,v72),(75,v75),(78,v78)]
theorem hk7 : h7.all mP = true := by kernel_rfl
def h8 : TL := [(79,v79),(80,v80),(81,v81),(82,v82),(83,v83),(84,v84),(85,v85),(86,v86)]
theorem hk8 : h8.all mP = true := by kernel_rfl
def h9 : TL := [(88,v88),(89,v89),(90,v90),(91,v91),(93,v93),(94,v94),(95,v95),(96,v96)]
theorem hk9 : h9.all mP = true := by kernel_rfl
def h10 : TL := [(97,v97),(98,v98),(99,v99),(100,v100),(101,v101),(102,v102),(103,v103),(104,v104)]
theorem hk10 : h10.all mP = true := by kernel_rfl
def h11 : TL := [(105,v105),(106,v106),(107,v107),(108,v108),(109,v109),(110,v110),(111,v111),(112,v112)]
theorem hk11 : h11.all mP = true := by kernel_rfl
def h12 : TL := [(113,v113),(117,v117),(118,v118),(119,v119),(120,v120),(121,v121),(122,v122),(123,v123)]
theorem hk12 : h12.all mP = true := by kernel_rfl
def h13 : TL := [(124,v124),(125,v125),(131,v131),(132,v132),(133,v133),(134,v134),(135,v135),(136,v136)]
theorem hk13 : h13.all mP = true := by kernel_rfl
def h14 : TL := [(137,v137),(138,v138),(139,v139),(140,v140),(142,v142),(143,v143),(145,v145),(147,v147)]
theorem hk14 : h14.all mP = true := by kernel_rfl
def h15 : TL := [(148,v148),(149,v149),(151,v151),(152,v152),(154,v154),(155,v155),(157,v157),(160,v160)]
theorem hk15 : h15.all mP = true := by kernel_rfl
def h16 : TL := [(161,v161),(163,v163),(164,v164),(165,v165),(166,v166),(170,v170),(171,v171),(174,v174)]
theorem hk16 : h16.all mP = true := by kernel_rfl
def h17 : TL := [(176,v176),(178,v178),(179,v179),(180,v180),(181,v181),(182,v182),(183,v183),(184,v184)]
theorem hk17 : h17.all mP = true := by kernel_rfl
def h18 : TL := [(185,v185),(186,v186),(187,v187),(188,v188),(189,v189),(190,v190),(191,v191),(192,v192)]
theorem hk18 : h18.all mP = true := by kernel_rfl
def h19 : TL := [(193,v193),(194,v194),(195,v195),(196,v196),(197,v197),(198,v198),(199,v199),(200,v200)]
theorem hk19 : h19.all mP = true := by kernel_rfl
def h20 : TL := [(201,v201),(202,v202),(203,v203),(204,v204),(205,v205),(208,v208),(211,v211),(212,v212)]
theorem hk20 : h20.all mP = true := by kernel_rfl
def h21 : TL := [(213,v213),(214,v214),(215,v215),(216,v216),(223,v223),(224,v224),(225,v225),(226,v226)]
theorem hk21 : h21.all mP = true := by kernel_rfl
def h22 : TL := [(227,v227),(228,v228),(229,v229),(230,v230),(231,v231),(232,v232),(233,v233),(234,v234)]
theorem hk22 : h22.all mP = true := by kernel_rfl
def h23 : TL := [(236,v236),(237,v237),(238,v238),(239,v239),(243,v243),(244,v244),(245,v245),(247,v247)]
theorem hk23 : h23.all mP = true := by kernel_rfl
def h24 : TL := [(252,v252),(253,v253),(254,v254),(255,v255),(256,v256),(257,v257),(258,v258),(261,v261)]
theorem hk24 : h24.all mP = true := by kernel_rfl
def h25 : TL := [(265,v265),(270,v270),(271,v271),(272,v272),(295,v295),(297,v297),(298,v298),(299,v299)]
theorem hk25 : h25.all mP = true := by kernel_rfl
def h26 : TL := [(300,v300),(301,v301),(302,v302),(307,v307),(310,v310),(311,v311),(317,v317),(318,v318)]
theorem hk26 : h26.all mP = true := by kernel_rfl
def h27 : TL := [(323,v323),(336,v336),(337,v337),(338,v338),(341,v341),(343,v343),(352,v352),(353,v353)]
theorem hk27 : h27.all mP = true := by kernel_rfl
def h28 : TL := [(354,v354)]
theorem hk28 : h28.all mP = true := by kernel_rfl
def Tf : FuncId → Option VFun := (sp 136 (sp 62 (sp 26 (sp 10 (getT h0) (sp 18 (getT h1) (getT h2))) (sp 46 (sp 34 (getT h3) (getT h4)) (sp 54 (getT h5) (getT h6)))) (sp 96 (sp 78 (getT h7) (sp 86 (getT h8) (getT h9))) (sp 112 (sp 104 (getT h10) (getT h11)) (sp 123 (getT h12) (getT h13))))) (sp 212 (sp 174 (sp 147 (getT h14) (sp 160 (getT h15) (getT h16))) (sp 192 (sp 184 (getT h17) (getT h18)) (sp 200 (getT h19) (getT h20)))) (sp 261 (sp 234 (sp 226 (getT h21) (getT h22)) (sp 247 (getT h23) (getT h24))) (sp 318 (sp 299 (getT h25) (getT h26)) (sp 353 (getT h27) (getT h28))))))
theorem Tf_ok : OkT Tf := (sp_ok (sp_ok (sp_ok (sp_ok (okT hk0) (sp_ok (okT hk1) (okT hk2))) (sp_ok (sp_ok (okT hk3) (okT hk4)) (sp_ok (okT hk5) (okT hk6)))) (sp_ok (sp_ok (okT hk7) (sp_ok (okT hk8) (okT hk9))) (sp_ok (sp_ok (okT hk10) (okT hk11)) (sp_ok (okT hk12) (okT hk13))))) (sp_ok (sp_ok (sp_ok (okT hk14) (sp_ok (okT hk15) (okT hk16))) (sp_ok (sp_ok (okT hk17) (okT hk18)) (sp_ok (okT hk19) (okT hk20)))) (sp_ok (sp_ok (sp_ok (okT hk21) (okT hk22)) (sp_ok (okT hk23) (okT hk24))) (sp_ok (sp_ok (okT hk25) (okT hk26)) (sp_ok (okT hk27) (okT hk28))))))
abbrev evk (l : List KE) (n : Nat) (f : FuncId) (args : List V) (objs : List Obj) : Option (V × List Obj) := evalK (findO l) Tf X gl0 n f args objs
def KOk (e : KE) : Prop := FnOk prog gl0 e.f e.args e.objs e.rv e.os
/-- What the evaluator says, the program does. -/
theorem evk_ok {l : List KE} (hl : ∀ e ∈ l, KOk e) {n : Nat} {f : FuncId} {args : List V} {objs : List Obj} {rv : V} {objs' : List Obj} (h : evk l n f args objs = some (rv, objs')) : FnOk prog gl0 f args objs rv objs' :=
  evalK_ok follows Tf_ok X_ok (findO_ok (Q := FnOk prog gl0) hl) n h
end
end Go.Vs.Tryz
