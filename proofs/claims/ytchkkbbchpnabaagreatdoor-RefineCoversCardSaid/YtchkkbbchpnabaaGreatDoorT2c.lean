/- Functions of the program in the language of the value semantics, part 2, and that they match. -/
import Derived.Test.YtchkkbbchpnabaaGreatDoorT0c
set_option linter.unusedSimpArgs false
set_option linter.unusedVariables false
set_option linter.deprecated false

/- Functions of the program in the language of the value semantics, part 2, and that they match. -/
namespace Go.Vs.Tryz
open Go Go.Vs Go.Proofs.Tryz
set_option maxRecDepth 100000
set_option maxHeartbeats 8000000
noncomputable section
def v23:=G (lc f23 (cc f23 (dr:=[(9,[448])]))).1
def v20:=G (F1 f20)
def v21:=G (F1 f21)
def c22:=G (cc f22 (ov:=[(54,4,[0,5])]) (dr:=[(71,[4416])]))
def l22_0:=G (lp 0 (lc f22 c22))
def v22:=(fun a=>G (lc f22 c22 [a]).1) l22_0
def c24:=G (cc f24 (ov:=[(22,0,[]),(25,0,[])]) (dr:=[(30,[64])]))
def l24_0:=G (lp 0 (lc f24 c24))
def v24:=(fun a=>G (lc f24 c24 [a] (k:=true)).1) l24_0
def c27:=G (cc f27 (dr:=[(27,[64])]))
def l27_0:=G (lp 0 (lc f27 c27))
def l27_1:=(fun a=>G (lp 1 (lc f27 c27 [a]))) l27_0
def v27:=(fun a b=>G (lc f27 c27 [a,b]).1) l27_0 l27_1
def v28:=G (lc f28 (cc f28 (ov:=[(3,3,[0,1])])) (k:=true)).1
def c26:=G (cc f26 (ov:=[(23,4,[0,11]),(30,0,[]),(32,0,[]),(138,5,[])]) (dr:=[(52,[3200]),(60,[3200,3712]),(75,[1984,2112,4672]),(96,[64]),(102,[64]),(142,[7424])]))
def l26_0:=G (lp 0 (lc f26 c26))
def l26_1:=(fun a=>G (lp 1 (lc f26 c26 [a]))) l26_0
def l26_2:=(fun a b=>G (lp 2 (lc f26 c26 [a,b]))) l26_0 l26_1
def l26_3:=(fun a b c=>G (lp 3 (lc f26 c26 [a,b,c]))) l26_0 l26_1 l26_2
def v26:=(fun a b c d=>G (lc f26 c26 [a,b,c,d]).1) l26_0 l26_1 l26_2 l26_3
def v25:=G (F1 f25)
def c29:=G (cc f29 (ov:=[(137,0,[]),(144,0,[])]) (dr:=[(163,[8832,9280])]))
def l29_0:=G (lp 0 (lc f29 c29))
def l29_1:=(fun a=>G (lp 1 (lc f29 c29 [a]))) l29_0
def v29:=(fun a b=>G (lc f29 c29 [a,b]).1) l29_0 l29_1
def c30:=G (cc f30 (ov:=[(17,3,[0,4,1,20]),(65,5,[]),(75,5,[])]) (dr:=[(35,[2400,2401,2402]),(37,[2656,2657,2658,2688]),(45,[3168,3169,3170,3200])]))
def l30_0:=G (lp 0 (lc f30 c30))
def v30:=(fun a=>G (lc f30 c30 [a]).1) l30_0
def c31:=G (cc f31 (ov:=[(18,3,[0,6,1,8,2,1]),(106,5,[])]) (dr:=[(11,[64]),(42,[1856,2464,2465,2466,2496]),(71,[3456,4352]),(104,[6464])]))
def l31_0:=G (lp 0 (lc f31 c31))
def l31_1:=(fun a=>G (lp 1 (lc f31 c31 [a]))) l31_0
def l31_2:=(fun a b=>G (lp 2 (lc f31 c31 [a,b]))) l31_0 l31_1
def v31:=(fun a b c=>G (lc f31 c31 [a,b,c]).1) l31_0 l31_1 l31_2
def v32:=G (F1 f32)
def c33:=G (cc f33 (dr:=[(27,[1024])]))
def l33_0:=G (lp 0 (lc f33 c33))
def v33:=(fun a=>G (lc f33 c33 [a]).1) l33_0
def c34:=G (cc f34 (ov:=[(1,4,[0,7])]) (dr:=[(24,[640,1184,1185,1186,1408])]))
def l34_0:=G (lp 0 (lc f34 c34))
def v34:=(fun a=>G (lc f34 c34 [a]).1) l34_0
def v35:=G (F1 f35)
def c37:=G (cc f37 (ov:=[(23,3,[0,4])]) (dr:=[(14,[640,704]),(23,[64]),(41,[2176,2656,2657,2658]),(75,[3776,4352,4832,4833,4834]),(77,[3200])]))
def l37_0:=G (lp 0 (lc f37 c37))
def l37_1:=(fun a=>G (lp 1 (lc f37 c37 [a]))) l37_0
def l37_2:=(fun a b=>G (lp 2 (lc f37 c37 [a,b]))) l37_0 l37_1
def v37:=(fun a b c=>G (lc f37 c37 [a,b,c]).1) l37_0 l37_1 l37_2
def a2_0:TL:=[(23,v23),(20,v20),(21,v21),(22,v22),(24,v24),(27,v27),(28,v28),(26,v26),(25,v25),(29,v29),(30,v30),(31,v31),(32,v32),(33,v33),(34,v34),(35,v35)]
theorem k2_0:a2_0.all mP=true:=by kernel_rfl
def a2_1:TL:=[(37,v37)]
theorem k2_1:a2_1.all mP=true:=by kernel_rfl
end
end Go.Vs.Tryz
