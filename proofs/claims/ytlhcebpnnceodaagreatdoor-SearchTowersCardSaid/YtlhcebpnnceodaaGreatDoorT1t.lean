/- Functions of the program in the language of the value semantics, part 1, and that they match. -/
import Derived.Test.YtlhcebpnnceodaaGreatDoorT0t
set_option linter.unusedSimpArgs false
set_option linter.unusedVariables false
set_option linter.deprecated false

/- Functions of the program in the language of the value semantics, part 1, and that they match. -/
namespace Go.Vs.Tryz
open Go Go.Vs Go.Proofs.Tryz
set_option maxRecDepth 100000
set_option maxHeartbeats 8000000
noncomputable section
def c3:=G (cc f3 (ov:=[(29,5,[])]) (dr:=[(31,[2816])]))
def l3_0:=G (lp 0 (lc f3 c3))
def v3:=(fun a=>G (lc f3 c3 [a]).1) l3_0
def v4:=G (F1 f4)
def v5:=G (F1 f5)
def c6:=G (cc f6 (ov:=[(3,4,[0,4])]) (dr:=[(19,[2048]),(42,[3520])]))
def l6_0:=G (lp 0 (lc f6 c6))
def v6:=(fun a=>G (lc f6 c6 [a]).1) l6_0
def v8:=G (lc f8 (cc f8 (ov:=[(3,6,[])]))).1
def v7:=G (lc f7 (cc f7 (ov:=[(21,4,[1,8,2,10,3,5]),(25,3,[0,11])]) (dr:=[(34,[1024])]))).1
def c9:=G (cc f9)
def l9_0:=G (lp 0 (lc f9 c9))
def v9:=(fun a=>G (lc f9 c9 [a]).1) l9_0
def v12:=G (F1 f12)
def v11:=G (F1 f11)
def v10:=G (F1 f10)
def v13:=G (F1 f13)
def v14:=G (lc f14 (cc f14 (dr:=[(12,[1024])]))).1
def v15:=G (lc f15 (cc f15 (dr:=[(9,[1408])]))).1
def v16:=G (lc f16 (cc f16 (dr:=[(15,[1024]),(16,[1024])]))).1
def c17:=G (cc f17 (ov:=[(1,4,[0,7])]) (dr:=[(24,[1600,2144,2145,2146,2368])]))
def l17_0:=G (lp 0 (lc f17 c17))
def v17:=(fun a=>G (lc f17 c17 [a]).1) l17_0
def v19:=G (lc f19 (cc f19 (ov:=[(5,1,[0]),(18,0,[])]) (dr:=[(22,[1024,2112])])) (k:=true)).1
def v18:=G (lc f18 (cc f18 (ov:=[(20,1,[0])])) (k:=true)).1
def v21:=G (F1 f21)
def c24:=G (cc f24 (ov:=[(4,0,[])]) (dr:=[(22,[2240])]))
def l24_0:=G (lp 0 (lc f24 c24))
def v24:=(fun a=>G (lc f24 c24 [a] (k:=true)).1) l24_0
def c23:=G (cc f23)
def l23_0:=G (lp 0 (lc f23 c23))
def v23:=(fun a=>G (lc f23 c23 [a]).1) l23_0
def c25:=G (cc f25 (ov:=[(17,3,[0,4,1,20]),(65,5,[]),(75,5,[])]) (dr:=[(35,[3360,3361,3362]),(37,[3616,3617,3618,3648]),(45,[4128,4129,4130,4160])]))
def l25_0:=G (lp 0 (lc f25 c25))
def v25:=(fun a=>G (lc f25 c25 [a]).1) l25_0
def v26:=G (F1 f26)
def v27:=G (F1 f27)
def c28:=G (cc f28 (dr:=[(17,[1664])]))
def l28_0:=G (lp 0 (lc f28 c28))
def v28:=(fun a=>G (lc f28 c28 [a]).1) l28_0
def v29:=G (lc f29 (cc f29) (k:=true)).1
def v30:=G (lc f30 (cc f30) (k:=true)).1
def v32:=G (lc f32 (cc f32) (k:=true)).1
def v20:=G (lc f20 (cc f20 (ov:=[(7,1,[0])])) (k:=true)).1
def v34:=G (lc f34 (cc f34) (k:=true)).1
def v33:=G (lc f33 (cc f33 (ov:=[(6,1,[0])])) (k:=true)).1
def v36:=G (lc f36 (cc f36) (k:=true)).1
def a1_0:TL:=[(3,v3),(4,v4),(5,v5),(6,v6),(8,v8),(7,v7),(9,v9),(12,v12),(11,v11),(10,v10),(13,v13),(14,v14),(15,v15),(16,v16),(17,v17),(19,v19)]
theorem k1_0:a1_0.all mP=true:=by kernel_rfl
def a1_1:TL:=[(18,v18),(21,v21),(24,v24),(23,v23),(25,v25),(26,v26),(27,v27),(28,v28),(29,v29),(30,v30),(32,v32),(20,v20),(34,v34),(33,v33),(36,v36)]
theorem k1_1:a1_1.all mP=true:=by kernel_rfl
end
end Go.Vs.Tryz
