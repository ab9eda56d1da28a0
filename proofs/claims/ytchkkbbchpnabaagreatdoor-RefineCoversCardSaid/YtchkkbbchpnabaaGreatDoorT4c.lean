/- Functions of the program in the language of the value semantics, part 4, and that they match. -/
import Derived.Test.YtchkkbbchpnabaaGreatDoorT0c
set_option linter.unusedSimpArgs false
set_option linter.unusedVariables false
set_option linter.deprecated false

/- Functions of the program in the language of the value semantics, part 4, and that they match. -/
namespace Go.Vs.Tryz
open Go Go.Vs Go.Proofs.Tryz
set_option maxRecDepth 100000
set_option maxHeartbeats 8000000
noncomputable section
def c61:=G (cc f61 (ov:=[(21,4,[1,8,2,10]),(26,4,[1,1]),(28,4,[1,6,2,9,3,9]),(115,0,[]),(128,0,[]),(138,0,[])]) (dr:=[(108,[2624]),(119,[3328,7360]),(132,[3136,8192]),(142,[2624,3136,3328,3808,3809,3810,5088,5089,5090,6112,6113,6114,7360,7424,8192,8256,8896]),(178,[9920,10336,10337,10338,11328,11424,11425,11426]),(210,[12160,12640,12641,12642,13472,13473,13474])]))
def l61_0:=G (lp 0 (lc f61 c61))
def l61_1:=(fun a=>G (lp 1 (lc f61 c61 [a]))) l61_0
def l61_2:=(fun a b=>G (lp 2 (lc f61 c61 [a,b]))) l61_0 l61_1
def v61:=(fun a b c=>G (lc f61 c61 [a,b,c] (k:=true)).1) l61_0 l61_1 l61_2
def v62:=G (lc f62 (cc f62) (k:=true)).1
def c63:=G (cc f63 (dr:=[(25,[896,1440,1441,1442])]))
def l63_0:=G (lp 0 (lc f63 c63))
def v63:=(fun a=>G (lc f63 c63 [a]).1) l63_0
def v64:=G (lc f64 (cc f64 (ov:=[(4,7,[]),(6,7,[])])) (k:=true)).1
def v65:=G (F1 f65)
def v66:=G (F1 f66)
def v67:=G (lc f67 (cc f67) (k:=true)).1
def c71:=G (cc f71 (ov:=[(4,4,[1,8,2,10,4,5,5,6,3,5]),(54,0,[]),(69,0,[])]) (dr:=[(11,[576]),(28,[1664]),(60,[3456]),(73,[2912,2913,2914,2944,3456,3520,4416,4480]),(85,[64])]))
def l71_0:=G (lp 0 (lc f71 c71))
def l71_1:=(fun a=>G (lp 1 (lc f71 c71 [a]))) l71_0
def v71:=(fun a b=>G (lc f71 c71 [a,b] (k:=true)).1) l71_0 l71_1
def c72:=G (cc f72 (ov:=[(22,0,[])]) (dr:=[(24,[800,801,802,1024,1408,1472])]))
def l72_0:=G (lp 0 (lc f72 c72))
def v72:=(fun a=>G (lc f72 c72 [a] (k:=true)).1) l72_0
def v75:=G (lc f75 (cc f75) (k:=true)).1
def c78:=G (cc f78 (ov:=[(17,4,[0,1]),(59,4,[0,1])]) (dr:=[(35,[1792,2112]),(44,[64]),(52,[3200]),(59,[2752]),(81,[5056])]))
def l78_0:=G (lp 0 (lc f78 c78))
def l78_1:=(fun a=>G (lp 1 (lc f78 c78 [a]))) l78_0
def v78:=(fun a b=>G (lc f78 c78 [a,b]).1) l78_0 l78_1
def c79:=G (cc f79 (dr:=[(170,[9536]),(171,[9536,10848,10849,10850])]))
def l79_0:=G (lp 0 (lc f79 c79))
def v79:=(fun a=>G (lc f79 c79 [a]).1) l79_0
def c80:=G (cc f80 (dr:=[(81,[4416]),(86,[4416,5120])]))
def l80_0:=G (lp 0 (lc f80 c80))
def v80:=(fun a=>G (lc f80 c80 [a]).1) l80_0
def c81:=G (cc f81 (dr:=[(24,[1152]),(41,[1152])]))
def l81_0:=G (lp 0 (lc f81 c81))
def v81:=(fun a=>G (lc f81 c81 [a]).1) l81_0
def c82:=G (cc f82 (dr:=[(10,[64]),(53,[1888,1889,1890])]))
def l82_0:=G (lp 0 (lc f82 c82))
def l82_1:=(fun a=>G (lp 1 (lc f82 c82 [a]))) l82_0
def l82_2:=(fun a b=>G (lp 2 (lc f82 c82 [a,b]))) l82_0 l82_1
def v82:=(fun a b c=>G (lc f82 c82 [a,b,c] (k:=true)).1) l82_0 l82_1 l82_2
def c84:=G (cc f84 (dr:=[(21,[832])]))
def l84_0:=G (lp 0 (lc f84 c84))
def l84_1:=(fun a=>G (lp 1 (lc f84 c84 [a]))) l84_0
def v84:=(fun a b=>G (lc f84 c84 [a,b]).1) l84_0 l84_1
def a4_0:TL:=[(61,v61),(62,v62),(63,v63),(65,v65),(66,v66),(67,v67),(71,v71),(72,v72),(75,v75),(78,v78),(79,v79),(80,v80),(81,v81),(82,v82),(84,v84)]
theorem k4_0:a4_0.all mP=true:=by kernel_rfl
theorem m64:mFun prog 64 v64=true:=by kernel_rfl
end
end Go.Vs.Tryz
