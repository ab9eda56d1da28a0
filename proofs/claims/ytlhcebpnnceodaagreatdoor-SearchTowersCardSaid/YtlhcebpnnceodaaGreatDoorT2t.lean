/- Functions of the program in the language of the value semantics, part 2, and that they match. -/
import Derived.Test.YtlhcebpnnceodaaGreatDoorT0t
set_option linter.unusedSimpArgs false
set_option linter.unusedVariables false
set_option linter.deprecated false

/- Functions of the program in the language of the value semantics, part 2, and that they match. -/
namespace Go.Vs.Tryz
open Go Go.Vs Go.Proofs.Tryz
set_option maxRecDepth 100000
set_option maxHeartbeats 8000000
noncomputable section
def c37:=G (cc f37 (ov:=[(14,7,[])]) (dr:=[(30,[2304]),(31,[2304,2848,2849,2850]),(75,[4352,5184]),(76,[4352,5184,5728,5729,5730]),(78,[3776])]))
def l37_0:=G (lp 0 (lc f37 c37))
def l37_1:=(fun a=>G (lp 1 (lc f37 c37 [a]))) l37_0
def l37_2:=(fun a b=>G (lp 2 (lc f37 c37 [a,b]))) l37_0 l37_1
def v37:=(fun a b c=>G (lc f37 c37 [a,b,c] (k:=true)).1) l37_0 l37_1 l37_2
def c38:=G (cc f38 (ov:=[(12,7,[])]) (dr:=[(44,[3328]),(51,[3264,3328,4000,4001,4002]),(53,[2176])]))
def l38_0:=G (lp 0 (lc f38 c38))
def l38_1:=(fun a=>G (lp 1 (lc f38 c38 [a]))) l38_0
def v38:=(fun a b=>G (lc f38 c38 [a,b] (k:=true)).1) l38_0 l38_1
def c42:=G (cc f42)
def l42_0:=G (lp 0 (lc f42 c42))
def v42:=(fun a=>G (lc f42 c42 [a]).1) l42_0
def c43:=G (cc f43 (ov:=[(8,4,[0,3])]) (dr:=[(101,[8000]),(112,[8000])]))
def l43_0:=G (lp 0 (lc f43 c43))
def l43_1:=(fun a=>G (lp 1 (lc f43 c43 [a]))) l43_0
def l43_2:=(fun a b=>G (lp 2 (lc f43 c43 [a,b]))) l43_0 l43_1
def v43:=(fun a b c=>G (lc f43 c43 [a,b,c]).1) l43_0 l43_1 l43_2
def v44:=G (lc f44 (cc f44) (k:=true)).1
def v45:=G (lc f45 (cc f45) (k:=true)).1
def c46:=G (cc f46 (ov:=[(5,3,[2,1,3,3]),(35,3,[2,5]),(48,5,[]),(58,5,[])]) (dr:=[(12,[1888,1889,1890]),(14,[2144,2145,2146,2176]),(29,[2976,2977,2978,3104,3105,3106,3200,3264,3267]),(36,[3424,3425,3426]),(38,[3680,3681,3682,3712]),(46,[4160]),(53,[4512,4513,4514,3200,4160])]))
def l46_0:=G (lp 0 (lc f46 c46))
def l46_1:=(fun a=>G (lp 1 (lc f46 c46 [a]))) l46_0
def l46_2:=(fun a b=>G (lp 2 (lc f46 c46 [a,b]))) l46_0 l46_1
def v46:=(fun a b c=>G (lc f46 c46 [a,b,c] (k:=true)).1) l46_0 l46_1 l46_2
def c48:=G (cc f48 (dr:=[(58,[1856]),(122,[6336]),(163,[9728]),(167,[9728])]))
def l48_0:=G (lp 0 (lc f48 c48))
def l48_1:=(fun a=>G (lp 1 (lc f48 c48 [a]))) l48_0
def l48_2:=(fun a b=>G (lp 2 (lc f48 c48 [a,b]))) l48_0 l48_1
def l48_3:=(fun a b c=>G (lp 3 (lc f48 c48 [a,b,c]))) l48_0 l48_1 l48_2
def l48_4:=(fun a b c d=>G (lp 4 (lc f48 c48 [a,b,c,d]))) l48_0 l48_1 l48_2 l48_3
def l48_5:=(fun a b c d e=>G (lp 5 (lc f48 c48 [a,b,c,d,e]))) l48_0 l48_1 l48_2 l48_3 l48_4
def v48:=(fun a b c d e g=>G (lc f48 c48 [a,b,c,d,e,g]).1) l48_0 l48_1 l48_2 l48_3 l48_4 l48_5
def c49:=G (cc f49)
def l49_0:=G (lp 0 (lc f49 c49))
def v49:=(fun a=>G (lc f49 c49 [a]).1) l49_0
def v50:=G (F1 f50)
def v39:=G (lc f39 (cc f39 (ov:=[(3,1,[0])])) (k:=true)).1
def v51:=G (F1 f51)
def v52:=G (lc f52 (cc f52) (k:=true)).1
def c53:=G (cc f53 (dr:=[(15,[1824,1825,1826])]))
def l53_0:=G (lp 0 (lc f53 c53))
def v53:=(fun a=>G (lc f53 c53 [a] (k:=true)).1) l53_0
def c31:=G (cc f31 (dr:=[(25,[1024]),(26,[1024])]))
def l31_0:=G (lp 0 (lc f31 c31))
def v31:=(fun a=>G (lc f31 c31 [a]).1) l31_0
def v40:=G (lc f40 (cc f40 (ov:=[(7,1,[0])])) (k:=true)).1
def v35:=G (lc f35 (cc f35 (ov:=[(8,1,[0])]) (dr:=[(33,[1024,1856,2560]),(36,[1920])])) (k:=true)).1
def v55:=G (F1 f55)
def c56:=G (cc f56 (dr:=[(42,[2112])]))
def l56_0:=G (lp 0 (lc f56 c56))
def v56:=(fun a=>G (lc f56 c56 [a] (k:=true)).1) l56_0
def v61:=G (lc f61 (cc f61 (ov:=[(16,0,[]),(28,0,[])]) (dr:=[(20,[1984]),(32,[2752])])) (k:=true)).1
def v60:=G (lc f60 (cc f60) (k:=true)).1
def c62:=G (cc f62 (dr:=[(16,[1472,1760,1761,1762])]))
def l62_0:=G (lp 0 (lc f62 c62))
def v62:=(fun a=>G (lc f62 c62 [a] (k:=true)).1) l62_0
def v66:=G (F1 f66)
def c67:=G (cc f67 (dr:=[(55,[4544])]) (rb:=(133,5,true)))
def l67_0:=G (lp 0 (lc f67 c67))
def l67_1:=(fun a=>G (lp 1 (lc f67 c67 [a]))) l67_0
def v67:=(fun a b=>G (lc f67 c67 [a,b]).1) l67_0 l67_1
def a2_0:TL:=[(37,v37),(38,v38),(42,v42),(43,v43),(44,v44),(45,v45),(46,v46),(48,v48),(49,v49),(50,v50),(39,v39),(51,v51),(52,v52),(53,v53),(31,v31),(40,v40)]
theorem k2_0:a2_0.all mP=true:=by kernel_rfl
def a2_1:TL:=[(35,v35),(55,v55),(56,v56),(61,v61),(60,v60),(62,v62),(66,v66),(67,v67)]
theorem k2_1:a2_1.all mP=true:=by kernel_rfl
end
end Go.Vs.Tryz
