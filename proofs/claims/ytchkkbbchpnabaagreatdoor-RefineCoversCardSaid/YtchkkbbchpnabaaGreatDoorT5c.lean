/- Functions of the program in the language of the value semantics, part 5, and that they match. -/
import Derived.Test.YtchkkbbchpnabaaGreatDoorT0c
set_option linter.unusedSimpArgs false
set_option linter.unusedVariables false
set_option linter.deprecated false

/- Functions of the program in the language of the value semantics, part 5, and that they match. -/
namespace Go.Vs.Tryz
open Go Go.Vs Go.Proofs.Tryz
set_option maxRecDepth 100000
set_option maxHeartbeats 8000000
noncomputable section
def v83:=G (lc f83 (cc f83 (dr:=[(42,[128]),(52,[2560])]))).1
def c85:=G (cc f85 (dr:=[(18,[704])]))
def l85_0:=G (lp 0 (lc f85 c85))
def v85:=(fun a=>G (lc f85 c85 [a]).1) l85_0
def v86:=G (F1 f86)
def c95:=G (cc f95)
def l95_0:=G (lp 0 (lc f95 c95))
def v95:=(fun a=>G (lc f95 c95 [a]).1) l95_0
def c94:=G (cc f94)
def l94_0:=G (lp 0 (lc f94 c94))
def v94:=(fun a=>G (lc f94 c94 [a]).1) l94_0
def c88:=G (cc f88 (dr:=[(5,[384])]) (rb:=(254,2,true)))
def l88_0:=G (lp 0 (lc f88 c88))
def v88:=(fun a=>G (lc f88 c88 [a]).1) l88_0
def c89:=G (cc f89 (dr:=[(21,[896,1216])]))
def l89_0:=G (lp 0 (lc f89 c89))
def v89:=(fun a=>G (lc f89 c89 [a] (k:=true)).1) l89_0
def c91:=G (cc f91 (dr:=[(32,[1280,1856])]) (ml:=[(32,1856)]))
def l91_0:=G (lp 0 (lc f91 c91))
def v91:=(fun a=>G (lc f91 c91 [a]).1) l91_0
def v90:=G (F1 f90)
def v92:=G (lc f92 (cc f92 (ov:=[(4,7,[]),(6,7,[])])) (k:=true)).1
def v93:=G (lc f93 (cc f93 (dr:=[(12,[320,640])]))).1
def v96:=G (F1 f96)
def v97:=G (F1 f97)
def v98:=G (lc f98 (cc f98) (k:=true)).1
def v99:=G (lc f99 (cc f99) (k:=true)).1
def v100:=G (lc f100 (cc f100) (k:=true)).1
def v101:=G (lc f101 (cc f101) (k:=true)).1
def v102:=G (lc f102 (cc f102) (k:=true)).1
def v103:=G (lc f103 (cc f103) (k:=true)).1
def v104:=G (lc f104 (cc f104) (k:=true)).1
def c105:=G (cc f105 (ov:=[(6,1,[1]),(7,3,[4,5]),(20,3,[4,5]),(23,5,[]),(28,5,[])]) (dr:=[(8,[672,673,674]),(10,[928,929,930,960])]))
def l105_0:=G (lp 0 (lc f105 c105))
def v105:=(fun a=>G (lc f105 c105 [a] (k:=true)).1) l105_0
def c106:=G (cc f106 (ov:=[(114,5,[])]) (dr:=[(105,[6880,6881,6882,6912]),(109,[7296])]))
def l106_0:=G (lp 0 (lc f106 c106))
def v106:=(fun a=>G (lc f106 c106 [a] (k:=true)).1) l106_0
def c107:=G (cc f107)
def l107_0:=G (lp 0 (lc f107 c107))
def v107:=(fun a=>G (lc f107 c107 [a]).1) l107_0
def v108:=G (F1 f108)
def c109:=G (cc f109 (dr:=[(31,[64])]))
def l109_0:=G (lp 0 (lc f109 c109))
def l109_1:=(fun a=>G (lp 1 (lc f109 c109 [a]))) l109_0
def v109:=(fun a b=>G (lc f109 c109 [a,b]).1) l109_0 l109_1
def c110:=G (cc f110 (dr:=[(58,[3584]),(77,[1344,3584,4160,4800])]))
def l110_0:=G (lp 0 (lc f110 c110))
def v110:=(fun a=>G (lc f110 c110 [a]).1) l110_0
def a5_0:TL:=[(83,v83),(85,v85),(86,v86),(95,v95),(94,v94),(88,v88),(89,v89),(91,v91),(90,v90),(93,v93),(96,v96),(97,v97),(98,v98),(99,v99),(100,v100),(101,v101)]
theorem k5_0:a5_0.all mP=true:=by kernel_rfl
def a5_1:TL:=[(102,v102),(103,v103),(104,v104),(105,v105),(106,v106),(107,v107),(108,v108),(109,v109),(110,v110)]
theorem k5_1:a5_1.all mP=true:=by kernel_rfl
theorem m92:mFun prog 92 v92=true:=by kernel_rfl
end
end Go.Vs.Tryz
