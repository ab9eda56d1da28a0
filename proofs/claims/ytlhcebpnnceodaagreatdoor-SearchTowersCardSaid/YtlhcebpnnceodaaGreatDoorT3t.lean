/- Functions of the program in the language of the value semantics, part 3, and that they match. -/
import Derived.Test.YtlhcebpnnceodaaGreatDoorT0t
set_option linter.unusedSimpArgs false
set_option linter.unusedVariables false
set_option linter.deprecated false

/- Functions of the program in the language of the value semantics, part 3, and that they match. -/
namespace Go.Vs.Tryz
open Go Go.Vs Go.Proofs.Tryz
set_option maxRecDepth 100000
set_option maxHeartbeats 8000000
noncomputable section
def v73:=G (F1 f73)
def v74:=G (F1 f74)
def v75:=G (lc f75 (cc f75) (k:=true)).1
def v76:=G (lc f76 (cc f76) (k:=true)).1
def v77:=G (lc f77 (cc f77) (k:=true)).1
def v78:=G (lc f78 (cc f78) (k:=true)).1
def v79:=G (lc f79 (cc f79) (k:=true)).1
def v80:=G (lc f80 (cc f80) (k:=true)).1
def v81:=G (lc f81 (cc f81) (k:=true)).1
def c82:=G (cc f82 (ov:=[(6,1,[1]),(7,3,[4,5]),(20,3,[4,5]),(23,5,[]),(28,5,[])]) (dr:=[(8,[1632,1633,1634]),(10,[1888,1889,1890,1920])]))
def l82_0:=G (lp 0 (lc f82 c82))
def v82:=(fun a=>G (lc f82 c82 [a] (k:=true)).1) l82_0
def c84:=G (cc f84)
def l84_0:=G (lp 0 (lc f84 c84))
def v84:=(fun a=>G (lc f84 c84 [a]).1) l84_0
def c71:=G (cc f71 (dr:=[(15,[1824,1825,1826])]))
def l71_0:=G (lp 0 (lc f71 c71))
def v71:=(fun a=>G (lc f71 c71 [a] (k:=true)).1) l71_0
def c54:=G (cc f54 (ov:=[(16,4,[0,1])]) (dr:=[(33,[2560]),(53,[4224]),(55,[2560])]))
def l54_0:=G (lp 0 (lc f54 c54))
def l54_1:=(fun a=>G (lp 1 (lc f54 c54 [a]))) l54_0
def v54:=(fun a b=>G (lc f54 c54 [a,b]).1) l54_0 l54_1
def c41:=G (cc f41 (ov:=[(9,1,[0]),(27,1,[0])]) (dr:=[(30,[2048])]))
def l41_0:=G (lp 0 (lc f41 c41))
def v41:=(fun a=>G (lc f41 c41 [a]).1) l41_0
def v57:=G (lc f57 (cc f57 (ov:=[(9,1,[0])])) (k:=true)).1
def v95:=G (F1 f95)
def c94:=G (cc f94 (ov:=[(46,0,[])]) (dr:=[(20,[2656,2657,2658]),(39,[3616,3617,3618]),(41,[3648]),(43,[3904,3968])]) (rb:=(146,10,true)))
def l94_0:=G (lp 0 (lc f94 c94))
def l94_1:=(fun a=>G (lp 1 (lc f94 c94 [a]))) l94_0
def v94:=(fun a b=>G (lc f94 c94 [a,b] (k:=true)).1) l94_0 l94_1
def v63:=G (lc f63 (cc f63 (ov:=[(8,1,[0])])) (k:=true)).1
def c101:=G (cc f101 (dr:=[(28,[2368]),(33,[2368]),(35,[1664])]))
def l101_0:=G (lp 0 (lc f101 c101))
def l101_1:=(fun a=>G (lp 1 (lc f101 c101 [a]))) l101_0
def v101:=(fun a b=>G (lc f101 c101 [a,b]).1) l101_0 l101_1
def v102:=G (F1 f102)
def v103:=G (lc f103 (cc f103) (k:=true)).1
def c104:=G (cc f104 (dr:=[(40,[2944])]))
def l104_0:=G (lp 0 (lc f104 c104))
def v104:=(fun a=>G (lc f104 c104 [a]).1) l104_0
def v89:=G (F1 f89)
def v111:=G (F1 f111)
def v112:=G (F1 f112)
def v113:=G (F1 f113)
def c114:=G (cc f114)
def l114_0:=G (lp 0 (lc f114 c114))
def v114:=(fun a=>G (lc f114 c114 [a]).1) l114_0
def v115:=G (F1 f115)
def v116:=G (F1 f116)
def c117:=G (cc f117)
def l117_0:=G (lp 0 (lc f117 c117))
def v117:=(fun a=>G (lc f117 c117 [a]).1) l117_0
def c118:=G (cc f118)
def l118_0:=G (lp 0 (lc f118 c118))
def v118:=(fun a=>G (lc f118 c118 [a]).1) l118_0
def v120:=G (F1 f120)
def v87:=G (F1 f87)
def c72:=G (cc f72 (ov:=[(10,1,[0])]))
def l72_0:=G (lp 0 (lc f72 c72))
def v72:=(fun a=>G (lc f72 c72 [a]).1) l72_0
def v90:=G (F1 f90)
def a3_0:TL:=[(73,v73),(74,v74),(75,v75),(76,v76),(77,v77),(78,v78),(79,v79),(80,v80),(81,v81),(82,v82),(84,v84),(71,v71),(54,v54),(41,v41),(57,v57),(95,v95)]
theorem k3_0:a3_0.all mP=true:=by kernel_rfl
def a3_1:TL:=[(94,v94),(63,v63),(101,v101),(102,v102),(103,v103),(104,v104),(89,v89),(111,v111),(112,v112),(113,v113),(114,v114),(115,v115),(116,v116),(117,v117),(118,v118),(120,v120)]
theorem k3_1:a3_1.all mP=true:=by kernel_rfl
def a3_2:TL:=[(87,v87),(72,v72),(90,v90)]
theorem k3_2:a3_2.all mP=true:=by kernel_rfl
end
end Go.Vs.Tryz
