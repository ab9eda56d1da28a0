/- Functions of the program in the language of the value semantics,part 2,and that they match. -/
import Derived.Test.YtccmnfpbcmccpaaGreatDoorT0s
set_option linter.unusedSimpArgs false
set_option linter.unusedVariables false
set_option linter.deprecated false

namespace Go.Vs.Tryz
open Go Go.Vs Go.Proofs.Tryz
set_option maxRecDepth 100000
set_option maxHeartbeats 8000000
noncomputable section
def c88:VCode:=G (a:=cc f88) _ (by conv=>rhs;cbv)
def ZAa:VCode:=G (a:=lp 0 (lc f88 c88)) _ (by conv=>rhs;cbv)
def v88:VFun:=(fun a=>G (a:=(lc f88 c88 [a]).1) _ (by conv=>rhs;cbv)) ZAa
def c89:VCode:=G (a:=cc f89 (ov:=[(57,5,[])]) (dr:=[(59,[3008,3648])])) _ (by conv=>rhs;cbv)
def Zv5:VCode:=G (a:=lp 0 (lc f89 c89)) _ (by conv=>rhs;cbv)
def v89:VFun:=(fun a=>G (a:=(lc f89 c89 [a]).1) _ (by conv=>rhs;cbv)) Zv5
def v91:VFun:=G (a:=(lc f91 (cc f91)).1) _ (by conv=>rhs;cbv)
def v92:VFun:=G (a:=(lc f92 (cc f92)).1) _ (by conv=>rhs;cbv)
def v93:VFun:=G (a:=(lc f93 (cc f93)).1) _ (by conv=>rhs;cbv)
def v94:VFun:=G (a:=(lc f94 (cc f94)).1) _ (by conv=>rhs;cbv)
def v95:VFun:=G (a:=(lc f95 (cc f95)).1) _ (by conv=>rhs;cbv)
def v96:VFun:=G (a:=(lc f96 (cc f96)).1) _ (by conv=>rhs;cbv)
def v97:VFun:=G (a:=(lc f97 (cc f97)).1) _ (by conv=>rhs;cbv)
def c99:VCode:=G (a:=cc f99 (dr:=[(21,[896,1216])])) _ (by conv=>rhs;cbv)
def Zxf:VCode:=G (a:=lp 0 (lc f99 c99)) _ (by conv=>rhs;cbv)
def v99:VFun:=(fun a=>G (a:=(lc f99 c99 [a] (k:=true)).1) _ (by conv=>rhs;cbv)) Zxf
def v98:VFun:=G (a:=(lc f98 (cc f98)).1) _ (by conv=>rhs;cbv)
def v100:VFun:=G (a:=(lc f100 (cc f100)).1) _ (by conv=>rhs;cbv)
def v101:VFun:=G (a:=(lc f101 (cc f101) (k:=true)).1) _ (by conv=>rhs;cbv)
def c102:VCode:=G (a:=cc f102) _ (by conv=>rhs;cbv)
def Zsw:VCode:=G (a:=lp 0 (lc f102 c102)) _ (by conv=>rhs;cbv)
def v102:VFun:=(fun a=>G (a:=(lc f102 c102 [a] (k:=true)).1) _ (by conv=>rhs;cbv)) Zsw
def c103:VCode:=G (a:=cc f103 (ov:=[(48,3,[4,11]),(53,3,[0,11]),(78,5,[]),(82,3,[4,11]),(84,3,[0,11]),(108,5,[]),(182,0,[])]) (dr:=[(36,[1856]),(46,[2752]),(75,[4608]),(80,[3072,1856]),(105,[6528]),(151,[9408]),(158,[64]),(163,[128]),(168,[8128,8192]),(185,[64])])) _ (by conv=>rhs;cbv)
def ZmJ:VCode:=G (a:=lp 0 (lc f103 c103)) _ (by conv=>rhs;cbv)
def Zka:VCode:=(fun a=>G (a:=lp 1 (lc f103 c103 [a])) _ (by conv=>rhs;cbv)) ZmJ
def Zo2:VCode:=(fun a b=>G (a:=lp 2 (lc f103 c103 [a,b])) _ (by conv=>rhs;cbv)) ZmJ Zka
def v103:VFun:=(fun a b c=>G (a:=(lc f103 c103 [a,b,c]).1) _ (by conv=>rhs;cbv)) ZmJ Zka Zo2
def v104:VFun:=G (a:=(lc f104 (cc f104 (dr:=[(24,[896])]))).1) _ (by conv=>rhs;cbv)
def c105:VCode:=G (a:=cc f105 (dr:=[(38,[64]),(79,[1024,2304])])) _ (by conv=>rhs;cbv)
def Zly:VCode:=G (a:=lp 0 (lc f105 c105)) _ (by conv=>rhs;cbv)
def Zou:VCode:=(fun a=>G (a:=lp 1 (lc f105 c105 [a])) _ (by conv=>rhs;cbv)) Zly
def ZjC:VCode:=(fun a b=>G (a:=lp 2 (lc f105 c105 [a,b])) _ (by conv=>rhs;cbv)) Zly Zou
def v105:VFun:=(fun a b c=>G (a:=(lc f105 c105 [a,b,c]).1) _ (by conv=>rhs;cbv)) Zly Zou ZjC
def c106:VCode:=G (a:=cc f106 (ov:=[(22,0,[]),(25,0,[])]) (dr:=[(30,[64])])) _ (by conv=>rhs;cbv)
def ZmN:VCode:=G (a:=lp 0 (lc f106 c106)) _ (by conv=>rhs;cbv)
def v106:VFun:=(fun a=>G (a:=(lc f106 c106 [a] (k:=true)).1) _ (by conv=>rhs;cbv)) ZmN
def c107:VCode:=G (a:=cc f107) _ (by conv=>rhs;cbv)
def Zlx:VCode:=G (a:=lp 0 (lc f107 c107)) _ (by conv=>rhs;cbv)
def v107:VFun:=(fun a=>G (a:=(lc f107 c107 [a]).1) _ (by conv=>rhs;cbv)) Zlx
def c111:VCode:=G (a:=cc f111 (ov:=[(35,0,[]),(44,1,[0])]) (dr:=[(25,[1472]),(46,[2304,2912,2913,2914])])) _ (by conv=>rhs;cbv)
def ZtD:VCode:=G (a:=lp 0 (lc f111 c111)) _ (by conv=>rhs;cbv)
def v111:VFun:=(fun a=>G (a:=(lc f111 c111 [a] (k:=true)).1) _ (by conv=>rhs;cbv)) ZtD
def v109:VFun:=G (a:=(lc f109 (cc f109)).1) _ (by conv=>rhs;cbv)
def c110:VCode:=G (a:=cc f110) _ (by conv=>rhs;cbv)
def Zu9:VCode:=G (a:=lp 0 (lc f110 c110)) _ (by conv=>rhs;cbv)
def v110:VFun:=(fun a=>G (a:=(lc f110 c110 [a]).1) _ (by conv=>rhs;cbv)) Zu9
def v115:VFun:=G (a:=(lc f115 (cc f115)).1) _ (by conv=>rhs;cbv)
def c117:VCode:=G (a:=cc f117 (ov:=[(19,3,[4,5]),(21,3,[0,5]),(44,5,[])]) (dr:=[(41,[2432])])) _ (by conv=>rhs;cbv)
def ZtX:VCode:=G (a:=lp 0 (lc f117 c117)) _ (by conv=>rhs;cbv)
def v117:VFun:=(fun a=>G (a:=(lc f117 c117 [a]).1) _ (by conv=>rhs;cbv)) ZtX
def v118:VFun:=G (a:=(lc f118 (cc f118)).1) _ (by conv=>rhs;cbv)
def c119:VCode:=G (a:=cc f119 (ov:=[(25,3,[4,5]),(27,3,[0,5]),(50,5,[])]) (dr:=[(47,[2816])])) _ (by conv=>rhs;cbv)
def ZpD:VCode:=G (a:=lp 0 (lc f119 c119)) _ (by conv=>rhs;cbv)
def v119:VFun:=(fun a=>G (a:=(lc f119 c119 [a]).1) _ (by conv=>rhs;cbv)) ZpD
def v120:VFun:=G (a:=(lc f120 (cc f120)).1) _ (by conv=>rhs;cbv)
def c121:VCode:=G (a:=cc f121 (ov:=[(5,3,[2,1,3,3]),(35,3,[2,5]),(48,5,[]),(58,5,[])]) (dr:=[(14,[1216]),(29,[2240,2304,2307]),(38,[2752]),(46,[3200]),(53,[2240,3200])])) _ (by conv=>rhs;cbv)
def ZsZ:VCode:=G (a:=lp 0 (lc f121 c121)) _ (by conv=>rhs;cbv)
def Zye:VCode:=(fun a=>G (a:=lp 1 (lc f121 c121 [a])) _ (by conv=>rhs;cbv)) ZsZ
def l121_2:VCode:=(fun a b=>G (a:=lp 2 (lc f121 c121 [a,b])) _ (by conv=>rhs;cbv)) ZsZ Zye
def v121:VFun:=(fun a b c=>G (a:=(lc f121 c121 [a,b,c]).1) _ (by conv=>rhs;cbv)) ZsZ Zye l121_2
def c123:VCode:=G (a:=cc f123 (dr:=[(58,[896]),(122,[5376]),(163,[8768]),(167,[8768])])) _ (by conv=>rhs;cbv)
def Zj1:VCode:=G (a:=lp 0 (lc f123 c123)) _ (by conv=>rhs;cbv)
def ZmR:VCode:=(fun a=>G (a:=lp 1 (lc f123 c123 [a])) _ (by conv=>rhs;cbv)) Zj1
def Zp0:VCode:=(fun a b=>G (a:=lp 2 (lc f123 c123 [a,b])) _ (by conv=>rhs;cbv)) Zj1 ZmR
def Zrm:VCode:=(fun a b c=>G (a:=lp 3 (lc f123 c123 [a,b,c])) _ (by conv=>rhs;cbv)) Zj1 ZmR Zp0
def ZyI:VCode:=(fun a b c d=>G (a:=lp 4 (lc f123 c123 [a,b,c,d])) _ (by conv=>rhs;cbv)) Zj1 ZmR Zp0 Zrm
def l123_5:VCode:=(fun a b c d e=>G (a:=lp 5 (lc f123 c123 [a,b,c,d,e])) _ (by conv=>rhs;cbv)) Zj1 ZmR Zp0 Zrm ZyI
def v123:VFun:=(fun a b c d e g=>G (a:=(lc f123 c123 [a,b,c,d,e,g]).1) _ (by conv=>rhs;cbv)) Zj1 ZmR Zp0 Zrm ZyI l123_5
def v124:VFun:=G (a:=(lc f124 (cc f124)).1) _ (by conv=>rhs;cbv)
def v125:VFun:=G (a:=(lc f125 (cc f125)).1) _ (by conv=>rhs;cbv)
def v126:VFun:=G (a:=(lc f126 (cc f126)).1) _ (by conv=>rhs;cbv)
def v127:VFun:=G (a:=(lc f127 (cc f127)).1) _ (by conv=>rhs;cbv)
def v128:VFun:=G (a:=(lc f128 (cc f128)).1) _ (by conv=>rhs;cbv)
def v129:VFun:=G (a:=(lc f129 (cc f129)).1) _ (by conv=>rhs;cbv)
def c130:VCode:=G (a:=cc f130 (ov:=[(7,3,[5,14]),(16,3,[2,1]),(41,5,[]),(51,5,[])]) (dr:=[(10,[1024,1088,1091]),(19,[1536]),(39,[2752]),(46,[1024,2752])])) _ (by conv=>rhs;cbv)
def ZyP:VCode:=G (a:=lp 0 (lc f130 c130)) _ (by conv=>rhs;cbv)
def l130_1:VCode:=(fun a=>G (a:=lp 1 (lc f130 c130 [a])) _ (by conv=>rhs;cbv)) ZyP
def v130:VFun:=(fun a b=>G (a:=(lc f130 c130 [a,b]).1) _ (by conv=>rhs;cbv)) ZyP l130_1
def v131:VFun:=G (a:=(lc f131 (cc f131 (dr:=[(73,[4224])]))).1) _ (by conv=>rhs;cbv)
def v132:VFun:=G (a:=(lc f132 (cc f132)).1) _ (by conv=>rhs;cbv)
def c133:VCode:=G (a:=cc f133 (dr:=[(6,[64])])) _ (by conv=>rhs;cbv)
def l133_0:VCode:=G (a:=lp 0 (lc f133 c133)) _ (by conv=>rhs;cbv)
def v133:VFun:=(fun a=>G (a:=(lc f133 c133 [a]).1) _ (by conv=>rhs;cbv)) l133_0
def c134:VCode:=G (a:=cc f134 (dr:=[(15,[64])])) _ (by conv=>rhs;cbv)
def l134_0:VCode:=G (a:=lp 0 (lc f134 c134)) _ (by conv=>rhs;cbv)
def v134:VFun:=(fun a=>G (a:=(lc f134 c134 [a]).1) _ (by conv=>rhs;cbv)) l134_0
def c135:VCode:=G (a:=cc f135 (ov:=[(1,4,[0,7])]) (dr:=[(23,[1344]),(33,[1344,1984])])) _ (by conv=>rhs;cbv)
def ZsM:VCode:=G (a:=lp 0 (lc f135 c135)) _ (by conv=>rhs;cbv)
def v135:VFun:=(fun a=>G (a:=(lc f135 c135 [a]).1) _ (by conv=>rhs;cbv)) ZsM
def v136:VFun:=G (a:=(lc f136 (cc f136 (ov:=[(15,1,[2,3])]) (dr:=[(17,[64,128]),(19,[64,128])]))).1) _ (by conv=>rhs;cbv)
def c137:VCode:=G (a:=cc f137 (ov:=[(2,4,[0,1])]) (dr:=[(7,[320]),(28,[1664])])) _ (by conv=>rhs;cbv)
def ZrH:VCode:=G (a:=lp 0 (lc f137 c137)) _ (by conv=>rhs;cbv)
def v137:VFun:=(fun a=>G (a:=(lc f137 c137 [a]).1) _ (by conv=>rhs;cbv)) ZrH
def c138:VCode:=G (a:=cc f138 (ov:=[(27,4,[0,5])]) (dr:=[(59,[3648])])) _ (by conv=>rhs;cbv)
def ZuM:VCode:=G (a:=lp 0 (lc f138 c138)) _ (by conv=>rhs;cbv)
def v138:VFun:=(fun a=>G (a:=(lc f138 c138 [a]).1) _ (by conv=>rhs;cbv)) ZuM
def c139:VCode:=G (a:=cc f139 (ov:=[(34,4,[0,4])]) (dr:=[(13,[576,640]),(34,[64]),(67,[3264]),(120,[6336])])) _ (by conv=>rhs;cbv)
def ZlN:VCode:=G (a:=lp 0 (lc f139 c139)) _ (by conv=>rhs;cbv)
def Zo7:VCode:=(fun a=>G (a:=lp 1 (lc f139 c139 [a])) _ (by conv=>rhs;cbv)) ZlN
def ZuE:VCode:=(fun a b=>G (a:=lp 2 (lc f139 c139 [a,b])) _ (by conv=>rhs;cbv)) ZlN Zo7
def v139:VFun:=(fun a b c=>G (a:=(lc f139 c139 [a,b,c]).1) _ (by conv=>rhs;cbv)) ZlN Zo7 ZuE
def c140:VCode:=G (a:=cc f140 (ov:=[(6,4,[0,6])]) (dr:=[(6,[256]),(22,[1280])])) _ (by conv=>rhs;cbv)
def ZvN:VCode:=G (a:=lp 0 (lc f140 c140)) _ (by conv=>rhs;cbv)
def v140:VFun:=(fun a=>G (a:=(lc f140 c140 [a]).1) _ (by conv=>rhs;cbv)) ZvN
def c141:VCode:=G (a:=cc f141) _ (by conv=>rhs;cbv)
def Zsu:VCode:=G (a:=lp 0 (lc f141 c141)) _ (by conv=>rhs;cbv)
def v141:VFun:=(fun a=>G (a:=(lc f141 c141 [a]).1) _ (by conv=>rhs;cbv)) Zsu
def v142:VFun:=G (a:=(lc f142 (cc f142)).1) _ (by conv=>rhs;cbv)
def v143:VFun:=G (a:=(lc f143 (cc f143)).1) _ (by conv=>rhs;cbv)
def v144:VFun:=G (a:=(lc f144 (cc f144)).1) _ (by conv=>rhs;cbv)
def v145:VFun:=G (a:=(lc f145 (cc f145)).1) _ (by conv=>rhs;cbv)
def v146:VFun:=G (a:=(lc f146 (cc f146 (dr:=[(33,[1984])]))).1) _ (by conv=>rhs;cbv)
def c147:VCode:=G (a:=cc f147 (dr:=[(15,[864,865,866])])) _ (by conv=>rhs;cbv)
def Zpu:VCode:=G (a:=lp 0 (lc f147 c147)) _ (by conv=>rhs;cbv)
def v147:VFun:=(fun a=>G (a:=(lc f147 c147 [a]).1) _ (by conv=>rhs;cbv)) Zpu
def v149:VFun:=G (a:=(lc f149 (cc f149 (ov:=[(4,7,[]),(6,7,[])])) (k:=true)).1) _ (by conv=>rhs;cbv)
def c148:VCode:=G (a:=cc f148 (dr:=[(15,[864,865,866])])) _ (by conv=>rhs;cbv)
def Zmi:VCode:=G (a:=lp 0 (lc f148 c148)) _ (by conv=>rhs;cbv)
def v148:VFun:=(fun a=>G (a:=(lc f148 c148 [a]).1) _ (by conv=>rhs;cbv)) Zmi
def v150:VFun:=G (a:=(lc f150 (cc f150) (k:=true)).1) _ (by conv=>rhs;cbv)
def v152:VFun:=G (a:=(lc f152 (cc f152)).1) _ (by conv=>rhs;cbv)
def v153:VFun:=G (a:=(lc f153 (cc f153)).1) _ (by conv=>rhs;cbv)
def v154:VFun:=G (a:=(lc f154 (cc f154)).1) _ (by conv=>rhs;cbv)
def v156:VFun:=G (a:=(lc f156 (cc f156)).1) _ (by conv=>rhs;cbv)
def v157:VFun:=G (a:=(lc f157 (cc f157)).1) _ (by conv=>rhs;cbv)
def v158:VFun:=G (a:=(lc f158 (cc f158)).1) _ (by conv=>rhs;cbv)
def c159:VCode:=G (a:=cc f159 (dr:=[(87,[4992])])) _ (by conv=>rhs;cbv)
def ZpT:VCode:=G (a:=lp 0 (lc f159 c159)) _ (by conv=>rhs;cbv)
def ZsN:VCode:=(fun a=>G (a:=lp 1 (lc f159 c159 [a])) _ (by conv=>rhs;cbv)) ZpT
def v159:VFun:=(fun a b=>G (a:=(lc f159 c159 [a,b]).1) _ (by conv=>rhs;cbv)) ZpT ZsN
def v160:VFun:=G (a:=(lc f160 (cc f160)).1) _ (by conv=>rhs;cbv)
def a2_0:TL:=[(88,v88),(89,v89),(91,v91),(92,v92),(93,v93),(94,v94),(95,v95),(96,v96),(97,v97),(99,v99),(98,v98),(100,v100),(101,v101),(102,v102),(103,v103),(104,v104)]
theorem k2_0:a2_0.all mP=true:=by kernel_rfl
def a2_1:TL:=[(105,v105),(106,v106),(107,v107),(111,v111),(109,v109),(110,v110),(115,v115),(117,v117),(118,v118),(119,v119),(120,v120),(121,v121),(123,v123),(124,v124),(125,v125),(126,v126)]
theorem k2_1:a2_1.all mP=true:=by kernel_rfl
def a2_2:TL:=[(127,v127),(128,v128),(129,v129),(130,v130),(131,v131),(132,v132),(133,v133),(134,v134),(135,v135),(136,v136),(137,v137),(138,v138),(139,v139),(140,v140),(141,v141),(142,v142)]
theorem k2_2:a2_2.all mP=true:=by kernel_rfl
def a2_3:TL:=[(143,v143),(144,v144),(145,v145),(146,v146),(147,v147),(148,v148),(150,v150),(152,v152),(153,v153),(154,v154),(156,v156),(157,v157),(158,v158),(159,v159),(160,v160)]
theorem k2_3:a2_3.all mP=true:=by kernel_rfl
theorem m149:mFun prog 149 v149=true:=by kernel_rfl
end
end Go.Vs.Tryz
