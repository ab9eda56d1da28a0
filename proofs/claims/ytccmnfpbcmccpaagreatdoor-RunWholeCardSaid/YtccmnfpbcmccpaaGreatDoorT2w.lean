/- Functions of the program in the language of the value semantics,part 2,and that they match. -/
import Derived.Test.YtccmnfpbcmccpaaGreatDoorT0w
set_option linter.all false

/- Functions of the program in the language of the value semantics,part 2,and that they match. -/
namespace Go.Vs.Tryz
open Go Go.Vs Go.Proofs.Tryz
set_option maxRecDepth 100000
set_option maxHeartbeats 8000000
noncomputable section
def c87:=G (cc f87 (ov:=[(20,4,[0,5]),(50,3,[5,14]),(79,3,[2,1]),(123,5,[]),(131,5,[])]) (dr:=[(34,[2048]),(93,[5632]),(100,[6208]),(109,[5632,6208]),(128,[5056,5120,5123,8000])]))
def I2:=G (lp 0 (lc f87 c87))
def Ja:=(fun a=>G (lp 1 (lc f87 c87 [a]))) I2
def M8:=(fun a b=>G (lp 2 (lc f87 c87 [a,b]))) I2 Ja
def v87:=(fun a b c=>G (lc f87 c87 [a,b,c]).1) I2 Ja M8
def c88:=G (cc f88)
def Pg:=G (lp 0 (lc f88 c88))
def v88:=(fun a=>G (lc f88 c88 [a]).1) Pg
def c89:=G (cc f89 (ov:=[(57,5,[])]) (dr:=[(59,[3008,3648])]))
def Ji:=G (lp 0 (lc f89 c89))
def v89:=(fun a=>G (lc f89 c89 [a]).1) Ji
def v91:=G (F1 f91)
def v92:=G (F1 f92)
def v93:=G (F1 f93)
def v94:=G (F1 f94)
def v95:=G (F1 f95)
def v96:=G (F1 f96)
def v97:=G (F1 f97)
def c99:=G (cc f99 (dr:=[(21,[896,1216])]))
def Js:=G (lp 0 (lc f99 c99))
def v99:=(fun a=>G (lc f99 c99 [a] (k:=true)).1) Js
def v98:=G (F1 f98)
def v100:=G (F1 f100)
def v101:=G (lc f101 (cc f101) (k:=true)).1
def c102:=G (cc f102)
def NO:=G (lp 0 (lc f102 c102))
def v102:=(fun a=>G (lc f102 c102 [a] (k:=true)).1) NO
def c103:=G (cc f103 (ov:=[(48,3,[4,11]),(53,3,[0,11]),(78,5,[]),(82,3,[4,11]),(84,3,[0,11]),(108,5,[]),(182,0,[])]) (dr:=[(36,[1856]),(46,[2752]),(75,[4608]),(80,[3072,1856]),(105,[6528]),(151,[9408]),(158,[64]),(163,[128]),(168,[8128,8192]),(185,[64])]))
def HG:=G (lp 0 (lc f103 c103))
def Hy:=(fun a=>G (lp 1 (lc f103 c103 [a]))) HG
def KT:=(fun a b=>G (lp 2 (lc f103 c103 [a,b]))) HG Hy
def v103:=(fun a b c=>G (lc f103 c103 [a,b,c]).1) HG Hy KT
def v104:=G (lc f104 (cc f104 (dr:=[(24,[896])]))).1
def c105:=G (cc f105 (dr:=[(38,[64]),(79,[1024,2304])]))
def HH:=G (lp 0 (lc f105 c105))
def JJ:=(fun a=>G (lp 1 (lc f105 c105 [a]))) HH
def HB:=(fun a b=>G (lp 2 (lc f105 c105 [a,b]))) HH JJ
def v105:=(fun a b c=>G (lc f105 c105 [a,b,c]).1) HH JJ HB
def c106:=G (cc f106 (ov:=[(22,0,[]),(25,0,[])]) (dr:=[(30,[64])]))
def I4:=G (lp 0 (lc f106 c106))
def v106:=(fun a=>G (lc f106 c106 [a] (k:=true)).1) I4
def c107:=G (cc f107)
def HR:=G (lp 0 (lc f107 c107))
def v107:=(fun a=>G (lc f107 c107 [a]).1) HR
def c111:=G (cc f111 (ov:=[(35,0,[]),(44,1,[0])]) (dr:=[(25,[1472]),(46,[2304,2912,2913,2914])]))
def Nn:=G (lp 0 (lc f111 c111))
def v111:=(fun a=>G (lc f111 c111 [a] (k:=true)).1) Nn
def v109:=G (F1 f109)
def c110:=G (cc f110)
def Mm:=G (lp 0 (lc f110 c110))
def v110:=(fun a=>G (lc f110 c110 [a]).1) Mm
def v115:=G (F1 f115)
def v116:=G (lc f116 (cc f116 (ov:=[(3,3,[0,1])]))).1
def c117:=G (cc f117 (ov:=[(19,3,[4,5]),(21,3,[0,5]),(44,5,[])]) (dr:=[(41,[2432])]))
def N6:=G (lp 0 (lc f117 c117))
def v117:=(fun a=>G (lc f117 c117 [a]).1) N6
def v118:=G (F1 f118)
def c119:=G (cc f119 (ov:=[(25,3,[4,5]),(27,3,[0,5]),(50,5,[])]) (dr:=[(47,[2816])]))
def Ks:=G (lp 0 (lc f119 c119))
def v119:=(fun a=>G (lc f119 c119 [a]).1) Ks
def v120:=G (F1 f120)
def c121:=G (cc f121 (ov:=[(5,3,[2,1,3,3]),(35,3,[2,5]),(48,5,[]),(58,5,[])]) (dr:=[(14,[1216]),(29,[2240,2304,2307]),(38,[2752]),(46,[3200]),(53,[2240,3200])]))
def P9:=G (lp 0 (lc f121 c121))
def Qr:=(fun a=>G (lp 1 (lc f121 c121 [a]))) P9
def Yo:=(fun a b=>G (lp 2 (lc f121 c121 [a,b]))) P9 Qr
def v121:=(fun a b c=>G (lc f121 c121 [a,b,c]).1) P9 Qr Yo
def v122:=G (F1 f122)
def c123:=G (cc f123 (dr:=[(58,[896]),(122,[5376]),(163,[8768]),(167,[8768])]))
def Ho:=G (lp 0 (lc f123 c123))
def I8:=(fun a=>G (lp 1 (lc f123 c123 [a]))) Ho
def Lv:=(fun a b=>G (lp 2 (lc f123 c123 [a,b]))) Ho I8
def Nx:=(fun a b c=>G (lp 3 (lc f123 c123 [a,b,c]))) Ho I8 Lv
def Sz:=(fun a b c d=>G (lp 4 (lc f123 c123 [a,b,c,d]))) Ho I8 Lv Nx
def Zr:=(fun a b c d e=>G (lp 5 (lc f123 c123 [a,b,c,d,e]))) Ho I8 Lv Nx Sz
def v123:=(fun a b c d e g=>G (lc f123 c123 [a,b,c,d,e,g]).1) Ho I8 Lv Nx Sz Zr
def v124:=G (F1 f124)
def v125:=G (F1 f125)
def v126:=G (F1 f126)
def v127:=G (F1 f127)
def v128:=G (F1 f128)
def v129:=G (F1 f129)
def v131:=G (lc f131 (cc f131 (dr:=[(73,[4224])]))).1
def v132:=G (F1 f132)
def c133:=G (cc f133 (dr:=[(6,[64])]))
def Zf1:=G (lp 0 (lc f133 c133))
def v133:=(fun a=>G (lc f133 c133 [a]).1) Zf1
def c134:=G (cc f134 (dr:=[(15,[64])]))
def Zag:=G (lp 0 (lc f134 c134))
def v134:=(fun a=>G (lc f134 c134 [a]).1) Zag
def c135:=G (cc f135 (ov:=[(1,4,[0,7])]) (dr:=[(23,[1344]),(33,[1344,1984])]))
def OF:=G (lp 0 (lc f135 c135))
def v135:=(fun a=>G (lc f135 c135 [a]).1) OF
def v136:=G (lc f136 (cc f136 (ov:=[(15,1,[2,3])]) (dr:=[(17,[64,128]),(19,[64,128])]))).1
def c137:=G (cc f137 (ov:=[(2,4,[0,1])]) (dr:=[(7,[320]),(28,[1664])]))
def OH:=G (lp 0 (lc f137 c137))
def v137:=(fun a=>G (lc f137 c137 [a]).1) OH
def c138:=G (cc f138 (ov:=[(27,4,[0,5])]) (dr:=[(59,[3648])]))
def NT:=G (lp 0 (lc f138 c138))
def v138:=(fun a=>G (lc f138 c138 [a]).1) NT
def c139:=G (cc f139 (ov:=[(34,4,[0,4])]) (dr:=[(13,[576,640]),(34,[64]),(67,[3264]),(120,[6336])]))
def Io:=G (lp 0 (lc f139 c139))
def JD:=(fun a=>G (lp 1 (lc f139 c139 [a]))) Io
def ME:=(fun a b=>G (lp 2 (lc f139 c139 [a,b]))) Io JD
def v139:=(fun a b c=>G (lc f139 c139 [a,b,c]).1) Io JD ME
def c140:=G (cc f140 (ov:=[(6,4,[0,6])]) (dr:=[(6,[256]),(22,[1280])]))
def N5:=G (lp 0 (lc f140 c140))
def v140:=(fun a=>G (lc f140 c140 [a]).1) N5
def c141:=G (cc f141)
def NJ:=G (lp 0 (lc f141 c141))
def v141:=(fun a=>G (lc f141 c141 [a]).1) NJ
def v142:=G (F1 f142)
def v143:=G (F1 f143)
def v144:=G (F1 f144)
def v145:=G (F1 f145)
def v146:=G (lc f146 (cc f146 (dr:=[(33,[1984])]))).1
def c147:=G (cc f147 (dr:=[(15,[864,865,866])]))
def KC:=G (lp 0 (lc f147 c147))
def v147:=(fun a=>G (lc f147 c147 [a]).1) KC
def v149:=G (lc f149 (cc f149 (ov:=[(4,7,[]),(6,7,[])])) (k:=true)).1
def c148:=G (cc f148 (dr:=[(15,[864,865,866])]))
def H0:=G (lp 0 (lc f148 c148))
def v148:=(fun a=>G (lc f148 c148 [a]).1) H0
def v150:=G (lc f150 (cc f150) (k:=true)).1
def v152:=G (F1 f152)
def v153:=G (F1 f153)
def v154:=G (F1 f154)
def v156:=G (F1 f156)
def v157:=G (F1 f157)
def v158:=G (F1 f158)
def c159:=G (cc f159 (dr:=[(87,[4992])]))
def Jb:=G (lp 0 (lc f159 c159))
def Na:=(fun a=>G (lp 1 (lc f159 c159 [a]))) Jb
def v159:=(fun a b=>G (lc f159 c159 [a,b]).1) Jb Na
def a2_0:TL:=[(87,v87),(88,v88),(89,v89),(91,v91),(92,v92),(93,v93),(94,v94),(95,v95),(96,v96),(97,v97),(99,v99),(98,v98),(100,v100),(101,v101),(102,v102),(103,v103)]
theorem k2_0:a2_0.all mP=true:=by kernel_rfl
def a2_1:TL:=[(104,v104),(105,v105),(106,v106),(107,v107),(111,v111),(109,v109),(110,v110),(115,v115),(116,v116),(117,v117),(118,v118),(119,v119),(120,v120),(121,v121),(122,v122),(123,v123)]
theorem k2_1:a2_1.all mP=true:=by kernel_rfl
def a2_2:TL:=[(124,v124),(125,v125),(126,v126),(127,v127),(128,v128),(129,v129),(131,v131),(132,v132),(133,v133),(134,v134),(135,v135),(136,v136),(137,v137),(138,v138),(139,v139),(140,v140)]
theorem k2_2:a2_2.all mP=true:=by kernel_rfl
def a2_3:TL:=[(141,v141),(142,v142),(143,v143),(144,v144),(145,v145),(146,v146),(147,v147),(148,v148),(150,v150),(152,v152),(153,v153),(154,v154),(156,v156),(157,v157),(158,v158),(159,v159)]
theorem k2_3:a2_3.all mP=true:=by kernel_rfl
theorem m149:mFun prog 149 v149=true:=by kernel_rfl
end
end Go.Vs.Tryz
