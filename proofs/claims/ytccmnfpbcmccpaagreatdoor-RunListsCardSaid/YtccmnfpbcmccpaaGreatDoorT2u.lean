/- Functions of the program in the language of the value semantics,part 2,and that they match. -/
import Derived.Test.YtccmnfpbcmccpaaGreatDoorT0u
set_option linter.unusedSimpArgs false
set_option linter.unusedVariables false
set_option linter.deprecated false

/- Functions of the program in the language of the value semantics,part 2,and that they match. -/
namespace Go.Vs.Tryz
open Go Go.Vs Go.Proofs.Tryz
set_option maxRecDepth 100000
set_option maxHeartbeats 8000000
noncomputable section
def v94:=G (F1 f94)
def v95:=G (F1 f95)
def v96:=G (F1 f96)
def v97:=G (F1 f97)
def c99:=G (cc f99 (dr:=[(21,[896,1216])]))
def JT:=G (lp 0 (lc f99 c99))
def v99:=(fun a=>G (lc f99 c99 [a] (k:=true)).1) JT
def v98:=G (F1 f98)
def v100:=G (F1 f100)
def v101:=G (lc f101 (cc f101) (k:=true)).1
def c102:=G (cc f102)
def LO:=G (lp 0 (lc f102 c102))
def v102:=(fun a=>G (lc f102 c102 [a] (k:=true)).1) LO
def c107:=G (cc f107)
def Lm:=G (lp 0 (lc f107 c107))
def v107:=(fun a=>G (lc f107 c107 [a]).1) Lm
def v115:=G (F1 f115)
def v120:=G (F1 f120)
def c121:=G (cc f121 (ov:=[(5,3,[2,1,3,3]),(35,3,[2,5]),(48,5,[]),(58,5,[])]) (dr:=[(14,[1216]),(29,[2240,2304,2307]),(38,[2752]),(46,[3200]),(53,[2240,3200])]))
def GV:=G (lp 0 (lc f121 c121))
def FT:=(fun a=>G (lp 1 (lc f121 c121 [a]))) GV
def I8:=(fun a b=>G (lp 2 (lc f121 c121 [a,b]))) GV FT
def v121:=(fun a b c=>G (lc f121 c121 [a,b,c]).1) GV FT I8
def v122:=G (F1 f122)
def c123:=G (cc f123 (dr:=[(58,[896]),(122,[5376]),(163,[8768]),(167,[8768])]))
def Eh:=G (lp 0 (lc f123 c123))
def Fc:=(fun a=>G (lp 1 (lc f123 c123 [a]))) Eh
def ER:=(fun a b=>G (lp 2 (lc f123 c123 [a,b]))) Eh Fc
def Gj:=(fun a b c=>G (lp 3 (lc f123 c123 [a,b,c]))) Eh Fc ER
def HD:=(fun a b c d=>G (lp 4 (lc f123 c123 [a,b,c,d]))) Eh Fc ER Gj
def IM:=(fun a b c d e=>G (lp 5 (lc f123 c123 [a,b,c,d,e]))) Eh Fc ER Gj HD
def v123:=(fun a b c d e g=>G (lc f123 c123 [a,b,c,d,e,g]).1) Eh Fc ER Gj HD IM
def v124:=G (F1 f124)
def v125:=G (F1 f125)
def v126:=G (F1 f126)
def v127:=G (F1 f127)
def v128:=G (F1 f128)
def v129:=G (F1 f129)
def c130:=G (cc f130 (ov:=[(7,3,[5,14]),(16,3,[2,1]),(41,5,[]),(51,5,[])]) (dr:=[(10,[1024,1088,1091]),(19,[1536]),(39,[2752]),(46,[1024,2752])]))
def F6:=G (lp 0 (lc f130 c130))
def Gy:=(fun a=>G (lp 1 (lc f130 c130 [a]))) F6
def v130:=(fun a b=>G (lc f130 c130 [a,b]).1) F6 Gy
def v131:=G (lc f131 (cc f131 (dr:=[(73,[4224])]))).1
def v132:=G (F1 f132)
def c133:=G (cc f133 (dr:=[(6,[64])]))
def MV:=G (lp 0 (lc f133 c133))
def v133:=(fun a=>G (lc f133 c133 [a]).1) MV
def c134:=G (cc f134 (dr:=[(15,[64])]))
def L1:=G (lp 0 (lc f134 c134))
def v134:=(fun a=>G (lc f134 c134 [a]).1) L1
def c141:=G (cc f141)
def Lt:=G (lp 0 (lc f141 c141))
def v141:=(fun a=>G (lc f141 c141 [a]).1) Lt
def v142:=G (F1 f142)
def v143:=G (F1 f143)
def v144:=G (F1 f144)
def v145:=G (F1 f145)
def v146:=G (lc f146 (cc f146 (dr:=[(33,[1984])]))).1
def c147:=G (cc f147 (dr:=[(15,[864,865,866])]))
def Jg:=G (lp 0 (lc f147 c147))
def v147:=(fun a=>G (lc f147 c147 [a]).1) Jg
def v149:=G (lc f149 (cc f149 (ov:=[(4,7,[]),(6,7,[])])) (k:=true)).1
def c148:=G (cc f148 (dr:=[(15,[864,865,866])]))
def Iv:=G (lp 0 (lc f148 c148))
def v148:=(fun a=>G (lc f148 c148 [a]).1) Iv
def v150:=G (lc f150 (cc f150) (k:=true)).1
def v152:=G (F1 f152)
def v153:=G (F1 f153)
def v154:=G (F1 f154)
def v156:=G (F1 f156)
def v157:=G (F1 f157)
def v158:=G (F1 f158)
def c159:=G (cc f159 (dr:=[(87,[4992])]))
def KH:=G (lp 0 (lc f159 c159))
def Mk:=(fun a=>G (lp 1 (lc f159 c159 [a]))) KH
def v159:=(fun a b=>G (lc f159 c159 [a,b]).1) KH Mk
def v170:=G (F1 f170)
def v171:=G (F1 f171)
def a2_0:TL:=[(94,v94),(95,v95),(96,v96),(97,v97),(99,v99),(98,v98),(100,v100),(101,v101),(102,v102),(107,v107),(115,v115),(120,v120),(121,v121),(122,v122),(123,v123),(124,v124)]
theorem k2_0:a2_0.all mP=true:=by kernel_rfl
def a2_1:TL:=[(125,v125),(126,v126),(127,v127),(128,v128),(129,v129),(130,v130),(131,v131),(132,v132),(133,v133),(134,v134),(141,v141),(142,v142),(143,v143),(144,v144),(145,v145),(146,v146)]
theorem k2_1:a2_1.all mP=true:=by kernel_rfl
def a2_2:TL:=[(147,v147),(148,v148),(150,v150),(152,v152),(153,v153),(154,v154),(156,v156),(157,v157),(158,v158),(159,v159),(170,v170),(171,v171)]
theorem k2_2:a2_2.all mP=true:=by kernel_rfl
theorem m149:mFun prog 149 v149=true:=by kernel_rfl
end
end Go.Vs.Tryz
