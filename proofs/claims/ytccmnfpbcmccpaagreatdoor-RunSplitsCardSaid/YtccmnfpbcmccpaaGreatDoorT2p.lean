/- Functions of the program in the language of the value semantics,part 2,and that they match. -/
import Derived.Test.YtccmnfpbcmccpaaGreatDoorT0p
set_option linter.unusedSimpArgs false
set_option linter.unusedVariables false
set_option linter.deprecated false

/- Functions of the program in the language of the value semantics,part 2,and that they match. -/
namespace Go.Vs.Tryz
open Go Go.Vs Go.Proofs.Tryz
set_option maxRecDepth 100000
set_option maxHeartbeats 8000000
noncomputable section
def v91:=G (F1 f91)
def v92:=G (F1 f92)
def v93:=G (F1 f93)
def v94:=G (F1 f94)
def v95:=G (F1 f95)
def v96:=G (F1 f96)
def v97:=G (F1 f97)
def c99:=G (cc f99 (dr:=[(21,[896,1216])]))
def Je:=G (lp 0 (lc f99 c99))
def v99:=(fun a=>G (lc f99 c99 [a] (k:=true)).1) Je
def v98:=G (F1 f98)
def v100:=G (F1 f100)
def v101:=G (lc f101 (cc f101) (k:=true)).1
def c102:=G (cc f102)
def M4:=G (lp 0 (lc f102 c102))
def v102:=(fun a=>G (lc f102 c102 [a] (k:=true)).1) M4
def c106:=G (cc f106 (ov:=[(22,0,[]),(25,0,[])]) (dr:=[(30,[64])]))
def Lw:=G (lp 0 (lc f106 c106))
def v106:=(fun a=>G (lc f106 c106 [a] (k:=true)).1) Lw
def c107:=G (cc f107)
def HV:=G (lp 0 (lc f107 c107))
def v107:=(fun a=>G (lc f107 c107 [a]).1) HV
def v115:=G (F1 f115)
def v116:=G (lc f116 (cc f116 (ov:=[(3,3,[0,1])]))).1
def c117:=G (cc f117 (ov:=[(19,3,[4,5]),(21,3,[0,5]),(44,5,[])]) (dr:=[(41,[2432])]))
def Mu:=G (lp 0 (lc f117 c117))
def v117:=(fun a=>G (lc f117 c117 [a]).1) Mu
def v118:=G (F1 f118)
def c119:=G (cc f119 (ov:=[(25,3,[4,5]),(27,3,[0,5]),(50,5,[])]) (dr:=[(47,[2816])]))
def Jl:=G (lp 0 (lc f119 c119))
def v119:=(fun a=>G (lc f119 c119 [a]).1) Jl
def v120:=G (F1 f120)
def c121:=G (cc f121 (ov:=[(5,3,[2,1,3,3]),(35,3,[2,5]),(48,5,[]),(58,5,[])]) (dr:=[(14,[1216]),(29,[2240,2304,2307]),(38,[2752]),(46,[3200]),(53,[2240,3200])]))
def Mq:=G (lp 0 (lc f121 c121))
def Pd:=(fun a=>G (lp 1 (lc f121 c121 [a]))) Mq
def Zau:=(fun a b=>G (lp 2 (lc f121 c121 [a,b]))) Mq Pd
def v121:=(fun a b c=>G (lc f121 c121 [a,b,c]).1) Mq Pd Zau
def v122:=G (F1 f122)
def c123:=G (cc f123 (dr:=[(58,[896]),(122,[5376]),(163,[8768]),(167,[8768])]))
def GZ:=G (lp 0 (lc f123 c123))
def Hq:=(fun a=>G (lp 1 (lc f123 c123 [a]))) GZ
def IQ:=(fun a b=>G (lp 2 (lc f123 c123 [a,b]))) GZ Hq
def Nv:=(fun a b c=>G (lp 3 (lc f123 c123 [a,b,c]))) GZ Hq IQ
def Ub:=(fun a b c d=>G (lp 4 (lc f123 c123 [a,b,c,d]))) GZ Hq IQ Nv
def ZdD:=(fun a b c d e=>G (lp 5 (lc f123 c123 [a,b,c,d,e]))) GZ Hq IQ Nv Ub
def v123:=(fun a b c d e g=>G (lc f123 c123 [a,b,c,d,e,g]).1) GZ Hq IQ Nv Ub ZdD
def v124:=G (F1 f124)
def v125:=G (F1 f125)
def v126:=G (F1 f126)
def v127:=G (F1 f127)
def v128:=G (F1 f128)
def v129:=G (F1 f129)
def v131:=G (lc f131 (cc f131 (dr:=[(73,[4224])]))).1
def v132:=G (F1 f132)
def c133:=G (cc f133 (dr:=[(6,[64])]))
def Zcr:=G (lp 0 (lc f133 c133))
def v133:=(fun a=>G (lc f133 c133 [a]).1) Zcr
def c134:=G (cc f134 (dr:=[(15,[64])]))
def Zdy:=G (lp 0 (lc f134 c134))
def v134:=(fun a=>G (lc f134 c134 [a]).1) Zdy
def c135:=G (cc f135 (ov:=[(1,4,[0,7])]) (dr:=[(23,[1344]),(33,[1344,1984])]))
def Nt:=G (lp 0 (lc f135 c135))
def v135:=(fun a=>G (lc f135 c135 [a]).1) Nt
def v136:=G (lc f136 (cc f136 (ov:=[(15,1,[2,3])]) (dr:=[(17,[64,128]),(19,[64,128])]))).1
def c137:=G (cc f137 (ov:=[(2,4,[0,1])]) (dr:=[(7,[320]),(28,[1664])]))
def Oy:=G (lp 0 (lc f137 c137))
def v137:=(fun a=>G (lc f137 c137 [a]).1) Oy
def c138:=G (cc f138 (ov:=[(27,4,[0,5])]) (dr:=[(59,[3648])]))
def K5:=G (lp 0 (lc f138 c138))
def v138:=(fun a=>G (lc f138 c138 [a]).1) K5
def c139:=G (cc f139 (ov:=[(34,4,[0,4])]) (dr:=[(13,[576,640]),(34,[64]),(67,[3264]),(120,[6336])]))
def G6:=G (lp 0 (lc f139 c139))
def JK:=(fun a=>G (lp 1 (lc f139 c139 [a]))) G6
def Lj:=(fun a b=>G (lp 2 (lc f139 c139 [a,b]))) G6 JK
def v139:=(fun a b c=>G (lc f139 c139 [a,b,c]).1) G6 JK Lj
def c140:=G (cc f140 (ov:=[(6,4,[0,6])]) (dr:=[(6,[256]),(22,[1280])]))
def L9:=G (lp 0 (lc f140 c140))
def v140:=(fun a=>G (lc f140 c140 [a]).1) L9
def c141:=G (cc f141)
def No:=G (lp 0 (lc f141 c141))
def v141:=(fun a=>G (lc f141 c141 [a]).1) No
def v142:=G (F1 f142)
def v143:=G (F1 f143)
def v144:=G (F1 f144)
def v145:=G (F1 f145)
def v146:=G (lc f146 (cc f146 (dr:=[(33,[1984])]))).1
def c147:=G (cc f147 (dr:=[(15,[864,865,866])]))
def Iq:=G (lp 0 (lc f147 c147))
def v147:=(fun a=>G (lc f147 c147 [a]).1) Iq
def v149:=G (lc f149 (cc f149 (ov:=[(4,7,[]),(6,7,[])])) (k:=true)).1
def c148:=G (cc f148 (dr:=[(15,[864,865,866])]))
def HP:=G (lp 0 (lc f148 c148))
def v148:=(fun a=>G (lc f148 c148 [a]).1) HP
def v150:=G (lc f150 (cc f150) (k:=true)).1
def v152:=G (F1 f152)
def v153:=G (F1 f153)
def v154:=G (F1 f154)
def v156:=G (F1 f156)
def v157:=G (F1 f157)
def v158:=G (F1 f158)
def c159:=G (cc f159 (dr:=[(87,[4992])]))
def ID:=G (lp 0 (lc f159 c159))
def M0:=(fun a=>G (lp 1 (lc f159 c159 [a]))) ID
def v159:=(fun a b=>G (lc f159 c159 [a,b]).1) ID M0
def c167:=G (cc f167 (ov:=[(30,1,[0])]) (dr:=[(18,[1024]),(32,[2016,2017,2018])]))
def JN:=G (lp 0 (lc f167 c167))
def v167:=(fun a=>G (lc f167 c167 [a] (k:=true)).1) JN
def c168:=G (cc f168)
def MA:=G (lp 0 (lc f168 c168))
def v168:=(fun a=>G (lc f168 c168 [a]).1) MA
def v169:=G (F1 f169)
def v170:=G (F1 f170)
def v171:=G (F1 f171)
def v172:=G (F1 f172)
def c173:=G (cc f173 (ov:=[(6,1,[1]),(7,3,[4,5]),(20,3,[4,5]),(23,5,[]),(28,5,[])]) (dr:=[(10,[960])]))
def Zd4:=G (lp 0 (lc f173 c173))
def v173:=(fun a=>G (lc f173 c173 [a]).1) Zd4
def c174:=G (cc f174)
def ZdK:=G (lp 0 (lc f174 c174))
def v174:=(fun a=>G (lc f174 c174 [a]).1) ZdK
def v175:=G (F1 f175)
def v176:=G (F1 f176)
def a2_0:TL:=[(91,v91),(92,v92),(93,v93),(94,v94),(95,v95),(96,v96),(97,v97),(99,v99),(98,v98),(100,v100),(101,v101),(102,v102),(106,v106),(107,v107),(115,v115),(116,v116)]
theorem k2_0:a2_0.all mP=true:=by kernel_rfl
def a2_1:TL:=[(117,v117),(118,v118),(119,v119),(120,v120),(121,v121),(122,v122),(123,v123),(124,v124),(125,v125),(126,v126),(127,v127),(128,v128),(129,v129),(131,v131),(132,v132),(133,v133)]
theorem k2_1:a2_1.all mP=true:=by kernel_rfl
def a2_2:TL:=[(134,v134),(135,v135),(136,v136),(137,v137),(138,v138),(139,v139),(140,v140),(141,v141),(142,v142),(143,v143),(144,v144),(145,v145),(146,v146),(147,v147),(148,v148),(150,v150)]
theorem k2_2:a2_2.all mP=true:=by kernel_rfl
def a2_3:TL:=[(152,v152),(153,v153),(154,v154),(156,v156),(157,v157),(158,v158),(159,v159),(167,v167),(168,v168),(169,v169),(170,v170),(171,v171),(172,v172),(173,v173),(174,v174),(175,v175)]
theorem k2_3:a2_3.all mP=true:=by kernel_rfl
def a2_4:TL:=[(176,v176)]
theorem k2_4:a2_4.all mP=true:=by kernel_rfl
theorem m149:mFun prog 149 v149=true:=by kernel_rfl
end
end Go.Vs.Tryz
