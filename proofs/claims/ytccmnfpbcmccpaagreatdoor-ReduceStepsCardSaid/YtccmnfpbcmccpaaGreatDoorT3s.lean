/- Functions of the program in the language of the value semantics,part 3,and that they match. -/
import Derived.Test.YtccmnfpbcmccpaaGreatDoorT0s
set_option linter.unusedSimpArgs false
set_option linter.unusedVariables false
set_option linter.deprecated false

namespace Go.Vs.Tryz
open Go Go.Vs Go.Proofs.Tryz
set_option maxRecDepth 100000
set_option maxHeartbeats 8000000
noncomputable section
def v162:VFun:=G (a:=(lc f162 (cc f162 (ov:=[(3,3,[0,1])]))).1) _ (by conv=>rhs;cbv)
def v161:VFun:=G (a:=(lc f161 (cc f161)).1) _ (by conv=>rhs;cbv)
def v163:VFun:=G (a:=(lc f163 (cc f163)).1) _ (by conv=>rhs;cbv)
def c164:VCode:=G (a:=cc f164 (ov:=[(11,0,[])]) (dr:=[(42,[2560]),(65,[2080,2081,2082,2560]),(75,[128])])) _ (by conv=>rhs;cbv)
def Zrq:VCode:=G (a:=lp 0 (lc f164 c164)) _ (by conv=>rhs;cbv)
def v164:VFun:=(fun a=>G (a:=(lc f164 c164 [a]).1) _ (by conv=>rhs;cbv)) Zrq
def v165:VFun:=G (a:=(lc f165 (cc f165)).1) _ (by conv=>rhs;cbv)
def c166:VCode:=G (a:=cc f166) _ (by conv=>rhs;cbv)
def Zud:VCode:=G (a:=lp 0 (lc f166 c166)) _ (by conv=>rhs;cbv)
def v166:VFun:=(fun a=>G (a:=(lc f166 c166 [a]).1) _ (by conv=>rhs;cbv)) Zud
def c168:VCode:=G (a:=cc f168) _ (by conv=>rhs;cbv)
def ZuW:VCode:=G (a:=lp 0 (lc f168 c168)) _ (by conv=>rhs;cbv)
def v168:VFun:=(fun a=>G (a:=(lc f168 c168 [a]).1) _ (by conv=>rhs;cbv)) ZuW
def v169:VFun:=G (a:=(lc f169 (cc f169)).1) _ (by conv=>rhs;cbv)
def v170:VFun:=G (a:=(lc f170 (cc f170)).1) _ (by conv=>rhs;cbv)
def v171:VFun:=G (a:=(lc f171 (cc f171)).1) _ (by conv=>rhs;cbv)
def v172:VFun:=G (a:=(lc f172 (cc f172)).1) _ (by conv=>rhs;cbv)
def c173:VCode:=G (a:=cc f173 (ov:=[(6,1,[1]),(7,3,[4,5]),(20,3,[4,5]),(23,5,[]),(28,5,[])]) (dr:=[(10,[960])])) _ (by conv=>rhs;cbv)
def l173_0:VCode:=G (a:=lp 0 (lc f173 c173)) _ (by conv=>rhs;cbv)
def v173:VFun:=(fun a=>G (a:=(lc f173 c173 [a]).1) _ (by conv=>rhs;cbv)) l173_0
def c174:VCode:=G (a:=cc f174) _ (by conv=>rhs;cbv)
def l174_0:VCode:=G (a:=lp 0 (lc f174 c174)) _ (by conv=>rhs;cbv)
def v174:VFun:=(fun a=>G (a:=(lc f174 c174 [a]).1) _ (by conv=>rhs;cbv)) l174_0
def v175:VFun:=G (a:=(lc f175 (cc f175)).1) _ (by conv=>rhs;cbv)
def v176:VFun:=G (a:=(lc f176 (cc f176)).1) _ (by conv=>rhs;cbv)
def v177:VFun:=G (a:=(lc f177 (cc f177)).1) _ (by conv=>rhs;cbv)
def c178:VCode:=G (a:=cc f178) _ (by conv=>rhs;cbv)
def l178_0:VCode:=G (a:=lp 0 (lc f178 c178)) _ (by conv=>rhs;cbv)
def v178:VFun:=(fun a=>G (a:=(lc f178 c178 [a]).1) _ (by conv=>rhs;cbv)) l178_0
def v179:VFun:=G (a:=(lc f179 (cc f179)).1) _ (by conv=>rhs;cbv)
def v180:VFun:=G (a:=(lc f180 (cc f180)).1) _ (by conv=>rhs;cbv)
def c181:VCode:=G (a:=cc f181) _ (by conv=>rhs;cbv)
def l181_0:VCode:=G (a:=lp 0 (lc f181 c181)) _ (by conv=>rhs;cbv)
def v181:VFun:=(fun a=>G (a:=(lc f181 c181 [a]).1) _ (by conv=>rhs;cbv)) l181_0
def c182:VCode:=G (a:=cc f182) _ (by conv=>rhs;cbv)
def l182_0:VCode:=G (a:=lp 0 (lc f182 c182)) _ (by conv=>rhs;cbv)
def v182:VFun:=(fun a=>G (a:=(lc f182 c182 [a]).1) _ (by conv=>rhs;cbv)) l182_0
def c183:VCode:=G (a:=cc f183) _ (by conv=>rhs;cbv)
def l183_0:VCode:=G (a:=lp 0 (lc f183 c183)) _ (by conv=>rhs;cbv)
def v183:VFun:=(fun a=>G (a:=(lc f183 c183 [a]).1) _ (by conv=>rhs;cbv)) l183_0
def c184:VCode:=G (a:=cc f184) _ (by conv=>rhs;cbv)
def ZrJ:VCode:=G (a:=lp 0 (lc f184 c184)) _ (by conv=>rhs;cbv)
def v184:VFun:=(fun a=>G (a:=(lc f184 c184 [a]).1) _ (by conv=>rhs;cbv)) ZrJ
def c185:VCode:=G (a:=cc f185 (ov:=[(92,1,[2,3])]) (dr:=[(37,[64,128])])) _ (by conv=>rhs;cbv)
def Zox:VCode:=G (a:=lp 0 (lc f185 c185)) _ (by conv=>rhs;cbv)
def v185:VFun:=(fun a=>G (a:=(lc f185 c185 [a]).1) _ (by conv=>rhs;cbv)) Zox
def c186:VCode:=G (a:=cc f186 (ov:=[(1,4,[0,5]),(12,1,[0])]) (dr:=[(14,[864,865,866])])) _ (by conv=>rhs;cbv)
def Zur:VCode:=G (a:=lp 0 (lc f186 c186)) _ (by conv=>rhs;cbv)
def v186:VFun:=(fun a=>G (a:=(lc f186 c186 [a]).1) _ (by conv=>rhs;cbv)) Zur
def c188:VCode:=G (a:=cc f188 (ov:=[(17,3,[4,5]),(19,3,[0,5]),(41,5,[])]) (dr:=[(38,[2240])])) _ (by conv=>rhs;cbv)
def Zon:VCode:=G (a:=lp 0 (lc f188 c188)) _ (by conv=>rhs;cbv)
def v188:VFun:=(fun a=>G (a:=(lc f188 c188 [a]).1) _ (by conv=>rhs;cbv)) Zon
def c187:VCode:=G (a:=cc f187 (ov:=[(6,4,[0,6])]) (dr:=[(6,[256]),(30,[1792])])) _ (by conv=>rhs;cbv)
def Zuq:VCode:=G (a:=lp 0 (lc f187 c187)) _ (by conv=>rhs;cbv)
def v187:VFun:=(fun a=>G (a:=(lc f187 c187 [a]).1) _ (by conv=>rhs;cbv)) Zuq
def c189:VCode:=G (a:=cc f189) _ (by conv=>rhs;cbv)
def Zoh:VCode:=G (a:=lp 0 (lc f189 c189)) _ (by conv=>rhs;cbv)
def Zyv:VCode:=(fun a=>G (a:=lp 1 (lc f189 c189 [a])) _ (by conv=>rhs;cbv)) Zoh
def v189:VFun:=(fun a b=>G (a:=(lc f189 c189 [a,b]).1) _ (by conv=>rhs;cbv)) Zoh Zyv
def c190:VCode:=G (a:=cc f190 (ov:=[(3,4,[0,5]),(34,4,[0,6])]) (dr:=[(22,[1280]),(31,[64]),(64,[2624,3968])])) _ (by conv=>rhs;cbv)
def Zov:VCode:=G (a:=lp 0 (lc f190 c190)) _ (by conv=>rhs;cbv)
def Zyf:VCode:=(fun a=>G (a:=lp 1 (lc f190 c190 [a])) _ (by conv=>rhs;cbv)) Zov
def v190:VFun:=(fun a b=>G (a:=(lc f190 c190 [a,b]).1) _ (by conv=>rhs;cbv)) Zov Zyf
def c191:VCode:=G (a:=cc f191 (ov:=[(31,3,[4,5]),(33,3,[0,5]),(56,5,[])]) (dr:=[(53,[3200])])) _ (by conv=>rhs;cbv)
def Zoy:VCode:=G (a:=lp 0 (lc f191 c191)) _ (by conv=>rhs;cbv)
def Zue:VCode:=(fun a=>G (a:=lp 1 (lc f191 c191 [a])) _ (by conv=>rhs;cbv)) Zoy
def v191:VFun:=(fun a b=>G (a:=(lc f191 c191 [a,b]).1) _ (by conv=>rhs;cbv)) Zoy Zue
def v192:VFun:=G (a:=(lc f192 (cc f192)).1) _ (by conv=>rhs;cbv)
def c193:VCode:=G (a:=cc f193 (ov:=[(5,4,[0,4]),(29,0,[]),(31,0,[]),(37,5,[])]) (dr:=[(41,[1728,1920,2048,2496])])) _ (by conv=>rhs;cbv)
def Zs1:VCode:=G (a:=lp 0 (lc f193 c193)) _ (by conv=>rhs;cbv)
def v193:VFun:=(fun a=>G (a:=(lc f193 c193 [a]).1) _ (by conv=>rhs;cbv)) Zs1
def c194:VCode:=G (a:=cc f194) _ (by conv=>rhs;cbv)
def Zvd:VCode:=G (a:=lp 0 (lc f194 c194)) _ (by conv=>rhs;cbv)
def v194:VFun:=(fun a=>G (a:=(lc f194 c194 [a]).1) _ (by conv=>rhs;cbv)) Zvd
def c195:VCode:=G (a:=cc f195 (ov:=[(1,4,[0,5]),(12,1,[0]),(17,4,[0,1])]) (dr:=[(14,[864,865,866]),(40,[2432])])) _ (by conv=>rhs;cbv)
def Zob:VCode:=G (a:=lp 0 (lc f195 c195)) _ (by conv=>rhs;cbv)
def Zvm:VCode:=(fun a=>G (a:=lp 1 (lc f195 c195 [a])) _ (by conv=>rhs;cbv)) Zob
def v195:VFun:=(fun a b=>G (a:=(lc f195 c195 [a,b]).1) _ (by conv=>rhs;cbv)) Zob Zvm
def c196:VCode:=G (a:=cc f196 (dr:=[(15,[864,865,866])])) _ (by conv=>rhs;cbv)
def ZvQ:VCode:=G (a:=lp 0 (lc f196 c196)) _ (by conv=>rhs;cbv)
def v196:VFun:=(fun a=>G (a:=(lc f196 c196 [a]).1) _ (by conv=>rhs;cbv)) ZvQ
def v198:VFun:=G (a:=(lc f198 (cc f198)).1) _ (by conv=>rhs;cbv)
def v199:VFun:=G (a:=(lc f199 (cc f199)).1) _ (by conv=>rhs;cbv)
def c197:VCode:=G (a:=cc f197) _ (by conv=>rhs;cbv)
def l197_0:VCode:=G (a:=lp 0 (lc f197 c197)) _ (by conv=>rhs;cbv)
def v197:VFun:=(fun a=>G (a:=(lc f197 c197 [a]).1) _ (by conv=>rhs;cbv)) l197_0
def c200:VCode:=G (a:=cc f200 (dr:=[(27,[576,1344]),(31,[576,1344,1696,1697,1698])])) _ (by conv=>rhs;cbv)
def l200_0:VCode:=G (a:=lp 0 (lc f200 c200)) _ (by conv=>rhs;cbv)
def v200:VFun:=(fun a=>G (a:=(lc f200 c200 [a]).1) _ (by conv=>rhs;cbv)) l200_0
def v151:VFun:=G (a:=(lc f151 (cc f151)).1) _ (by conv=>rhs;cbv)
def v155:VFun:=G (a:=(lc f155 (cc f155)).1) _ (by conv=>rhs;cbv)
def v204:VFun:=G (a:=(lc f204 (cc f204)).1) _ (by conv=>rhs;cbv)
def c203:VCode:=G (a:=cc f203 (dr:=[(15,[864,865,866])])) _ (by conv=>rhs;cbv)
def Zu5:VCode:=G (a:=lp 0 (lc f203 c203)) _ (by conv=>rhs;cbv)
def v203:VFun:=(fun a=>G (a:=(lc f203 c203 [a]).1) _ (by conv=>rhs;cbv)) Zu5
def c205:VCode:=G (a:=cc f205 (dr:=[(20,[896]),(36,[1920])])) _ (by conv=>rhs;cbv)
def Zmp:VCode:=G (a:=lp 0 (lc f205 c205)) _ (by conv=>rhs;cbv)
def Zpd:VCode:=(fun a=>G (a:=lp 1 (lc f205 c205 [a])) _ (by conv=>rhs;cbv)) Zmp
def v205:VFun:=(fun a b=>G (a:=(lc f205 c205 [a,b]).1) _ (by conv=>rhs;cbv)) Zmp Zpd
def c207:VCode:=G (a:=cc f207 (ov:=[(1,4,[0,1]),(46,1,[0]),(53,1,[0])]) (dr:=[(43,[1184,1185,1186,2624])])) _ (by conv=>rhs;cbv)
def Zlz:VCode:=G (a:=lp 0 (lc f207 c207)) _ (by conv=>rhs;cbv)
def ZoB:VCode:=(fun a=>G (a:=lp 1 (lc f207 c207 [a])) _ (by conv=>rhs;cbv)) Zlz
def v207:VFun:=(fun a b=>G (a:=(lc f207 c207 [a,b]).1) _ (by conv=>rhs;cbv)) Zlz ZoB
def v206:VFun:=G (a:=(lc f206 (cc f206)).1) _ (by conv=>rhs;cbv)
def c208:VCode:=G (a:=cc f208 (ov:=[(42,1,[0])]) (dr:=[(11,[576]),(32,[64]),(44,[2784,2785,2786])])) _ (by conv=>rhs;cbv)
def Zp3:VCode:=G (a:=lp 0 (lc f208 c208)) _ (by conv=>rhs;cbv)
def Zry:VCode:=(fun a=>G (a:=lp 1 (lc f208 c208 [a])) _ (by conv=>rhs;cbv)) Zp3
def v208:VFun:=(fun a b=>G (a:=(lc f208 c208 [a,b] (k:=true)).1) _ (by conv=>rhs;cbv)) Zp3 Zry
def c209:VCode:=G (a:=cc f209) _ (by conv=>rhs;cbv)
def l209_0:VCode:=G (a:=lp 0 (lc f209 c209)) _ (by conv=>rhs;cbv)
def v209:VFun:=(fun a=>G (a:=(lc f209 c209 [a]).1) _ (by conv=>rhs;cbv)) l209_0
def c210:VCode:=G (a:=cc f210 (ov:=[(46,1,[0])]) (dr:=[(48,[3040,3041,3042])])) _ (by conv=>rhs;cbv)
def Zpc:VCode:=G (a:=lp 0 (lc f210 c210)) _ (by conv=>rhs;cbv)
def ZoT:VCode:=(fun a=>G (a:=lp 1 (lc f210 c210 [a])) _ (by conv=>rhs;cbv)) Zpc
def v210:VFun:=(fun a b=>G (a:=(lc f210 c210 [a,b] (k:=true)).1) _ (by conv=>rhs;cbv)) Zpc ZoT
def v212:VFun:=G (a:=(lc f212 (cc f212)).1) _ (by conv=>rhs;cbv)
def c211:VCode:=G (a:=cc f211) _ (by conv=>rhs;cbv)
def Zuh:VCode:=G (a:=lp 0 (lc f211 c211)) _ (by conv=>rhs;cbv)
def v211:VFun:=(fun a=>G (a:=(lc f211 c211 [a]).1) _ (by conv=>rhs;cbv)) Zuh
def v213:VFun:=G (a:=(lc f213 (cc f213)).1) _ (by conv=>rhs;cbv)
def v214:VFun:=G (a:=(lc f214 (cc f214 (ov:=[(9,0,[]),(20,0,[])]) (dr:=[(18,[896]),(27,[64,1536])]))).1) _ (by conv=>rhs;cbv)
def v215:VFun:=G (a:=(lc f215 (cc f215)).1) _ (by conv=>rhs;cbv)
def c216:VCode:=G (a:=cc f216 (ov:=[(6,4,[0,5]),(37,4,[0,5]),(170,4,[0,5])]) (dr:=[(25,[832,1472]),(34,[128]),(59,[3840,3904]),(75,[5248]),(90,[3840,3904]),(102,[6976,7040,5248]),(118,[7744]),(140,[8704,8768]),(159,[2304,192]),(167,[2112]),(170,[2112]),(205,[12672,12992]),(230,[14272,14592])])) _ (by conv=>rhs;cbv)
def Zj3:VCode:=G (a:=lp 0 (lc f216 c216)) _ (by conv=>rhs;cbv)
def Zf4:VCode:=(fun a=>G (a:=lp 1 (lc f216 c216 [a])) _ (by conv=>rhs;cbv)) Zj3
def Zl0:VCode:=(fun a b=>G (a:=lp 2 (lc f216 c216 [a,b])) _ (by conv=>rhs;cbv)) Zj3 Zf4
def Zjs:VCode:=(fun a b c=>G (a:=lp 3 (lc f216 c216 [a,b,c])) _ (by conv=>rhs;cbv)) Zj3 Zf4 Zl0
def v216:VFun:=(fun a b c d=>G (a:=(lc f216 c216 [a,b,c,d]).1) _ (by conv=>rhs;cbv)) Zj3 Zf4 Zl0 Zjs
def c217:VCode:=G (a:=cc f217 (ov:=[(2,4,[0,5])]) (dr:=[(15,[832])])) _ (by conv=>rhs;cbv)
def ZuQ:VCode:=G (a:=lp 0 (lc f217 c217)) _ (by conv=>rhs;cbv)
def v217:VFun:=(fun a=>G (a:=(lc f217 c217 [a]).1) _ (by conv=>rhs;cbv)) ZuQ
def v218:VFun:=G (a:=(lc f218 (cc f218)).1) _ (by conv=>rhs;cbv)
def v219:VFun:=G (a:=(lc f219 (cc f219)).1) _ (by conv=>rhs;cbv)
def c201:VCode:=G (a:=cc f201 (ov:=[(9,4,[0,1])]) (dr:=[(48,[2944]),(50,[1216])])) _ (by conv=>rhs;cbv)
def ZpZ:VCode:=G (a:=lp 0 (lc f201 c201)) _ (by conv=>rhs;cbv)
def Zpo:VCode:=(fun a=>G (a:=lp 1 (lc f201 c201 [a])) _ (by conv=>rhs;cbv)) ZpZ
def v201:VFun:=(fun a b=>G (a:=(lc f201 c201 [a,b]).1) _ (by conv=>rhs;cbv)) ZpZ Zpo
def c202:VCode:=G (a:=cc f202 (dr:=[(53,[2752]),(82,[4224])])) _ (by conv=>rhs;cbv)
def Zpm:VCode:=G (a:=lp 0 (lc f202 c202)) _ (by conv=>rhs;cbv)
def Zhl:VCode:=(fun a=>G (a:=lp 1 (lc f202 c202 [a])) _ (by conv=>rhs;cbv)) Zpm
def v202:VFun:=(fun a b=>G (a:=(lc f202 c202 [a,b]).1) _ (by conv=>rhs;cbv)) Zpm Zhl
def v225:VFun:=G (a:=(lc f225 (cc f225)).1) _ (by conv=>rhs;cbv)
def v226:VFun:=G (a:=(lc f226 (cc f226) (k:=true)).1) _ (by conv=>rhs;cbv)
def v227:VFun:=G (a:=(lc f227 (cc f227)).1) _ (by conv=>rhs;cbv)
def v228:VFun:=G (a:=(lc f228 (cc f228 (ov:=[(8,1,[0])]))).1) _ (by conv=>rhs;cbv)
def c229:VCode:=G (a:=cc f229) _ (by conv=>rhs;cbv)
def ZoJ:VCode:=G (a:=lp 0 (lc f229 c229)) _ (by conv=>rhs;cbv)
def ZrR:VCode:=(fun a=>G (a:=lp 1 (lc f229 c229 [a])) _ (by conv=>rhs;cbv)) ZoJ
def v229:VFun:=(fun a b=>G (a:=(lc f229 c229 [a,b] (k:=true)).1) _ (by conv=>rhs;cbv)) ZoJ ZrR
def c230:VCode:=G (a:=cc f230) _ (by conv=>rhs;cbv)
def Ztx:VCode:=G (a:=lp 0 (lc f230 c230)) _ (by conv=>rhs;cbv)
def v230:VFun:=(fun a=>G (a:=(lc f230 c230 [a]).1) _ (by conv=>rhs;cbv)) Ztx
def v231:VFun:=G (a:=(lc f231 (cc f231 (ov:=[(18,0,[]),(24,0,[])]) (dr:=[(36,[64,2112]),(42,[128])]))).1) _ (by conv=>rhs;cbv)
def v232:VFun:=G (a:=(lc f232 (cc f232 (dr:=[(29,[128,1088])]))).1) _ (by conv=>rhs;cbv)
def v233:VFun:=G (a:=(lc f233 (cc f233 (dr:=[(15,[128,192])]))).1) _ (by conv=>rhs;cbv)
def v234:VFun:=G (a:=(lc f234 (cc f234)).1) _ (by conv=>rhs;cbv)
def v235:VFun:=G (a:=(lc f235 (cc f235)).1) _ (by conv=>rhs;cbv)
def c236:VCode:=G (a:=cc f236 (ov:=[(4,4,[0,6]),(24,4,[0,5])]) (dr:=[(21,[1216]),(40,[2432])])) _ (by conv=>rhs;cbv)
def Zpr:VCode:=G (a:=lp 0 (lc f236 c236)) _ (by conv=>rhs;cbv)
def ZsC:VCode:=(fun a=>G (a:=lp 1 (lc f236 c236 [a])) _ (by conv=>rhs;cbv)) Zpr
def v236:VFun:=(fun a b=>G (a:=(lc f236 c236 [a,b]).1) _ (by conv=>rhs;cbv)) Zpr ZsC
def v220:VFun:=G (a:=(lc f220 (cc f220 (dr:=[(12,[320,640])]))).1) _ (by conv=>rhs;cbv)
def a3_0:TL:=[(162,v162),(161,v161),(163,v163),(164,v164),(165,v165),(166,v166),(168,v168),(169,v169),(170,v170),(171,v171),(172,v172),(173,v173),(174,v174),(175,v175),(176,v176),(177,v177)]
theorem k3_0:a3_0.all mP=true:=by kernel_rfl
def a3_1:TL:=[(178,v178),(179,v179),(180,v180),(181,v181),(182,v182),(183,v183),(184,v184),(185,v185),(186,v186),(188,v188),(187,v187),(189,v189),(190,v190),(191,v191),(192,v192),(193,v193)]
theorem k3_1:a3_1.all mP=true:=by kernel_rfl
def a3_2:TL:=[(194,v194),(195,v195),(196,v196),(198,v198),(199,v199),(197,v197),(200,v200),(151,v151),(155,v155),(204,v204),(203,v203),(205,v205),(207,v207),(206,v206),(208,v208),(209,v209)]
theorem k3_2:a3_2.all mP=true:=by kernel_rfl
def a3_3:TL:=[(210,v210),(212,v212),(211,v211),(213,v213),(214,v214),(215,v215),(216,v216),(217,v217),(218,v218),(219,v219),(201,v201),(202,v202),(225,v225),(226,v226),(227,v227),(228,v228)]
theorem k3_3:a3_3.all mP=true:=by kernel_rfl
def a3_4:TL:=[(229,v229),(230,v230),(231,v231),(232,v232),(233,v233),(234,v234),(235,v235),(236,v236),(220,v220)]
theorem k3_4:a3_4.all mP=true:=by kernel_rfl
end
end Go.Vs.Tryz
