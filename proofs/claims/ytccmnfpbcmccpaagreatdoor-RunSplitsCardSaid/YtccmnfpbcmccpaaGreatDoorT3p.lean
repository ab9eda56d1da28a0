/- Functions of the program in the language of the value semantics,part 3,and that they match. -/
import Derived.Test.YtccmnfpbcmccpaaGreatDoorT0p
set_option linter.unusedSimpArgs false
set_option linter.unusedVariables false
set_option linter.deprecated false

/- Functions of the program in the language of the value semantics,part 3,and that they match. -/
namespace Go.Vs.Tryz
open Go Go.Vs Go.Proofs.Tryz
set_option maxRecDepth 100000
set_option maxHeartbeats 8000000
noncomputable section
def v177:=G (F1 f177)
def c178:=G (cc f178)
def U9:=G (lp 0 (lc f178 c178))
def v178:=(fun a=>G (lc f178 c178 [a]).1) U9
def v179:=G (F1 f179)
def v180:=G (F1 f180)
def c181:=G (cc f181)
def ZB:=G (lp 0 (lc f181 c181))
def v181:=(fun a=>G (lc f181 c181 [a]).1) ZB
def c182:=G (cc f182)
def Zee:=G (lp 0 (lc f182 c182))
def v182:=(fun a=>G (lc f182 c182 [a]).1) Zee
def c183:=G (cc f183)
def ZaF:=G (lp 0 (lc f183 c183))
def v183:=(fun a=>G (lc f183 c183 [a]).1) ZaF
def c184:=G (cc f184)
def Lt:=G (lp 0 (lc f184 c184))
def v184:=(fun a=>G (lc f184 c184 [a]).1) Lt
def c185:=G (cc f185 (ov:=[(92,1,[2,3])]) (dr:=[(37,[64,128])]))
def IF:=G (lp 0 (lc f185 c185))
def v185:=(fun a=>G (lc f185 c185 [a]).1) IF
def c186:=G (cc f186 (ov:=[(1,4,[0,5]),(12,1,[0])]) (dr:=[(14,[864,865,866])]))
def Mo:=G (lp 0 (lc f186 c186))
def v186:=(fun a=>G (lc f186 c186 [a]).1) Mo
def c188:=G (cc f188 (ov:=[(17,3,[4,5]),(19,3,[0,5]),(41,5,[])]) (dr:=[(38,[2240])]))
def IT:=G (lp 0 (lc f188 c188))
def v188:=(fun a=>G (lc f188 c188 [a]).1) IT
def c187:=G (cc f187 (ov:=[(6,4,[0,6])]) (dr:=[(6,[256]),(30,[1792])]))
def KN:=G (lp 0 (lc f187 c187))
def v187:=(fun a=>G (lc f187 c187 [a]).1) KN
def c189:=G (cc f189)
def It:=G (lp 0 (lc f189 c189))
def QY:=(fun a=>G (lp 1 (lc f189 c189 [a]))) It
def v189:=(fun a b=>G (lc f189 c189 [a,b]).1) It QY
def c190:=G (cc f190 (ov:=[(3,4,[0,5]),(34,4,[0,6])]) (dr:=[(22,[1280]),(31,[64]),(64,[2624,3968])]))
def JU:=G (lp 0 (lc f190 c190))
def R0:=(fun a=>G (lp 1 (lc f190 c190 [a]))) JU
def v190:=(fun a b=>G (lc f190 c190 [a,b]).1) JU R0
def c191:=G (cc f191 (ov:=[(31,3,[4,5]),(33,3,[0,5]),(56,5,[])]) (dr:=[(53,[3200])]))
def IX:=G (lp 0 (lc f191 c191))
def Ln:=(fun a=>G (lp 1 (lc f191 c191 [a]))) IX
def v191:=(fun a b=>G (lc f191 c191 [a,b]).1) IX Ln
def v192:=G (F1 f192)
def c193:=G (cc f193 (ov:=[(5,4,[0,4]),(29,0,[]),(31,0,[]),(37,5,[])]) (dr:=[(41,[1728,1920,2048,2496])]))
def Ld:=G (lp 0 (lc f193 c193))
def v193:=(fun a=>G (lc f193 c193 [a]).1) Ld
def c194:=G (cc f194)
def Oh:=G (lp 0 (lc f194 c194))
def v194:=(fun a=>G (lc f194 c194 [a]).1) Oh
def c195:=G (cc f195 (ov:=[(1,4,[0,5]),(12,1,[0]),(17,4,[0,1])]) (dr:=[(14,[864,865,866]),(40,[2432])]))
def I1:=G (lp 0 (lc f195 c195))
def Ok:=(fun a=>G (lp 1 (lc f195 c195 [a]))) I1
def v195:=(fun a b=>G (lc f195 c195 [a,b]).1) I1 Ok
def c196:=G (cc f196 (dr:=[(15,[864,865,866])]))
def Og:=G (lp 0 (lc f196 c196))
def v196:=(fun a=>G (lc f196 c196 [a]).1) Og
def v198:=G (F1 f198)
def v199:=G (F1 f199)
def c197:=G (cc f197)
def Zg:=G (lp 0 (lc f197 c197))
def v197:=(fun a=>G (lc f197 c197 [a]).1) Zg
def c200:=G (cc f200 (dr:=[(27,[576,1344]),(31,[576,1344,1696,1697,1698])]))
def Zax:=G (lp 0 (lc f200 c200))
def v200:=(fun a=>G (lc f200 c200 [a]).1) Zax
def v151:=G (F1 f151)
def v155:=G (F1 f155)
def v204:=G (F1 f204)
def c203:=G (cc f203 (dr:=[(15,[864,865,866])]))
def Mg:=G (lp 0 (lc f203 c203))
def v203:=(fun a=>G (lc f203 c203 [a]).1) Mg
def c205:=G (cc f205 (dr:=[(20,[896]),(36,[1920])]))
def HH:=G (lp 0 (lc f205 c205))
def JA:=(fun a=>G (lp 1 (lc f205 c205 [a]))) HH
def v205:=(fun a b=>G (lc f205 c205 [a,b]).1) HH JA
def c207:=G (cc f207 (ov:=[(1,4,[0,1]),(46,1,[0]),(53,1,[0])]) (dr:=[(43,[1184,1185,1186,2624])]))
def Hg:=G (lp 0 (lc f207 c207))
def IE:=(fun a=>G (lp 1 (lc f207 c207 [a]))) Hg
def v207:=(fun a b=>G (lc f207 c207 [a,b]).1) Hg IE
def v206:=G (F1 f206)
def c209:=G (cc f209)
def Xy:=G (lp 0 (lc f209 c209))
def v209:=(fun a=>G (lc f209 c209 [a]).1) Xy
def c210:=G (cc f210 (ov:=[(46,1,[0])]) (dr:=[(48,[3040,3041,3042])]))
def JX:=G (lp 0 (lc f210 c210))
def IS:=(fun a=>G (lp 1 (lc f210 c210 [a]))) JX
def v210:=(fun a b=>G (lc f210 c210 [a,b] (k:=true)).1) JX IS
def v212:=G (F1 f212)
def c211:=G (cc f211)
def MT:=G (lp 0 (lc f211 c211))
def v211:=(fun a=>G (lc f211 c211 [a]).1) MT
def v213:=G (F1 f213)
def v214:=G (lc f214 (cc f214 (ov:=[(9,0,[]),(20,0,[])]) (dr:=[(18,[896]),(27,[64,1536])]))).1
def v215:=G (F1 f215)
def c216:=G (cc f216 (ov:=[(6,4,[0,5]),(37,4,[0,5]),(170,4,[0,5])]) (dr:=[(25,[832,1472]),(34,[128]),(59,[3840,3904]),(75,[5248]),(90,[3840,3904]),(102,[6976,7040,5248]),(118,[7744]),(140,[8704,8768]),(159,[2304,192]),(167,[2112]),(170,[2112]),(205,[12672,12992]),(230,[14272,14592])]))
def Gp:=G (lp 0 (lc f216 c216))
def El:=(fun a=>G (lp 1 (lc f216 c216 [a]))) Gp
def Hd:=(fun a b=>G (lp 2 (lc f216 c216 [a,b]))) Gp El
def GN:=(fun a b c=>G (lp 3 (lc f216 c216 [a,b,c]))) Gp El Hd
def v216:=(fun a b c d=>G (lc f216 c216 [a,b,c,d]).1) Gp El Hd GN
def c217:=G (cc f217 (ov:=[(2,4,[0,5])]) (dr:=[(15,[832])]))
def Nl:=G (lp 0 (lc f217 c217))
def v217:=(fun a=>G (lc f217 c217 [a]).1) Nl
def v218:=G (F1 f218)
def v219:=G (F1 f219)
def c201:=G (cc f201 (ov:=[(9,4,[0,1])]) (dr:=[(48,[2944]),(50,[1216])]))
def JG:=G (lp 0 (lc f201 c201))
def Kt:=(fun a=>G (lp 1 (lc f201 c201 [a]))) JG
def v201:=(fun a b=>G (lc f201 c201 [a,b]).1) JG Kt
def c202:=G (cc f202 (dr:=[(53,[2752]),(82,[4224])]))
def I9:=G (lp 0 (lc f202 c202))
def E0:=(fun a=>G (lp 1 (lc f202 c202 [a]))) I9
def v202:=(fun a b=>G (lc f202 c202 [a,b]).1) I9 E0
def v225:=G (F1 f225)
def v226:=G (lc f226 (cc f226) (k:=true)).1
def v227:=G (F1 f227)
def v228:=G (lc f228 (cc f228 (ov:=[(8,1,[0])]))).1
def c229:=G (cc f229)
def JT:=G (lp 0 (lc f229 c229))
def NN:=(fun a=>G (lp 1 (lc f229 c229 [a]))) JT
def v229:=(fun a b=>G (lc f229 c229 [a,b] (k:=true)).1) JT NN
def c230:=G (cc f230)
def N2:=G (lp 0 (lc f230 c230))
def v230:=(fun a=>G (lc f230 c230 [a]).1) N2
def v231:=G (lc f231 (cc f231 (ov:=[(18,0,[]),(24,0,[])]) (dr:=[(36,[64,2112]),(42,[128])]))).1
def v232:=G (lc f232 (cc f232 (dr:=[(29,[128,1088])]))).1
def v233:=G (lc f233 (cc f233 (dr:=[(15,[128,192])]))).1
def v234:=G (F1 f234)
def v235:=G (F1 f235)
def c236:=G (cc f236 (ov:=[(4,4,[0,6]),(24,4,[0,5])]) (dr:=[(21,[1216]),(40,[2432])]))
def Jo:=G (lp 0 (lc f236 c236))
def Oe:=(fun a=>G (lp 1 (lc f236 c236 [a]))) Jo
def v236:=(fun a b=>G (lc f236 c236 [a,b]).1) Jo Oe
def v220:=G (lc f220 (cc f220 (dr:=[(12,[320,640])]))).1
def v221:=G (F1 f221)
def c222:=G (cc f222 (dr:=[(46,[64,2752])]))
def M2:=G (lp 0 (lc f222 c222))
def v222:=(fun a=>G (lc f222 c222 [a]).1) M2
def v223:=G (lc f223 (cc f223 (ov:=[(4,7,[]),(6,7,[])])) (k:=true)).1
def c224:=G (cc f224 (dr:=[(41,[2432]),(56,[3392]),(69,[2432,2848,2849,2850,3392])]))
def MQ:=G (lp 0 (lc f224 c224))
def v224:=(fun a=>G (lc f224 c224 [a]).1) MQ
def v245:=G (F1 f245)
def c246:=G (cc f246)
def Lp:=G (lp 0 (lc f246 c246))
def v246:=(fun a=>G (lc f246 c246 [a]).1) Lp
def a3_0:TL:=[(177,v177),(178,v178),(179,v179),(180,v180),(181,v181),(182,v182),(183,v183),(184,v184),(185,v185),(186,v186),(188,v188),(187,v187),(189,v189),(190,v190),(191,v191),(192,v192)]
theorem k3_0:a3_0.all mP=true:=by kernel_rfl
def a3_1:TL:=[(193,v193),(194,v194),(195,v195),(196,v196),(198,v198),(199,v199),(197,v197),(200,v200),(151,v151),(155,v155),(204,v204),(203,v203),(205,v205),(207,v207),(206,v206),(209,v209)]
theorem k3_1:a3_1.all mP=true:=by kernel_rfl
def a3_2:TL:=[(210,v210),(212,v212),(211,v211),(213,v213),(214,v214),(215,v215),(216,v216),(217,v217),(218,v218),(219,v219),(201,v201),(202,v202),(225,v225),(226,v226),(227,v227),(228,v228)]
theorem k3_2:a3_2.all mP=true:=by kernel_rfl
def a3_3:TL:=[(229,v229),(230,v230),(231,v231),(232,v232),(233,v233),(234,v234),(235,v235),(236,v236),(220,v220),(221,v221),(222,v222),(224,v224),(245,v245),(246,v246)]
theorem k3_3:a3_3.all mP=true:=by kernel_rfl
theorem m223:mFun prog 223 v223=true:=by kernel_rfl
end
end Go.Vs.Tryz
