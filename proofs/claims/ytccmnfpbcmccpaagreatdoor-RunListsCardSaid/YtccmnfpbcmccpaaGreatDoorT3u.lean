/- Functions of the program in the language of the value semantics,part 3,and that they match. -/
import Derived.Test.YtccmnfpbcmccpaaGreatDoorT0u
set_option linter.unusedSimpArgs false
set_option linter.unusedVariables false
set_option linter.deprecated false

/- Functions of the program in the language of the value semantics,part 3,and that they match. -/
namespace Go.Vs.Tryz
open Go Go.Vs Go.Proofs.Tryz
set_option maxRecDepth 100000
set_option maxHeartbeats 8000000
noncomputable section
def v172:=G (F1 f172)
def c173:=G (cc f173 (ov:=[(6,1,[1]),(7,3,[4,5]),(20,3,[4,5]),(23,5,[]),(28,5,[])]) (dr:=[(10,[960])]))
def Ls:=G (lp 0 (lc f173 c173))
def v173:=(fun a=>G (lc f173 c173 [a]).1) Ls
def c174:=G (cc f174)
def l174_0:=G (lp 0 (lc f174 c174))
def v174:=(fun a=>G (lc f174 c174 [a]).1) l174_0
def v175:=G (F1 f175)
def v176:=G (F1 f176)
def v177:=G (F1 f177)
def c178:=G (cc f178)
def MK:=G (lp 0 (lc f178 c178))
def v178:=(fun a=>G (lc f178 c178 [a]).1) MK
def v179:=G (F1 f179)
def v180:=G (F1 f180)
def c181:=G (cc f181)
def I9:=G (lp 0 (lc f181 c181))
def v181:=(fun a=>G (lc f181 c181 [a]).1) I9
def c182:=G (cc f182)
def Yd:=G (lp 0 (lc f182 c182))
def v182:=(fun a=>G (lc f182 c182 [a]).1) Yd
def c183:=G (cc f183)
def KZ:=G (lp 0 (lc f183 c183))
def v183:=(fun a=>G (lc f183 c183 [a]).1) KZ
def c196:=G (cc f196 (dr:=[(15,[864,865,866])]))
def LU:=G (lp 0 (lc f196 c196))
def v196:=(fun a=>G (lc f196 c196 [a]).1) LU
def v198:=G (F1 f198)
def v199:=G (F1 f199)
def c197:=G (cc f197)
def Y9:=G (lp 0 (lc f197 c197))
def v197:=(fun a=>G (lc f197 c197 [a]).1) Y9
def c200:=G (cc f200 (dr:=[(27,[576,1344]),(31,[576,1344,1696,1697,1698])]))
def Vg:=G (lp 0 (lc f200 c200))
def v200:=(fun a=>G (lc f200 c200 [a]).1) Vg
def v151:=G (F1 f151)
def v155:=G (F1 f155)
def v204:=G (F1 f204)
def c203:=G (cc f203 (dr:=[(15,[864,865,866])]))
def ML:=G (lp 0 (lc f203 c203))
def v203:=(fun a=>G (lc f203 c203 [a]).1) ML
def c205:=G (cc f205 (dr:=[(20,[896]),(36,[1920])]))
def IH:=G (lp 0 (lc f205 c205))
def Jv:=(fun a=>G (lp 1 (lc f205 c205 [a]))) IH
def v205:=(fun a b=>G (lc f205 c205 [a,b]).1) IH Jv
def c207:=G (cc f207 (ov:=[(1,4,[0,1]),(46,1,[0]),(53,1,[0])]) (dr:=[(43,[1184,1185,1186,2624])]))
def Il:=G (lp 0 (lc f207 c207))
def Kr:=(fun a=>G (lp 1 (lc f207 c207 [a]))) Il
def v207:=(fun a b=>G (lc f207 c207 [a,b]).1) Il Kr
def v206:=G (F1 f206)
def c209:=G (cc f209)
def LL:=G (lp 0 (lc f209 c209))
def v209:=(fun a=>G (lc f209 c209 [a]).1) LL
def v218:=G (F1 f218)
def v219:=G (F1 f219)
def c201:=G (cc f201 (ov:=[(9,4,[0,1])]) (dr:=[(48,[2944]),(50,[1216])]))
def Ks:=G (lp 0 (lc f201 c201))
def JN:=(fun a=>G (lp 1 (lc f201 c201 [a]))) Ks
def v201:=(fun a b=>G (lc f201 c201 [a,b]).1) Ks JN
def c202:=G (cc f202 (dr:=[(53,[2752]),(82,[4224])]))
def Jt:=G (lp 0 (lc f202 c202))
def Fn:=(fun a=>G (lp 1 (lc f202 c202 [a]))) Jt
def v202:=(fun a b=>G (lc f202 c202 [a,b]).1) Jt Fn
def v225:=G (F1 f225)
def v226:=G (lc f226 (cc f226) (k:=true)).1
def v227:=G (F1 f227)
def v228:=G (lc f228 (cc f228 (ov:=[(8,1,[0])]))).1
def c229:=G (cc f229)
def KC:=G (lp 0 (lc f229 c229))
def MW:=(fun a=>G (lp 1 (lc f229 c229 [a]))) KC
def v229:=(fun a b=>G (lc f229 c229 [a,b] (k:=true)).1) KC MW
def v220:=G (lc f220 (cc f220 (dr:=[(12,[320,640])]))).1
def v221:=G (F1 f221)
def c222:=G (cc f222 (dr:=[(46,[64,2752])]))
def Ml:=G (lp 0 (lc f222 c222))
def v222:=(fun a=>G (lc f222 c222 [a]).1) Ml
def v223:=G (lc f223 (cc f223 (ov:=[(4,7,[]),(6,7,[])])) (k:=true)).1
def c224:=G (cc f224 (dr:=[(41,[2432]),(56,[3392]),(69,[2432,2848,2849,2850,3392])]))
def K9:=G (lp 0 (lc f224 c224))
def v224:=(fun a=>G (lc f224 c224 [a]).1) K9
def v245:=G (F1 f245)
def c246:=G (cc f246)
def N8:=G (lp 0 (lc f246 c246))
def v246:=(fun a=>G (lc f246 c246 [a]).1) N8
def v247:=G (lc f247 (cc f247 (ov:=[(3,8,[278]),(11,8,[278]),(19,8,[278]),(28,8,[278])])) (k:=true)).1
def v248:=G (lc f248 (cc f248 (ov:=[(9,5,[24,1]),(16,1,[0])]))).1
def v250:=G (F1 f250)
def c249:=G (cc f249 (ov:=[(11,1,[0]),(17,1,[0]),(23,1,[0]),(30,1,[0]),(41,1,[0]),(61,1,[0]),(81,1,[0]),(89,1,[0]),(119,1,[0]),(132,1,[0])]))
def EC:=G (lp 0 (lc f249 c249 (st:=[0,1,2,3,8,9])))
def v249:=(fun a=>G (lc f249 c249 [a] (st:=[0,1,2,3,8,9])).1) EC
def a3_0:TL:=[(172,v172),(173,v173),(174,v174),(175,v175),(176,v176),(177,v177),(178,v178),(179,v179),(180,v180),(181,v181),(182,v182),(183,v183),(196,v196),(198,v198),(199,v199),(197,v197),(200,v200)]
theorem k3_0:a3_0.all mP=true:=by kernel_rfl
def a3_1:TL:=[(151,v151),(155,v155),(204,v204),(203,v203),(205,v205),(207,v207),(206,v206),(209,v209),(218,v218),(219,v219),(201,v201),(202,v202),(225,v225),(226,v226),(227,v227),(228,v228)]
theorem k3_1:a3_1.all mP=true:=by kernel_rfl
def a3_2:TL:=[(229,v229),(220,v220),(221,v221),(222,v222),(224,v224),(245,v245),(246,v246),(247,v247),(248,v248),(250,v250),(249,v249)]
theorem k3_2:a3_2.all mP=true:=by kernel_rfl
theorem m223:mFun prog 223 v223=true:=by kernel_rfl
end
end Go.Vs.Tryz
