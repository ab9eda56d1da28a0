/- Functions of the program in the language of the value semantics,part 4,and that they match. -/
import Derived.Test.YtccmnfpbcmccpaaGreatDoorT0w
set_option linter.all false

/- Functions of the program in the language of the value semantics,part 4,and that they match. -/
namespace Go.Vs.Tryz
open Go Go.Vs Go.Proofs.Tryz
set_option maxRecDepth 100000
set_option maxHeartbeats 8000000
noncomputable section
def v220:=G (lc f220 (cc f220 (dr:=[(12,[320,640])]))).1
def v221:=G (F1 f221)
def c222:=G (cc f222 (dr:=[(46,[64,2752])]))
def P2:=G (lp 0 (lc f222 c222))
def v222:=(fun a=>G (lc f222 c222 [a]).1) P2
def v223:=G (lc f223 (cc f223 (ov:=[(4,7,[]),(6,7,[])])) (k:=true)).1
def c224:=G (cc f224 (dr:=[(41,[2432]),(56,[3392]),(69,[2432,2848,2849,2850,3392])]))
def Og:=G (lp 0 (lc f224 c224))
def v224:=(fun a=>G (lc f224 c224 [a]).1) Og
def v245:=G (F1 f245)
def c246:=G (cc f246)
def MB:=G (lp 0 (lc f246 c246))
def v246:=(fun a=>G (lc f246 c246 [a]).1) MB
def v247:=G (lc f247 (cc f247 (ov:=[(3,8,[278]),(11,8,[278]),(19,8,[278]),(28,8,[278])])) (k:=true)).1
def v248:=G (lc f248 (cc f248 (ov:=[(9,5,[24,1]),(16,1,[0])]))).1
def v250:=G (F1 f250)
def c249:=G (cc f249 (ov:=[(11,1,[0]),(17,1,[0]),(23,1,[0]),(30,1,[0]),(41,1,[0]),(61,1,[0]),(81,1,[0]),(89,1,[0]),(119,1,[0]),(132,1,[0])]))
def EU:=G (lp 0 (lc f249 c249 (st:=[0,1,2,3,8,9])))
def v249:=(fun a=>G (lc f249 c249 [a] (st:=[0,1,2,3,8,9])).1) EU
def v251:=G (F1 f251)
def c252:=G (cc f252 (dr:=[(28,[128,192])]))
def Nd:=G (lp 0 (lc f252 c252))
def v252:=(fun a=>G (lc f252 c252 [a]).1) Nd
def c253:=G (cc f253)
def M1:=G (lp 0 (lc f253 c253))
def v253:=(fun a=>G (lc f253 c253 [a]).1) M1
def c254:=G (cc f254 (ov:=[(9,3,[4,5]),(11,3,[0,5]),(34,5,[])]) (dr:=[(31,[1792])]))
def NV:=G (lp 0 (lc f254 c254))
def v254:=(fun a=>G (lc f254 c254 [a]).1) NV
def c237:=G (cc f237 (dr:=[(29,[800,801,802])]))
def Nm:=G (lp 0 (lc f237 c237))
def v237:=(fun a=>G (lc f237 c237 [a]).1) Nm
def c238:=G (cc f238 (ov:=[(14,4,[0,1]),(34,1,[0])]) (dr:=[(11,[576]),(41,[1984,2272,2273,2274,2496]),(49,[2912,2913,2914])]))
def HP:=G (lp 0 (lc f238 c238))
def Oa:=(fun a=>G (lp 1 (lc f238 c238 [a]))) HP
def v238:=(fun a b=>G (lc f238 c238 [a,b]).1) HP Oa
def c239:=G (cc f239)
def Ny:=G (lp 0 (lc f239 c239))
def v239:=(fun a=>G (lc f239 c239 [a]).1) Ny
def v240:=G (F1 f240)
def c242:=G (cc f242 (dr:=[(26,[960,1568,1569,1570])]))
def Kp:=G (lp 0 (lc f242 c242))
def v242:=(fun a=>G (lc f242 c242 [a] (k:=true)).1) Kp
def v241:=G (F1 f241)
def c243:=G (cc f243 (dr:=[(41,[1600])]))
def KL:=G (lp 0 (lc f243 c243))
def v243:=(fun a=>G (lc f243 c243 [a]).1) KL
def v244:=G (lc f244 (cc f244 (ov:=[(4,7,[]),(6,7,[])])) (k:=true)).1
def v259:=G (F1 f259)
def v260:=G (F1 f260)
def v262:=G (lc f262 (cc f262) (k:=true)).1
def v263:=G (lc f263 (cc f263) (k:=true)).1
def v266:=G (F1 f266)
def v267:=G (F1 f267)
def c268:=G (cc f268)
def G2:=G (lp 0 (lc f268 c268))
def v268:=(fun a=>G (lc f268 c268 [a]).1) G2
def v280:=G (F1 f280)
def c270:=G (cc f270)
def JX:=G (lp 0 (lc f270 c270))
def Li:=(fun a=>G (lp 1 (lc f270 c270 [a]))) JX
def v270:=(fun a b=>G (lc f270 c270 [a,b]).1) JX Li
def c271:=G (cc f271 (ov:=[(17,1,[0]),(50,1,[0])]))
def Lj:=G (lp 0 (lc f271 c271))
def NE:=(fun a=>G (lp 1 (lc f271 c271 [a]))) Lj
def v271:=(fun a b=>G (lc f271 c271 [a,b]).1) Lj NE
def c272:=G (cc f272 (ov:=[(28,1,[0])]))
def JQ:=G (lp 0 (lc f272 c272))
def v272:=(fun a=>G (lc f272 c272 [a]).1) JQ
def v273:=G (lc f273 (cc f273 (ov:=[(31,1,[0]),(35,1,[0]),(39,1,[0]),(45,1,[0])]))).1
def c274:=G (cc f274)
def Wg:=G (lp 0 (lc f274 c274))
def v274:=(fun a=>G (lc f274 c274 [a]).1) Wg
def c275:=G (cc f275)
def FD:=G (lp 0 (lc f275 c275))
def Ga:=(fun a=>G (lp 1 (lc f275 c275 [a]))) FD
def GF:=(fun a b=>G (lp 2 (lc f275 c275 [a,b]))) FD Ga
def PE:=(fun a b c=>G (lp 3 (lc f275 c275 [a,b,c]))) FD Ga GF
def v275:=(fun a b c d=>G (lc f275 c275 [a,b,c,d]).1) FD Ga GF PE
def v276:=G (F1 f276)
def c277:=G (cc f277)
def GT:=G (lp 0 (lc f277 c277))
def IY:=(fun a=>G (lp 1 (lc f277 c277 [a]))) GT
def KM:=(fun a b=>G (lp 2 (lc f277 c277 [a,b]))) GT IY
def v277:=(fun a b c=>G (lc f277 c277 [a,b,c]).1) GT IY KM
def c278:=G (cc f278)
def FI:=G (lp 0 (lc f278 c278))
def FX:=(fun a=>G (lp 1 (lc f278 c278 [a]))) FI
def GH:=(fun a b=>G (lp 2 (lc f278 c278 [a,b]))) FI FX
def HX:=(fun a b c=>G (lp 3 (lc f278 c278 [a,b,c]))) FI FX GH
def KU:=(fun a b c d=>G (lp 4 (lc f278 c278 [a,b,c,d]))) FI FX GH HX
def v278:=(fun a b c d e=>G (lc f278 c278 [a,b,c,d,e]).1) FI FX GH HX KU
def v281:=G (F1 f281)
def c283:=G (cc f283 (dr:=[(16,[896]),(33,[1856,1920]),(54,[3072,3328]),(149,[8512]),(157,[128]),(165,[640])]))
def F7:=G (lp 0 (lc f283 c283))
def Lt:=(fun a=>G (lp 1 (lc f283 c283 [a]))) F7
def Mw:=(fun a b=>G (lp 2 (lc f283 c283 [a,b]))) F7 Lt
def v283:=(fun a b c=>G (lc f283 c283 [a,b,c]).1) F7 Lt Mw
def v255:=G (F1 f255)
def c256:=G (cc f256 (dr:=[(33,[1568,1569,1570])]))
def Zg9:=G (lp 0 (lc f256 c256))
def v256:=(fun a=>G (lc f256 c256 [a] (k:=true)).1) Zg9
def v258:=G (F1 f258)
def v287:=G (F1 f287)
def v288:=G (F1 f288)
def c291:=G (cc f291)
def P8:=G (lp 0 (lc f291 c291))
def v291:=(fun a=>G (lc f291 c291 [a]).1) P8
def v292:=G (F1 f292)
def v293:=G (F1 f293)
def v294:=G (lc f294 (cc f294 (ov:=[(8,1,[0])]))).1
def v295:=G (lc f295 (cc f295 (ov:=[(5,1,[0]),(15,1,[0]),(25,1,[0])]))).1
def v296:=G (F1 f296)
def c297:=G (cc f297 (dr:=[(10,[64])]))
def N9:=G (lp 0 (lc f297 c297))
def v297:=(fun a=>G (lc f297 c297 [a]).1) N9
def v301:=G (F1 f301)
def c302:=G (cc f302 (ov:=[(28,0,[])]))
def MT:=G (lp 0 (lc f302 c302))
def v302:=(fun a=>G (lc f302 c302 [a]).1) MT
def a4_0:TL:=[(220,v220),(221,v221),(222,v222),(224,v224),(245,v245),(246,v246),(247,v247),(248,v248),(250,v250),(249,v249),(251,v251),(252,v252),(253,v253),(254,v254),(237,v237),(238,v238)]
theorem k4_0:a4_0.all mP=true:=by kernel_rfl
def a4_1:TL:=[(239,v239),(240,v240),(242,v242),(241,v241),(243,v243),(259,v259),(260,v260),(262,v262),(263,v263),(266,v266),(267,v267),(268,v268),(280,v280),(270,v270),(271,v271),(272,v272)]
theorem k4_1:a4_1.all mP=true:=by kernel_rfl
def a4_2:TL:=[(273,v273),(274,v274),(275,v275),(276,v276),(277,v277),(278,v278),(281,v281),(283,v283),(255,v255),(256,v256),(258,v258),(287,v287),(288,v288),(291,v291),(292,v292),(293,v293)]
theorem k4_2:a4_2.all mP=true:=by kernel_rfl
def a4_3:TL:=[(294,v294),(295,v295),(296,v296),(297,v297),(301,v301),(302,v302)]
theorem k4_3:a4_3.all mP=true:=by kernel_rfl
theorem m223:mFun prog 223 v223=true:=by kernel_rfl
theorem m244:mFun prog 244 v244=true:=by kernel_rfl
end
end Go.Vs.Tryz
