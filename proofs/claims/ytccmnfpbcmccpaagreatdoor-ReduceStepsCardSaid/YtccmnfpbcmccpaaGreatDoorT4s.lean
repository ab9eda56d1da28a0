/- Functions of the program in the language of the value semantics,part 4,and that they match. -/
import Derived.Test.YtccmnfpbcmccpaaGreatDoorT0s
set_option linter.unusedSimpArgs false
set_option linter.unusedVariables false
set_option linter.deprecated false

namespace Go.Vs.Tryz
open Go Go.Vs Go.Proofs.Tryz
set_option maxRecDepth 100000
set_option maxHeartbeats 8000000
noncomputable section
def v221:VFun:=G (a:=(lc f221 (cc f221)).1) _ (by conv=>rhs;cbv)
def c222:VCode:=G (a:=cc f222 (dr:=[(46,[64,2752])])) _ (by conv=>rhs;cbv)
def ZsF:VCode:=G (a:=lp 0 (lc f222 c222)) _ (by conv=>rhs;cbv)
def v222:VFun:=(fun a=>G (a:=(lc f222 c222 [a]).1) _ (by conv=>rhs;cbv)) ZsF
def v223:VFun:=G (a:=(lc f223 (cc f223 (ov:=[(4,7,[]),(6,7,[])])) (k:=true)).1) _ (by conv=>rhs;cbv)
def c224:VCode:=G (a:=cc f224 (dr:=[(41,[2432]),(56,[3392]),(69,[2432,2848,2849,2850,3392])])) _ (by conv=>rhs;cbv)
def Zut:VCode:=G (a:=lp 0 (lc f224 c224)) _ (by conv=>rhs;cbv)
def v224:VFun:=(fun a=>G (a:=(lc f224 c224 [a]).1) _ (by conv=>rhs;cbv)) Zut
def v245:VFun:=G (a:=(lc f245 (cc f245)).1) _ (by conv=>rhs;cbv)
def c246:VCode:=G (a:=cc f246) _ (by conv=>rhs;cbv)
def ZrD:VCode:=G (a:=lp 0 (lc f246 c246)) _ (by conv=>rhs;cbv)
def v246:VFun:=(fun a=>G (a:=(lc f246 c246 [a]).1) _ (by conv=>rhs;cbv)) ZrD
def v247:VFun:=G (a:=(lc f247 (cc f247 (ov:=[(3,8,[278]),(11,8,[278]),(19,8,[278]),(28,8,[278])])) (k:=true)).1) _ (by conv=>rhs;cbv)
def v248:VFun:=G (a:=(lc f248 (cc f248 (ov:=[(9,5,[24,1]),(16,1,[0])]))).1) _ (by conv=>rhs;cbv)
def v250:VFun:=G (a:=(lc f250 (cc f250)).1) _ (by conv=>rhs;cbv)
def c249:VCode:=G (a:=cc f249 (ov:=[(11,1,[0]),(17,1,[0]),(23,1,[0]),(30,1,[0]),(41,1,[0]),(61,1,[0]),(81,1,[0]),(89,1,[0]),(119,1,[0]),(132,1,[0])])) _ (by conv=>rhs;cbv)
def ZrE:VCode:=G (a:=lp 0 (lc f249 c249 (st:=[0,1,2,3,8,9]))) _ (by conv=>rhs;cbv)
def v249:VFun:=(fun a=>G (a:=(lc f249 c249 [a] (st:=[0,1,2,3,8,9])).1) _ (by conv=>rhs;cbv)) ZrE
def v251:VFun:=G (a:=(lc f251 (cc f251)).1) _ (by conv=>rhs;cbv)
def c252:VCode:=G (a:=cc f252 (dr:=[(28,[128,192])])) _ (by conv=>rhs;cbv)
def ZrM:VCode:=G (a:=lp 0 (lc f252 c252)) _ (by conv=>rhs;cbv)
def v252:VFun:=(fun a=>G (a:=(lc f252 c252 [a]).1) _ (by conv=>rhs;cbv)) ZrM
def c253:VCode:=G (a:=cc f253) _ (by conv=>rhs;cbv)
def Zsm:VCode:=G (a:=lp 0 (lc f253 c253)) _ (by conv=>rhs;cbv)
def v253:VFun:=(fun a=>G (a:=(lc f253 c253 [a]).1) _ (by conv=>rhs;cbv)) Zsm
def c254:VCode:=G (a:=cc f254 (ov:=[(9,3,[4,5]),(11,3,[0,5]),(34,5,[])]) (dr:=[(31,[1792])])) _ (by conv=>rhs;cbv)
def Zt4:VCode:=G (a:=lp 0 (lc f254 c254)) _ (by conv=>rhs;cbv)
def v254:VFun:=(fun a=>G (a:=(lc f254 c254 [a]).1) _ (by conv=>rhs;cbv)) Zt4
def c237:VCode:=G (a:=cc f237 (dr:=[(29,[800,801,802])])) _ (by conv=>rhs;cbv)
def Ztv:VCode:=G (a:=lp 0 (lc f237 c237)) _ (by conv=>rhs;cbv)
def v237:VFun:=(fun a=>G (a:=(lc f237 c237 [a]).1) _ (by conv=>rhs;cbv)) Ztv
def c238:VCode:=G (a:=cc f238 (ov:=[(14,4,[0,1]),(34,1,[0])]) (dr:=[(11,[576]),(41,[1984,2272,2273,2274,2496]),(49,[2912,2913,2914])])) _ (by conv=>rhs;cbv)
def Zmm:VCode:=G (a:=lp 0 (lc f238 c238)) _ (by conv=>rhs;cbv)
def ZrT:VCode:=(fun a=>G (a:=lp 1 (lc f238 c238 [a])) _ (by conv=>rhs;cbv)) Zmm
def v238:VFun:=(fun a b=>G (a:=(lc f238 c238 [a,b]).1) _ (by conv=>rhs;cbv)) Zmm ZrT
def c239:VCode:=G (a:=cc f239) _ (by conv=>rhs;cbv)
def Zvg:VCode:=G (a:=lp 0 (lc f239 c239)) _ (by conv=>rhs;cbv)
def v239:VFun:=(fun a=>G (a:=(lc f239 c239 [a]).1) _ (by conv=>rhs;cbv)) Zvg
def v240:VFun:=G (a:=(lc f240 (cc f240)).1) _ (by conv=>rhs;cbv)
def c242:VCode:=G (a:=cc f242 (dr:=[(26,[960,1568,1569,1570])])) _ (by conv=>rhs;cbv)
def Zo9:VCode:=G (a:=lp 0 (lc f242 c242)) _ (by conv=>rhs;cbv)
def v242:VFun:=(fun a=>G (a:=(lc f242 c242 [a] (k:=true)).1) _ (by conv=>rhs;cbv)) Zo9
def v241:VFun:=G (a:=(lc f241 (cc f241)).1) _ (by conv=>rhs;cbv)
def c243:VCode:=G (a:=cc f243 (dr:=[(41,[1600])])) _ (by conv=>rhs;cbv)
def Zpw:VCode:=G (a:=lp 0 (lc f243 c243)) _ (by conv=>rhs;cbv)
def v243:VFun:=(fun a=>G (a:=(lc f243 c243 [a]).1) _ (by conv=>rhs;cbv)) Zpw
def v244:VFun:=G (a:=(lc f244 (cc f244 (ov:=[(4,7,[]),(6,7,[])])) (k:=true)).1) _ (by conv=>rhs;cbv)
def v259:VFun:=G (a:=(lc f259 (cc f259)).1) _ (by conv=>rhs;cbv)
def v260:VFun:=G (a:=(lc f260 (cc f260)).1) _ (by conv=>rhs;cbv)
def v262:VFun:=G (a:=(lc f262 (cc f262) (k:=true)).1) _ (by conv=>rhs;cbv)
def v263:VFun:=G (a:=(lc f263 (cc f263) (k:=true)).1) _ (by conv=>rhs;cbv)
def v266:VFun:=G (a:=(lc f266 (cc f266)).1) _ (by conv=>rhs;cbv)
def v267:VFun:=G (a:=(lc f267 (cc f267)).1) _ (by conv=>rhs;cbv)
def c268:VCode:=G (a:=cc f268) _ (by conv=>rhs;cbv)
def ZmF:VCode:=G (a:=lp 0 (lc f268 c268)) _ (by conv=>rhs;cbv)
def v268:VFun:=(fun a=>G (a:=(lc f268 c268 [a]).1) _ (by conv=>rhs;cbv)) ZmF
def v280:VFun:=G (a:=(lc f280 (cc f280)).1) _ (by conv=>rhs;cbv)
def c270:VCode:=G (a:=cc f270) _ (by conv=>rhs;cbv)
def ZpS:VCode:=G (a:=lp 0 (lc f270 c270)) _ (by conv=>rhs;cbv)
def ZoP:VCode:=(fun a=>G (a:=lp 1 (lc f270 c270 [a])) _ (by conv=>rhs;cbv)) ZpS
def v270:VFun:=(fun a b=>G (a:=(lc f270 c270 [a,b]).1) _ (by conv=>rhs;cbv)) ZpS ZoP
def c271:VCode:=G (a:=cc f271 (ov:=[(17,1,[0]),(50,1,[0])])) _ (by conv=>rhs;cbv)
def ZpM:VCode:=G (a:=lp 0 (lc f271 c271)) _ (by conv=>rhs;cbv)
def Zuj:VCode:=(fun a=>G (a:=lp 1 (lc f271 c271 [a])) _ (by conv=>rhs;cbv)) ZpM
def v271:VFun:=(fun a b=>G (a:=(lc f271 c271 [a,b]).1) _ (by conv=>rhs;cbv)) ZpM Zuj
def c272:VCode:=G (a:=cc f272 (ov:=[(28,1,[0])])) _ (by conv=>rhs;cbv)
def Zpf:VCode:=G (a:=lp 0 (lc f272 c272)) _ (by conv=>rhs;cbv)
def v272:VFun:=(fun a=>G (a:=(lc f272 c272 [a]).1) _ (by conv=>rhs;cbv)) Zpf
def v273:VFun:=G (a:=(lc f273 (cc f273 (ov:=[(31,1,[0]),(35,1,[0]),(39,1,[0]),(45,1,[0])]))).1) _ (by conv=>rhs;cbv)
def c274:VCode:=G (a:=cc f274) _ (by conv=>rhs;cbv)
def ZyJ:VCode:=G (a:=lp 0 (lc f274 c274)) _ (by conv=>rhs;cbv)
def v274:VFun:=(fun a=>G (a:=(lc f274 c274 [a]).1) _ (by conv=>rhs;cbv)) ZyJ
def c275:VCode:=G (a:=cc f275) _ (by conv=>rhs;cbv)
def ZiD:VCode:=G (a:=lp 0 (lc f275 c275)) _ (by conv=>rhs;cbv)
def ZjN:VCode:=(fun a=>G (a:=lp 1 (lc f275 c275 [a])) _ (by conv=>rhs;cbv)) ZiD
def Zjx:VCode:=(fun a b=>G (a:=lp 2 (lc f275 c275 [a,b])) _ (by conv=>rhs;cbv)) ZiD ZjN
def ZsT:VCode:=(fun a b c=>G (a:=lp 3 (lc f275 c275 [a,b,c])) _ (by conv=>rhs;cbv)) ZiD ZjN Zjx
def v275:VFun:=(fun a b c d=>G (a:=(lc f275 c275 [a,b,c,d]).1) _ (by conv=>rhs;cbv)) ZiD ZjN Zjx ZsT
def v276:VFun:=G (a:=(lc f276 (cc f276)).1) _ (by conv=>rhs;cbv)
def c277:VCode:=G (a:=cc f277) _ (by conv=>rhs;cbv)
def Zkj:VCode:=G (a:=lp 0 (lc f277 c277)) _ (by conv=>rhs;cbv)
def Zmj:VCode:=(fun a=>G (a:=lp 1 (lc f277 c277 [a])) _ (by conv=>rhs;cbv)) Zkj
def Zp5:VCode:=(fun a b=>G (a:=lp 2 (lc f277 c277 [a,b])) _ (by conv=>rhs;cbv)) Zkj Zmj
def v277:VFun:=(fun a b c=>G (a:=(lc f277 c277 [a,b,c]).1) _ (by conv=>rhs;cbv)) Zkj Zmj Zp5
def c278:VCode:=G (a:=cc f278) _ (by conv=>rhs;cbv)
def Zhf:VCode:=G (a:=lp 0 (lc f278 c278)) _ (by conv=>rhs;cbv)
def ZiT:VCode:=(fun a=>G (a:=lp 1 (lc f278 c278 [a])) _ (by conv=>rhs;cbv)) Zhf
def Zjp:VCode:=(fun a b=>G (a:=lp 2 (lc f278 c278 [a,b])) _ (by conv=>rhs;cbv)) Zhf ZiT
def Zl1:VCode:=(fun a b c=>G (a:=lp 3 (lc f278 c278 [a,b,c])) _ (by conv=>rhs;cbv)) Zhf ZiT Zjp
def Zph:VCode:=(fun a b c d=>G (a:=lp 4 (lc f278 c278 [a,b,c,d])) _ (by conv=>rhs;cbv)) Zhf ZiT Zjp Zl1
def v278:VFun:=(fun a b c d e=>G (a:=(lc f278 c278 [a,b,c,d,e]).1) _ (by conv=>rhs;cbv)) Zhf ZiT Zjp Zl1 Zph
def v281:VFun:=G (a:=(lc f281 (cc f281)).1) _ (by conv=>rhs;cbv)
def c283:VCode:=G (a:=cc f283 (dr:=[(16,[896]),(33,[1856,1920]),(54,[3072,3328]),(149,[8512]),(157,[128]),(165,[640])])) _ (by conv=>rhs;cbv)
def ZhZ:VCode:=G (a:=lp 0 (lc f283 c283)) _ (by conv=>rhs;cbv)
def Zok:VCode:=(fun a=>G (a:=lp 1 (lc f283 c283 [a])) _ (by conv=>rhs;cbv)) ZhZ
def Zux:VCode:=(fun a b=>G (a:=lp 2 (lc f283 c283 [a,b])) _ (by conv=>rhs;cbv)) ZhZ Zok
def v283:VFun:=(fun a b c=>G (a:=(lc f283 c283 [a,b,c]).1) _ (by conv=>rhs;cbv)) ZhZ Zok Zux
def v255:VFun:=G (a:=(lc f255 (cc f255)).1) _ (by conv=>rhs;cbv)
def c256:VCode:=G (a:=cc f256 (dr:=[(33,[1568,1569,1570])])) _ (by conv=>rhs;cbv)
def l256_0:VCode:=G (a:=lp 0 (lc f256 c256)) _ (by conv=>rhs;cbv)
def v256:VFun:=(fun a=>G (a:=(lc f256 c256 [a] (k:=true)).1) _ (by conv=>rhs;cbv)) l256_0
def v258:VFun:=G (a:=(lc f258 (cc f258)).1) _ (by conv=>rhs;cbv)
def v287:VFun:=G (a:=(lc f287 (cc f287)).1) _ (by conv=>rhs;cbv)
def v288:VFun:=G (a:=(lc f288 (cc f288)).1) _ (by conv=>rhs;cbv)
def c291:VCode:=G (a:=cc f291) _ (by conv=>rhs;cbv)
def ZvG:VCode:=G (a:=lp 0 (lc f291 c291)) _ (by conv=>rhs;cbv)
def v291:VFun:=(fun a=>G (a:=(lc f291 c291 [a]).1) _ (by conv=>rhs;cbv)) ZvG
def v292:VFun:=G (a:=(lc f292 (cc f292)).1) _ (by conv=>rhs;cbv)
def v293:VFun:=G (a:=(lc f293 (cc f293)).1) _ (by conv=>rhs;cbv)
def v294:VFun:=G (a:=(lc f294 (cc f294 (ov:=[(8,1,[0])]))).1) _ (by conv=>rhs;cbv)
def v295:VFun:=G (a:=(lc f295 (cc f295 (ov:=[(5,1,[0]),(15,1,[0]),(25,1,[0])]))).1) _ (by conv=>rhs;cbv)
def v296:VFun:=G (a:=(lc f296 (cc f296)).1) _ (by conv=>rhs;cbv)
def c297:VCode:=G (a:=cc f297 (dr:=[(10,[64])])) _ (by conv=>rhs;cbv)
def Zu2:VCode:=G (a:=lp 0 (lc f297 c297)) _ (by conv=>rhs;cbv)
def v297:VFun:=(fun a=>G (a:=(lc f297 c297 [a]).1) _ (by conv=>rhs;cbv)) Zu2
def v301:VFun:=G (a:=(lc f301 (cc f301)).1) _ (by conv=>rhs;cbv)
def c302:VCode:=G (a:=cc f302 (ov:=[(28,0,[])])) _ (by conv=>rhs;cbv)
def ZvK:VCode:=G (a:=lp 0 (lc f302 c302)) _ (by conv=>rhs;cbv)
def v302:VFun:=(fun a=>G (a:=(lc f302 c302 [a]).1) _ (by conv=>rhs;cbv)) ZvK
def a4_0:TL:=[(221,v221),(222,v222),(224,v224),(245,v245),(246,v246),(247,v247),(248,v248),(250,v250),(249,v249),(251,v251),(252,v252),(253,v253),(254,v254),(237,v237),(238,v238),(239,v239)]
theorem k4_0:a4_0.all mP=true:=by kernel_rfl
def a4_1:TL:=[(240,v240),(242,v242),(241,v241),(243,v243),(259,v259),(260,v260),(262,v262),(263,v263),(266,v266),(267,v267),(268,v268),(280,v280),(270,v270),(271,v271),(272,v272),(273,v273)]
theorem k4_1:a4_1.all mP=true:=by kernel_rfl
def a4_2:TL:=[(274,v274),(275,v275),(276,v276),(277,v277),(278,v278),(281,v281),(283,v283),(255,v255),(256,v256),(258,v258),(287,v287),(288,v288),(291,v291),(292,v292),(293,v293),(294,v294)]
theorem k4_2:a4_2.all mP=true:=by kernel_rfl
def a4_3:TL:=[(295,v295),(296,v296),(297,v297),(301,v301),(302,v302)]
theorem k4_3:a4_3.all mP=true:=by kernel_rfl
theorem m223:mFun prog 223 v223=true:=by kernel_rfl
theorem m244:mFun prog 244 v244=true:=by kernel_rfl
end
end Go.Vs.Tryz
