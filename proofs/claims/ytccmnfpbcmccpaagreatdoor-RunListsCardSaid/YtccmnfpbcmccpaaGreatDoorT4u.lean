/- Functions of the program in the language of the value semantics,part 4,and that they match. -/
import Derived.Test.YtccmnfpbcmccpaaGreatDoorT0u
set_option linter.unusedSimpArgs false
set_option linter.unusedVariables false
set_option linter.deprecated false

/- Functions of the program in the language of the value semantics,part 4,and that they match. -/
namespace Go.Vs.Tryz
open Go Go.Vs Go.Proofs.Tryz
set_option maxRecDepth 100000
set_option maxHeartbeats 8000000
noncomputable section
def c237:=G (cc f237 (dr:=[(29,[800,801,802])]))
def Lf:=G (lp 0 (lc f237 c237))
def v237:=(fun a=>G (lc f237 c237 [a]).1) Lf
def c238:=G (cc f238 (ov:=[(14,4,[0,1]),(34,1,[0])]) (dr:=[(11,[576]),(41,[1984,2272,2273,2274,2496]),(49,[2912,2913,2914])]))
def H2:=G (lp 0 (lc f238 c238))
def NV:=(fun a=>G (lp 1 (lc f238 c238 [a]))) H2
def v238:=(fun a b=>G (lc f238 c238 [a,b]).1) H2 NV
def c239:=G (cc f239)
def KS:=G (lp 0 (lc f239 c239))
def v239:=(fun a=>G (lc f239 c239 [a]).1) KS
def v240:=G (F1 f240)
def c242:=G (cc f242 (dr:=[(26,[960,1568,1569,1570])]))
def KG:=G (lp 0 (lc f242 c242))
def v242:=(fun a=>G (lc f242 c242 [a] (k:=true)).1) KG
def v241:=G (F1 f241)
def c243:=G (cc f243 (dr:=[(41,[1600])]))
def KA:=G (lp 0 (lc f243 c243))
def v243:=(fun a=>G (lc f243 c243 [a]).1) KA
def v244:=G (lc f244 (cc f244 (ov:=[(4,7,[]),(6,7,[])])) (k:=true)).1
def v259:=G (F1 f259)
def v260:=G (F1 f260)
def v262:=G (lc f262 (cc f262) (k:=true)).1
def v263:=G (lc f263 (cc f263) (k:=true)).1
def v266:=G (F1 f266)
def v267:=G (F1 f267)
def c268:=G (cc f268)
def Hu:=G (lp 0 (lc f268 c268))
def v268:=(fun a=>G (lc f268 c268 [a]).1) Hu
def v280:=G (F1 f280)
def c270:=G (cc f270)
def KM:=G (lp 0 (lc f270 c270))
def Kx:=(fun a=>G (lp 1 (lc f270 c270 [a]))) KM
def v270:=(fun a b=>G (lc f270 c270 [a,b]).1) KM Kx
def c271:=G (cc f271 (ov:=[(17,1,[0]),(50,1,[0])]))
def Kt:=G (lp 0 (lc f271 c271))
def Ln:=(fun a=>G (lp 1 (lc f271 c271 [a]))) Kt
def v271:=(fun a b=>G (lc f271 c271 [a,b]).1) Kt Ln
def c272:=G (cc f272 (ov:=[(28,1,[0])]))
def Kv:=G (lp 0 (lc f272 c272))
def v272:=(fun a=>G (lc f272 c272 [a]).1) Kv
def v273:=G (lc f273 (cc f273 (ov:=[(31,1,[0]),(35,1,[0]),(39,1,[0]),(45,1,[0])]))).1
def c274:=G (cc f274)
def Ue:=G (lp 0 (lc f274 c274))
def v274:=(fun a=>G (lc f274 c274 [a]).1) Ue
def c275:=G (cc f275)
def E9:=G (lp 0 (lc f275 c275))
def FZ:=(fun a=>G (lp 1 (lc f275 c275 [a]))) E9
def G3:=(fun a b=>G (lp 2 (lc f275 c275 [a,b]))) E9 FZ
def Mm:=(fun a b c=>G (lp 3 (lc f275 c275 [a,b,c]))) E9 FZ G3
def v275:=(fun a b c d=>G (lc f275 c275 [a,b,c,d]).1) E9 FZ G3 Mm
def v276:=G (F1 f276)
def c277:=G (cc f277)
def Hy:=G (lp 0 (lc f277 c277))
def HR:=(fun a=>G (lp 1 (lc f277 c277 [a]))) Hy
def Jr:=(fun a b=>G (lp 2 (lc f277 c277 [a,b]))) Hy HR
def v277:=(fun a b c=>G (lc f277 c277 [a,b,c]).1) Hy HR Jr
def c278:=G (cc f278)
def Fg:=G (lp 0 (lc f278 c278))
def Gc:=(fun a=>G (lp 1 (lc f278 c278 [a]))) Fg
def G8:=(fun a b=>G (lp 2 (lc f278 c278 [a,b]))) Fg Gc
def Ic:=(fun a b c=>G (lp 3 (lc f278 c278 [a,b,c]))) Fg Gc G8
def Jj:=(fun a b c d=>G (lp 4 (lc f278 c278 [a,b,c,d]))) Fg Gc G8 Ic
def v278:=(fun a b c d e=>G (lc f278 c278 [a,b,c,d,e]).1) Fg Gc G8 Ic Jj
def v255:=G (F1 f255)
def c256:=G (cc f256 (dr:=[(33,[1568,1569,1570])]))
def YH:=G (lp 0 (lc f256 c256))
def v256:=(fun a=>G (lc f256 c256 [a] (k:=true)).1) YH
def v258:=G (F1 f258)
def v287:=G (F1 f287)
def v288:=G (F1 f288)
def c291:=G (cc f291)
def NP:=G (lp 0 (lc f291 c291))
def v291:=(fun a=>G (lc f291 c291 [a]).1) NP
def v292:=G (F1 f292)
def v293:=G (F1 f293)
def v294:=G (lc f294 (cc f294 (ov:=[(8,1,[0])]))).1
def v295:=G (lc f295 (cc f295 (ov:=[(5,1,[0]),(15,1,[0]),(25,1,[0])]))).1
def v296:=G (F1 f296)
def v301:=G (F1 f301)
def a4_0:TL:=[(237,v237),(238,v238),(239,v239),(240,v240),(242,v242),(241,v241),(243,v243),(259,v259),(260,v260),(262,v262),(263,v263),(266,v266),(267,v267),(268,v268),(280,v280),(270,v270)]
theorem k4_0:a4_0.all mP=true:=by kernel_rfl
def a4_1:TL:=[(271,v271),(272,v272),(273,v273),(274,v274),(275,v275),(276,v276),(277,v277),(278,v278),(255,v255),(256,v256),(258,v258),(287,v287),(288,v288),(291,v291),(292,v292),(293,v293)]
theorem k4_1:a4_1.all mP=true:=by kernel_rfl
def a4_2:TL:=[(294,v294),(295,v295),(296,v296),(301,v301)]
theorem k4_2:a4_2.all mP=true:=by kernel_rfl
theorem m244:mFun prog 244 v244=true:=by kernel_rfl
end
end Go.Vs.Tryz
