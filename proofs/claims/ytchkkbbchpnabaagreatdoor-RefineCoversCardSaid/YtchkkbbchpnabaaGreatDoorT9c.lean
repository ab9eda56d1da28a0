/- Functions of the program in the language of the value semantics, part 9, and that they match. -/
import Derived.Test.YtchkkbbchpnabaaGreatDoorT0c
set_option linter.unusedSimpArgs false
set_option linter.unusedVariables false
set_option linter.deprecated false

/- Functions of the program in the language of the value semantics, part 9, and that they match. -/
namespace Go.Vs.Tryz
open Go Go.Vs Go.Proofs.Tryz
set_option maxRecDepth 100000
set_option maxHeartbeats 8000000
noncomputable section
def v238:=G (lc f238 (cc f238) (k:=true)).1
def c237:=G (cc f237 (dr:=[(33,[1568,1569,1570])]))
def l237_0:=G (lp 0 (lc f237 c237))
def v237:=(fun a=>G (lc f237 c237 [a] (k:=true)).1) l237_0
def c239:=G (cc f239)
def l239_0:=G (lp 0 (lc f239 c239))
def v239:=(fun a=>G (lc f239 c239 [a]).1) l239_0
def v232:=G (lc f232 (cc f232 (ov:=[(3,1,[0])])) (k:=true)).1
def v243:=G (lc f243 (cc f243 (dr:=[(33,[1984])]))).1
def c244:=G (cc f244 (dr:=[(15,[864,865,866])]))
def l244_0:=G (lp 0 (lc f244 c244))
def v244:=(fun a=>G (lc f244 c244 [a] (k:=true)).1) l244_0
def c245:=G (cc f245 (dr:=[(15,[864,865,866])]))
def l245_0:=G (lp 0 (lc f245 c245))
def v245:=(fun a=>G (lc f245 c245 [a] (k:=true)).1) l245_0
def c247:=G (cc f247 (dr:=[(28,[1152])]))
def l247_0:=G (lp 0 (lc f247 c247))
def v247:=(fun a=>G (lc f247 c247 [a]).1) l247_0
def v248:=G (lc f248 (cc f248 (ov:=[(4,7,[]),(6,7,[])])) (k:=true)).1
def c252:=G (cc f252 (dr:=[(68,[3904])]))
def l252_0:=G (lp 0 (lc f252 c252))
def v252:=(fun a=>G (lc f252 c252 [a]).1) l252_0
def c253:=G (cc f253 (ov:=[(0,5,[])]))
def v253:=G (lc f253 c253).1
def c254:=G (cc f254 (dr:=[(14,[864,865,866])]))
def l254_0:=G (lp 0 (lc f254 c254))
def v254:=(fun a=>G (lc f254 c254 [a] (k:=true)).1) l254_0
def c180:=G (cc f180)
def l180_0:=G (lp 0 (lc f180 c180))
def v180:=(fun a=>G (lc f180 c180 [a]).1) l180_0
def c255:=G (cc f255)
def l255_0:=G (lp 0 (lc f255 c255))
def v255:=(fun a=>G (lc f255 c255 [a]).1) l255_0
def c256:=G (cc f256)
def l256_0:=G (lp 0 (lc f256 c256))
def v256:=(fun a=>G (lc f256 c256 [a]).1) l256_0
def v258:=G (lc f258 (cc f258) (k:=true)).1
def c257:=G (cc f257 (dr:=[(42,[2048,2592,2593,2594])]))
def l257_0:=G (lp 0 (lc f257 c257))
def v257:=(fun a=>G (lc f257 c257 [a] (k:=true)).1) l257_0
def v261:=G (lc f261 (cc f261) (k:=true)).1
def c265:=G (cc f265 (ov:=[(46,0,[])]) (dr:=[(20,[1696,1697,1698]),(39,[2656,2657,2658]),(41,[2688]),(43,[2944,3008])]) (rb:=(344,10,true)))
def l265_0:=G (lp 0 (lc f265 c265))
def l265_1:=(fun a=>G (lp 1 (lc f265 c265 [a]))) l265_0
def v265:=(fun a b=>G (lc f265 c265 [a,b] (k:=true)).1) l265_0 l265_1
def c270:=G (cc f270 (ov:=[(10,1,[0])]))
def l270_0:=G (lp 0 (lc f270 c270))
def v270:=(fun a=>G (lc f270 c270 [a]).1) l270_0
def c271:=G (cc f271 (ov:=[(14,1,[0]),(20,0,[])]) (dr:=[(48,[2816,3104,3105,3106])]))
def l271_0:=G (lp 0 (lc f271 c271))
def v271:=(fun a=>G (lc f271 c271 [a] (k:=true)).1) l271_0
def c138:=G (cc f138 (dr:=[(42,[1152])]))
def l138_0:=G (lp 0 (lc f138 c138))
def v138:=(fun a=>G (lc f138 c138 [a] (k:=true)).1) l138_0
def c228:=G (cc f228 (dr:=[(23,[1376,1377,1378])]))
def l228_0:=G (lp 0 (lc f228 c228))
def v228:=(fun a=>G (lc f228 c228 [a] (k:=true)).1) l228_0
def v229:=G (lc f229 (cc f229 (ov:=[(9,1,[0])])) (k:=true)).1
def v230:=G (lc f230 (cc f230) (k:=true)).1
def a9_0:TL:=[(238,v238),(237,v237),(239,v239),(232,v232),(243,v243),(244,v244),(245,v245),(247,v247),(252,v252),(253,v253),(254,v254),(180,v180),(255,v255),(256,v256),(258,v258),(257,v257)]
theorem k9_0:a9_0.all mP=true:=by kernel_rfl
def a9_1:TL:=[(261,v261),(265,v265),(270,v270),(271,v271),(138,v138),(228,v228),(229,v229),(230,v230)]
theorem k9_1:a9_1.all mP=true:=by kernel_rfl
theorem m248:mFun prog 248 v248=true:=by kernel_rfl
end
end Go.Vs.Tryz
