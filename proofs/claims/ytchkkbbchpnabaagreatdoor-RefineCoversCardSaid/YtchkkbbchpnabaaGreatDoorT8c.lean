/- Functions of the program in the language of the value semantics, part 8, and that they match. -/
import Derived.Test.YtchkkbbchpnabaaGreatDoorT0c
set_option linter.unusedSimpArgs false
set_option linter.unusedVariables false
set_option linter.deprecated false

/- Functions of the program in the language of the value semantics, part 8, and that they match. -/
namespace Go.Vs.Tryz
open Go Go.Vs Go.Proofs.Tryz
set_option maxRecDepth 100000
set_option maxHeartbeats 8000000
noncomputable section
def c199:=G (cc f199 (ov:=[(2,4,[0,1])]) (dr:=[(38,[2304]),(40,[1280])]))
def l199_0:=G (lp 0 (lc f199 c199))
def l199_1:=(fun a=>G (lp 1 (lc f199 c199 [a]))) l199_0
def v199:=(fun a b=>G (lc f199 c199 [a,b]).1) l199_0 l199_1
def c200:=G (cc f200 (dr:=[(15,[864,865,866])]))
def l200_0:=G (lp 0 (lc f200 c200))
def v200:=(fun a=>G (lc f200 c200 [a] (k:=true)).1) l200_0
def v201:=G (F1 f201)
def v202:=G (F1 f202)
def c203:=G (cc f203 (dr:=[(18,[64]),(39,[64]),(95,[64]),(194,[64,12288])]))
def v203:=G (lc f203 c203 (k:=true)).1
def v204:=G (lc f204 (cc f204 (dr:=[(10,[64,128])])) (k:=true)).1
def v205:=G (lc f205 (cc f205) (k:=true)).1
def v208:=G (lc f208 (cc f208 (ov:=[(7,1,[0])]) (dr:=[(14,[64])])) (k:=true)).1
def v211:=G (F1 f211)
def c212:=G (cc f212 (ov:=[(9,1,[0]),(27,1,[0])]) (dr:=[(30,[1088])]))
def l212_0:=G (lp 0 (lc f212 c212))
def v212:=(fun a=>G (lc f212 c212 [a]).1) l212_0
def c213:=G (cc f213 (dr:=[(20,[1024,1312,1313,1314])]))
def l213_0:=G (lp 0 (lc f213 c213))
def v213:=(fun a=>G (lc f213 c213 [a]).1) l213_0
def v214:=G (lc f214 (cc f214) (k:=true)).1
def c215:=G (cc f215)
def l215_0:=G (lp 0 (lc f215 c215))
def v215:=(fun a=>G (lc f215 c215 [a]).1) l215_0
def v216:=G (F1 f216)
def v224:=G (lc f224 (cc f224 (ov:=[(15,0,[])])) (k:=true)).1
def c223:=G (cc f223 (dr:=[(16,[768,1056,1057,1058])]))
def l223_0:=G (lp 0 (lc f223 c223))
def v223:=(fun a=>G (lc f223 c223 [a] (k:=true)).1) l223_0
def c225:=G (cc f225 (dr:=[(21,[832])]))
def l225_0:=G (lp 0 (lc f225 c225))
def v225:=(fun a=>G (lc f225 c225 [a]).1) l225_0
def c227:=G (cc f227 (dr:=[(21,[768])]))
def l227_0:=G (lp 0 (lc f227 c227))
def v227:=(fun a=>G (lc f227 c227 [a] (k:=true)).1) l227_0
def c226:=G (cc f226 (dr:=[(33,[1536,2016,2017,2018])]))
def l226_0:=G (lp 0 (lc f226 c226))
def v226:=(fun a=>G (lc f226 c226 [a] (k:=true)).1) l226_0
def v136:=G (F1 f136)
def v137:=G (lc f137 (cc f137) (k:=true)).1
def c139:=G (cc f139 (ov:=[(16,0,[]),(22,4,[0,5])]) (dr:=[(9,[64]),(22,[1024]),(49,[1888,1889,1890,2176,2240,2880])]))
def l139_0:=G (lp 0 (lc f139 c139))
def v139:=(fun a=>G (lc f139 c139 [a] (k:=true)).1) l139_0
def v140:=G (lc f140 (cc f140 (ov:=[(7,1,[0])])) (k:=true)).1
def v141:=G (lc f141 (cc f141 (ov:=[(4,7,[]),(6,7,[])])) (k:=true)).1
def v142:=G (lc f142 (cc f142 (ov:=[(6,1,[0]),(13,1,[0])]))).1
def c143:=G (cc f143 (ov:=[(1,4,[0,6])]) (dr:=[(20,[1152]),(43,[2176])]))
def l143_0:=G (lp 0 (lc f143 c143))
def l143_1:=(fun a=>G (lp 1 (lc f143 c143 [a]))) l143_0
def v143:=(fun a b=>G (lc f143 c143 [a,b]).1) l143_0 l143_1
def c236:=G (cc f236)
def l236_0:=G (lp 0 (lc f236 c236))
def v236:=(fun a=>G (lc f236 c236 [a]).1) l236_0
def a8_0:TL:=[(199,v199),(200,v200),(201,v201),(202,v202),(203,v203),(204,v204),(205,v205),(208,v208),(211,v211),(212,v212),(213,v213),(214,v214),(215,v215),(216,v216),(224,v224),(223,v223)]
theorem k8_0:a8_0.all mP=true:=by kernel_rfl
def a8_1:TL:=[(225,v225),(227,v227),(226,v226),(136,v136),(137,v137),(139,v139),(140,v140),(142,v142),(143,v143),(236,v236)]
theorem k8_1:a8_1.all mP=true:=by kernel_rfl
theorem m141:mFun prog 141 v141=true:=by kernel_rfl
end
end Go.Vs.Tryz
