/- Functions of the program in the language of the value semantics, part 10, and that they match. -/
import Derived.Test.YtchkkbbchpnabaaGreatDoorT0c
set_option linter.unusedSimpArgs false
set_option linter.unusedVariables false
set_option linter.deprecated false

/- Functions of the program in the language of the value semantics, part 10, and that they match. -/
namespace Go.Vs.Tryz
open Go Go.Vs Go.Proofs.Tryz
set_option maxRecDepth 100000
set_option maxHeartbeats 8000000
noncomputable section
def v231:=G (lc f231 (cc f231) (k:=true)).1
def v233:=G (lc f233 (cc f233 (ov:=[(7,1,[0])])) (k:=true)).1
def c234:=G (cc f234 (ov:=[(5,1,[0]),(31,1,[0])]) (dr:=[(34,[1600])]))
def l234_0:=G (lp 0 (lc f234 c234))
def v234:=(fun a=>G (lc f234 c234 [a]).1) l234_0
def c298:=G (cc f298 (dr:=[(15,[864,865,866])]))
def l298_0:=G (lp 0 (lc f298 c298))
def v298:=(fun a=>G (lc f298 c298 [a] (k:=true)).1) l298_0
def v300:=G (F1 f300)
def v301:=G (F1 f301)
def c299:=G (cc f299)
def l299_0:=G (lp 0 (lc f299 c299))
def v299:=(fun a=>G (lc f299 c299 [a]).1) l299_0
def c302:=G (cc f302 (dr:=[(27,[576,1344]),(31,[576,1344,1696,1697,1698])]))
def l302_0:=G (lp 0 (lc f302 c302))
def v302:=(fun a=>G (lc f302 c302 [a] (k:=true)).1) l302_0
def v307:=G (F1 f307)
def v310:=G (F1 f310)
def v311:=G (lc f311 (cc f311) (k:=true)).1
def c295:=G (cc f295 (dr:=[(17,[704])]))
def l295_0:=G (lp 0 (lc f295 c295))
def v295:=(fun a=>G (lc f295 c295 [a]).1) l295_0
def c317:=G (cc f317 (ov:=[(18,1,[0]),(28,1,[0]),(40,1,[0]),(48,1,[0])]) (dr:=[(11,[64]),(60,[3712]),(69,[4288]),(96,[512,576])]))
def l317_0:=G (lp 0 (lc f317 c317))
def v317:=(fun a=>G (lc f317 c317 [a] (k:=true)).1) l317_0
def v318:=G (lc f318 (cc f318) (k:=true)).1
def v272:=G (lc f272 (cc f272 (ov:=[(10,1,[0])]))).1
def v297:=G (F1 f297)
def v337:=G (F1 f337)
def v338:=G (F1 f338)
def v341:=G (lc f341 (cc f341) (k:=true)).1
def c343:=G (cc f343 (ov:=[(24,1,[0])]) (dr:=[(26,[1536]),(37,[2112,2176]),(87,[4448,4449,4450,4672,5600,5601,5602]),(94,[64,128])]))
def l343_0:=G (lp 0 (lc f343 c343))
def v343:=(fun a=>G (lc f343 c343 [a] (k:=true)).1) l343_0
def v323:=G (F1 f323)
def v336:=G (lc f336 (cc f336) (k:=true)).1
def v352:=G (lc f352 (cc f352 (ov:=[(47,0,[])]) (dr:=[(51,[768,3008])])) (k:=true)).1
def v353:=G (lc f353 (cc f353 (dr:=[(18,[64])])) (k:=true)).1
def v354:=G (lc f354 (cc f354) (k:=true)).1
def a10_0:TL:=[(231,v231),(233,v233),(234,v234),(298,v298),(300,v300),(301,v301),(299,v299),(302,v302),(307,v307),(310,v310),(311,v311),(295,v295),(317,v317),(318,v318),(272,v272),(297,v297)]
theorem k10_0:a10_0.all mP=true:=by kernel_rfl
def a10_1:TL:=[(337,v337),(338,v338),(341,v341),(343,v343),(323,v323),(336,v336),(352,v352),(353,v353),(354,v354)]
theorem k10_1:a10_1.all mP=true:=by kernel_rfl
end
end Go.Vs.Tryz
