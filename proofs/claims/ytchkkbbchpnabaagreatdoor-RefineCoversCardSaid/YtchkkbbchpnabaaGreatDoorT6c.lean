/- Functions of the program in the language of the value semantics, part 6, and that they match. -/
import Derived.Test.YtchkkbbchpnabaaGreatDoorT0c
set_option linter.unusedSimpArgs false
set_option linter.unusedVariables false
set_option linter.deprecated false

/- Functions of the program in the language of the value semantics, part 6, and that they match. -/
namespace Go.Vs.Tryz
open Go Go.Vs Go.Proofs.Tryz
set_option maxRecDepth 100000
set_option maxHeartbeats 8000000
noncomputable section
def v111:=G (lc f111 (cc f111) (k:=true)).1
def v112:=G (lc f112 (cc f112) (k:=true)).1
def v113:=G (lc f113 (cc f113 (dr:=[(51,[1024,64])])) (k:=true)).1
def v117:=G (lc f117 (cc f117 (ov:=[(8,0,[])]))).1
def v118:=G (lc f118 (cc f118 (ov:=[(7,1,[0])])) (k:=true)).1
def c119:=G (cc f119 (ov:=[(8,1,[0]),(29,0,[])]) (dr:=[(33,[1856,1920])]))
def l119_0:=G (lp 0 (lc f119 c119))
def v119:=(fun a=>G (lc f119 c119 [a] (k:=true)).1) l119_0
def v120:=G (lc f120 (cc f120) (k:=true)).1
def c121:=G (cc f121 (dr:=[(16,[576,960,1056,1057,1058])]))
def l121_0:=G (lp 0 (lc f121 c121))
def v121:=(fun a=>G (lc f121 c121 [a] (k:=true)).1) l121_0
def c122:=G (cc f122 (ov:=[(2,4,[0,6])]) (dr:=[(36,[2176])]))
def l122_0:=G (lp 0 (lc f122 c122))
def v122:=(fun a=>G (lc f122 c122 [a] (k:=true)).1) l122_0
def c123:=G (cc f123 (dr:=[(33,[1536,2016,2017,2018])]))
def l123_0:=G (lp 0 (lc f123 c123))
def v123:=(fun a=>G (lc f123 c123 [a] (k:=true)).1) l123_0
def v124:=G (lc f124 (cc f124) (k:=true)).1
def c125:=G (cc f125 (dr:=[(15,[864,865,866])]))
def l125_0:=G (lp 0 (lc f125 c125))
def v125:=(fun a=>G (lc f125 c125 [a] (k:=true)).1) l125_0
def c131:=G (cc f131 (dr:=[(13,[576,864,865,866])]))
def l131_0:=G (lp 0 (lc f131 c131))
def v131:=(fun a=>G (lc f131 c131 [a]).1) l131_0
def c132:=G (cc f132 (ov:=[(1,4,[0,6])]) (dr:=[(17,[640,960])]))
def l132_0:=G (lp 0 (lc f132 c132))
def v132:=(fun a=>G (lc f132 c132 [a]).1) l132_0
def v133:=G (F1 f133)
def v134:=G (lc f134 (cc f134 (ov:=[(16,0,[]),(28,0,[])]) (dr:=[(20,[1024]),(32,[1792])])) (k:=true)).1
def v135:=G (F1 f135)
def v145:=G (F1 f145)
def c148:=G (cc f148 (dr:=[(40,[1984])]))
def l148_0:=G (lp 0 (lc f148 c148))
def v148:=(fun a=>G (lc f148 c148 [a]).1) l148_0
def v147:=G (F1 f147)
def c149:=G (cc f149 (dr:=[(15,[864,865,866])]))
def l149_0:=G (lp 0 (lc f149 c149))
def v149:=(fun a=>G (lc f149 c149 [a] (k:=true)).1) l149_0
def c151:=G (cc f151 (ov:=[(14,4,[0,1]),(34,1,[0])]) (dr:=[(11,[576]),(41,[1984,2272,2273,2274,2496]),(49,[2912,2913,2914])]))
def l151_0:=G (lp 0 (lc f151 c151))
def l151_1:=(fun a=>G (lp 1 (lc f151 c151 [a]))) l151_0
def v151:=(fun a b=>G (lc f151 c151 [a,b]).1) l151_0 l151_1
def v152:=G (F1 f152)
def v154:=G (F1 f154)
def v155:=G (F1 f155)
def v157:=G (F1 f157)
def v160:=G (lc f160 (cc f160) (k:=true)).1
def v161:=G (lc f161 (cc f161) (k:=true)).1
def c163:=G (cc f163 (dr:=[(46,[2560]),(50,[2560])]))
def l163_0:=G (lp 0 (lc f163 c163))
def v163:=(fun a=>G (lc f163 c163 [a]).1) l163_0
def v165:=G (F1 f165)
def a6_0:TL:=[(111,v111),(112,v112),(113,v113),(117,v117),(118,v118),(119,v119),(120,v120),(121,v121),(122,v122),(123,v123),(124,v124),(125,v125),(131,v131),(132,v132),(133,v133),(134,v134)]
theorem k6_0:a6_0.all mP=true:=by kernel_rfl
def a6_1:TL:=[(135,v135),(145,v145),(148,v148),(147,v147),(149,v149),(151,v151),(152,v152),(154,v154),(155,v155),(157,v157),(160,v160),(161,v161),(163,v163),(165,v165)]
theorem k6_1:a6_1.all mP=true:=by kernel_rfl
end
end Go.Vs.Tryz
