/- Functions of the program in the language of the value semantics, part 4, and that they match. -/
import Derived.Test.YtlhcebpnnceodaaGreatDoorT0t
set_option linter.unusedSimpArgs false
set_option linter.unusedVariables false
set_option linter.deprecated false

/- Functions of the program in the language of the value semantics, part 4, and that they match. -/
namespace Go.Vs.Tryz
open Go Go.Vs Go.Proofs.Tryz
set_option maxRecDepth 100000
set_option maxHeartbeats 8000000
noncomputable section
def c129:=G (cc f129 (ov:=[(18,1,[0]),(28,1,[0]),(40,1,[0]),(48,1,[0])]) (dr:=[(11,[1024]),(60,[4672]),(69,[5248]),(96,[1472,1536])]))
def l129_0:=G (lp 0 (lc f129 c129))
def v129:=(fun a=>G (lc f129 c129 [a] (k:=true)).1) l129_0
def v130:=G (lc f130 (cc f130) (k:=true)).1
def c64:=G (cc f64 (ov:=[(16,0,[]),(22,4,[0,5])]) (dr:=[(9,[1024]),(22,[1984]),(49,[2848,2849,2850,3136,3200,3840])]))
def l64_0:=G (lp 0 (lc f64 c64))
def v64:=(fun a=>G (lc f64 c64 [a] (k:=true)).1) l64_0
def v65:=G (lc f65 (cc f65) (k:=true)).1
def v132:=G (lc f132 (cc f132 (ov:=[(4,7,[]),(6,7,[])]))).1
def c134:=G (cc f134)
def l134_0:=G (lp 0 (lc f134 c134))
def v134:=(fun a=>G (lc f134 c134 [a]).1) l134_0
def c97:=G (cc f97 (dr:=[(21,[2208,2209,2210])]))
def l97_0:=G (lp 0 (lc f97 c97))
def v97:=(fun a=>G (lc f97 c97 [a] (k:=true)).1) l97_0
def c136:=G (cc f136)
def l136_0:=G (lp 0 (lc f136 c136))
def v136:=(fun a=>G (lc f136 c136 [a]).1) l136_0
def c126:=G (cc f126)
def l126_0:=G (lp 0 (lc f126 c126))
def v126:=(fun a=>G (lc f126 c126 [a]).1) l126_0
def v110:=G (lc f110 (cc f110 (ov:=[(10,1,[0])]))).1
def v143:=G (lc f143 (cc f143) (k:=true)).1
def c145:=G (cc f145 (ov:=[(24,1,[0])]) (dr:=[(26,[2496]),(37,[3072,3136]),(87,[5408,5409,5410,5632,6560,6561,6562]),(94,[1024,1088])]))
def l145_0:=G (lp 0 (lc f145 c145))
def v145:=(fun a=>G (lc f145 c145 [a] (k:=true)).1) l145_0
def c96:=G (cc f96 (dr:=[(23,[2336,2337,2338])]))
def l96_0:=G (lp 0 (lc f96 c96))
def v96:=(fun a=>G (lc f96 c96 [a] (k:=true)).1) l96_0
def v98:=G (lc f98 (cc f98) (k:=true)).1
def v131:=G (F1 f131)
def v135:=G (F1 f135)
def v155:=G (lc f155 (cc f155 (ov:=[(47,0,[])]) (dr:=[(51,[1728,3968])])) (k:=true)).1
def v156:=G (lc f156 (cc f156 (dr:=[(18,[1024])])) (k:=true)).1
def c157:=G (cc f157 (dr:=[(20,[1984,2272,2273,2274])]))
def l157_0:=G (lp 0 (lc f157 c157))
def v157:=(fun a=>G (lc f157 c157 [a]).1) l157_0
def v158:=G (lc f158 (cc f158) (k:=true)).1
def v99:=G (lc f99 (cc f99) (k:=true)).1
def v148:=G (lc f148 (cc f148) (k:=true)).1
def c147:=G (cc f147 (dr:=[(33,[2496,2976,2977,2978])]))
def l147_0:=G (lp 0 (lc f147 c147))
def v147:=(fun a=>G (lc f147 c147 [a] (k:=true)).1) l147_0
def c181:=G (cc f181 (ov:=[(14,1,[0]),(20,0,[])]) (dr:=[(48,[3776,4064,4065,4066])]))
def l181_0:=G (lp 0 (lc f181 c181))
def v181:=(fun a=>G (lc f181 c181 [a] (k:=true)).1) l181_0
def v100:=G (lc f100 (cc f100 (dr:=[(8,[1024])])) (k:=true)).1
def a4_0:TL:=[(129,v129),(130,v130),(64,v64),(65,v65),(134,v134),(97,v97),(136,v136),(126,v126),(110,v110),(143,v143),(145,v145),(96,v96),(98,v98),(131,v131),(135,v135),(155,v155)]
theorem k4_0:a4_0.all mP=true:=by kernel_rfl
def a4_1:TL:=[(156,v156),(157,v157),(158,v158),(99,v99),(148,v148),(147,v147),(181,v181),(100,v100)]
theorem k4_1:a4_1.all mP=true:=by kernel_rfl
theorem m132:mFun prog 132 v132=true:=by kernel_rfl
end
end Go.Vs.Tryz
