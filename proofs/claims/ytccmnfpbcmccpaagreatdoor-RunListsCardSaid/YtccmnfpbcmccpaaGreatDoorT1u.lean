/- Functions of the program in the language of the value semantics,part 1,and that they match. -/
import Derived.Test.YtccmnfpbcmccpaaGreatDoorT0u
set_option linter.unusedSimpArgs false
set_option linter.unusedVariables false
set_option linter.deprecated false

/- Functions of the program in the language of the value semantics,part 1,and that they match. -/
namespace Go.Vs.Tryz
open Go Go.Vs Go.Proofs.Tryz
set_option maxRecDepth 100000
set_option maxHeartbeats 8000000
noncomputable section
def v10:=G (lc f10 (cc f10 (ov:=[(38,0,[])]) (dr:=[(37,[1600]),(50,[3072])]))).1
def v25:=G (F1 f25)
def v16:=G (F1 f16)
def c18:=G (cc f18)
def MJ:=G (lp 0 (lc f18 c18))
def v18:=(fun a=>G (lc f18 c18 [a]).1) MJ
def v19:=G (F1 f19)
def c27:=G (cc f27 (ov:=[(36,5,[])]) (dr:=[(23,[1536]),(29,[2304])]) (rb:=(114,20,true)))
def Ly:=G (lp 0 (lc f27 c27))
def v27:=(fun a=>G (lc f27 c27 [a]).1) Ly
def v30:=G (F1 f30)
def v31:=G (F1 f31)
def c33:=G (cc f33 (dr:=[(12,[1280])]))
def Iq:=G (lp 0 (lc f33 c33))
def v33:=(fun a=>G (lc f33 c33 [a]).1) Iq
def v34:=G (lc f34 (cc f34 (dr:=[(10,[512])]))).1
def c35:=G (cc f35 (ov:=[(60,5,[])]) (dr:=[(57,[2816]),(62,[3520]),(66,[2816,3520,3840])]))
def N5:=G (lp 0 (lc f35 c35))
def v35:=(fun a=>G (lc f35 c35 [a]).1) N5
def c37:=G (cc f37)
def N6:=G (lp 0 (lc f37 c37))
def v37:=(fun a=>G (lc f37 c37 [a]).1) N6
def v38:=G (F1 f38)
def c41:=G (cc f41 (ov:=[(3,4,[0,11]),(27,1,[0])]) (dr:=[(13,[1216]),(21,[1216])]))
def Nk:=G (lp 0 (lc f41 c41))
def v41:=(fun a=>G (lc f41 c41 [a]).1) Nk
def c46:=G (cc f46 (ov:=[(4,0,[])]) (dr:=[(22,[1280])]))
def Og:=G (lp 0 (lc f46 c46))
def v46:=(fun a=>G (lc f46 c46 [a] (k:=true)).1) Og
def c47:=G (cc f47 (dr:=[(170,[9536]),(171,[9536])]))
def CS:=G (lp 0 (lc f47 c47))
def v47:=(fun a=>G (lc f47 c47 [a]).1) CS
def c48:=G (cc f48 (dr:=[(28,[768,64]),(35,[768,1184,1185,1186,1440,1441,1442,1664]),(69,[3776])]))
def Cl:=G (lp 0 (lc f48 c48))
def v48:=(fun a=>G (lc f48 c48 [a]).1) Cl
def c49:=G (cc f49 (dr:=[(21,[832])]))
def HT:=G (lp 0 (lc f49 c49))
def IR:=(fun a=>G (lp 1 (lc f49 c49 [a]))) HT
def v49:=(fun a b=>G (lc f49 c49 [a,b]).1) HT IR
def v52:=G (F1 f52)
def c53:=G (cc f53)
def M6:=G (lp 0 (lc f53 c53))
def v53:=(fun a=>G (lc f53 c53 [a]).1) M6
def c54:=G (cc f54)
def Lj:=G (lp 0 (lc f54 c54))
def v54:=(fun a=>G (lc f54 c54 [a]).1) Lj
def v55:=G (lc f55 (cc f55 (dr:=[(10,[64])]))).1
def v61:=G (lc f61 (cc f61) (k:=true)).1
def c71:=G (cc f71 (dr:=[(17,[704])]))
def JI:=G (lp 0 (lc f71 c71))
def v71:=(fun a=>G (lc f71 c71 [a]).1) JI
def c72:=G (cc f72 (ov:=[(17,3,[0,4,1,20]),(65,5,[]),(75,5,[])]) (dr:=[(37,[2688]),(45,[3200])]))
def GO:=G (lp 0 (lc f72 c72))
def v72:=(fun a=>G (lc f72 c72 [a]).1) GO
def c73:=G (cc f73)
def No:=G (lp 0 (lc f73 c73))
def v73:=(fun a=>G (lc f73 c73 [a]).1) No
def c74:=G (cc f74 (ov:=[(8,4,[0,3])]) (dr:=[(101,[7040]),(112,[7040])]))
def KV:=G (lp 0 (lc f74 c74))
def HS:=(fun a=>G (lp 1 (lc f74 c74 [a]))) KV
def DV:=(fun a b=>G (lp 2 (lc f74 c74 [a,b]))) KV HS
def v74:=(fun a b c=>G (lc f74 c74 [a,b,c]).1) KV HS DV
def v75:=G (lc f75 (cc f75) (k:=true)).1
def c76:=G (cc f76 (ov:=[(114,5,[])]) (dr:=[(105,[6912]),(109,[7296])]))
def GR:=G (lp 0 (lc f76 c76))
def v76:=(fun a=>G (lc f76 c76 [a]).1) GR
def v78:=G (F1 f78)
def c79:=G (cc f79 (dr:=[(31,[64])]))
def KF:=G (lp 0 (lc f79 c79))
def Lh:=(fun a=>G (lp 1 (lc f79 c79 [a]))) KF
def v79:=(fun a b=>G (lc f79 c79 [a,b]).1) KF Lh
def c80:=G (cc f80)
def MI:=G (lp 0 (lc f80 c80))
def v80:=(fun a=>G (lc f80 c80 [a]).1) MI
def v90:=G (lc f90 (cc f90 (ov:=[(3,6,[])]))).1
def v91:=G (F1 f91)
def v92:=G (F1 f92)
def v93:=G (F1 f93)
def a1_0:TL:=[(10,v10),(25,v25),(16,v16),(18,v18),(19,v19),(27,v27),(30,v30),(31,v31),(33,v33),(34,v34),(35,v35),(37,v37),(38,v38),(41,v41),(46,v46),(47,v47)]
theorem k1_0:a1_0.all mP=true:=by kernel_rfl
def a1_1:TL:=[(48,v48),(49,v49),(52,v52),(53,v53),(54,v54),(55,v55),(61,v61),(71,v71),(72,v72),(73,v73),(74,v74),(75,v75),(76,v76),(78,v78),(79,v79),(80,v80)]
theorem k1_1:a1_1.all mP=true:=by kernel_rfl
def a1_2:TL:=[(90,v90),(91,v91),(92,v92),(93,v93)]
theorem k1_2:a1_2.all mP=true:=by kernel_rfl
end
end Go.Vs.Tryz
