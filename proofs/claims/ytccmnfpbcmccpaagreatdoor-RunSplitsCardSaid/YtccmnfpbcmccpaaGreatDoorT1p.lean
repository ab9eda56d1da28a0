/- Functions of the program in the language of the value semantics,part 1,and that they match. -/
import Derived.Test.YtccmnfpbcmccpaaGreatDoorT0p
set_option linter.unusedSimpArgs false
set_option linter.unusedVariables false
set_option linter.deprecated false

/- Functions of the program in the language of the value semantics,part 1,and that they match. -/
namespace Go.Vs.Tryz
open Go Go.Vs Go.Proofs.Tryz
set_option maxRecDepth 100000
set_option maxHeartbeats 8000000
noncomputable section
def v7:=G (lc f7 (cc f7 (dr:=[(51,[1024]),(64,[768,3072])]))).1
def v25:=G (F1 f25)
def v12:=G (F1 f12)
def v16:=G (F1 f16)
def c18:=G (cc f18)
def Mt:=G (lp 0 (lc f18 c18))
def v18:=(fun a=>G (lc f18 c18 [a]).1) Mt
def v19:=G (F1 f19)
def c27:=G (cc f27 (ov:=[(36,5,[])]) (dr:=[(23,[1536]),(29,[2304])]) (rb:=(114,20,true)))
def Zz:=G (lp 0 (lc f27 c27))
def v27:=(fun a=>G (lc f27 c27 [a]).1) Zz
def c28:=G (cc f28 (ov:=[(46,5,[])]) (dr:=[(48,[2112,2944])]))
def Ng:=G (lp 0 (lc f28 c28))
def v28:=(fun a=>G (lc f28 c28 [a]).1) Ng
def c29:=G (cc f29 (ov:=[(9,3,[1,20]),(116,5,[])]) (dr:=[(29,[1280]),(84,[2240,5184]),(106,[5248]),(113,[1280,1792,2240,5184,5248,7040])]))
def Kd:=G (lp 0 (lc f29 c29))
def v29:=(fun a=>G (lc f29 c29 [a]).1) Kd
def v30:=G (F1 f30)
def v31:=G (F1 f31)
def c33:=G (cc f33 (dr:=[(12,[1280])]))
def H2:=G (lp 0 (lc f33 c33))
def v33:=(fun a=>G (lc f33 c33 [a]).1) H2
def v34:=G (lc f34 (cc f34 (dr:=[(10,[512])]))).1
def c41:=G (cc f41 (ov:=[(3,4,[0,11]),(27,1,[0])]) (dr:=[(13,[1216]),(21,[1216])]))
def Mh:=G (lp 0 (lc f41 c41))
def v41:=(fun a=>G (lc f41 c41 [a]).1) Mh
def c42:=G (cc f42 (ov:=[(3,4,[0,4])]) (dr:=[(19,[1088]),(42,[2560])]))
def II:=G (lp 0 (lc f42 c42))
def v42:=(fun a=>G (lc f42 c42 [a]).1) II
def c45:=G (cc f45 (ov:=[(54,4,[0,5])]) (dr:=[(71,[4416])]))
def F2:=G (lp 0 (lc f45 c45))
def v45:=(fun a=>G (lc f45 c45 [a]).1) F2
def c44:=G (cc f44 (dr:=[(72,[64])]))
def v44:=G (lc f44 c44).1
def c46:=G (cc f46 (ov:=[(4,0,[])]) (dr:=[(22,[1280])]))
def MW:=G (lp 0 (lc f46 c46))
def v46:=(fun a=>G (lc f46 c46 [a] (k:=true)).1) MW
def c47:=G (cc f47 (dr:=[(170,[9536]),(171,[9536])]))
def CR:=G (lp 0 (lc f47 c47))
def v47:=(fun a=>G (lc f47 c47 [a]).1) CR
def c48:=G (cc f48 (dr:=[(28,[768,64]),(35,[768,1184,1185,1186,1440,1441,1442,1664]),(69,[3776])]))
def Cz:=G (lp 0 (lc f48 c48))
def v48:=(fun a=>G (lc f48 c48 [a]).1) Cz
def c49:=G (cc f49 (dr:=[(21,[832])]))
def Hu:=G (lp 0 (lc f49 c49))
def HS:=(fun a=>G (lp 1 (lc f49 c49 [a]))) Hu
def v49:=(fun a b=>G (lc f49 c49 [a,b]).1) Hu HS
def c51:=G (cc f51 (dr:=[(27,[64])]))
def IV:=G (lp 0 (lc f51 c51))
def Ly:=(fun a=>G (lp 1 (lc f51 c51 [a]))) IV
def v51:=(fun a b=>G (lc f51 c51 [a,b]).1) IV Ly
def v52:=G (F1 f52)
def c53:=G (cc f53)
def Ol:=G (lp 0 (lc f53 c53))
def v53:=(fun a=>G (lc f53 c53 [a]).1) Ol
def c54:=G (cc f54)
def OI:=G (lp 0 (lc f54 c54))
def v54:=(fun a=>G (lc f54 c54 [a]).1) OI
def v55:=G (lc f55 (cc f55 (dr:=[(10,[64])]))).1
def v61:=G (lc f61 (cc f61) (k:=true)).1
def v62:=G (F1 f62)
def v63:=G (F1 f63)
def v66:=G (lc f66 (cc f66 (dr:=[(11,[64,576])]))).1
def v65:=G (F1 f65)
def v64:=G (lc f64 (cc f64 (ov:=[(3,0,[])]))).1
def c67:=G (cc f67 (ov:=[(11,4,[0,5])]) (dr:=[(11,[64]),(24,[1408])]))
def Lm:=G (lp 0 (lc f67 c67))
def v67:=(fun a=>G (lc f67 c67 [a]).1) Lm
def c68:=G (cc f68 (dr:=[(10,[64])]))
def M3:=G (lp 0 (lc f68 c68))
def v68:=(fun a=>G (lc f68 c68 [a]).1) M3
def v69:=G (F1 f69)
def c71:=G (cc f71 (dr:=[(17,[704])]))
def IR:=G (lp 0 (lc f71 c71))
def v71:=(fun a=>G (lc f71 c71 [a]).1) IR
def c72:=G (cc f72 (ov:=[(17,3,[0,4,1,20]),(65,5,[]),(75,5,[])]) (dr:=[(37,[2688]),(45,[3200])]))
def ED:=G (lp 0 (lc f72 c72))
def v72:=(fun a=>G (lc f72 c72 [a]).1) ED
def c74:=G (cc f74 (ov:=[(8,4,[0,3])]) (dr:=[(101,[7040]),(112,[7040])]))
def LO:=G (lp 0 (lc f74 c74))
def T7:=(fun a=>G (lp 1 (lc f74 c74 [a]))) LO
def K3:=(fun a b=>G (lp 2 (lc f74 c74 [a,b]))) LO T7
def v74:=(fun a b c=>G (lc f74 c74 [a,b,c]).1) LO T7 K3
def v75:=G (lc f75 (cc f75) (k:=true)).1
def c76:=G (cc f76 (ov:=[(114,5,[])]) (dr:=[(105,[6912]),(109,[7296])]))
def Za6:=G (lp 0 (lc f76 c76))
def v76:=(fun a=>G (lc f76 c76 [a]).1) Za6
def v78:=G (F1 f78)
def c79:=G (cc f79 (dr:=[(31,[64])]))
def Rv:=G (lp 0 (lc f79 c79))
def Zb5:=(fun a=>G (lp 1 (lc f79 c79 [a]))) Rv
def v79:=(fun a b=>G (lc f79 c79 [a,b]).1) Rv Zb5
def c80:=G (cc f80)
def Mp:=G (lp 0 (lc f80 c80))
def v80:=(fun a=>G (lc f80 c80 [a]).1) Mp
def v81:=G (lc f81 (cc f81 (dr:=[(9,[448])]))).1
def v82:=G (F1 f82)
def v90:=G (lc f90 (cc f90 (ov:=[(3,6,[])]))).1
def v85:=G (F1 f85)
def c83:=G (cc f83 (ov:=[(2,4,[0,1])]) (dr:=[(33,[1984]),(61,[64]),(65,[64])]))
def OP:=G (lp 0 (lc f83 c83))
def v83:=(fun a=>G (lc f83 c83 [a]).1) OP
def v84:=G (F1 f84)
def v86:=G (lc f86 (cc f86 (dr:=[(49,[1600])]))).1
def c87:=G (cc f87 (ov:=[(20,4,[0,5]),(50,3,[5,14]),(79,3,[2,1]),(123,5,[]),(131,5,[])]) (dr:=[(34,[2048]),(93,[5632]),(100,[6208]),(109,[5632,6208]),(128,[5056,5120,5123,8000])]))
def Ho:=G (lp 0 (lc f87 c87))
def Jw:=(fun a=>G (lp 1 (lc f87 c87 [a]))) Ho
def LQ:=(fun a b=>G (lp 2 (lc f87 c87 [a,b]))) Ho Jw
def v87:=(fun a b c=>G (lc f87 c87 [a,b,c]).1) Ho Jw LQ
def c88:=G (cc f88)
def MB:=G (lp 0 (lc f88 c88))
def v88:=(fun a=>G (lc f88 c88 [a]).1) MB
def c89:=G (cc f89 (ov:=[(57,5,[])]) (dr:=[(59,[3008,3648])]))
def Iy:=G (lp 0 (lc f89 c89))
def v89:=(fun a=>G (lc f89 c89 [a]).1) Iy
def a1_0:TL:=[(7,v7),(25,v25),(12,v12),(16,v16),(18,v18),(19,v19),(27,v27),(28,v28),(29,v29),(30,v30),(31,v31),(33,v33),(34,v34),(41,v41),(42,v42),(45,v45)]
theorem k1_0:a1_0.all mP=true:=by kernel_rfl
def a1_1:TL:=[(44,v44),(46,v46),(47,v47),(48,v48),(49,v49),(51,v51),(52,v52),(53,v53),(54,v54),(55,v55),(61,v61),(62,v62),(63,v63),(66,v66),(65,v65),(64,v64)]
theorem k1_1:a1_1.all mP=true:=by kernel_rfl
def a1_2:TL:=[(67,v67),(68,v68),(69,v69),(71,v71),(72,v72),(74,v74),(75,v75),(76,v76),(78,v78),(79,v79),(80,v80),(81,v81),(82,v82),(90,v90),(85,v85),(83,v83)]
theorem k1_2:a1_2.all mP=true:=by kernel_rfl
def a1_3:TL:=[(84,v84),(86,v86),(87,v87),(88,v88),(89,v89)]
theorem k1_3:a1_3.all mP=true:=by kernel_rfl
end
end Go.Vs.Tryz
