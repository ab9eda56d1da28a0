/- Functions of the program in the language of the value semantics,part 1,and that they match. -/
import Derived.Test.YtccmnfpbcmccpaaGreatDoorT0w
set_option linter.all false

/- Functions of the program in the language of the value semantics,part 1,and that they match. -/
namespace Go.Vs.Tryz
open Go Go.Vs Go.Proofs.Tryz
set_option maxRecDepth 100000
set_option maxHeartbeats 8000000
noncomputable section
def c9:=G (cc f9 (dr:=[(57,[2240,2944]),(58,[2240,2944])]))
def l9_0:=G (lp 0 (lc f9 c9))
def v9:=(fun a=>G (lc f9 c9 [a]).1) l9_0
def v25:=G (F1 f25)
def v12:=G (F1 f12)
def c15:=G (cc f15 (dr:=[(6,[64])]))
def OT:=G (lp 0 (lc f15 c15))
def v15:=(fun a=>G (lc f15 c15 [a]).1) OT
def v16:=G (F1 f16)
def v17:=G (F1 f17)
def c18:=G (cc f18)
def Mq:=G (lp 0 (lc f18 c18))
def v18:=(fun a=>G (lc f18 c18 [a]).1) Mq
def v19:=G (F1 f19)
def v20:=G (F1 f20)
def c27:=G (cc f27 (ov:=[(36,5,[])]) (dr:=[(23,[1536]),(29,[2304])]) (rb:=(114,20,true)))
def Ze:=G (lp 0 (lc f27 c27))
def v27:=(fun a=>G (lc f27 c27 [a]).1) Ze
def c28:=G (cc f28 (ov:=[(46,5,[])]) (dr:=[(48,[2112,2944])]))
def LV:=G (lp 0 (lc f28 c28))
def v28:=(fun a=>G (lc f28 c28 [a]).1) LV
def c29:=G (cc f29 (ov:=[(9,3,[1,20]),(116,5,[])]) (dr:=[(29,[1280]),(84,[2240,5184]),(106,[5248]),(113,[1280,1792,2240,5184,5248,7040])]))
def K1:=G (lp 0 (lc f29 c29))
def v29:=(fun a=>G (lc f29 c29 [a]).1) K1
def v30:=G (F1 f30)
def v31:=G (F1 f31)
def c33:=G (cc f33 (dr:=[(12,[1280])]))
def HS:=G (lp 0 (lc f33 c33))
def v33:=(fun a=>G (lc f33 c33 [a]).1) HS
def v34:=G (lc f34 (cc f34 (dr:=[(10,[512])]))).1
def c35:=G (cc f35 (ov:=[(60,5,[])]) (dr:=[(57,[2816]),(62,[3520]),(66,[2816,3520,3840])]))
def Mn:=G (lp 0 (lc f35 c35))
def v35:=(fun a=>G (lc f35 c35 [a]).1) Mn
def c36:=G (cc f36 (ov:=[(64,5,[])]) (dr:=[(19,[64]),(41,[1600]),(66,[3776]),(70,[3776,4096])]))
def LM:=G (lp 0 (lc f36 c36))
def v36:=(fun a=>G (lc f36 c36 [a]).1) LM
def c41:=G (cc f41 (ov:=[(3,4,[0,11]),(27,1,[0])]) (dr:=[(13,[1216]),(21,[1216])]))
def MN:=G (lp 0 (lc f41 c41))
def v41:=(fun a=>G (lc f41 c41 [a]).1) MN
def c42:=G (cc f42 (ov:=[(3,4,[0,4])]) (dr:=[(19,[1088]),(42,[2560])]))
def JG:=G (lp 0 (lc f42 c42))
def v42:=(fun a=>G (lc f42 c42 [a]).1) JG
def c45:=G (cc f45 (ov:=[(54,4,[0,5])]) (dr:=[(71,[4416])]))
def Gj:=G (lp 0 (lc f45 c45))
def v45:=(fun a=>G (lc f45 c45 [a]).1) Gj
def c44:=G (cc f44 (dr:=[(72,[64])]))
def v44:=G (lc f44 c44).1
def c46:=G (cc f46 (ov:=[(4,0,[])]) (dr:=[(22,[1280])]))
def N3:=G (lp 0 (lc f46 c46))
def v46:=(fun a=>G (lc f46 c46 [a] (k:=true)).1) N3
def c47:=G (cc f47 (dr:=[(170,[9536]),(171,[9536])]))
def Da:=G (lp 0 (lc f47 c47))
def v47:=(fun a=>G (lc f47 c47 [a]).1) Da
def c48:=G (cc f48 (dr:=[(28,[768,64]),(35,[768,1184,1185,1186,1440,1441,1442,1664]),(69,[3776])]))
def CP:=G (lp 0 (lc f48 c48))
def v48:=(fun a=>G (lc f48 c48 [a]).1) CP
def c49:=G (cc f49 (dr:=[(21,[832])]))
def Ic:=G (lp 0 (lc f49 c49))
def IR:=(fun a=>G (lp 1 (lc f49 c49 [a]))) Ic
def v49:=(fun a b=>G (lc f49 c49 [a,b]).1) Ic IR
def c50:=G (cc f50)
def v50:=G (lc f50 c50).1
def c51:=G (cc f51 (dr:=[(27,[64])]))
def Lz:=G (lp 0 (lc f51 c51))
def MV:=(fun a=>G (lp 1 (lc f51 c51 [a]))) Lz
def v51:=(fun a b=>G (lc f51 c51 [a,b]).1) Lz MV
def v52:=G (F1 f52)
def c53:=G (cc f53)
def M0:=G (lp 0 (lc f53 c53))
def v53:=(fun a=>G (lc f53 c53 [a]).1) M0
def c54:=G (cc f54)
def Qg:=G (lp 0 (lc f54 c54))
def v54:=(fun a=>G (lc f54 c54 [a]).1) Qg
def v55:=G (lc f55 (cc f55 (dr:=[(10,[64])]))).1
def c56:=G (cc f56 (ov:=[(14,5,[])]) (dr:=[(7,[768])]))
def Jz:=G (lp 0 (lc f56 c56))
def v56:=(fun a=>G (lc f56 c56 [a]).1) Jz
def v58:=G (lc f58 (cc f58 (ov:=[(3,3,[0,1])])) (k:=true)).1
def v61:=G (lc f61 (cc f61) (k:=true)).1
def v62:=G (F1 f62)
def v63:=G (F1 f63)
def v66:=G (lc f66 (cc f66 (dr:=[(11,[64,576])]))).1
def v65:=G (F1 f65)
def v64:=G (lc f64 (cc f64 (ov:=[(3,0,[])]))).1
def c67:=G (cc f67 (ov:=[(11,4,[0,5])]) (dr:=[(11,[64]),(24,[1408])]))
def MF:=G (lp 0 (lc f67 c67))
def v67:=(fun a=>G (lc f67 c67 [a]).1) MF
def c68:=G (cc f68 (dr:=[(10,[64])]))
def Ol:=G (lp 0 (lc f68 c68))
def v68:=(fun a=>G (lc f68 c68 [a]).1) Ol
def v69:=G (F1 f69)
def c70:=G (cc f70 (dr:=[(20,[1792]),(35,[1792])]))
def I7:=G (lp 0 (lc f70 c70))
def v70:=(fun a=>G (lc f70 c70 [a]).1) I7
def c71:=G (cc f71 (dr:=[(17,[704])]))
def Jc:=G (lp 0 (lc f71 c71))
def v71:=(fun a=>G (lc f71 c71 [a]).1) Jc
def c72:=G (cc f72 (ov:=[(17,3,[0,4,1,20]),(65,5,[]),(75,5,[])]) (dr:=[(37,[2688]),(45,[3200])]))
def ES:=G (lp 0 (lc f72 c72))
def v72:=(fun a=>G (lc f72 c72 [a]).1) ES
def c73:=G (cc f73)
def LW:=G (lp 0 (lc f73 c73))
def v73:=(fun a=>G (lc f73 c73 [a]).1) LW
def c74:=G (cc f74 (ov:=[(8,4,[0,3])]) (dr:=[(101,[7040]),(112,[7040])]))
def P3:=G (lp 0 (lc f74 c74))
def RG:=(fun a=>G (lp 1 (lc f74 c74 [a]))) P3
def Mh:=(fun a b=>G (lp 2 (lc f74 c74 [a,b]))) P3 RG
def v74:=(fun a b c=>G (lc f74 c74 [a,b,c]).1) P3 RG Mh
def v75:=G (lc f75 (cc f75) (k:=true)).1
def c76:=G (cc f76 (ov:=[(114,5,[])]) (dr:=[(105,[6912]),(109,[7296])]))
def Zax:=G (lp 0 (lc f76 c76))
def v76:=(fun a=>G (lc f76 c76 [a]).1) Zax
def v78:=G (F1 f78)
def c79:=G (cc f79 (dr:=[(31,[64])]))
def R0:=G (lp 0 (lc f79 c79))
def Zcc:=(fun a=>G (lp 1 (lc f79 c79 [a]))) R0
def v79:=(fun a b=>G (lc f79 c79 [a,b]).1) R0 Zcc
def c80:=G (cc f80)
def Ob:=G (lp 0 (lc f80 c80))
def v80:=(fun a=>G (lc f80 c80 [a]).1) Ob
def v81:=G (lc f81 (cc f81 (dr:=[(9,[448])]))).1
def v82:=G (F1 f82)
def v90:=G (lc f90 (cc f90 (ov:=[(3,6,[])]))).1
def v85:=G (F1 f85)
def c83:=G (cc f83 (ov:=[(2,4,[0,1])]) (dr:=[(33,[1984]),(61,[64]),(65,[64])]))
def Qf:=G (lp 0 (lc f83 c83))
def v83:=(fun a=>G (lc f83 c83 [a]).1) Qf
def v84:=G (F1 f84)
def v86:=G (lc f86 (cc f86 (dr:=[(49,[1600])]))).1
def a1_0:TL:=[(9,v9),(25,v25),(12,v12),(15,v15),(16,v16),(17,v17),(18,v18),(19,v19),(20,v20),(27,v27),(28,v28),(29,v29),(30,v30),(31,v31),(33,v33),(34,v34)]
theorem k1_0:a1_0.all mP=true:=by kernel_rfl
def a1_1:TL:=[(35,v35),(36,v36),(41,v41),(42,v42),(45,v45),(44,v44),(46,v46),(47,v47),(48,v48),(49,v49),(50,v50),(51,v51),(52,v52),(53,v53),(54,v54),(55,v55)]
theorem k1_1:a1_1.all mP=true:=by kernel_rfl
def a1_2:TL:=[(56,v56),(58,v58),(61,v61),(62,v62),(63,v63),(66,v66),(65,v65),(64,v64),(67,v67),(68,v68),(69,v69),(70,v70),(71,v71),(72,v72),(73,v73),(74,v74)]
theorem k1_2:a1_2.all mP=true:=by kernel_rfl
def a1_3:TL:=[(75,v75),(76,v76),(78,v78),(79,v79),(80,v80),(81,v81),(82,v82),(90,v90),(85,v85),(83,v83),(84,v84),(86,v86)]
theorem k1_3:a1_3.all mP=true:=by kernel_rfl
end
end Go.Vs.Tryz
