/- Functions of the program in the language of the value semantics,part 1,and that they match. -/
import Derived.Test.YtccmnfpbcmccpaaGreatDoorT0s
set_option linter.unusedSimpArgs false
set_option linter.unusedVariables false
set_option linter.deprecated false

namespace Go.Vs.Tryz
open Go Go.Vs Go.Proofs.Tryz
set_option maxRecDepth 100000
set_option maxHeartbeats 8000000
noncomputable section
def c3:VCode:=G (a:=cc f3 (dr:=[(82,[2432]),(83,[2432]),(85,[2432,3136])])) _ (by conv=>rhs;cbv)
def l3_0:VCode:=G (a:=lp 0 (lc f3 c3)) _ (by conv=>rhs;cbv)
def v3:VFun:=(fun a=>G (a:=(lc f3 c3 [a]).1) _ (by conv=>rhs;cbv)) l3_0
def v11:VFun:=G (a:=(lc f11 (cc f11)).1) _ (by conv=>rhs;cbv)
def v12:VFun:=G (a:=(lc f12 (cc f12)).1) _ (by conv=>rhs;cbv)
def v13:VFun:=G (a:=(lc f13 (cc f13)).1) _ (by conv=>rhs;cbv)
def c14:VCode:=G (a:=cc f14 (dr:=[(46,[64])])) _ (by conv=>rhs;cbv)
def Zq8:VCode:=G (a:=lp 0 (lc f14 c14)) _ (by conv=>rhs;cbv)
def ZrA:VCode:=(fun a=>G (a:=lp 1 (lc f14 c14 [a])) _ (by conv=>rhs;cbv)) Zq8
def Zwg:VCode:=(fun a b=>G (a:=lp 2 (lc f14 c14 [a,b])) _ (by conv=>rhs;cbv)) Zq8 ZrA
def ZzC:VCode:=(fun a b c=>G (a:=lp 3 (lc f14 c14 [a,b,c])) _ (by conv=>rhs;cbv)) Zq8 ZrA Zwg
def v14:VFun:=(fun a b c d=>G (a:=(lc f14 c14 [a,b,c,d]).1) _ (by conv=>rhs;cbv)) Zq8 ZrA Zwg ZzC
def c15:VCode:=G (a:=cc f15 (dr:=[(6,[64])])) _ (by conv=>rhs;cbv)
def ZAo:VCode:=G (a:=lp 0 (lc f15 c15)) _ (by conv=>rhs;cbv)
def v15:VFun:=(fun a=>G (a:=(lc f15 c15 [a]).1) _ (by conv=>rhs;cbv)) ZAo
def v16:VFun:=G (a:=(lc f16 (cc f16)).1) _ (by conv=>rhs;cbv)
def v17:VFun:=G (a:=(lc f17 (cc f17)).1) _ (by conv=>rhs;cbv)
def c18:VCode:=G (a:=cc f18) _ (by conv=>rhs;cbv)
def ZBr:VCode:=G (a:=lp 0 (lc f18 c18)) _ (by conv=>rhs;cbv)
def v18:VFun:=(fun a=>G (a:=(lc f18 c18 [a]).1) _ (by conv=>rhs;cbv)) ZBr
def v19:VFun:=G (a:=(lc f19 (cc f19)).1) _ (by conv=>rhs;cbv)
def v20:VFun:=G (a:=(lc f20 (cc f20)).1) _ (by conv=>rhs;cbv)
def v21:VFun:=G (a:=(lc f21 (cc f21 (dr:=[(13,[640])]))).1) _ (by conv=>rhs;cbv)
def v22:VFun:=G (a:=(lc f22 (cc f22 (dr:=[(12,[576])]))).1) _ (by conv=>rhs;cbv)
def v30:VFun:=G (a:=(lc f30 (cc f30)).1) _ (by conv=>rhs;cbv)
def v38:VFun:=G (a:=(lc f38 (cc f38)).1) _ (by conv=>rhs;cbv)
def v39:VFun:=G (a:=(lc f39 (cc f39 (dr:=[(10,[512])]))).1) _ (by conv=>rhs;cbv)
def v40:VFun:=G (a:=(lc f40 (cc f40)).1) _ (by conv=>rhs;cbv)
def c41:VCode:=G (a:=cc f41 (ov:=[(3,4,[0,11]),(27,1,[0])]) (dr:=[(13,[1216]),(21,[1216])])) _ (by conv=>rhs;cbv)
def ZBm:VCode:=G (a:=lp 0 (lc f41 c41)) _ (by conv=>rhs;cbv)
def v41:VFun:=(fun a=>G (a:=(lc f41 c41 [a]).1) _ (by conv=>rhs;cbv)) ZBm
def c42:VCode:=G (a:=cc f42 (ov:=[(3,4,[0,4])]) (dr:=[(19,[1088]),(42,[2560])])) _ (by conv=>rhs;cbv)
def ZxI:VCode:=G (a:=lp 0 (lc f42 c42)) _ (by conv=>rhs;cbv)
def v42:VFun:=(fun a=>G (a:=(lc f42 c42 [a]).1) _ (by conv=>rhs;cbv)) ZxI
def c43:VCode:=G (a:=cc f43 (ov:=[(168,3,[5,14]),(183,3,[2,1]),(214,5,[]),(222,5,[])]) (dr:=[(202,[12736]),(219,[11712,11776,11779,13824])])) _ (by conv=>rhs;cbv)
def ZwY:VCode:=G (a:=lp 0 (lc f43 c43)) _ (by conv=>rhs;cbv)
def Zzl:VCode:=(fun a=>G (a:=lp 1 (lc f43 c43 [a])) _ (by conv=>rhs;cbv)) ZwY
def v43:VFun:=(fun a b=>G (a:=(lc f43 c43 [a,b]).1) _ (by conv=>rhs;cbv)) ZwY Zzl
def c45:VCode:=G (a:=cc f45 (ov:=[(54,4,[0,5])]) (dr:=[(71,[4416])])) _ (by conv=>rhs;cbv)
def Znk:VCode:=G (a:=lp 0 (lc f45 c45)) _ (by conv=>rhs;cbv)
def v45:VFun:=(fun a=>G (a:=(lc f45 c45 [a]).1) _ (by conv=>rhs;cbv)) Znk
def c44:VCode:=G (a:=cc f44 (dr:=[(72,[64])])) _ (by conv=>rhs;cbv)
def v44:VFun:=G (a:=(lc f44 c44).1) _ (by conv=>rhs;cbv)
def c46:VCode:=G (a:=cc f46 (ov:=[(4,0,[])]) (dr:=[(22,[1280])])) _ (by conv=>rhs;cbv)
def Zz1:VCode:=G (a:=lp 0 (lc f46 c46)) _ (by conv=>rhs;cbv)
def v46:VFun:=(fun a=>G (a:=(lc f46 c46 [a] (k:=true)).1) _ (by conv=>rhs;cbv)) Zz1
def c47:VCode:=G (a:=cc f47 (dr:=[(170,[9536]),(171,[9536])])) _ (by conv=>rhs;cbv)
def Zgb:VCode:=G (a:=lp 0 (lc f47 c47)) _ (by conv=>rhs;cbv)
def v47:VFun:=(fun a=>G (a:=(lc f47 c47 [a]).1) _ (by conv=>rhs;cbv)) Zgb
def c48:VCode:=G (a:=cc f48 (dr:=[(28,[768,64]),(35,[768,1184,1185,1186,1440,1441,1442,1664]),(69,[3776])])) _ (by conv=>rhs;cbv)
def Zfn:VCode:=G (a:=lp 0 (lc f48 c48)) _ (by conv=>rhs;cbv)
def v48:VFun:=(fun a=>G (a:=(lc f48 c48 [a]).1) _ (by conv=>rhs;cbv)) Zfn
def c49:VCode:=G (a:=cc f49 (dr:=[(21,[832])])) _ (by conv=>rhs;cbv)
def ZvO:VCode:=G (a:=lp 0 (lc f49 c49)) _ (by conv=>rhs;cbv)
def Zub:VCode:=(fun a=>G (a:=lp 1 (lc f49 c49 [a])) _ (by conv=>rhs;cbv)) ZvO
def v49:VFun:=(fun a b=>G (a:=(lc f49 c49 [a,b]).1) _ (by conv=>rhs;cbv)) ZvO Zub
def c50:VCode:=G (a:=cc f50) _ (by conv=>rhs;cbv)
def v50:VFun:=G (a:=(lc f50 c50).1) _ (by conv=>rhs;cbv)
def c51:VCode:=G (a:=cc f51 (dr:=[(27,[64])])) _ (by conv=>rhs;cbv)
def ZwQ:VCode:=G (a:=lp 0 (lc f51 c51)) _ (by conv=>rhs;cbv)
def ZAZ:VCode:=(fun a=>G (a:=lp 1 (lc f51 c51 [a])) _ (by conv=>rhs;cbv)) ZwQ
def v51:VFun:=(fun a b=>G (a:=(lc f51 c51 [a,b]).1) _ (by conv=>rhs;cbv)) ZwQ ZAZ
def v52:VFun:=G (a:=(lc f52 (cc f52)).1) _ (by conv=>rhs;cbv)
def c53:VCode:=G (a:=cc f53) _ (by conv=>rhs;cbv)
def Zz3:VCode:=G (a:=lp 0 (lc f53 c53)) _ (by conv=>rhs;cbv)
def v53:VFun:=(fun a=>G (a:=(lc f53 c53 [a]).1) _ (by conv=>rhs;cbv)) Zz3
def c54:VCode:=G (a:=cc f54) _ (by conv=>rhs;cbv)
def ZAJ:VCode:=G (a:=lp 0 (lc f54 c54)) _ (by conv=>rhs;cbv)
def v54:VFun:=(fun a=>G (a:=(lc f54 c54 [a]).1) _ (by conv=>rhs;cbv)) ZAJ
def v55:VFun:=G (a:=(lc f55 (cc f55 (dr:=[(10,[64])]))).1) _ (by conv=>rhs;cbv)
def c56:VCode:=G (a:=cc f56 (ov:=[(14,5,[])]) (dr:=[(7,[768])])) _ (by conv=>rhs;cbv)
def ZxT:VCode:=G (a:=lp 0 (lc f56 c56)) _ (by conv=>rhs;cbv)
def v56:VFun:=(fun a=>G (a:=(lc f56 c56 [a]).1) _ (by conv=>rhs;cbv)) ZxT
def v58:VFun:=G (a:=(lc f58 (cc f58 (ov:=[(3,3,[0,1])])) (k:=true)).1) _ (by conv=>rhs;cbv)
def v62:VFun:=G (a:=(lc f62 (cc f62)).1) _ (by conv=>rhs;cbv)
def v65:VFun:=G (a:=(lc f65 (cc f65)).1) _ (by conv=>rhs;cbv)
def v64:VFun:=G (a:=(lc f64 (cc f64 (ov:=[(3,0,[])]))).1) _ (by conv=>rhs;cbv)
def c68:VCode:=G (a:=cc f68 (dr:=[(10,[64])])) _ (by conv=>rhs;cbv)
def ZBg:VCode:=G (a:=lp 0 (lc f68 c68)) _ (by conv=>rhs;cbv)
def v68:VFun:=(fun a=>G (a:=(lc f68 c68 [a]).1) _ (by conv=>rhs;cbv)) ZBg
def v69:VFun:=G (a:=(lc f69 (cc f69)).1) _ (by conv=>rhs;cbv)
def c72:VCode:=G (a:=cc f72 (ov:=[(17,3,[0,4,1,20]),(65,5,[]),(75,5,[])]) (dr:=[(37,[2688]),(45,[3200])])) _ (by conv=>rhs;cbv)
def ZkR:VCode:=G (a:=lp 0 (lc f72 c72)) _ (by conv=>rhs;cbv)
def v72:VFun:=(fun a=>G (a:=(lc f72 c72 [a]).1) _ (by conv=>rhs;cbv)) ZkR
def c73:VCode:=G (a:=cc f73) _ (by conv=>rhs;cbv)
def ZBa:VCode:=G (a:=lp 0 (lc f73 c73)) _ (by conv=>rhs;cbv)
def v73:VFun:=(fun a=>G (a:=(lc f73 c73 [a]).1) _ (by conv=>rhs;cbv)) ZBa
def c74:VCode:=G (a:=cc f74 (ov:=[(8,4,[0,3])]) (dr:=[(101,[7040]),(112,[7040])])) _ (by conv=>rhs;cbv)
def ZBi:VCode:=G (a:=lp 0 (lc f74 c74)) _ (by conv=>rhs;cbv)
def l74_1:VCode:=(fun a=>G (a:=lp 1 (lc f74 c74 [a])) _ (by conv=>rhs;cbv)) ZBi
def ZAQ:VCode:=(fun a b=>G (a:=lp 2 (lc f74 c74 [a,b])) _ (by conv=>rhs;cbv)) ZBi l74_1
def v74:VFun:=(fun a b c=>G (a:=(lc f74 c74 [a,b,c]).1) _ (by conv=>rhs;cbv)) ZBi l74_1 ZAQ
def v75:VFun:=G (a:=(lc f75 (cc f75) (k:=true)).1) _ (by conv=>rhs;cbv)
def c76:VCode:=G (a:=cc f76 (ov:=[(114,5,[])]) (dr:=[(105,[6912]),(109,[7296])])) _ (by conv=>rhs;cbv)
def l76_0:VCode:=G (a:=lp 0 (lc f76 c76)) _ (by conv=>rhs;cbv)
def v76:VFun:=(fun a=>G (a:=(lc f76 c76 [a]).1) _ (by conv=>rhs;cbv)) l76_0
def v78:VFun:=G (a:=(lc f78 (cc f78)).1) _ (by conv=>rhs;cbv)
def c79:VCode:=G (a:=cc f79 (dr:=[(31,[64])])) _ (by conv=>rhs;cbv)
def l79_0:VCode:=G (a:=lp 0 (lc f79 c79)) _ (by conv=>rhs;cbv)
def l79_1:VCode:=(fun a=>G (a:=lp 1 (lc f79 c79 [a])) _ (by conv=>rhs;cbv)) l79_0
def v79:VFun:=(fun a b=>G (a:=(lc f79 c79 [a,b]).1) _ (by conv=>rhs;cbv)) l79_0 l79_1
def c80:VCode:=G (a:=cc f80) _ (by conv=>rhs;cbv)
def ZAF:VCode:=G (a:=lp 0 (lc f80 c80)) _ (by conv=>rhs;cbv)
def v80:VFun:=(fun a=>G (a:=(lc f80 c80 [a]).1) _ (by conv=>rhs;cbv)) ZAF
def v81:VFun:=G (a:=(lc f81 (cc f81 (dr:=[(9,[448])]))).1) _ (by conv=>rhs;cbv)
def v82:VFun:=G (a:=(lc f82 (cc f82)).1) _ (by conv=>rhs;cbv)
def v90:VFun:=G (a:=(lc f90 (cc f90 (ov:=[(3,6,[])]))).1) _ (by conv=>rhs;cbv)
def v85:VFun:=G (a:=(lc f85 (cc f85)).1) _ (by conv=>rhs;cbv)
def c83:VCode:=G (a:=cc f83 (ov:=[(2,4,[0,1])]) (dr:=[(33,[1984]),(61,[64]),(65,[64])])) _ (by conv=>rhs;cbv)
def Zy8:VCode:=G (a:=lp 0 (lc f83 c83)) _ (by conv=>rhs;cbv)
def v83:VFun:=(fun a=>G (a:=(lc f83 c83 [a]).1) _ (by conv=>rhs;cbv)) Zy8
def v84:VFun:=G (a:=(lc f84 (cc f84)).1) _ (by conv=>rhs;cbv)
def v86:VFun:=G (a:=(lc f86 (cc f86 (dr:=[(49,[1600])]))).1) _ (by conv=>rhs;cbv)
def c87:VCode:=G (a:=cc f87 (ov:=[(20,4,[0,5]),(50,3,[5,14]),(79,3,[2,1]),(123,5,[]),(131,5,[])]) (dr:=[(34,[2048]),(93,[5632]),(100,[6208]),(109,[5632,6208]),(128,[5056,5120,5123,8000])])) _ (by conv=>rhs;cbv)
def Zve:VCode:=G (a:=lp 0 (lc f87 c87)) _ (by conv=>rhs;cbv)
def ZwC:VCode:=(fun a=>G (a:=lp 1 (lc f87 c87 [a])) _ (by conv=>rhs;cbv)) Zve
def Zzn:VCode:=(fun a b=>G (a:=lp 2 (lc f87 c87 [a,b])) _ (by conv=>rhs;cbv)) Zve ZwC
def v87:VFun:=(fun a b c=>G (a:=(lc f87 c87 [a,b,c]).1) _ (by conv=>rhs;cbv)) Zve ZwC Zzn
def a1_0:TL:=[(3,v3),(11,v11),(12,v12),(13,v13),(14,v14),(15,v15),(16,v16),(17,v17),(18,v18),(19,v19),(20,v20),(21,v21),(22,v22),(30,v30),(38,v38),(39,v39)]
theorem k1_0:a1_0.all mP=true:=by kernel_rfl
def a1_1:TL:=[(40,v40),(41,v41),(42,v42),(43,v43),(45,v45),(44,v44),(46,v46),(47,v47),(48,v48),(49,v49),(50,v50),(51,v51),(52,v52),(53,v53),(54,v54),(55,v55)]
theorem k1_1:a1_1.all mP=true:=by kernel_rfl
def a1_2:TL:=[(56,v56),(58,v58),(62,v62),(65,v65),(64,v64),(68,v68),(69,v69),(72,v72),(73,v73),(74,v74),(75,v75),(76,v76),(78,v78),(79,v79),(80,v80),(81,v81)]
theorem k1_2:a1_2.all mP=true:=by kernel_rfl
def a1_3:TL:=[(82,v82),(90,v90),(85,v85),(83,v83),(84,v84),(86,v86),(87,v87)]
theorem k1_3:a1_3.all mP=true:=by kernel_rfl
end
end Go.Vs.Tryz
