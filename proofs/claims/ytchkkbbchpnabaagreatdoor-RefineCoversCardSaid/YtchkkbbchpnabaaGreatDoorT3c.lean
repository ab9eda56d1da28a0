/- Functions of the program in the language of the value semantics, part 3, and that they match. -/
import Derived.Test.YtchkkbbchpnabaaGreatDoorT0c
set_option linter.unusedSimpArgs false
set_option linter.unusedVariables false
set_option linter.deprecated false

/- Functions of the program in the language of the value semantics, part 3, and that they match. -/
namespace Go.Vs.Tryz
open Go Go.Vs Go.Proofs.Tryz
set_option maxRecDepth 100000
set_option maxHeartbeats 8000000
noncomputable section
def c38:=G (cc f38 (ov:=[(1,4,[0,1])]) (dr:=[(33,[640,960,1248,1249,1250,1984])]))
def l38_0:=G (lp 0 (lc f38 c38))
def v38:=(fun a=>G (lc f38 c38 [a]).1) l38_0
def c41:=G (cc f41 (dr:=[(55,[64]),(86,[4416,128]),(89,[4416,128])]))
def v41:=G (lc f41 c41).1
def v42:=G (F1 f42)
def c44:=G (cc f44)
def l44_0:=G (lp 0 (lc f44 c44))
def v44:=(fun a=>G (lc f44 c44 [a]).1) l44_0
def c45:=G (cc f45)
def l45_0:=G (lp 0 (lc f45 c45))
def v45:=(fun a=>G (lc f45 c45 [a]).1) l45_0
def v46:=G (F1 f46)
def v47:=G (lc f47 (cc f47 (ov:=[(3,6,[])]))).1
def v48:=G (F1 f48)
def c53:=G (cc f53 (ov:=[(35,0,[]),(44,1,[0])]) (dr:=[(25,[1472]),(46,[2304,2912,2913,2914])]))
def l53_0:=G (lp 0 (lc f53 c53))
def v53:=(fun a=>G (lc f53 c53 [a] (k:=true)).1) l53_0
def c50:=G (cc f50)
def l50_0:=G (lp 0 (lc f50 c50))
def v50:=(fun a=>G (lc f50 c50 [a]).1) l50_0
def v51:=G (F1 f51)
def c52:=G (cc f52)
def l52_0:=G (lp 0 (lc f52 c52))
def v52:=(fun a=>G (lc f52 c52 [a]).1) l52_0
def c49:=G (cc f49 (ov:=[(57,5,[]),(70,5,[]),(98,4,[0,2])]) (dr:=[(126,[7936]),(141,[6304,6305,6306,6336,6337])]))
def l49_0:=G (lp 0 (lc f49 c49))
def l49_1:=(fun a=>G (lp 1 (lc f49 c49 [a]))) l49_0
def l49_2:=(fun a b=>G (lp 2 (lc f49 c49 [a,b]))) l49_0 l49_1
def l49_3:=(fun a b c=>G (lp 3 (lc f49 c49 [a,b,c]))) l49_0 l49_1 l49_2
def v49:=(fun a b c d=>G (lc f49 c49 [a,b,c,d]).1) l49_0 l49_1 l49_2 l49_3
def c54:=G (cc f54)
def l54_0:=G (lp 0 (lc f54 c54))
def v54:=(fun a=>G (lc f54 c54 [a]).1) l54_0
def c55:=G (cc f55 (ov:=[(8,4,[0,3])]) (dr:=[(101,[7040]),(112,[7040])]))
def l55_0:=G (lp 0 (lc f55 c55))
def l55_1:=(fun a=>G (lp 1 (lc f55 c55 [a]))) l55_0
def l55_2:=(fun a b=>G (lp 2 (lc f55 c55 [a,b]))) l55_0 l55_1
def v55:=(fun a b c=>G (lc f55 c55 [a,b,c]).1) l55_0 l55_1 l55_2
def v56:=G (lc f56 (cc f56) (k:=true)).1
def v57:=G (lc f57 (cc f57) (k:=true)).1
def c58:=G (cc f58 (ov:=[(5,3,[2,1,3,3]),(35,3,[2,5]),(48,5,[]),(58,5,[])]) (dr:=[(12,[928,929,930]),(14,[1184,1185,1186,1216]),(29,[2016,2017,2018,2144,2145,2146,2240,2304,2307]),(36,[2464,2465,2466]),(38,[2720,2721,2722,2752]),(46,[3200]),(53,[3552,3553,3554,2240,3200])]))
def l58_0:=G (lp 0 (lc f58 c58))
def l58_1:=(fun a=>G (lp 1 (lc f58 c58 [a]))) l58_0
def l58_2:=(fun a b=>G (lp 2 (lc f58 c58 [a,b]))) l58_0 l58_1
def v58:=(fun a b c=>G (lc f58 c58 [a,b,c] (k:=true)).1) l58_0 l58_1 l58_2
def v59:=G (lc f59 (cc f59) (k:=true)).1
def c60:=G (cc f60 (dr:=[(58,[896]),(122,[5376]),(163,[8768]),(167,[8768])]))
def l60_0:=G (lp 0 (lc f60 c60))
def l60_1:=(fun a=>G (lp 1 (lc f60 c60 [a]))) l60_0
def l60_2:=(fun a b=>G (lp 2 (lc f60 c60 [a,b]))) l60_0 l60_1
def l60_3:=(fun a b c=>G (lp 3 (lc f60 c60 [a,b,c]))) l60_0 l60_1 l60_2
def l60_4:=(fun a b c d=>G (lp 4 (lc f60 c60 [a,b,c,d]))) l60_0 l60_1 l60_2 l60_3
def l60_5:=(fun a b c d e=>G (lp 5 (lc f60 c60 [a,b,c,d,e]))) l60_0 l60_1 l60_2 l60_3 l60_4
def v60:=(fun a b c d e g=>G (lc f60 c60 [a,b,c,d,e,g]).1) l60_0 l60_1 l60_2 l60_3 l60_4 l60_5
def a3_0:TL:=[(38,v38),(41,v41),(42,v42),(44,v44),(45,v45),(46,v46),(47,v47),(48,v48),(53,v53),(50,v50),(51,v51),(52,v52),(49,v49),(54,v54),(55,v55),(56,v56)]
theorem k3_0:a3_0.all mP=true:=by kernel_rfl
def a3_1:TL:=[(57,v57),(58,v58),(59,v59),(60,v60)]
theorem k3_1:a3_1.all mP=true:=by kernel_rfl
end
end Go.Vs.Tryz
