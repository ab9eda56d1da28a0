/- Functions of the program in the language of the value semantics, part 1, and that they match. -/
import Derived.Test.YtchkkbbchpnabaaGreatDoorT0c
set_option linter.unusedSimpArgs false
set_option linter.unusedVariables false
set_option linter.deprecated false

/- Functions of the program in the language of the value semantics, part 1, and that they match. -/
namespace Go.Vs.Tryz
open Go Go.Vs Go.Proofs.Tryz
set_option maxRecDepth 100000
set_option maxHeartbeats 8000000
noncomputable section
def c3:=G (cc f3 (ov:=[(38,4,[0,1])]) (dr:=[(71,[3168,3169,3170,4096])]))
def l3_0:=G (lp 0 (lc f3 c3))
def v3:=(fun a=>G (lc f3 c3 [a]).1) l3_0
def v4:=G (lc f4 (cc f4 (dr:=[(19,[192])]))).1
def v5:=G (F1 f5)
def c7:=G (cc f7 (ov:=[(3,4,[0,4])]) (dr:=[(19,[1088]),(42,[2560])]))
def l7_0:=G (lp 0 (lc f7 c7))
def v7:=(fun a=>G (lc f7 c7 [a]).1) l7_0
def c6:=G (cc f6 (ov:=[(168,3,[5,14]),(183,3,[2,1]),(214,5,[]),(222,5,[])]) (dr:=[(202,[12736]),(219,[11712,11776,11779,13824])]))
def l6_0:=G (lp 0 (lc f6 c6))
def l6_1:=(fun a=>G (lp 1 (lc f6 c6 [a]))) l6_0
def v6:=(fun a b=>G (lc f6 c6 [a,b]).1) l6_0 l6_1
def c8:=G (cc f8 (ov:=[(4,0,[])]) (dr:=[(22,[1280])]))
def l8_0:=G (lp 0 (lc f8 c8))
def v8:=(fun a=>G (lc f8 c8 [a] (k:=true)).1) l8_0
def v9:=G (F1 f9)
def c10:=G (cc f10 (dr:=[(46,[64])]))
def l10_0:=G (lp 0 (lc f10 c10))
def l10_1:=(fun a=>G (lp 1 (lc f10 c10 [a]))) l10_0
def l10_2:=(fun a b=>G (lp 2 (lc f10 c10 [a,b]))) l10_0 l10_1
def l10_3:=(fun a b c=>G (lp 3 (lc f10 c10 [a,b,c]))) l10_0 l10_1 l10_2
def v10:=(fun a b c d=>G (lc f10 c10 [a,b,c,d]).1) l10_0 l10_1 l10_2 l10_3
def v11:=G (lc f11 (cc f11 (dr:=[(44,[128]),(56,[2688])]))).1
def v13:=G (lc f13 (cc f13 (ov:=[(5,0,[])]))).1
def v12:=G (F1 f12)
def v14:=G (F1 f14)
def v15:=G (lc f15 (cc f15 (dr:=[(10,[512])]))).1
def c16:=G (cc f16 (ov:=[(61,4,[0,11])]) (dr:=[(28,[576]),(52,[3072,3136]),(94,[5888]),(101,[4736,5056,6336]),(145,[8320,9152]),(147,[7680,8320,9152])]))
def l16_0:=G (lp 0 (lc f16 c16))
def l16_1:=(fun a=>G (lp 1 (lc f16 c16 [a]))) l16_0
def l16_2:=(fun a b=>G (lp 2 (lc f16 c16 [a,b]))) l16_0 l16_1
def l16_3:=(fun a b c=>G (lp 3 (lc f16 c16 [a,b,c]))) l16_0 l16_1 l16_2
def v16:=(fun a b c d=>G (lc f16 c16 [a,b,c,d]).1) l16_0 l16_1 l16_2 l16_3
def v17:=G (F1 f17)
def c18:=G (cc f18)
def l18_0:=G (lp 0 (lc f18 c18))
def v18:=(fun a=>G (lc f18 c18 [a]).1) l18_0
def c19:=G (cc f19 (dr:=[(102,[2368,2432]),(160,[7808,7872]),(161,[7808,7872])]))
def l19_0:=G (lp 0 (lc f19 c19))
def l19_1:=(fun a=>G (lp 1 (lc f19 c19 [a]))) l19_0
def l19_2:=(fun a b=>G (lp 2 (lc f19 c19 [a,b]))) l19_0 l19_1
def v19:=(fun a b c=>G (lc f19 c19 [a,b,c]).1) l19_0 l19_1 l19_2
def a1_0:TL:=[(3,v3),(4,v4),(5,v5),(7,v7),(6,v6),(8,v8),(9,v9),(10,v10),(11,v11),(13,v13),(12,v12),(14,v14),(15,v15),(16,v16),(17,v17),(18,v18)]
theorem k1_0:a1_0.all mP=true:=by kernel_rfl
def a1_1:TL:=[(19,v19)]
theorem k1_1:a1_1.all mP=true:=by kernel_rfl
end
end Go.Vs.Tryz
