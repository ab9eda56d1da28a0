/- Functions of the program in the language of the value semantics, part 1 (printed by a program of mine), and that they match. (Parts of one proof, put together.) -/
import Derived.Test.YtccmnfpbcmccpaaGreatDoorM4l
import Derived.Test.YtccmnfpbcmccpaaGreatDoorProg
import Derived.KernelRfl
set_option linter.unusedSimpArgs false
set_option linter.unusedVariables false
set_option linter.deprecated false

/- Functions of the program in the language of the value semantics, part 1 (printed by a program of mine), and that they match. -/
namespace Go.Vs.Tryz
open Go Go.Vs

def v8 : VFun := ⟨1,
 (.seq (.region [] [o 2 (.mv kF)] [] [0])
 (.seq (.seq (.region [] [oa 8 (.call (kf 25) [] []) 128,
 o 9 (.un .not (tv 8))] [] [0, 9])
 (.cond (tv 9) (.seq (.region [] [o 2 (.mv kF)] [] [2])
 .ret)
 .skip))
 (.seq (.region [] [oa 10 (.call (kf 34) [(false, (.k (.sc (.c (.str [108, 101, 116, 32, 114, 101, 99, 32, 102, 32, 61, 32, 92, 120, 46, 32, 102, 32, 120, 59, 32, 108, 101, 116, 32, 110, 32, 61, 32, 102, 32, 49, 59])))))] []) 320,
 oa 3 (.new [.nil, .nil] []) 384,
 on (.store 2 (tv 3) (tv 10) [])] [] [0, 3])
 (.seq (.region [] [o 11 (.mv (tv 0)),
 oa 12 (.call (kf 30) [(false, (tv 11)), (false, (ki 2000))] []) 576,
 o 4 (.mv (tv 12))] [] [3, 4])
 (.seq (.region [] [o 14 (.load true 2 (tv 3)),
 o 15 (.mv (tv 4)),
 oa 16 (.call (kf 31) [(false, (tv 14)), (false, (tv 15))] []) 832,
 o 13 (.mv (tv 16)),
 o 17 (.ext 0 (tv 13)),
 o 18 (.ext 1 (tv 13)),
 o 19 (.ext 2 (tv 13)),
 oa 5 (.new [zi, zi, zs, zi, .nil, .nil, zi, zs, zi, zi, .nil] []) 1152,
 on (.store 11 (tv 5) (tv 17) []),
 o 6 (.mv (tv 18)),
 o 7 (.mv (tv 19))] [] [4, 6, 7])
 (.seq (.region [384, 1152] [o 20 (.mv (tv 6)),
 o 21 (.mv (tv 4)),
 o 22 (.mn (tv 21) (ki 300)),
 o 23 (.bin .eql 0 (tv 20) (tv 22)),
 o 24 (.mv (tv 23)),
 og 25 (.mv (tv 7)) 24 true,
 og 26 (.un .not (tv 25)) 24 true,
 o 27 (.pick (tv 24) (tv 26) kF),
 o 2 (.mv (tv 27))] [] [2])
 .ret)))))),
 [.tmp 2], false⟩

def v149 : VFun := ⟨1,
 (.seq (.region [] [o 2 (.mv kn)] [] [0])
 (.seq (.seq (.region [] [o 3 (.mv (tv 0)),
 o 4 (.bin .eql 2 (tv 3) kn)] [] [0, 4])
 (.cond (tv 4) (.seq (.region [] [o 2 (.mv kn)] [] [2])
 .ret)
 .skip))
 (.seq (.region [] [o 5 .mkE,
 o 6 (.mv (tv 0)),
 oa 7 (.appF 11 152 (tv 5) (tv 6)) 448,
 o 2 (.mv (tv 7))] [] [2])
 .ret))),
 [.tmp 2], true⟩

def v223 : VFun := ⟨1,
 (.seq (.region [] [o 2 (.mv kn)] [] [0])
 (.seq (.seq (.region [] [o 3 (.mv (tv 0)),
 o 4 (.bin .eql 2 (tv 3) kn)] [] [0, 4])
 (.cond (tv 4) (.seq (.region [] [o 2 (.mv kn)] [] [2])
 .ret)
 .skip))
 (.seq (.region [] [o 5 .mkE,
 o 6 (.mv (tv 0)),
 oa 7 (.appF 14 200 (tv 5) (tv 6)) 448,
 o 2 (.mv (tv 7))] [] [2])
 .ret))),
 [.tmp 2], true⟩

def v244 : VFun := ⟨1,
 (.seq (.region [] [o 2 (.mv kn)] [] [0])
 (.seq (.seq (.region [] [o 3 (.mv (tv 0)),
 o 4 (.bin .eql 2 (tv 3) kn)] [] [0, 4])
 (.cond (tv 4) (.seq (.region [] [o 2 (.mv kn)] [] [2])
 .ret)
 .skip))
 (.seq (.region [] [o 5 .mkE,
 o 6 (.mv (tv 0)),
 oa 7 (.appF 1 16 (tv 5) (tv 6)) 448,
 o 2 (.mv (tv 7))] [] [2])
 .ret))),
 [.tmp 2], true⟩

def v25 : VFun := ⟨0,
 (.seq (.region [] [o 0 (.mv kF)] [] [1000000])
 (.seq (.region [] [oa 5 (.call (kf 34) [(false, (.k (.sc (.c (.str [108, 101, 116, 32, 105, 100, 32, 61, 32, 92, 120, 46, 32, 120, 59, 32, 108, 101, 116, 32, 110, 32, 61, 32, 105, 100, 32, 49, 59])))))] []) 128,
 oa 6 (.call (kf 31) [(false, (tv 5)), (false, (ki 20))] []) 192,
 o 4 (.mv (tv 6)),
 o 7 (.ext 0 (tv 4)),
 o 8 (.ext 1 (tv 4)),
 o 9 (.ext 2 (tv 4)),
 oa 1 (.new [zi, zi, zs, zi, .nil, .nil, zi, zs, zi, zi, .nil] []) 512,
 on (.store 11 (tv 1) (tv 7) []),
 o 2 (.mv (tv 8)),
 o 3 (.mv (tv 9))] [] [1, 2, 3])
 (.seq (.region [] [o 10 (.mv (tv 3)),
 o 11 (.mv (tv 10)),
 og 12 (.load true 11 (tv 1)) 11 true,
 og 13 (.build [zi, zi, zs, zi, .nil, .nil, zi, zs, zi, zi, .nil] [(0, 1, (ki 3)), (3, 1, (ki 1))]) 11 true,
 ⟨(some 14), (.call (kf 18) [(false, (tv 12)), (false, (tv 13))] []), (some (11, true)), 1024, []⟩,
 o 15 (.pick (tv 11) (tv 14) kF),
 o 16 (.mv (tv 15)),
 og 17 (.mv (tv 2)) 16 true,
 og 18 (.bin .eql 0 (tv 17) (ki 3)) 16 true,
 o 19 (.pick (tv 16) (tv 18) kF),
 o 20 (.mv (tv 19)),
 og 21 (.build [.nil, .nil] []) 20 true,
 ⟨(some 22), (.call (kf 27) [(false, (tv 21))] []), (some (20, true)), 1536, []⟩,
 og 23 (.part false 0 1 (tv 22)) 20 true,
 og 24 (.bin .eql 0 (tv 23) (ki 3)) 20 true,
 o 25 (.pick (tv 20) (tv 24) kF),
 o 0 (.mv (tv 25))] [] [0])
 .ret))),
 [.tmp 0], false⟩

def v34 : VFun := ⟨1,
 (.seq (.region [] [oa 2 (.new [.nil, .nil] []) 64] [] [0, 2])
 (.seq (.region [] [o 6 (.mv (tv 0)),
 oa 7 (.call (kf 72) [(false, (tv 6))] []) 192,
 o 5 (.mv (tv 7)),
 o 8 (.ext 0 (tv 5)),
 o 9 (.ext 1 (tv 5)),
 oa 3 (.new [.nil, .nil] []) 448,
 oa 4 (.new [zi, zi] []) 512,
 on (.store 2 (tv 3) (tv 8) []),
 on (.store 2 (tv 4) (tv 9) [])] [] [2, 3])
 (.seq (.region [512] [o 10 (.load true 2 (tv 3)),
 on (.store 2 (tv 2) (tv 10) [])] [] [2])
 .ret))),
 [.cell 2 true 2], false⟩

def v30 : VFun := ⟨2,
 (.seq (.region [] [o 4 (.mv (ki 0))] [] [0, 1])
 (.seq (.seq (.region [] [o 5 (.mv (tv 1)),
 o 6 (.bin .lss 0 (tv 5) (ki 1))] [] [0, 1, 6])
 (.cond (tv 6) (.seq (.region [] [o 4 (.mv (ki 0))] [] [4])
 .ret)
 .skip))
 (.seq (.region [] [o 7 (.mv (tv 0)),
 o 8 (.mv (tv 1)),
 o 9 (.bin .rem 0 (tv 7) (tv 8)),
 o 0 (.mv (tv 9))] [] [0, 1])
 (.seq (.seq (.region [] [o 10 (.mv (tv 0)),
 o 11 (.bin .lss 0 (tv 10) (ki 0))] [] [0, 1, 11])
 (.cond (tv 11) (.region [] [o 12 (.mv (tv 0)),
 o 13 (.mv (tv 1)),
 o 14 (.bin .add 0 (tv 12) (tv 13)),
 o 0 (.mv (tv 14))] [] [0])
 .skip))
 (.seq (.region [] [o 15 (.mv (tv 0)),
 o 4 (.mv (tv 15))] [] [4])
 .ret))))),
 [.tmp 4], false⟩

def v31 : VFun := ⟨2,
 (.seq (.region [] [oa 2 (.box (tv 0)) 64,
 oa 4 (.new [zi, zi, zs, zi, .nil, .nil, zi, zs, zi, zi, .nil] []) 128,
 o 5 (.mv (ki 0)),
 o 6 (.mv kF)] [] [1, 2, 4])
 (.seq (.region [] [o 7 (.fld 0 (tv 2)),
 o 8 (.load false 1 (tv 7)),
 o 9 (.load true 2 (tv 2)),
 oa 10 (.call (kf 27) [(false, (tv 9))] []) 512,
 o 11 (.mv (tv 1)),
 oa 12 (.call (kf 33) [(false, (tv 8)), (false, (tv 10)), (false, (tv 11))] []) 640,
 o 13 (.ext 0 (tv 12)),
 o 14 (.ext 1 (tv 12)),
 o 15 (.ext 2 (tv 12)),
 on (.store 11 (tv 4) (tv 13) []),
 o 5 (.mv (tv 14)),
 o 6 (.mv (tv 15))] [(0, 2), (1, 2), (0, 3), (1, 3)] [4, 5, 6])
 .ret)),
 [.cell 4 true 11, .tmp 5, .tmp 6], false⟩

def l18_0 : VCode := (.seq (.seq (.region [] [o 51 (.mv (tv 5)),
 o 52 (.fld 5 (tv 2)),
 o 53 (.load false 1 (tv 52)),
 o 54 (.len false (tv 53)),
 o 55 (.bin .lss 0 (tv 51) (tv 54))] [] [2, 3, 5, 55])
 (.cond (tv 55) .skip
 (.exit 0)))
 (.seq (.block 1 (.seq (.region [] [o 58 (.fld 5 (tv 2)),
 o 59 (.load false 1 (tv 58)),
 o 60 (.mv (tv 5)),
 o 61 (.idxA 14 (tv 59) (tv 60)),
 o 62 (.fld 1 (tv 61)),
 o 63 (.load false 1 (tv 62)),
 o 64 (.fld 5 (tv 3)),
 o 65 (.load false 1 (tv 64)),
 o 66 (.mv (tv 5)),
 o 67 (.idxA 14 (tv 65) (tv 66)),
 o 68 (.fld 1 (tv 67)),
 o 69 (.load false 1 (tv 68)),
 o 70 (.bin .neq 0 (tv 63) (tv 69)),
 o 71 (.mv (tv 70)),
 og 72 (.fld 5 (tv 2)) 71 false,
 og 73 (.load false 1 (tv 72)) 71 false,
 og 74 (.mv (tv 5)) 71 false,
 og 75 (.idxA 14 (tv 73) (tv 74)) 71 false,
 og 76 (.fld 2 (tv 75)) 71 false,
 og 77 (.load false 1 (tv 76)) 71 false,
 og 78 (.fld 5 (tv 3)) 71 false,
 og 79 (.load false 1 (tv 78)) 71 false,
 og 80 (.mv (tv 5)) 71 false,
 og 81 (.idxA 14 (tv 79) (tv 80)) 71 false,
 og 82 (.fld 2 (tv 81)) 71 false,
 og 83 (.load false 1 (tv 82)) 71 false,
 ⟨(some 84), (.call (kf 53) [(false, (tv 77)), (false, (tv 83))] []), (some (71, false)), 5248, []⟩,
 og 85 (.un .not (tv 84)) 71 false,
 o 86 (.pick (tv 71) kt (tv 85))] [(0, 6), (1, 6), (3, 6), (4, 6), (5, 6), (0, 7), (1, 7), (3, 7), (4, 7), (5, 7), (0, 9), (1, 9), (3, 9), (4, 9), (5, 9), (0, 10), (1, 10), (3, 10), (4, 10), (5, 10), (0, 11), (1, 11), (3, 11), (4, 11), (5, 11), (14, 20), (15, 20), (17, 20), (18, 20), (19, 20), (14, 21), (15, 21), (17, 21), (18, 21), (19, 21), (14, 23), (15, 23), (17, 23), (18, 23), (19, 23), (14, 24), (15, 24), (17, 24), (18, 24), (19, 24), (14, 25), (15, 25), (17, 25), (18, 25), (19, 25)] [2, 3, 5, 86])
 (.cond (tv 86) (.seq (.region [] [o 4 (.mv kF)] [] [4])
 .ret)
 .skip)))
 (.region [] [o 56 (.mv (tv 5)),
 o 57 (.bin .add 0 (tv 56) (ki 1)),
 o 5 (.mv (tv 57))] [] [2, 3, 5])))

def v18 : VFun := ⟨2,
 (.seq (.region [] [oa 2 (.box (tv 0)) 64,
 oa 3 (.box (tv 1)) 128,
 o 4 (.mv kF)] [] [2, 3])
 (.seq (.seq (.region [] [o 6 (.fld 0 (tv 2)),
 o 7 (.load false 1 (tv 6)),
 o 8 (.fld 0 (tv 3)),
 o 9 (.load false 1 (tv 8)),
 o 10 (.bin .neq 0 (tv 7) (tv 9)),
 o 11 (.mv (tv 10)),
 og 12 (.fld 2 (tv 2)) 11 false,
 og 13 (.load false 1 (tv 12)) 11 false,
 og 14 (.fld 2 (tv 3)) 11 false,
 og 15 (.load false 1 (tv 14)) 11 false,
 og 16 (.bin .neq 0 (tv 13) (tv 15)) 11 false,
 o 17 (.pick (tv 11) kt (tv 16)),
 o 18 (.mv (tv 17)),
 og 19 (.fld 3 (tv 2)) 18 false,
 og 20 (.load false 1 (tv 19)) 18 false,
 og 21 (.fld 3 (tv 3)) 18 false,
 og 22 (.load false 1 (tv 21)) 18 false,
 og 23 (.bin .neq 0 (tv 20) (tv 22)) 18 false,
 o 24 (.pick (tv 18) kt (tv 23)),
 o 25 (.mv (tv 24)),
 og 26 (.fld 6 (tv 2)) 25 false,
 og 27 (.load true 5 (tv 26)) 25 false,
 og 28 (.fld 6 (tv 3)) 25 false,
 og 29 (.load true 5 (tv 28)) 25 false,
 ⟨(some 30), (.call (kf 52) [(false, (tv 27)), (false, (tv 29))] []), (some (25, false)), 1792, []⟩,
 og 31 (.un .not (tv 30)) 25 false,
 o 32 (.pick (tv 25) kt (tv 31)),
 o 33 (.mv (tv 32)),
 og 34 (.fld 4 (tv 2)) 33 false,
 og 35 (.load false 1 (tv 34)) 33 false,
 og 36 (.len false (tv 35)) 33 false,
 og 37 (.fld 4 (tv 3)) 33 false,
 og 38 (.load false 1 (tv 37)) 33 false,
 og 39 (.len false (tv 38)) 33 false,
 og 40 (.bin .neq 0 (tv 36) (tv 39)) 33 false,
 o 41 (.pick (tv 33) kt (tv 40)),
 o 42 (.mv (tv 41)),
 og 43 (.fld 5 (tv 2)) 42 false,
 og 44 (.load false 1 (tv 43)) 42 false,
 og 45 (.len false (tv 44)) 42 false,
 og 46 (.fld 5 (tv 3)) 42 false,
 og 47 (.load false 1 (tv 46)) 42 false,
 og 48 (.len false (tv 47)) 42 false,
 og 49 (.bin .neq 0 (tv 45) (tv 48)) 42 false,
 o 50 (.pick (tv 42) kt (tv 49))] [] [2, 3, 50])
 (.cond (tv 50) (.seq (.region [] [o 4 (.mv kF)] [] [4])
 .ret)
 .skip))
 (.seq (.seq (.region [] [o 5 (.mv (ki 0))] [] [2, 3, 5])
 (.block 0 (.loop l18_0)))
 (.seq (.region [] [o 87 (.load true 11 (tv 2)),
 oa 88 (.call (kf 46) [(false, (tv 87))] []) 5760,
 o 89 (.load true 11 (tv 3)),
 oa 90 (.call (kf 46) [(false, (tv 89))] []) 5888,
 oa 91 (.call (kf 54) [(false, (tv 88)), (false, (tv 90))] []) 5952,
 o 4 (.mv (tv 91))] [(0, 2), (1, 2)] [4])
 .ret)))),
 [.tmp 4], false⟩

def l27_0 : VCode := (.block 1 (.seq (.region [] [o 7 (.mv (ki 6))] [] [2, 4, 6, 7])
 (.seq (.seq (.region [] [o 27 (.fld 1 (tv 6)),
 o 28 (.load false 1 (tv 27))] [] [2, 4, 6, 7, 28])
 (.cond (tv 28) (.region [] [o 7 (.mv (ki 7))] [] [2, 4, 6, 7])
 .skip))
 (.region [2304] [o 29 (.mv (tv 7)),
 o 30 (.fld 2 (tv 6)),
 o 31 (.load false 1 (tv 30)),
 o 32 (.fld 9 (tv 6)),
 o 33 (.load true 11 (tv 32)),
 o 34 (.load true 11 (tv 4)),
 oa 35 (.mkSl 11 [(tv 33), (tv 34)]) 2304,
 o 36 (.bldD [zi, zi, zs, zi, .nil, .nil, zi, zs, zi, zi, .nil] [(0, 1, (tv 29)), (2, 1, (tv 31)), (4, 1, (tv 35))]),
 on (.store 11 (tv 4) (tv 36) [])] [] [2, 4]))))

def v27 : VFun := ⟨1,
 (.seq (.region [] [oa 1 (.box (tv 0)) 64,
 oa 2 (.new [zi, zi, zs, zi, .nil, .nil, zi, zs, zi, zi, .nil] []) 128] [] [1, 2])
 (.seq (.region [] [o 8 (.fld 1 (tv 1)),
 o 9 (.load false 1 (tv 8)),
 o 10 (.len false (tv 9)),
 o 3 (.mv (tv 10))] [] [1, 2, 3])
 (.seq (.seq (.region [] [o 11 (.mv (tv 3)),
 o 12 (.bin .eql 0 (tv 11) (ki 0))] [] [1, 2, 3, 12])
 (.cond (tv 12) (.seq (.region [] [o 13 (.build [zi, zi, zs, zi, .nil, .nil, zi, zs, zi, zi, .nil] [(0, 1, (ki 3))]),
 on (.store 11 (tv 2) (tv 13) [])] [] [2])
 .ret)
 .skip))
 (.seq (.region [] [o 14 (.fld 1 (tv 1)),
 o 15 (.load false 1 (tv 14)),
 o 16 (.mv (tv 3)),
 o 17 (.bin .sub 0 (tv 16) (ki 1)),
 o 18 (.idxA 20 (tv 15) (tv 17)),
 o 19 (.fld 2 (tv 18)),
 o 20 (.load false 1 (tv 19)),
 o 21 (.build [zi, zi, zs, zi, .nil, .nil, zi, zs, zi, zi, .nil] [(0, 1, (ki 1)), (2, 1, (tv 20))]),
 oa 4 (.new [zi, zi, zs, zi, .nil, .nil, zi, zs, zi, zi, .nil] []) 1216,
 on (.store 11 (tv 4) (tv 21) [])] [] [1, 2, 4])
 (.seq (.seq (.region [] [o 22 (.fld 1 (tv 1)),
 o 23 (.load false 1 (tv 22)),
 oa 24 (.call (kf 61) [(false, (tv 23))] []) 1472] [] [2, 4, 24])
 (.block 0 (.rangeB (tv 24) 114 20 true 25 26 (.region [1536] [oa 6 (.new [zi, (.c (.bool false)), zs, (.c (.bool false)), zi, zs, zi, zi, .nil, zi, zi, zs, zi, .nil, .nil, zi, zs, zi, zi, .nil] []) 1536,
 on (.store 20 (tv 6) (tv 26) [])] [] [2, 4, 6])
 l27_0)))
 (.seq (.region [] [o 37 (.load true 11 (tv 4)),
 oa 38 (.call (kf 49) [(false, (tv 37))] []) 2560,
 on (.store 11 (tv 2) (tv 38) [])] [] [2])
 .ret)))))),
 [.cell 2 true 11], false⟩

def l72_0 : VCode := (.seq (.seq (.region [] [o 20 (.mv (tv 7)),
 o 21 (.nn (tv 20)),
 o 22 (.fld 2 (tv 21)),
 o 23 (.load false 1 (tv 22)),
 o 24 (.un .not (tv 23)),
 o 25 (.mv (tv 24)),
 og 26 (.mv (tv 7)) 25 true,
 og 27 (.nn (tv 26)) 25 true,
 og 28 (.fld 1 (tv 27)) 25 true,
 og 29 (.load false 1 (tv 28)) 25 true,
 og 30 (.mv (tv 4)) 25 true,
 og 31 (.len false (tv 30)) 25 true,
 og 32 (.bin .lss 0 (tv 29) (tv 31)) 25 true,
 o 33 (.pick (tv 25) (tv 32) kF)] [] [2, 3, 4, 5, 6, 7, 33])
 (.cond (tv 33) .skip
 (.exit 0)))
 (.block 1 (.seq (.region [] [o 34 (.mv (tv 7)),
 oa 35 (.call (kf 120) [(true, (tv 34)), (false, (.k (.sc (.c (.str [100, 97, 116, 97])))))] []) 2368] [] [2, 3, 4, 5, 6, 7, 35])
 (.cond (tv 35) (.region [2688] [o 36 (.fld 0 (tv 6)),
 o 37 (.load false 1 (tv 36)),
 o 38 (.mv (tv 7)),
 oa 39 (.call (kf 121) [(true, (tv 38))] []) 2624,
 oa 40 (.mkSl 4 [(tv 39)]) 2688,
 o 41 (.app 4 72 false (tv 37) (tv 40)),
 o 42 (.fld 0 (tv 6)),
 on (.store 1 (tv 42) (tv 41) [])] [(0, 3), (1, 3), (0, 4), (1, 4)] [2, 3, 4, 5, 6, 7])
 (.region [3200] [o 43 (.fld 1 (tv 6)),
 o 44 (.load false 1 (tv 43)),
 o 45 (.mv (tv 7)),
 oa 46 (.call (kf 122) [(true, (tv 45))] []) 3136,
 oa 47 (.mkSl 20 [(tv 46)]) 3200,
 o 48 (.app 20 256 false (tv 44) (tv 47)),
 o 49 (.fld 1 (tv 6)),
 on (.store 1 (tv 49) (tv 48) [])] [(0, 3), (1, 3), (0, 4), (1, 4)] [2, 3, 4, 5, 6, 7])))))

def v72 : VFun := ⟨1,
 (.seq (.region [] [oa 2 (.new [.nil, .nil] []) 64,
 oa 3 (.new [zi, zi] []) 128] [] [0, 2, 3])
 (.seq (.region [] [o 9 (.mv (tv 0)),
 oa 10 (.call (kf 74) [(false, (tv 9))] []) 256,
 o 8 (.mv (tv 10)),
 o 11 (.ext 0 (tv 8)),
 o 12 (.ext 1 (tv 8)),
 oa 5 (.new [zi, zi] []) 512,
 o 4 (.mv (tv 11)),
 on (.store 2 (tv 5) (tv 12) [])] [] [2, 3, 4, 5])
 (.seq (.seq (.region [] [o 13 (.fld 0 (tv 5)),
 o 14 (.load false 1 (tv 13)),
 o 15 (.bin .neq 0 (tv 14) (ki 0))] [] [2, 3, 4, 5, 15])
 (.cond (tv 15) (.seq (.region [] [o 16 (.build [.nil, .nil] []),
 o 17 (.load true 2 (tv 5)),
 on (.store 2 (tv 2) (tv 16) []),
 on (.store 2 (tv 3) (tv 17) [])] [(1, 2)] [2, 3])
 .ret)
 .skip))
 (.seq (.region [] [oa 6 (.new [.nil, .nil] [(0, 4), (1, 20)]) 1152] [] [2, 3, 4, 5, 6])
 (.seq (.region [] [o 18 (.mv (tv 4)),
 oa 19 (.call (kf 75) [(false, (tv 18)), (false, (ki 0))] []) 1280,
 o 7 (.mv (tv 19))] [] [2, 3, 4, 5, 6, 7])
 (.seq (.block 0 (.loop l72_0))
 (.seq (.seq (.region [] [o 50 (.mv (tv 7)),
 o 51 (.nn (tv 50)),
 o 52 (.fld 2 (tv 51)),
 o 53 (.load false 1 (tv 52))] [] [2, 3, 5, 6, 7, 53])
 (.cond (tv 53) (.seq (.region [] [o 54 (.build [.nil, .nil] []),
 o 55 (.mv (tv 7)),
 o 56 (.nn (tv 55)),
 o 57 (.fld 3 (tv 56)),
 o 58 (.load false 1 (tv 57)),
 o 59 (.build [zi, zi] [(0, 1, (ki 3)), (1, 1, (tv 58))]),
 on (.store 2 (tv 2) (tv 54) []),
 on (.store 2 (tv 3) (tv 59) [])] [(2, 6), (3, 6), (4, 6)] [2, 3])
 .ret)
 .skip))
 (.seq (.seq (.region [] [o 60 (.ldD true 2 (tv 6)),
 oa 61 (.call (kf 123) [(false, (tv 60))] []) 4288,
 on (.store 2 (tv 5) (tv 61) [])] [] [2, 3, 5, 6])
 (.seq (.region [] [o 62 (.fld 0 (tv 5)),
 o 63 (.load false 1 (tv 62)),
 o 64 (.bin .neq 0 (tv 63) (ki 0))] [] [2, 3, 5, 6, 64])
 (.cond (tv 64) (.seq (.region [] [o 65 (.build [.nil, .nil] []),
 o 66 (.load true 2 (tv 5)),
 on (.store 2 (tv 2) (tv 65) []),
 on (.store 2 (tv 3) (tv 66) [])] [(1, 2)] [2, 3])
 .ret)
 .skip)))
 (.seq (.region [] [o 67 (.ldD true 2 (tv 6)),
 o 68 (.load true 2 (tv 5)),
 on (.store 2 (tv 2) (tv 67) []),
 on (.store 2 (tv 3) (tv 68) [])] [(0, 1), (1, 2)] [2, 3])
 .ret))))))))),
 [.cell 2 true 2, .cell 3 true 2], false⟩

def l33_0 : VCode := (.seq (.seq (.region [] [o 16 (.mv (tv 9)),
 o 17 (.mv (tv 2)),
 o 18 (.bin .lss 0 (tv 16) (tv 17))] [] [0, 2, 4, 6, 9, 18])
 (.cond (tv 18) .skip
 (.exit 0)))
 (.block 1 (.seq (.region [1280] [o 20 (.mv (tv 0)),
 o 21 (.load true 11 (tv 4)),
 oa 22 (.call (kf 16) [(false, (tv 20)), (false, (tv 21))] []) 960,
 o 19 (.mv (tv 22)),
 o 23 (.ext 0 (tv 19)),
 o 24 (.ext 1 (tv 19)),
 o 25 (.ext 2 (tv 19)),
 oa 10 (.new [zi, zi, zs, zi, .nil, .nil, zi, zs, zi, zi, .nil] []) 1280,
 on (.store 11 (tv 10) (tv 23) []),
 o 11 (.mv (tv 24)),
 o 12 (.mv (tv 25))] [] [0, 2, 4, 6, 9, 10, 11, 12])
 (.seq (.block 2 (.seq (.seq (.region [] [o 27 (.mv (tv 12)),
 o 28 (.un .not (tv 27)),
 o 26 (.mv (tv 28))] [] [0, 2, 4, 6, 9, 10, 11, 26])
 (.cond (tv 26) .skip
 (.seq (.region [] [o 29 (.mv (tv 11)),
 o 30 (.bin .eql 0 (tv 29) (ki 0)),
 o 26 (.mv (tv 30))] [] [0, 2, 4, 6, 9, 10, 26])
 (.cond (tv 26) .skip
 (.region [] [o 31 (.load true 11 (tv 4)),
 oa 32 (.call (kf 71) [(false, (tv 31))] []) 1984,
 o 33 (.bin .gtr 0 (tv 32) (ki 2000)),
 o 26 (.mv (tv 33))] [] [0, 2, 4, 6, 9, 10, 26])))))
 (.cond (tv 26) (.exit 0)
 .skip)))
 (.seq (.region [] [o 34 (.load true 11 (tv 10)),
 on (.store 11 (tv 4) (tv 34) [])] [] [0, 2, 4, 6, 9])
 (.region [] [o 35 (.mv (tv 9)),
 o 36 (.bin .add 0 (tv 35) (ki 1)),
 o 9 (.mv (tv 36))] [] [0, 2, 4, 6, 9]))))))

def v33 : VFun := ⟨3,
 (.seq (.region [] [oa 4 (.box (tv 1)) 64,
 oa 6 (.new [zi, zi, zs, zi, .nil, .nil, zi, zs, zi, zi, .nil] []) 128,
 o 7 (.mv (ki 0)),
 o 8 (.mv kF)] [] [0, 2, 4, 6])
 (.melt 63 (.seq (.region [] [o 13 (.mv (tv 2)),
 o 14 (.mx (tv 13) (ki 0)),
 o 15 (.mn (tv 14) (ki 300)),
 o 2 (.mv (tv 15))] [] [0, 2, 4, 6])
 (.seq (.region [] [o 9 (.mv (ki 0))] [] [0, 2, 4, 6, 9])
 (.seq .skip
 (.seq (.block 0 (.loop l33_0))
 (.seq (.region [] [o 37 (.load true 11 (tv 4)),
 oa 38 (.call (kf 49) [(false, (tv 37))] []) 2560,
 o 39 (.mv (tv 9)),
 o 40 (.load true 11 (tv 4)),
 oa 41 (.call (kf 19) [(false, (tv 40))] []) 2752,
 on (.store 11 (tv 6) (tv 38) []),
 o 7 (.mv (tv 39)),
 o 8 (.mv (tv 41))] [(0, 3), (1, 3)] [6, 7, 8])
 .ret))))))),
 [.cell 6 true 11, .tmp 7, .tmp 8], false⟩

def v52 : VFun := ⟨2,
 (.seq (.region [] [oa 2 (.box (tv 0)) 64,
 oa 3 (.box (tv 1)) 128,
 o 4 (.mv kF)] [] [2, 3])
 (.seq (.seq (.region [] [o 5 (.fld 0 (tv 2)),
 o 6 (.load false 1 (tv 5)),
 o 7 (.fld 0 (tv 3)),
 o 8 (.load false 1 (tv 7)),
 o 9 (.bin .neq 0 (tv 6) (tv 8)),
 o 10 (.mv (tv 9)),
 og 11 (.fld 1 (tv 2)) 10 false,
 og 12 (.load false 1 (tv 11)) 10 false,
 og 13 (.fld 1 (tv 3)) 10 false,
 og 14 (.load false 1 (tv 13)) 10 false,
 og 15 (.bin .neq 0 (tv 12) (tv 14)) 10 false,
 o 16 (.pick (tv 10) kt (tv 15)),
 o 17 (.mv (tv 16)),
 og 18 (.fld 2 (tv 2)) 17 false,
 og 19 (.load false 1 (tv 18)) 17 false,
 og 20 (.fld 2 (tv 3)) 17 false,
 og 21 (.load false 1 (tv 20)) 17 false,
 og 22 (.bin .neq 0 (tv 19) (tv 21)) 17 false,
 o 23 (.pick (tv 17) kt (tv 22)),
 o 24 (.mv (tv 23)),
 og 25 (.fld 3 (tv 2)) 24 false,
 og 26 (.load false 1 (tv 25)) 24 false,
 og 27 (.fld 3 (tv 3)) 24 false,
 og 28 (.load false 1 (tv 27)) 24 false,
 og 29 (.bin .neq 0 (tv 26) (tv 28)) 24 false,
 o 30 (.pick (tv 24) kt (tv 29))] [] [2, 3, 30])
 (.cond (tv 30) (.seq (.region [] [o 4 (.mv kF)] [] [4])
 .ret)
 .skip))
 (.seq (.region [] [o 31 (.fld 4 (tv 2)),
 o 32 (.load false 1 (tv 31)),
 o 33 (.fld 4 (tv 3)),
 o 34 (.load false 1 (tv 33)),
 oa 35 (.call (kf 107) [(false, (tv 32)), (false, (tv 34))] []) 2240,
 o 4 (.mv (tv 35))] [] [4])
 .ret))),
 [.tmp 4], false⟩

def l46_0 : VCode := (.seq (.seq (.region [] [o 8 (.mv (tv 4)),
 o 9 (.fld 5 (tv 1)),
 o 10 (.load false 1 (tv 9)),
 o 11 (.len false (tv 10)),
 o 12 (.bin .lss 0 (tv 8) (tv 11))] [] [1, 3, 4, 12])
 (.cond (tv 12) .skip
 (.exit 0)))
 (.seq (.block 1 (.region [] [o 15 (.mv (tv 3)),
 o 16 (.fld 5 (tv 1)),
 o 17 (.load false 1 (tv 16)),
 o 18 (.mv (tv 4)),
 o 19 (.idxA 14 (tv 17) (tv 18)),
 o 20 (.fld 3 (tv 19)),
 o 21 (.load true 11 (tv 20)),
 oa 22 (.mkSl 11 [(tv 21)]) 1280,
 o 23 (.app 11 152 false (tv 15) (tv 22)),
 o 3 (.mv (tv 23))] [] [1, 3, 4]))
 (.region [1280] [o 13 (.mv (tv 4)),
 o 14 (.bin .add 0 (tv 13) (ki 1)),
 o 4 (.mv (tv 14))] [] [1, 3, 4])))

def v46 : VFun := ⟨1,
 (.seq (.region [] [oa 1 (.box (tv 0)) 64,
 o 2 (.mv kn)] [] [1])
 (.seq (.region [] [o 5 (.fld 4 (tv 1)),
 o 6 (.load false 1 (tv 5)),
 oa 7 (.app 11 152 true kn (tv 6)) 320,
 o 3 (.mv (tv 7))] [] [1, 3])
 (.seq (.seq (.region [] [o 4 (.mv (ki 0))] [] [1, 3, 4])
 (.block 0 (.loop l46_0)))
 (.seq (.region [] [o 24 (.mv (tv 3)),
 o 2 (.mv (tv 24))] [] [2])
 .ret)))),
 [.tmp 2], true⟩

def l54_0 : VCode := (.seq (.seq (.region [] [o 11 (.mv (tv 5)),
 o 12 (.mv (tv 0)),
 o 13 (.len false (tv 12)),
 o 14 (.bin .lss 0 (tv 11) (tv 13))] [] [0, 1, 5, 14])
 (.cond (tv 14) .skip
 (.exit 0)))
 (.seq (.block 1 (.seq (.region [] [o 17 (.mv (tv 0)),
 o 18 (.mv (tv 5)),
 o 19 (.idxA 11 (tv 17) (tv 18)),
 o 20 (.load true 11 (tv 19)),
 o 21 (.mv (tv 1)),
 o 22 (.mv (tv 5)),
 o 23 (.idxA 11 (tv 21) (tv 22)),
 o 24 (.load true 11 (tv 23)),
 oa 25 (.call (kf 18) [(false, (tv 20)), (false, (tv 24))] []) 1344,
 o 26 (.un .not (tv 25))] [(2, 6), (3, 6), (2, 7), (3, 7)] [0, 1, 5, 26])
 (.cond (tv 26) (.seq (.region [] [o 4 (.mv kF)] [] [4])
 .ret)
 .skip)))
 (.region [] [o 15 (.mv (tv 5)),
 o 16 (.bin .add 0 (tv 15) (ki 1)),
 o 5 (.mv (tv 16))] [] [0, 1, 5])))

def v54 : VFun := ⟨2,
 (.seq (.region [] [o 4 (.mv kF)] [] [0, 1])
 (.seq (.seq (.region [] [o 6 (.mv (tv 0)),
 o 7 (.len false (tv 6)),
 o 8 (.mv (tv 1)),
 o 9 (.len false (tv 8)),
 o 10 (.bin .neq 0 (tv 7) (tv 9))] [] [0, 1, 10])
 (.cond (tv 10) (.seq (.region [] [o 4 (.mv kF)] [] [4])
 .ret)
 .skip))
 (.seq (.seq (.region [] [o 5 (.mv (ki 0))] [] [0, 1, 5])
 (.block 0 (.loop l54_0)))
 (.seq (.region [] [o 4 (.mv kt)] [] [4])
 .ret)))),
 [.tmp 4], false⟩

def v61 : VFun := ⟨1,
 (.seq (.region [] [oa 1 (.box (tv 0)) 64,
 o 2 (.mv (.k (.sc (.c .nilfn))))] [] [1])
 (.seq (.region [] [o 3 (.fn 114 [(tv 1)]),
 o 2 (.mv (tv 3))] [] [2])
 .ret)),
 [.tmp 2], true⟩

def l49_0 : VCode := (.seq (.region [] [o 12 (.bin .lss 0 (tv 11) (tv 10))] [] [1, 2, 3, 9, 10, 11, 12])
 (.seq (.cond (tv 12) .skip
 (.exit 0))
 (.seq (.block 1 (.seq (.region [] [o 13 (.mv (tv 11)),
 o 14 (.idxA 11 (tv 9) (tv 11)),
 o 15 (.load true 11 (tv 14)),
 oa 5 (.new [zi, zi, zs, zi, .nil, .nil, zi, zs, zi, zi, .nil] []) 832,
 o 4 (.mv (tv 13)),
 on (.store 11 (tv 5) (tv 15) [])] [] [1, 2, 3, 4, 5, 9, 10, 11])
 (.region [] [o 16 (.mv (tv 3)),
 o 17 (.mv (tv 4)),
 o 18 (.load true 11 (tv 5)),
 oa 19 (.call (kf 49) [(false, (tv 18))] []) 1216,
 o 20 (.idxA 11 (tv 16) (tv 17)),
 on (.store 11 (tv 20) (tv 19) [])] [] [1, 2, 3, 9, 10, 11])))
 (.region [832] [o 21 (.bin .add 0 (tv 11) (ki 1)),
 o 11 (.mv (tv 21))] [] [1, 2, 3, 9, 10, 11]))))

def l49_1 : VCode := (.seq (.region [] [o 30 (.bin .lss 0 (tv 29) (tv 28))] [] [1, 2, 28, 29, 30])
 (.seq (.cond (tv 30) .skip
 (.exit 2))
 (.seq (.block 3 (.seq (.region [] [o 31 (.mv (tv 29)),
 o 6 (.mv (tv 31))] [] [1, 2, 6, 28, 29])
 (.region [] [o 32 (.fld 5 (tv 1)),
 o 33 (.load false 1 (tv 32)),
 o 34 (.mv (tv 6)),
 o 35 (.idxA 14 (tv 33) (tv 34)),
 o 36 (.fld 0 (tv 35)),
 on (.store 1 (tv 36) (ki 0) [])] [] [1, 2, 28, 29])))
 (.region [] [o 37 (.bin .add 0 (tv 29) (ki 1)),
 o 29 (.mv (tv 37))] [] [1, 2, 28, 29]))))

def v49 : VFun := ⟨1,
 (.seq (.region [] [oa 1 (.box (tv 0)) 64,
 oa 2 (.new [zi, zi, zs, zi, .nil, .nil, zi, zs, zi, zi, .nil] []) 128] [] [1, 2])
 (.seq (.region [] [o 7 (.load true 11 (tv 1)),
 oa 8 (.call (kf 99) [(false, (tv 7))] []) 256,
 o 3 (.mv (tv 8))] [] [1, 2, 3])
 (.seq (.seq (.region [] [o 9 (.mv (tv 3)),
 o 10 (.len false (tv 9)),
 o 11 (.mv (ki 0))] [] [1, 2, 3, 9, 10, 11])
 (.block 0 (.loop l49_0)))
 (.seq (.region [] [o 22 (.load true 11 (tv 1)),
 o 23 (.mv (tv 3)),
 oa 24 (.call (kf 102) [(false, (tv 22)), (false, (tv 23))] []) 1664,
 on (.store 11 (tv 1) (tv 24) [])] [] [1, 2])
 (.seq (.region [] [o 25 (.fld 1 (tv 1)),
 on (.store 1 (tv 25) (ki 0) [])] [] [1, 2])
 (.seq (.seq (.region [] [o 26 (.fld 5 (tv 1)),
 o 27 (.load false 1 (tv 26)),
 o 28 (.len false (tv 27)),
 o 29 (.mv (ki 0))] [] [1, 2, 28, 29])
 (.block 2 (.loop l49_1)))
 (.seq (.region [] [o 38 (.load true 11 (tv 1)),
 on (.store 11 (tv 2) (tv 38) [])] [] [2])
 .ret))))))),
 [.cell 2 true 11], false⟩

def l74_0 : VCode := (.seq (.seq (.region [] [o 42 (.mv (tv 5)),
 o 43 (.mv (tv 0)),
 o 44 (.len true (tv 43)),
 o 45 (.bin .lss 0 (tv 42) (tv 44)),
 o 46 (.mv (tv 45)),
 og 47 (.mv (tv 0)) 46 true,
 og 48 (.mv (tv 5)) 46 true,
 og 49 (.idxS (tv 47) (tv 48)) 46 true,
 og 50 (.bin .neq 0 (tv 49) (.k (.sc (.c (.int .u8 10))))) 46 true,
 o 51 (.pick (tv 46) (tv 50) kF)] [] [0, 3, 4, 5, 51])
 (.cond (tv 51) .skip
 (.exit 3)))
 (.block 4 (.region [] [o 52 (.mv (tv 5)),
 o 53 (.bin .add 0 (tv 52) (ki 1)),
 o 5 (.mv (tv 53))] [] [0, 3, 4, 5])))

def l74_1 : VCode := (.seq (.seq (.region [] [o 57 (.mv (tv 7)),
 o 58 (.mv (tv 0)),
 o 59 (.len true (tv 58)),
 o 60 (.bin .lss 0 (tv 57) (tv 59)),
 o 61 (.mv (tv 60)),
 og 62 (.mv (tv 0)) 61 true,
 og 63 (.mv (tv 7)) 61 true,
 og 64 (.idxS (tv 62) (tv 63)) 61 true,
 ⟨(some 65), (.call (kf 124) [(false, (tv 64))] []), (some (61, true)), 4288, []⟩,
 o 66 (.pick (tv 61) (tv 65) kF)] [] [0, 3, 4, 5, 7, 66])
 (.cond (tv 66) .skip
 (.exit 5)))
 (.block 6 (.region [] [o 67 (.mv (tv 7)),
 o 68 (.bin .add 0 (tv 67) (ki 1)),
 o 7 (.mv (tv 68))] [] [0, 3, 4, 5, 7])))

def l74_2 : VCode := (.seq (.seq (.region [] [o 13 (.mv (tv 5)),
 o 14 (.mv (tv 0)),
 o 15 (.len true (tv 14)),
 o 16 (.bin .lss 0 (tv 13) (tv 15))] [] [0, 3, 4, 5, 16])
 (.cond (tv 16) .skip
 (.exit 0)))
 (.block 1 (.seq (.region [] [o 17 (.mv (tv 0)),
 o 18 (.mv (tv 5)),
 o 19 (.idxS (tv 17) (tv 18)),
 o 6 (.mv (tv 19))] [] [0, 3, 4, 5, 6])
 (.seq (.region [] [o 20 (.mv (tv 5)),
 o 21 (.bin .add 0 (tv 20) (ki 1)),
 o 7 (.mv (tv 21))] [] [0, 3, 4, 5, 6, 7])
 (.seq (.block 2 (.seq (.region [] [o 23 (.mv (tv 6)),
 o 24 (.bin .eql 0 (tv 23) (.k (.sc (.c (.int .u8 32))))),
 o 25 (.mv (tv 24)),
 og 26 (.mv (tv 6)) 25 false,
 og 27 (.bin .eql 0 (tv 26) (.k (.sc (.c (.int .u8 9))))) 25 false,
 o 28 (.pick (tv 25) kt (tv 27)),
 o 29 (.mv (tv 28)),
 og 30 (.mv (tv 6)) 29 false,
 og 31 (.bin .eql 0 (tv 30) (.k (.sc (.c (.int .u8 13))))) 29 false,
 o 32 (.pick (tv 29) kt (tv 31)),
 o 33 (.mv (tv 32)),
 og 34 (.mv (tv 6)) 33 false,
 og 35 (.bin .eql 0 (tv 34) (.k (.sc (.c (.int .u8 10))))) 33 false,
 o 36 (.pick (tv 33) kt (tv 35)),
 o 22 (.mv (tv 36))] [] [0, 3, 4, 5, 6, 7, 22])
 (.cond (tv 22) (.seq (.region [] [o 37 (.mv (tv 5)),
 o 38 (.bin .add 0 (tv 37) (ki 1)),
 o 5 (.mv (tv 38))] [] [0, 3, 4, 5])
 (.exit 1))
 (.seq (.region [] [o 40 (.mv (tv 6)),
 o 41 (.bin .eql 0 (tv 40) (.k (.sc (.c (.int .u8 35))))),
 o 39 (.mv (tv 41))] [] [0, 3, 4, 5, 6, 7, 39])
 (.cond (tv 39) (.seq (.block 3 (.loop l74_0))
 (.exit 1))
 (.seq (.region [] [o 55 (.mv (tv 6)),
 oa 56 (.call (kf 124) [(false, (tv 55))] []) 3648,
 o 54 (.mv (tv 56))] [] [0, 3, 4, 5, 6, 7, 54])
 (.cond (tv 54) (.block 5 (.loop l74_1))
 (.seq (.region [] [o 70 (.mv (tv 6)),
 o 71 (.bin .eql 0 (tv 70) (.k (.sc (.c (.int .u8 45))))),
 o 72 (.mv (tv 71)),
 og 73 (.mv (tv 7)) 72 true,
 og 74 (.mv (tv 0)) 72 true,
 og 75 (.len true (tv 74)) 72 true,
 og 76 (.bin .lss 0 (tv 73) (tv 75)) 72 true,
 o 77 (.pick (tv 72) (tv 76) kF),
 o 78 (.mv (tv 77)),
 og 79 (.mv (tv 0)) 78 true,
 og 80 (.mv (tv 7)) 78 true,
 og 81 (.idxS (tv 79) (tv 80)) 78 true,
 og 82 (.bin .eql 0 (tv 81) (.k (.sc (.c (.int .u8 62))))) 78 true,
 o 83 (.pick (tv 78) (tv 82) kF),
 o 69 (.mv (tv 83))] [] [0, 3, 4, 5, 7, 69])
 (.cond (tv 69) (.region [] [o 84 (.mv (tv 7)),
 o 85 (.bin .add 0 (tv 84) (ki 1)),
 o 7 (.mv (tv 85))] [] [0, 3, 4, 5, 7])
 .skip)))))))))
 (.seq (.region [] [o 86 (.mv (tv 0)),
 o 87 (.mv (tv 5)),
 o 88 (.mv (tv 7)),
 o 89 (.slS (tv 86) (some (tv 87)) (some (tv 88))),
 oa 90 (.call (kf 125) [(false, (tv 89))] []) 6016,
 o 8 (.mv (tv 90))] [] [0, 3, 4, 5, 7, 8])
 (.seq (.seq (.region [] [o 91 (.mv (tv 8)),
 o 92 (.bin .eql 0 (tv 91) (ki 0))] [] [0, 3, 4, 5, 7, 8, 92])
 (.cond (tv 92) (.seq (.region [] [o 93 (.mv (tv 5)),
 o 94 (.build [zi, zi] [(0, 1, (ki 2)), (1, 1, (tv 93))]),
 o 2 (.mv kn),
 on (.store 2 (tv 3) (tv 94) [])] [] [2, 3])
 .ret)
 .skip))
 (.seq (.region [7040] [o 95 (.mv (tv 4)),
 o 96 (.mv (tv 8)),
 o 97 (.mv (tv 0)),
 o 98 (.mv (tv 5)),
 o 99 (.mv (tv 7)),
 o 100 (.slS (tv 97) (some (tv 98)) (some (tv 99))),
 o 101 (.mv (tv 5)),
 o 102 (.build [zi, zs, zi] [(0, 1, (tv 96)), (1, 1, (tv 100)), (2, 1, (tv 101))]),
 oa 103 (.mkSl 3 [(tv 102)]) 7040,
 o 104 (.app 3 32 false (tv 95) (tv 103)),
 o 4 (.mv (tv 104))] [] [0, 3, 4, 7])
 (.region [7040] [o 105 (.mv (tv 7)),
 o 5 (.mv (tv 105))] [] [0, 3, 4, 5])))))))))

def v74 : VFun := ⟨1,
 (.seq (.region [] [o 2 (.mv kn),
 oa 3 (.new [zi, zi] []) 128] [] [0, 3])
 (.seq (.seq (.region [] [o 9 (.mv (tv 0)),
 o 10 (.len true (tv 9)),
 o 11 (.bin .gtr 0 (tv 10) (ki 4000))] [] [0, 3, 11])
 (.cond (tv 11) (.seq (.region [] [o 12 (.build [zi, zi] [(0, 1, (ki 1))]),
 o 2 (.mv kn),
 on (.store 2 (tv 3) (tv 12) [])] [] [2, 3])
 .ret)
 .skip))
 (.seq (.region [] [⟨(some 4), (.mv kn), none, 576, [(0, 3)]⟩] [] [0, 3, 4])
 (.seq (.seq (.region [] [o 5 (.mv (ki 0))] [] [0, 3, 4, 5])
 (.block 0 (.loop l74_2)))
 (.seq (.region [] [o 106 (.mv (tv 4)),
 o 107 (.build [zi, zi] []),
 o 2 (.mv (tv 106)),
 on (.store 2 (tv 3) (tv 107) [])] [] [2, 3])
 .ret))))),
 [.tmp 2, .cell 3 true 2], false⟩

def v75 : VFun := ⟨2,
 (.seq (.region [] [o 4 (.mv (.k (.sc (.c .nilptr))))] [] [0, 1])
 (.seq (.seq (.region [] [o 5 (.mv (tv 1)),
 o 6 (.bin .lss 0 (tv 5) (ki 0)),
 o 7 (.mv (tv 6)),
 og 8 (.mv (tv 1)) 7 false,
 og 9 (.mv (tv 0)) 7 false,
 og 10 (.len false (tv 9)) 7 false,
 og 11 (.bin .gtr 0 (tv 8) (tv 10)) 7 false,
 o 12 (.pick (tv 7) kt (tv 11))] [] [0, 1, 12])
 (.cond (tv 12) (.region [] [o 13 (.mv (tv 0)),
 o 14 (.len false (tv 13)),
 o 1 (.mv (tv 14))] [] [0, 1])
 .skip))
 (.seq (.region [] [o 15 (.mv (tv 0)),
 o 16 (.mv (tv 1)),
 o 17 (.build [.nil, zi, (.c (.bool false)), zi] [(0, 1, (tv 15)), (1, 1, (tv 16))]),
 oa 18 (.box (tv 17)) 1024,
 o 4 (.mv (tv 18))] [] [4])
 .ret))),
 [.tmp 4], true⟩

def v120 : VFun := ⟨2,
 (.seq (.region [] [o 4 (.mv kF)] [] [0, 1])
 (.seq (.region [] [o 5 (.mv (tv 0)),
 o 6 (.nn (tv 5)),
 o 7 (.fld 2 (tv 6)),
 o 8 (.load false 1 (tv 7)),
 o 9 (.un .not (tv 8)),
 o 10 (.mv (tv 9)),
 og 11 (.mv (tv 0)) 10 true,
 og 12 (.nn (tv 11)) 10 true,
 og 13 (.fld 1 (tv 12)) 10 true,
 og 14 (.load false 1 (tv 13)) 10 true,
 og 15 (.mv (tv 0)) 10 true,
 og 16 (.nn (tv 15)) 10 true,
 og 17 (.fld 0 (tv 16)) 10 true,
 og 18 (.load false 1 (tv 17)) 10 true,
 og 19 (.len false (tv 18)) 10 true,
 og 20 (.bin .lss 0 (tv 14) (tv 19)) 10 true,
 o 21 (.pick (tv 10) (tv 20) kF),
 o 22 (.mv (tv 21)),
 og 23 (.mv (tv 0)) 22 true,
 og 24 (.nn (tv 23)) 22 true,
 og 25 (.fld 0 (tv 24)) 22 true,
 og 26 (.load false 1 (tv 25)) 22 true,
 og 27 (.mv (tv 0)) 22 true,
 og 28 (.nn (tv 27)) 22 true,
 og 29 (.fld 1 (tv 28)) 22 true,
 og 30 (.load false 1 (tv 29)) 22 true,
 og 31 (.idxA 3 (tv 26) (tv 30)) 22 true,
 og 32 (.fld 0 (tv 31)) 22 true,
 og 33 (.load false 1 (tv 32)) 22 true,
 og 34 (.bin .eql 0 (tv 33) (ki 5)) 22 true,
 og 35 (.mv (tv 34)) 22 true,
 og 36 (.mv (tv 0)) 35 false,
 og 37 (.nn (tv 36)) 35 false,
 og 38 (.fld 0 (tv 37)) 35 false,
 og 39 (.load false 1 (tv 38)) 35 false,
 og 40 (.mv (tv 0)) 35 false,
 og 41 (.nn (tv 40)) 35 false,
 og 42 (.fld 1 (tv 41)) 35 false,
 og 43 (.load false 1 (tv 42)) 35 false,
 og 44 (.idxA 3 (tv 39) (tv 43)) 35 false,
 og 45 (.fld 0 (tv 44)) 35 false,
 og 46 (.load false 1 (tv 45)) 35 false,
 og 47 (.bin .eql 0 (tv 46) (ki 4)) 35 false,
 og 48 (.pick (tv 35) kt (tv 47)) 22 true,
 o 49 (.pick (tv 22) (tv 48) kF),
 o 50 (.mv (tv 49)),
 og 51 (.mv (tv 0)) 50 true,
 og 52 (.nn (tv 51)) 50 true,
 og 53 (.fld 0 (tv 52)) 50 true,
 og 54 (.load false 1 (tv 53)) 50 true,
 og 55 (.mv (tv 0)) 50 true,
 og 56 (.nn (tv 55)) 50 true,
 og 57 (.fld 1 (tv 56)) 50 true,
 og 58 (.load false 1 (tv 57)) 50 true,
 og 59 (.idxA 3 (tv 54) (tv 58)) 50 true,
 og 60 (.fld 1 (tv 59)) 50 true,
 og 61 (.load false 1 (tv 60)) 50 true,
 og 62 (.mv (tv 1)) 50 true,
 og 63 (.bin .eql 0 (tv 61) (tv 62)) 50 true,
 o 64 (.pick (tv 50) (tv 63) kF),
 o 4 (.mv (tv 64))] [(7, 11), (8, 11), (9, 11), (7, 12), (8, 12), (9, 12), (7, 13), (8, 13), (9, 13), (7, 14), (8, 14), (9, 14), (19, 23), (20, 23), (21, 23), (19, 24), (20, 24), (21, 24), (19, 25), (20, 25), (21, 25), (32, 36), (33, 36), (34, 36), (32, 37), (33, 37), (34, 37), (32, 38), (33, 38), (34, 38), (47, 51), (48, 51), (49, 51), (47, 52), (48, 52), (49, 52), (47, 53), (48, 53), (49, 53)] [4])
 .ret)),
 [.tmp 4], false⟩

def v122 : VFun := ⟨1,
 (.seq (.region [] [oa 2 (.new [zi, (.c (.bool false)), zs, (.c (.bool false)), zi, zs, zi, zi, .nil, zi, zi, zs, zi, .nil, .nil, zi, zs, zi, zi, .nil] []) 64] [] [0, 2])
 (.seq (.region [] [o 4 (.mv (tv 0)),
 oa 5 (.call (kf 126) [(true, (tv 4))] []) 192,
 o 6 (.build [zi, (.c (.bool false)), zs, (.c (.bool false)), zi, zs, zi, zi, .nil, zi, zi, zs, zi, .nil, .nil, zi, zs, zi, zi, .nil] [(0, 1, (tv 5))]),
 oa 3 (.new [zi, (.c (.bool false)), zs, (.c (.bool false)), zi, zs, zi, zi, .nil, zi, zi, zs, zi, .nil, .nil, zi, zs, zi, zi, .nil] []) 320,
 on (.store 20 (tv 3) (tv 6) [])] [] [0, 2, 3])
 (.seq (.region [] [o 7 (.mv (tv 0)),
 oa 8 (.call (kf 129) [(true, (tv 7)), (false, (.k (.sc (.c (.str [108, 101, 116])))))] []) 512] [] [0, 2, 3])
 (.seq (.region [] [o 9 (.mv (tv 0)),
 oa 10 (.call (kf 127) [(true, (tv 9)), (false, (.k (.sc (.c (.str [114, 101, 99])))))] []) 640,
 o 11 (.fld 1 (tv 3)),
 on (.store 1 (tv 11) (tv 10) [])] [] [0, 2, 3])
 (.seq (.region [] [o 12 (.mv (tv 0)),
 oa 13 (.call (kf 128) [(true, (tv 12)), (false, (ki 1))] []) 896,
 o 14 (.fld 2 (tv 3)),
 on (.store 1 (tv 14) (tv 13) [])] [] [0, 2, 3])
 (.seq (.seq (.region [] [o 15 (.mv (tv 0)),
 oa 16 (.call (kf 127) [(true, (tv 15)), (false, (.k (.sc (.c (.str [58])))))] []) 1152] [] [0, 2, 3, 16])
 (.cond (tv 16) (.seq (.region [] [o 17 (.fld 3 (tv 3)),
 on (.store 1 (tv 17) kt [])] [] [0, 2, 3])
 (.region [] [o 18 (.mv (tv 0)),
 oa 19 (.call (kf 173) [(true, (tv 18))] []) 1408,
 o 20 (.fld 4 (tv 3)),
 on (.store 5 (tv 20) (tv 19) [])] [] [0, 2, 3]))
 .skip))
 (.seq (.region [] [o 21 (.mv (tv 0)),
 oa 22 (.call (kf 129) [(true, (tv 21)), (false, (.k (.sc (.c (.str [61])))))] []) 1664] [] [0, 2, 3])
 (.seq (.seq (.region [] [o 23 (.mv (tv 0)),
 o 24 (.nn (tv 23)),
 o 25 (.fld 2 (tv 24)),
 o 26 (.load false 1 (tv 25)),
 o 27 (.un .not (tv 26))] [] [0, 2, 3, 27])
 (.cond (tv 27) (.region [] [o 28 (.mv (tv 0)),
 oa 29 (.call (kf 76) [(true, (tv 28))] []) 2112,
 o 30 (.fld 9 (tv 3)),
 on (.store 11 (tv 30) (tv 29) [])] [] [0, 2, 3])
 .skip))
 (.seq (.region [] [o 31 (.mv (tv 0)),
 oa 32 (.call (kf 129) [(true, (tv 31)), (false, (.k (.sc (.c (.str [59])))))] []) 2368] [] [2, 3])
 (.seq (.region [] [o 33 (.load true 20 (tv 3)),
 on (.store 20 (tv 2) (tv 33) [])] [] [2])
 .ret)))))))))),
 [.cell 2 true 20], false⟩

def l123_0 : VCode := (.seq (.seq (.region [] [o 43 (.mv (tv 5)),
 o 44 (.fld 3 (tv 4)),
 o 45 (.load false 1 (tv 44)),
 o 46 (.len false (tv 45)),
 o 47 (.bin .lss 0 (tv 43) (tv 46))] [] [1, 2, 3, 4, 5, 47])
 (.cond (tv 47) .skip
 (.exit 2)))
 (.seq (.block 3 (.seq (.region [] [o 50 (.fld 3 (tv 4)),
 o 51 (.load false 1 (tv 50)),
 o 52 (.mv (tv 5)),
 o 53 (.idxA 3 (tv 51) (tv 52)),
 o 54 (.fld 2 (tv 53)),
 o 55 (.load false 1 (tv 54)),
 o 56 (.len false (tv 55)),
 o 57 (.bin .gtr 0 (tv 56) (ki 4))] [] [1, 2, 3, 4, 5, 57])
 (.cond (tv 57) (.seq (.region [] [o 58 (.fld 3 (tv 4)),
 o 59 (.load false 1 (tv 58)),
 o 60 (.mv (tv 5)),
 o 61 (.idxA 3 (tv 59) (tv 60)),
 o 62 (.fld 0 (tv 61)),
 o 63 (.load false 1 (tv 62)),
 o 64 (.build [zi, zi] [(0, 1, (ki 5)), (1, 1, (tv 63))]),
 on (.store 2 (tv 2) (tv 64) [])] [] [2])
 .ret)
 .skip)))
 (.region [] [o 48 (.mv (tv 5)),
 o 49 (.bin .add 0 (tv 48) (ki 1)),
 o 5 (.mv (tv 49))] [] [1, 2, 3, 4, 5])))

def l123_1 : VCode := (.seq (.seq (.region [] [o 14 (.mv (tv 3)),
 o 15 (.fld 0 (tv 1)),
 o 16 (.load false 1 (tv 15)),
 o 17 (.len false (tv 16)),
 o 18 (.bin .lss 0 (tv 14) (tv 17))] [] [1, 2, 3, 18])
 (.cond (tv 18) .skip
 (.exit 0)))
 (.seq (.block 1 (.seq (.region [] [o 21 (.fld 0 (tv 1)),
 o 22 (.load false 1 (tv 21)),
 o 23 (.mv (tv 3)),
 o 24 (.idxA 4 (tv 22) (tv 23)),
 o 25 (.load true 4 (tv 24)),
 oa 4 (.new [zi, zs, .nil, .nil] []) 896,
 on (.store 4 (tv 4) (tv 25) [])] [] [1, 2, 3, 4])
 (.seq (.seq (.region [] [o 26 (.mv (tv 3)),
 o 27 (.bin .geq 0 (tv 26) (ki 8)),
 o 28 (.mv (tv 27)),
 og 29 (.fld 2 (tv 4)) 28 false,
 og 30 (.load false 1 (tv 29)) 28 false,
 og 31 (.len false (tv 30)) 28 false,
 og 32 (.bin .gtr 0 (tv 31) (ki 4)) 28 false,
 o 33 (.pick (tv 28) kt (tv 32)),
 o 34 (.mv (tv 33)),
 og 35 (.fld 3 (tv 4)) 34 false,
 og 36 (.load false 1 (tv 35)) 34 false,
 og 37 (.len false (tv 36)) 34 false,
 og 38 (.bin .gtr 0 (tv 37) (ki 6)) 34 false,
 o 39 (.pick (tv 34) kt (tv 38))] [] [1, 2, 3, 4, 39])
 (.cond (tv 39) (.seq (.region [] [o 40 (.fld 0 (tv 4)),
 o 41 (.load false 1 (tv 40)),
 o 42 (.build [zi, zi] [(0, 1, (ki 5)), (1, 1, (tv 41))]),
 on (.store 2 (tv 2) (tv 42) [])] [] [2])
 .ret)
 .skip))
 (.seq (.region [] [o 5 (.mv (ki 0))] [] [1, 2, 3, 4, 5])
 (.block 2 (.loop l123_0))))))
 (.region [896] [o 19 (.mv (tv 3)),
 o 20 (.bin .add 0 (tv 19) (ki 1)),
 o 3 (.mv (tv 20))] [] [1, 2, 3])))

def l123_2 : VCode := (.seq (.seq (.region [] [o 94 (.mv (tv 9)),
 o 95 (.fld 3 (tv 7)),
 o 96 (.load false 1 (tv 95)),
 o 97 (.mv (tv 8)),
 o 98 (.idxA 3 (tv 96) (tv 97)),
 o 99 (.fld 2 (tv 98)),
 o 100 (.load false 1 (tv 99)),
 o 101 (.len false (tv 100)),
 o 102 (.bin .lss 0 (tv 94) (tv 101))] [] [1, 2, 6, 7, 8, 9, 102])
 (.cond (tv 102) .skip
 (.exit 8)))
 (.seq (.block 9 (.seq (.region [] [o 105 (.fld 3 (tv 7)),
 o 106 (.load false 1 (tv 105)),
 o 107 (.mv (tv 8)),
 o 108 (.idxA 3 (tv 106) (tv 107)),
 o 109 (.fld 2 (tv 108)),
 o 110 (.load false 1 (tv 109)),
 o 111 (.mv (tv 9)),
 o 112 (.idxA 5 (tv 110) (tv 111)),
 o 113 (.load true 5 (tv 112)),
 oa 114 (.call (kf 174) [(false, (tv 113))] []) 7104,
 o 115 (.bin .gtr 0 (tv 114) (ki 40))] [] [1, 2, 6, 7, 8, 9, 115])
 (.cond (tv 115) (.seq (.region [] [o 116 (.fld 0 (tv 7)),
 o 117 (.load false 1 (tv 116)),
 o 118 (.build [zi, zi] [(0, 1, (ki 4)), (1, 1, (tv 117))]),
 on (.store 2 (tv 2) (tv 118) [])] [] [2])
 .ret)
 .skip)))
 (.region [] [o 103 (.mv (tv 9)),
 o 104 (.bin .add 0 (tv 103) (ki 1)),
 o 9 (.mv (tv 104))] [] [1, 2, 6, 7, 8, 9])))

def l123_3 : VCode := (.seq (.seq (.region [] [o 87 (.mv (tv 8)),
 o 88 (.fld 3 (tv 7)),
 o 89 (.load false 1 (tv 88)),
 o 90 (.len false (tv 89)),
 o 91 (.bin .lss 0 (tv 87) (tv 90))] [] [1, 2, 6, 7, 8, 91])
 (.cond (tv 91) .skip
 (.exit 6)))
 (.seq (.block 7 (.seq (.region [] [o 9 (.mv (ki 0))] [] [1, 2, 6, 7, 8, 9])
 (.block 8 (.loop l123_2))))
 (.region [] [o 92 (.mv (tv 8)),
 o 93 (.bin .add 0 (tv 92) (ki 1)),
 o 8 (.mv (tv 93))] [] [1, 2, 6, 7, 8])))

def l123_4 : VCode := (.seq (.seq (.region [] [o 75 (.mv (tv 6)),
 o 76 (.fld 0 (tv 1)),
 o 77 (.load false 1 (tv 76)),
 o 78 (.len false (tv 77)),
 o 79 (.bin .lss 0 (tv 75) (tv 78))] [] [1, 2, 6, 79])
 (.cond (tv 79) .skip
 (.exit 4)))
 (.seq (.block 5 (.seq (.region [] [o 82 (.fld 0 (tv 1)),
 o 83 (.load false 1 (tv 82)),
 o 84 (.mv (tv 6)),
 o 85 (.idxA 4 (tv 83) (tv 84)),
 o 86 (.load true 4 (tv 85)),
 oa 7 (.new [zi, zs, .nil, .nil] []) 5376,
 on (.store 4 (tv 7) (tv 86) [])] [] [1, 2, 6, 7])
 (.seq (.region [] [o 8 (.mv (ki 0))] [] [1, 2, 6, 7, 8])
 (.block 6 (.loop l123_3)))))
 (.region [5376] [o 80 (.mv (tv 6)),
 o 81 (.bin .add 0 (tv 80) (ki 1)),
 o 6 (.mv (tv 81))] [] [1, 2, 6])))

def l123_5 : VCode := (.seq (.seq (.region [] [o 119 (.mv (tv 10)),
 o 120 (.fld 1 (tv 1)),
 o 121 (.load false 1 (tv 120)),
 o 122 (.len false (tv 121)),
 o 123 (.bin .lss 0 (tv 119) (tv 122))] [] [1, 2, 10, 123])
 (.cond (tv 123) .skip
 (.exit 10)))
 (.seq (.block 11 (.seq (.region [] [o 126 (.fld 1 (tv 1)),
 o 127 (.load false 1 (tv 126)),
 o 128 (.mv (tv 10)),
 o 129 (.idxA 20 (tv 127) (tv 128)),
 o 130 (.load true 20 (tv 129)),
 oa 11 (.new [zi, (.c (.bool false)), zs, (.c (.bool false)), zi, zs, zi, zi, .nil, zi, zi, zs, zi, .nil, .nil, zi, zs, zi, zi, .nil] []) 8768,
 on (.store 20 (tv 11) (tv 130) [])] [] [1, 2, 10, 11])
 (.seq (.seq (.region [] [o 131 (.fld 3 (tv 11)),
 o 132 (.load false 1 (tv 131)),
 o 133 (.mv (tv 132)),
 og 134 (.fld 4 (tv 11)) 133 true,
 og 135 (.load true 5 (tv 134)) 133 true,
 ⟨(some 136), (.call (kf 174) [(false, (tv 135))] []), (some (133, true)), 9216, []⟩,
 og 137 (.bin .gtr 0 (tv 136) (ki 40)) 133 true,
 o 138 (.pick (tv 133) (tv 137) kF),
 o 139 (.mv (tv 138)),
 og 140 (.fld 9 (tv 11)) 139 false,
 og 141 (.load true 11 (tv 140)) 139 false,
 ⟨(some 142), (.call (kf 78) [(false, (tv 141))] []), (some (139, false)), 9600, []⟩,
 o 143 (.pick (tv 139) kt (tv 142))] [] [1, 2, 10, 11, 143])
 (.cond (tv 143) (.seq (.region [] [o 144 (.fld 0 (tv 11)),
 o 145 (.load false 1 (tv 144)),
 o 146 (.build [zi, zi] [(0, 1, (ki 4)), (1, 1, (tv 145))]),
 on (.store 2 (tv 2) (tv 146) [])] [] [2])
 .ret)
 .skip))
 (.seq (.region [] [o 148 (.fld 9 (tv 11)),
 o 149 (.load true 11 (tv 148)),
 oa 150 (.call (kf 79) [(false, (tv 149))] []) 10112,
 o 147 (.mv (tv 150)),
 o 151 (.ext 0 (tv 147)),
 o 152 (.ext 1 (tv 147)),
 o 12 (.mv (tv 151)),
 o 13 (.mv (tv 152))] [] [1, 2, 10, 12, 13])
 (.seq (.region [8768] [o 153 (.mv (tv 13))] [] [1, 2, 10, 12, 153])
 (.cond (tv 153) (.seq (.region [] [o 154 (.mv (tv 12)),
 o 155 (.build [zi, zi] [(0, 1, (ki 5)), (1, 1, (tv 154))]),
 on (.store 2 (tv 2) (tv 155) [])] [] [2])
 .ret)
 .skip))))))
 (.region [8768] [o 124 (.mv (tv 10)),
 o 125 (.bin .add 0 (tv 124) (ki 1)),
 o 10 (.mv (tv 125))] [] [1, 2, 10])))

def v123 : VFun := ⟨1,
 (.seq (.region [] [oa 1 (.box (tv 0)) 64,
 oa 2 (.new [zi, zi] []) 128] [] [1, 2])
 (.seq (.seq (.region [] [o 3 (.mv (ki 0))] [] [1, 2, 3])
 (.block 0 (.loop l123_1)))
 (.seq (.seq (.region [] [o 65 (.fld 1 (tv 1)),
 o 66 (.load false 1 (tv 65)),
 o 67 (.len false (tv 66)),
 o 68 (.bin .gtr 0 (tv 67) (ki 16))] [] [1, 2, 68])
 (.cond (tv 68) (.seq (.region [] [o 69 (.fld 1 (tv 1)),
 o 70 (.load false 1 (tv 69)),
 o 71 (.idxA 20 (tv 70) (ki 16)),
 o 72 (.fld 0 (tv 71)),
 o 73 (.load false 1 (tv 72)),
 o 74 (.build [zi, zi] [(0, 1, (ki 5)), (1, 1, (tv 73))]),
 on (.store 2 (tv 2) (tv 74) [])] [] [2])
 .ret)
 .skip))
 (.seq (.seq (.region [] [o 6 (.mv (ki 0))] [] [1, 2, 6])
 (.block 4 (.loop l123_4)))
 (.seq (.seq (.region [] [o 10 (.mv (ki 0))] [] [1, 2, 10])
 (.block 10 (.loop l123_5)))
 (.seq (.region [] [o 156 (.build [zi, zi] []),
 on (.store 2 (tv 2) (tv 156) [])] [] [2])
 .ret)))))),
 [.cell 2 true 2], false⟩

def v16 : VFun := ⟨2,
 (.seq (.region [] [oa 3 (.box (tv 1)) 64,
 oa 4 (.new [zi, zi, zs, zi, .nil, .nil, zi, zs, zi, zi, .nil] []) 128,
 o 5 (.mv (ki 0)),
 o 6 (.mv kF)] [] [3, 4])
 (.seq (.seq (.region [] [o 10 (.load true 11 (tv 3)),
 oa 11 (.call (kf 47) [(false, (tv 10))] []) 384,
 o 12 (.un .not (tv 11))] [] [3, 4, 12])
 (.cond (tv 12) (.seq (.region [] [o 13 (.load true 11 (tv 3)),
 on (.store 11 (tv 4) (tv 13) []),
 o 5 (.mv (ki 0)),
 o 6 (.mv kF)] [] [4, 5, 6])
 .ret)
 .skip))
 (.seq (.region [] [o 15 (.load true 11 (tv 3)),
 oa 16 (.call (kf 48) [(false, (tv 15))] []) 832,
 o 14 (.mv (tv 16)),
 o 17 (.ext 0 (tv 14)),
 o 18 (.ext 1 (tv 14)),
 o 19 (.ext 2 (tv 14)),
 oa 7 (.new [zi, zi, zs, zi, .nil, .nil, zi, zs, zi, zi, .nil] []) 1152,
 on (.store 11 (tv 7) (tv 17) []),
 o 8 (.mv (tv 18)),
 o 9 (.mv (tv 19))] [] [3, 4, 7, 8, 9])
 (.seq (.seq (.region [] [o 20 (.mv (tv 9)),
 o 21 (.un .not (tv 20))] [] [3, 4, 7, 8, 21])
 (.cond (tv 21) (.seq (.region [] [o 22 (.load true 11 (tv 3)),
 on (.store 11 (tv 4) (tv 22) []),
 o 5 (.mv (ki 0)),
 o 6 (.mv kF)] [] [4, 5, 6])
 .ret)
 .skip))
 (.seq (.region [] [o 23 (.load true 11 (tv 7)),
 oa 24 (.call (kf 49) [(false, (tv 23))] []) 1856,
 o 25 (.mv (tv 8)),
 on (.store 11 (tv 4) (tv 24) []),
 o 5 (.mv (tv 25)),
 o 6 (.mv kt)] [] [4, 5, 6])
 .ret))))),
 [.cell 4 true 11, .tmp 5, .tmp 6], false⟩

def l71_0 : VCode := (.seq (.region [] [o 10 (.bin .lss 0 (tv 9) (tv 8))] [] [3, 7, 8, 9, 10])
 (.seq (.cond (tv 10) .skip
 (.exit 0))
 (.seq (.block 1 (.seq (.region [] [o 11 (.idxA 11 (tv 7) (tv 9)),
 o 12 (.load true 11 (tv 11)),
 oa 5 (.new [zi, zi, zs, zi, .nil, .nil, zi, zs, zi, zi, .nil] []) 704,
 on (.store 11 (tv 5) (tv 12) [])] [] [3, 5, 7, 8, 9])
 (.region [] [o 13 (.mv (tv 3)),
 o 14 (.load true 11 (tv 5)),
 oa 15 (.call (kf 71) [(false, (tv 14))] []) 960,
 o 16 (.bin .add 0 (tv 13) (tv 15)),
 o 3 (.mv (tv 16))] [] [3, 7, 8, 9])))
 (.region [704] [o 17 (.bin .add 0 (tv 9) (ki 1)),
 o 9 (.mv (tv 17))] [] [3, 7, 8, 9]))))

def v71 : VFun := ⟨1,
 (.seq (.region [] [oa 1 (.box (tv 0)) 64,
 o 2 (.mv (ki 0))] [] [1])
 (.seq (.region [] [o 3 (.mv (ki 1))] [] [1, 3])
 (.seq (.seq (.region [] [o 6 (.load true 11 (tv 1)),
 oa 7 (.call (kf 99) [(false, (tv 6))] []) 320,
 o 8 (.len false (tv 7)),
 o 9 (.mv (ki 0))] [] [3, 7, 8, 9])
 (.block 0 (.loop l71_0)))
 (.seq (.region [] [o 18 (.mv (tv 3)),
 o 2 (.mv (tv 18))] [] [2])
 .ret)))),
 [.tmp 2], false⟩

def v19 : VFun := ⟨1,
 (.seq (.region [] [oa 1 (.box (tv 0)) 64,
 o 2 (.mv kF)] [] [1])
 (.seq (.region [] [o 3 (.fld 0 (tv 1)),
 o 4 (.load false 1 (tv 3)),
 o 5 (.bin .eql 0 (tv 4) (ki 3)),
 o 6 (.mv (tv 5)),
 og 7 (.fld 0 (tv 1)) 6 false,
 og 8 (.load false 1 (tv 7)) 6 false,
 og 9 (.bin .eql 0 (tv 8) (ki 4)) 6 false,
 o 10 (.pick (tv 6) kt (tv 9)),
 o 11 (.mv (tv 10)),
 og 12 (.load true 11 (tv 1)) 11 false,
 ⟨(some 13), (.call (kf 55) [(false, (tv 12))] []), (some (11, false)), 832, []⟩,
 o 14 (.pick (tv 11) kt (tv 13)),
 o 2 (.mv (tv 14))] [] [2])
 .ret)),
 [.tmp 2], false⟩

def l107_0 : VCode := (.seq (.seq (.region [] [o 11 (.mv (tv 5)),
 o 12 (.mv (tv 0)),
 o 13 (.len false (tv 12)),
 o 14 (.bin .lss 0 (tv 11) (tv 13))] [] [0, 1, 5, 14])
 (.cond (tv 14) .skip
 (.exit 0)))
 (.seq (.block 1 (.seq (.region [] [o 17 (.mv (tv 0)),
 o 18 (.mv (tv 5)),
 o 19 (.idxA 5 (tv 17) (tv 18)),
 o 20 (.load true 5 (tv 19)),
 o 21 (.mv (tv 1)),
 o 22 (.mv (tv 5)),
 o 23 (.idxA 5 (tv 21) (tv 22)),
 o 24 (.load true 5 (tv 23)),
 oa 25 (.call (kf 52) [(false, (tv 20)), (false, (tv 24))] []) 1344,
 o 26 (.un .not (tv 25))] [(2, 6), (3, 6), (2, 7), (3, 7)] [0, 1, 5, 26])
 (.cond (tv 26) (.seq (.region [] [o 4 (.mv kF)] [] [4])
 .ret)
 .skip)))
 (.region [] [o 15 (.mv (tv 5)),
 o 16 (.bin .add 0 (tv 15) (ki 1)),
 o 5 (.mv (tv 16))] [] [0, 1, 5])))

def v107 : VFun := ⟨2,
 (.seq (.region [] [o 4 (.mv kF)] [] [0, 1])
 (.seq (.seq (.region [] [o 6 (.mv (tv 0)),
 o 7 (.len false (tv 6)),
 o 8 (.mv (tv 1)),
 o 9 (.len false (tv 8)),
 o 10 (.bin .neq 0 (tv 7) (tv 9))] [] [0, 1, 10])
 (.cond (tv 10) (.seq (.region [] [o 4 (.mv kF)] [] [4])
 .ret)
 .skip))
 (.seq (.seq (.region [] [o 5 (.mv (ki 0))] [] [0, 1, 5])
 (.block 0 (.loop l107_0)))
 (.seq (.region [] [o 4 (.mv kt)] [] [4])
 .ret)))),
 [.tmp 4], false⟩

def l99_0 : VCode := (.seq (.region [] [o 13 (.bin .lss 0 (tv 12) (tv 11))] [] [3, 10, 11, 12, 13])
 (.seq (.cond (tv 13) .skip
 (.exit 0))
 (.seq (.block 1 (.seq (.region [] [o 14 (.idxA 14 (tv 10) (tv 12)),
 o 15 (.load true 14 (tv 14)),
 oa 5 (.new [zi, zs, .nil, zi, zi, zs, zi, .nil, .nil, zi, zs, zi, zi, .nil] []) 896,
 on (.store 14 (tv 5) (tv 15) [])] [] [3, 5, 10, 11, 12])
 (.region [] [o 16 (.mv (tv 3)),
 o 17 (.fld 3 (tv 5)),
 o 18 (.load true 11 (tv 17)),
 oa 19 (.mkSl 11 [(tv 18)]) 1216,
 o 20 (.app 11 152 false (tv 16) (tv 19)),
 o 3 (.mv (tv 20))] [] [3, 10, 11, 12])))
 (.region [896, 1216] [o 21 (.bin .add 0 (tv 12) (ki 1)),
 o 12 (.mv (tv 21))] [] [3, 10, 11, 12]))))

def v99 : VFun := ⟨1,
 (.seq (.region [] [oa 1 (.box (tv 0)) 64,
 o 2 (.mv kn)] [] [1])
 (.seq (.region [] [o 6 (.fld 4 (tv 1)),
 o 7 (.load false 1 (tv 6)),
 oa 8 (.call (kf 149) [(false, (tv 7))] []) 320,
 o 3 (.mv (tv 8))] [] [1, 3])
 (.seq (.seq (.region [] [o 9 (.fld 5 (tv 1)),
 o 10 (.load false 1 (tv 9)),
 o 11 (.len false (tv 10)),
 o 12 (.mv (ki 0))] [] [3, 10, 11, 12])
 (.block 0 (.loop l99_0)))
 (.seq (.region [] [o 22 (.mv (tv 3)),
 o 2 (.mv (tv 22))] [] [2])
 .ret)))),
 [.tmp 2], true⟩

def l102_0 : VCode := (.seq (.region [] [o 37 (.bin .lss 0 (tv 36) (tv 35))] [] [1, 2, 4, 5, 6, 7, 35, 36, 37])
 (.seq (.cond (tv 37) .skip
 (.exit 0))
 (.seq (.block 1 (.seq (.region [] [o 38 (.mv (tv 36)),
 o 8 (.mv (tv 38))] [] [1, 2, 4, 5, 6, 7, 8, 35, 36])
 (.region [] [o 39 (.mv (tv 7)),
 o 40 (.mv (tv 8)),
 o 41 (.mv (tv 1)),
 o 42 (.mv (tv 5)),
 o 43 (.mv (tv 8)),
 o 44 (.bin .add 0 (tv 42) (tv 43)),
 o 45 (.idxA 11 (tv 41) (tv 44)),
 o 46 (.load true 11 (tv 45)),
 o 47 (.idxA 14 (tv 39) (tv 40)),
 o 48 (.fld 3 (tv 47)),
 on (.store 11 (tv 48) (tv 46) [])] [] [1, 2, 4, 5, 6, 7, 35, 36])))
 (.region [] [o 49 (.bin .add 0 (tv 36) (ki 1)),
 o 36 (.mv (tv 49))] [] [1, 2, 4, 5, 6, 7, 35, 36]))))

def v102 : VFun := ⟨2,
 (.seq (.region [] [oa 2 (.box (tv 0)) 64,
 oa 4 (.new [zi, zi, zs, zi, .nil, .nil, zi, zs, zi, zi, .nil] []) 128] [] [1, 2, 4])
 (.seq (.region [] [o 9 (.fld 4 (tv 2)),
 o 10 (.load false 1 (tv 9)),
 o 11 (.len false (tv 10)),
 o 5 (.mv (tv 11))] [] [1, 2, 4, 5])
 (.seq (.seq (.region [] [o 12 (.mv (tv 1)),
 o 13 (.len false (tv 12)),
 o 14 (.mv (tv 5)),
 o 15 (.fld 5 (tv 2)),
 o 16 (.load false 1 (tv 15)),
 o 17 (.len false (tv 16)),
 o 18 (.bin .add 0 (tv 14) (tv 17)),
 o 19 (.bin .neq 0 (tv 13) (tv 18))] [] [1, 2, 4, 5, 19])
 (.cond (tv 19) (.seq (.region [] [o 20 (.load true 11 (tv 2)),
 on (.store 11 (tv 4) (tv 20) [])] [] [4])
 .ret)
 .skip))
 (.seq (.region [] [o 21 (.mv (tv 5)),
 oa 22 (.mkS 11 152 [zi, zi, zs, zi, .nil, .nil, zi, zs, zi, zi, .nil] (tv 21)) 1152,
 o 23 (.fld 5 (tv 2)),
 o 24 (.load false 1 (tv 23)),
 o 25 (.len false (tv 24)),
 oa 26 (.mkS 14 200 [zi, zs, .nil, zi, zi, zs, zi, .nil, .nil, zi, zs, zi, zi, .nil] (tv 25)) 1408,
 o 6 (.mv (tv 22)),
 o 7 (.mv (tv 26))] [(1, 2), (1, 3), (1, 4), (1, 5)] [1, 2, 4, 5, 6, 7])
 (.seq (.region [] [o 27 (.mv (tv 6)),
 o 28 (.mv (tv 1)),
 o 29 (.cp 11 (tv 27) (tv 28))] [] [1, 2, 4, 5, 6, 7])
 (.seq (.region [] [o 30 (.mv (tv 7)),
 o 31 (.fld 5 (tv 2)),
 o 32 (.load false 1 (tv 31)),
 o 33 (.cp 14 (tv 30) (tv 32))] [] [1, 2, 4, 5, 6, 7])
 (.seq (.seq (.region [] [o 34 (.mv (tv 7)),
 o 35 (.len false (tv 34)),
 o 36 (.mv (ki 0))] [] [1, 2, 4, 5, 6, 7, 35, 36])
 (.block 0 (.loop l102_0)))
 (.seq (.region [] [o 50 (.mv (tv 6)),
 o 51 (.mv (tv 7)),
 o 52 (.fld 4 (tv 2)),
 on (.store 1 (tv 52) (tv 50) []),
 o 53 (.fld 5 (tv 2)),
 on (.store 1 (tv 53) (tv 51) [])] [] [2, 4])
 (.seq (.region [] [o 54 (.load true 11 (tv 2)),
 on (.store 11 (tv 4) (tv 54) [])] [] [4])
 .ret))))))))),
 [.cell 4 true 11], true⟩

def v124 : VFun := ⟨1,
 (.seq (.region [] [o 2 (.mv kF)] [] [0])
 (.seq (.region [] [o 3 (.mv (tv 0)),
 oa 4 (.call (kf 175) [(false, (tv 3))] []) 192,
 o 5 (.mv (tv 4)),
 og 6 (.mv (tv 0)) 5 false,
 ⟨(some 7), (.call (kf 176) [(false, (tv 6))] []), (some (5, false)), 384, []⟩,
 o 8 (.pick (tv 5) kt (tv 7)),
 o 9 (.mv (tv 8)),
 og 10 (.mv (tv 0)) 9 false,
 ⟨(some 11), (.call (kf 177) [(false, (tv 10))] []), (some (9, false)), 640, []⟩,
 o 12 (.pick (tv 9) kt (tv 11)),
 o 13 (.mv (tv 12)),
 og 14 (.mv (tv 0)) 13 false,
 og 15 (.bin .eql 0 (tv 14) (.k (.sc (.c (.int .u8 95))))) 13 false,
 o 16 (.pick (tv 13) kt (tv 15)),
 o 2 (.mv (tv 16))] [] [2])
 .ret)),
 [.tmp 2], false⟩

def v125 : VFun := ⟨1,
 (.seq (.region [] [o 2 (.mv (ki 0))] [] [0])
 (.seq (.block 0 (.seq (.region [] [o 4 (.mv (tv 0)),
 oa 5 (.call (kf 178) [(false, (tv 4))] []) 192,
 o 3 (.mv (tv 5))] [] [0, 3])
 (.cond (tv 3) (.seq (.region [] [o 2 (.mv (ki 4))] [] [2])
 .ret)
 (.seq (.region [] [o 7 (.mv (tv 0)),
 oa 8 (.call (kf 179) [(false, (tv 7))] []) 448,
 o 6 (.mv (tv 8))] [] [0, 6])
 (.cond (tv 6) (.seq (.region [] [o 2 (.mv (ki 1))] [] [2])
 .ret)
 (.seq (.region [] [o 10 (.mv (tv 0)),
 oa 11 (.call (kf 180) [(false, (tv 10))] []) 704,
 o 9 (.mv (tv 11))] [] [0, 9])
 (.cond (tv 9) (.seq (.region [] [o 2 (.mv (ki 2))] [] [2])
 .ret)
 (.seq (.region [] [o 13 (.mv (tv 0)),
 oa 14 (.call (kf 181) [(false, (tv 13))] []) 960,
 o 12 (.mv (tv 14))] [] [0, 12])
 (.cond (tv 12) (.seq (.region [] [o 2 (.mv (ki 3))] [] [2])
 .ret)
 (.seq (.region [] [o 16 (.mv (tv 0)),
 oa 17 (.call (kf 182) [(false, (tv 16))] []) 1216,
 o 15 (.mv (tv 17))] [] [15])
 (.cond (tv 15) (.seq (.region [] [o 2 (.mv (ki 5))] [] [2])
 .ret)
 .skip)))))))))))
 (.seq (.region [] [o 2 (.mv (ki 0))] [] [2])
 .ret))),
 [.tmp 2], false⟩

def v126 : VFun := ⟨1,
 (.seq (.region [] [o 2 (.mv (ki 0))] [] [0])
 (.seq (.seq (.region [] [o 3 (.mv (tv 0)),
 o 4 (.nn (tv 3)),
 o 5 (.fld 1 (tv 4)),
 o 6 (.load false 1 (tv 5)),
 o 7 (.mv (tv 0)),
 o 8 (.nn (tv 7)),
 o 9 (.fld 0 (tv 8)),
 o 10 (.load false 1 (tv 9)),
 o 11 (.len false (tv 10)),
 o 12 (.bin .lss 0 (tv 6) (tv 11))] [(1, 5), (2, 5), (3, 5), (1, 6), (2, 6), (3, 6), (1, 7), (2, 7), (3, 7), (1, 8), (2, 8), (3, 8)] [0, 12])
 (.cond (tv 12) (.seq (.region [] [o 13 (.mv (tv 0)),
 o 14 (.nn (tv 13)),
 o 15 (.fld 0 (tv 14)),
 o 16 (.load false 1 (tv 15)),
 o 17 (.mv (tv 0)),
 o 18 (.nn (tv 17)),
 o 19 (.fld 1 (tv 18)),
 o 20 (.load false 1 (tv 19)),
 o 21 (.idxA 3 (tv 16) (tv 20)),
 o 22 (.fld 2 (tv 21)),
 o 23 (.load false 1 (tv 22)),
 o 2 (.mv (tv 23))] [(1, 5), (2, 5), (3, 5), (1, 6), (2, 6), (3, 6), (1, 7), (2, 7), (3, 7)] [2])
 .ret)
 .skip))
 (.seq (.region [] [o 2 (.mv (ki 0))] [] [2])
 .ret))),
 [.tmp 2], false⟩

def v129 : VFun := ⟨2,
 (.seq (.region [] [o 4 (.mv (tv 0)),
 o 5 (.mv (tv 1)),
 oa 6 (.call (kf 127) [(true, (tv 4)), (false, (tv 5))] []) 192,
 o 7 (.un .not (tv 6))] [] [0, 7])
 (.cond (tv 7) (.region [] [o 8 (.mv (tv 0)),
 oa 9 (.call (kf 77) [(true, (tv 8))] []) 384] [] [1000000])
 .skip)),
 [], false⟩

def v128 : VFun := ⟨2,
 (.seq (.region [] [o 4 (.mv (.k (.sc zs)))] [] [0, 1])
 (.seq (.seq (.region [] [o 5 (.mv (tv 0)),
 o 6 (.mv (tv 1)),
 oa 7 (.call (kf 170) [(true, (tv 5)), (false, (tv 6))] []) 256,
 o 8 (.un .not (tv 7))] [] [0, 8])
 (.cond (tv 8) (.seq (.region [] [o 9 (.mv (tv 0)),
 oa 10 (.call (kf 77) [(true, (tv 9))] []) 448] [] [1000000])
 (.seq (.region [] [o 4 (.mv (.k (.sc zs)))] [] [4])
 .ret))
 .skip))
 (.seq (.region [] [o 11 (.mv (tv 0)),
 o 12 (.nn (tv 11)),
 o 13 (.fld 1 (tv 12)),
 o 14 (.load false 1 (tv 13)),
 o 15 (.bin .add 0 (tv 14) (ki 1)),
 o 16 (.nn (tv 11)),
 o 17 (.fld 1 (tv 16)),
 on (.store 1 (tv 17) (tv 15) [])] [] [0])
 (.seq (.region [] [o 18 (.mv (tv 0)),
 o 19 (.nn (tv 18)),
 o 20 (.fld 0 (tv 19)),
 o 21 (.load false 1 (tv 20)),
 o 22 (.mv (tv 0)),
 o 23 (.nn (tv 22)),
 o 24 (.fld 1 (tv 23)),
 o 25 (.load false 1 (tv 24)),
 o 26 (.bin .sub 0 (tv 25) (ki 1)),
 o 27 (.idxA 3 (tv 21) (tv 26)),
 o 28 (.fld 1 (tv 27)),
 o 29 (.load false 1 (tv 28)),
 o 4 (.mv (tv 29))] [(1, 5), (2, 5), (3, 5), (1, 6), (2, 6), (3, 6), (1, 7), (2, 7), (3, 7)] [4])
 .ret)))),
 [.tmp 4], false⟩

def v170 : VFun := ⟨2,
 (.seq (.region [] [o 4 (.mv kF)] [] [0, 1])
 (.seq (.region [] [o 5 (.mv (tv 0)),
 o 6 (.nn (tv 5)),
 o 7 (.fld 2 (tv 6)),
 o 8 (.load false 1 (tv 7)),
 o 9 (.un .not (tv 8)),
 o 10 (.mv (tv 9)),
 og 11 (.mv (tv 0)) 10 true,
 og 12 (.nn (tv 11)) 10 true,
 og 13 (.fld 1 (tv 12)) 10 true,
 og 14 (.load false 1 (tv 13)) 10 true,
 og 15 (.mv (tv 0)) 10 true,
 og 16 (.nn (tv 15)) 10 true,
 og 17 (.fld 0 (tv 16)) 10 true,
 og 18 (.load false 1 (tv 17)) 10 true,
 og 19 (.len false (tv 18)) 10 true,
 og 20 (.bin .lss 0 (tv 14) (tv 19)) 10 true,
 o 21 (.pick (tv 10) (tv 20) kF),
 o 22 (.mv (tv 21)),
 og 23 (.mv (tv 0)) 22 true,
 og 24 (.nn (tv 23)) 22 true,
 og 25 (.fld 0 (tv 24)) 22 true,
 og 26 (.load false 1 (tv 25)) 22 true,
 og 27 (.mv (tv 0)) 22 true,
 og 28 (.nn (tv 27)) 22 true,
 og 29 (.fld 1 (tv 28)) 22 true,
 og 30 (.load false 1 (tv 29)) 22 true,
 og 31 (.idxA 3 (tv 26) (tv 30)) 22 true,
 og 32 (.fld 0 (tv 31)) 22 true,
 og 33 (.load false 1 (tv 32)) 22 true,
 og 34 (.mv (tv 1)) 22 true,
 og 35 (.bin .eql 0 (tv 33) (tv 34)) 22 true,
 o 36 (.pick (tv 22) (tv 35) kF),
 o 4 (.mv (tv 36))] [(7, 11), (8, 11), (9, 11), (7, 12), (8, 12), (9, 12), (7, 13), (8, 13), (9, 13), (7, 14), (8, 14), (9, 14), (19, 23), (20, 23), (21, 23), (19, 24), (20, 24), (21, 24), (19, 25), (20, 25), (21, 25)] [4])
 .ret)),
 [.tmp 4], false⟩

def v127 : VFun := ⟨2,
 (.seq (.region [] [o 4 (.mv kF)] [] [0, 1])
 (.seq (.seq (.region [] [o 5 (.mv (tv 0)),
 o 6 (.mv (tv 1)),
 oa 7 (.call (kf 120) [(true, (tv 5)), (false, (tv 6))] []) 256] [] [0, 7])
 (.cond (tv 7) (.seq (.region [] [o 8 (.mv (tv 0)),
 o 9 (.nn (tv 8)),
 o 10 (.fld 1 (tv 9)),
 o 11 (.load false 1 (tv 10)),
 o 12 (.bin .add 0 (tv 11) (ki 1)),
 o 13 (.nn (tv 8)),
 o 14 (.fld 1 (tv 13)),
 on (.store 1 (tv 14) (tv 12) [])] [] [1000000])
 (.seq (.region [] [o 4 (.mv kt)] [] [4])
 .ret))
 .skip))
 (.seq (.region [] [o 4 (.mv kF)] [] [4])
 .ret))),
 [.tmp 4], false⟩

def l76_0 : VCode := (.seq (.seq (.region [] [o 69 (.mv (tv 0)),
 o 70 (.nn (tv 69)),
 o 71 (.fld 2 (tv 70)),
 o 72 (.load false 1 (tv 71)),
 o 73 (.un .not (tv 72)),
 o 74 (.mv (tv 73)),
 og 75 (.mv (tv 0)) 74 true,
 og 76 (.nn (tv 75)) 74 true,
 og 77 (.fld 1 (tv 76)) 74 true,
 og 78 (.load false 1 (tv 77)) 74 true,
 og 79 (.mv (tv 0)) 74 true,
 og 80 (.nn (tv 79)) 74 true,
 og 81 (.fld 0 (tv 80)) 74 true,
 og 82 (.load false 1 (tv 81)) 74 true,
 og 83 (.len false (tv 82)) 74 true,
 og 84 (.bin .lss 0 (tv 78) (tv 83)) 74 true,
 o 85 (.pick (tv 74) (tv 84) kF),
 o 86 (.mv (tv 85)),
 og 87 (.mv (tv 0)) 86 true,
 og 88 (.nn (tv 87)) 86 true,
 og 89 (.fld 0 (tv 88)) 86 true,
 og 90 (.load false 1 (tv 89)) 86 true,
 og 91 (.mv (tv 0)) 86 true,
 og 92 (.nn (tv 91)) 86 true,
 og 93 (.fld 1 (tv 92)) 86 true,
 og 94 (.load false 1 (tv 93)) 86 true,
 og 95 (.idxA 3 (tv 90) (tv 94)) 86 true,
 og 96 (.load true 3 (tv 95)) 86 true,
 ⟨(some 97), (.call (kf 132) [(false, (tv 96))] []), (some (86, true)), 6656, []⟩,
 o 98 (.pick (tv 86) (tv 97) kF)] [(7, 11), (8, 11), (9, 11), (7, 12), (8, 12), (9, 12), (7, 13), (8, 13), (9, 13), (7, 14), (8, 14), (9, 14), (19, 23), (20, 23), (21, 23), (19, 24), (20, 24), (21, 24), (19, 25), (20, 25), (21, 25)] [0, 2, 8, 98])
 (.cond (tv 98) .skip
 (.exit 1)))
 (.block 2 (.seq (.region [6912] [o 99 (.mv (tv 0)),
 oa 100 (.call (kf 131) [(true, (tv 99))] []) 6848,
 oa 9 (.new [zi, zi, zs, zi, .nil, .nil, zi, zs, zi, zi, .nil] []) 6912,
 on (.store 11 (tv 9) (tv 100) [])] [] [0, 2, 8, 9])
 (.region [7296] [o 101 (.fld 1 (tv 8)),
 o 102 (.load false 1 (tv 101)),
 o 103 (.load true 11 (tv 8)),
 o 104 (.load true 11 (tv 9)),
 oa 105 (.mkSl 11 [(tv 103), (tv 104)]) 7296,
 o 106 (.bldD [zi, zi, zs, zi, .nil, .nil, zi, zs, zi, zi, .nil] [(0, 1, (ki 5)), (1, 1, (tv 102)), (4, 1, (tv 105))]),
 on (.store 11 (tv 8) (tv 106) [])] [] [0, 2, 8]))))

def v76 : VFun := ⟨1,
 (.seq (.region [] [oa 2 (.new [zi, zi, zs, zi, .nil, .nil, zi, zs, zi, zi, .nil] []) 64] [] [0, 2])
 (.seq (.region [] [o 10 (.mv (tv 0)),
 oa 11 (.call (kf 126) [(true, (tv 10))] []) 192,
 o 3 (.mv (tv 11))] [] [0, 2, 3])
 (.seq (.block 0 (.seq (.region [] [o 13 (.mv (tv 0)),
 oa 14 (.call (kf 127) [(true, (tv 13)), (false, (.k (.sc (.c (.str [92])))))] []) 384,
 o 12 (.mv (tv 14))] [] [0, 2, 3, 12])
 (.cond (tv 12) (.seq (.region [] [o 15 (.mv (tv 0)),
 oa 16 (.call (kf 128) [(true, (tv 15)), (false, (ki 1))] []) 576,
 o 4 (.mv (tv 16))] [] [0, 2, 3, 4])
 (.seq (.region [] [o 17 (.mv (tv 0)),
 oa 18 (.call (kf 129) [(true, (tv 17)), (false, (.k (.sc (.c (.str [46])))))] []) 768] [] [0, 2, 3, 4])
 (.seq (.seq (.region [] [o 19 (.mv (tv 0)),
 o 20 (.nn (tv 19)),
 o 21 (.fld 2 (tv 20)),
 o 22 (.load false 1 (tv 21))] [] [0, 2, 3, 4, 22])
 (.cond (tv 22) (.seq (.region [] [o 23 (.build [zi, zi, zs, zi, .nil, .nil, zi, zs, zi, zi, .nil] []),
 on (.store 11 (tv 2) (tv 23) [])] [] [2])
 .ret)
 .skip))
 (.seq (.region [] [o 24 (.mv (tv 3)),
 o 25 (.mv (tv 4)),
 o 26 (.mv (tv 0)),
 oa 27 (.call (kf 76) [(true, (tv 26))] []) 1408,
 oa 28 (.mkSl 11 [(tv 27)]) 1472,
 o 29 (.build [zi, zi, zs, zi, .nil, .nil, zi, zs, zi, zi, .nil] [(0, 1, (ki 4)), (1, 1, (tv 24)), (2, 1, (tv 25)), (4, 1, (tv 28))]),
 on (.store 11 (tv 2) (tv 29) [])] [] [2])
 .ret))))
 (.seq (.region [] [o 31 (.mv (tv 0)),
 oa 32 (.call (kf 127) [(true, (tv 31)), (false, (.k (.sc (.c (.str [108, 101, 116])))))] []) 1728,
 o 30 (.mv (tv 32))] [] [0, 2, 3, 30])
 (.cond (tv 30) (.seq (.region [] [o 5 (.mv (ki 6))] [] [0, 2, 3, 5])
 (.seq (.seq (.region [] [o 33 (.mv (tv 0)),
 oa 34 (.call (kf 127) [(true, (tv 33)), (false, (.k (.sc (.c (.str [114, 101, 99])))))] []) 1984] [] [0, 2, 3, 5, 34])
 (.cond (tv 34) (.region [] [o 5 (.mv (ki 7))] [] [0, 2, 3, 5])
 .skip))
 (.seq (.region [] [o 35 (.mv (tv 0)),
 oa 36 (.call (kf 128) [(true, (tv 35)), (false, (ki 1))] []) 2176,
 o 6 (.mv (tv 36))] [] [0, 2, 3, 5, 6])
 (.seq (.region [] [o 37 (.mv (tv 0)),
 oa 38 (.call (kf 129) [(true, (tv 37)), (false, (.k (.sc (.c (.str [61])))))] []) 2368] [] [0, 2, 3, 5, 6])
 (.seq (.seq (.region [] [o 39 (.mv (tv 0)),
 o 40 (.nn (tv 39)),
 o 41 (.fld 2 (tv 40)),
 o 42 (.load false 1 (tv 41))] [] [0, 2, 3, 5, 6, 42])
 (.cond (tv 42) (.seq (.region [] [o 43 (.build [zi, zi, zs, zi, .nil, .nil, zi, zs, zi, zi, .nil] []),
 on (.store 11 (tv 2) (tv 43) [])] [] [2])
 .ret)
 .skip))
 (.seq (.region [] [o 44 (.mv (tv 0)),
 oa 45 (.call (kf 76) [(true, (tv 44))] []) 2880,
 oa 7 (.new [zi, zi, zs, zi, .nil, .nil, zi, zs, zi, zi, .nil] []) 2944,
 on (.store 11 (tv 7) (tv 45) [])] [] [0, 2, 3, 5, 6, 7])
 (.seq (.region [] [o 46 (.mv (tv 0)),
 oa 47 (.call (kf 129) [(true, (tv 46)), (false, (.k (.sc (.c (.str [105, 110])))))] []) 3136] [] [0, 2, 3, 5, 6, 7])
 (.seq (.seq (.region [] [o 48 (.mv (tv 0)),
 o 49 (.nn (tv 48)),
 o 50 (.fld 2 (tv 49)),
 o 51 (.load false 1 (tv 50))] [] [0, 2, 3, 5, 6, 7, 51])
 (.cond (tv 51) (.seq (.region [] [o 52 (.build [zi, zi, zs, zi, .nil, .nil, zi, zs, zi, zi, .nil] []),
 on (.store 11 (tv 2) (tv 52) [])] [] [2])
 .ret)
 .skip))
 (.seq (.region [] [o 53 (.mv (tv 5)),
 o 54 (.mv (tv 3)),
 o 55 (.mv (tv 6)),
 o 56 (.load true 11 (tv 7)),
 o 57 (.mv (tv 0)),
 oa 58 (.call (kf 76) [(true, (tv 57))] []) 3904,
 oa 59 (.mkSl 11 [(tv 56), (tv 58)]) 3968,
 o 60 (.build [zi, zi, zs, zi, .nil, .nil, zi, zs, zi, zi, .nil] [(0, 1, (tv 53)), (1, 1, (tv 54)), (2, 1, (tv 55)), (4, 1, (tv 59))]),
 on (.store 11 (tv 2) (tv 60) [])] [(3, 5)] [2])
 .ret)))))))))
 (.seq (.region [] [o 62 (.mv (tv 0)),
 oa 63 (.call (kf 127) [(true, (tv 62)), (false, (.k (.sc (.c (.str [99, 97, 115, 101])))))] []) 4224,
 o 61 (.mv (tv 63))] [] [0, 2, 3, 61])
 (.cond (tv 61) (.seq (.region [] [o 64 (.mv (tv 0)),
 o 65 (.mv (tv 3)),
 oa 66 (.call (kf 130) [(true, (tv 64)), (false, (tv 65))] []) 4480,
 on (.store 11 (tv 2) (tv 66) [])] [] [2])
 .ret)
 .skip)))))))
 (.seq (.region [] [o 67 (.mv (tv 0)),
 oa 68 (.call (kf 131) [(true, (tv 67))] []) 4672,
 oa 8 (.new [zi, zi, zs, zi, .nil, .nil, zi, zs, zi, zi, .nil] []) 4736,
 on (.store 11 (tv 8) (tv 68) [])] [] [0, 2, 8])
 (.seq (.block 1 (.loop l76_0))
 (.seq (.region [] [o 107 (.load true 11 (tv 8)),
 on (.store 11 (tv 2) (tv 107) [])] [] [2])
 .ret)))))),
 [.cell 2 true 11], false⟩

def v78 : VFun := ⟨1,
 (.seq (.region [] [oa 1 (.box (tv 0)) 64,
 o 2 (.mv kF)] [] [1])
 (.seq (.region [] [o 3 (.load true 11 (tv 1)),
 oa 4 (.call (kf 133) [(false, (tv 3))] []) 256,
 o 5 (.bin .gtr 0 (tv 4) (ki 40)),
 o 6 (.mv (tv 5)),
 og 7 (.load true 11 (tv 1)) 6 false,
 ⟨(some 8), (.call (kf 134) [(false, (tv 7))] []), (some (6, false)), 512, []⟩,
 o 9 (.pick (tv 6) kt (tv 8)),
 o 2 (.mv (tv 9))] [] [2])
 .ret)),
 [.tmp 2], false⟩

def l79_0 : VCode := (.seq (.seq (.region [] [o 9 (.mv (tv 4)),
 o 10 (.fld 5 (tv 1)),
 o 11 (.load false 1 (tv 10)),
 o 12 (.len false (tv 11)),
 o 13 (.bin .lss 0 (tv 9) (tv 12))] [] [1, 4, 13])
 (.cond (tv 13) .skip
 (.exit 0)))
 (.seq (.block 1 (.seq (.region [] [o 16 (.fld 5 (tv 1)),
 o 17 (.load false 1 (tv 16)),
 o 18 (.mv (tv 4)),
 o 19 (.idxA 14 (tv 17) (tv 18)),
 o 20 (.fld 2 (tv 19)),
 o 21 (.load false 1 (tv 20)),
 o 22 (.len false (tv 21)),
 o 23 (.bin .gtr 0 (tv 22) (ki 4))] [] [1, 4, 23])
 (.cond (tv 23) (.seq (.region [] [o 24 (.fld 5 (tv 1)),
 o 25 (.load false 1 (tv 24)),
 o 26 (.mv (tv 4)),
 o 27 (.idxA 14 (tv 25) (tv 26)),
 o 28 (.fld 0 (tv 27)),
 o 29 (.load false 1 (tv 28)),
 o 2 (.mv (tv 29)),
 o 3 (.mv kt)] [] [2, 3])
 .ret)
 .skip)))
 (.region [] [o 14 (.mv (tv 4)),
 o 15 (.bin .add 0 (tv 14) (ki 1)),
 o 4 (.mv (tv 15))] [] [1, 4])))

def l79_1 : VCode := (.seq (.seq (.region [] [o 32 (.mv (tv 6)),
 o 33 (.mv (tv 5)),
 o 34 (.len false (tv 33)),
 o 35 (.bin .lss 0 (tv 32) (tv 34))] [] [5, 6, 35])
 (.cond (tv 35) .skip
 (.exit 2)))
 (.seq (.block 3 (.seq (.region [] [o 39 (.mv (tv 5)),
 o 40 (.mv (tv 6)),
 o 41 (.idxA 11 (tv 39) (tv 40)),
 o 42 (.load true 11 (tv 41)),
 oa 43 (.call (kf 79) [(false, (tv 42))] []) 2624,
 o 38 (.mv (tv 43)),
 o 44 (.ext 0 (tv 38)),
 o 45 (.ext 1 (tv 38)),
 o 7 (.mv (tv 44)),
 o 8 (.mv (tv 45))] [] [5, 6, 7, 8])
 (.seq (.region [] [o 46 (.mv (tv 8))] [] [5, 6, 7, 46])
 (.cond (tv 46) (.seq (.region [] [o 47 (.mv (tv 7)),
 o 2 (.mv (tv 47)),
 o 3 (.mv kt)] [] [2, 3])
 .ret)
 .skip))))
 (.region [] [o 36 (.mv (tv 6)),
 o 37 (.bin .add 0 (tv 36) (ki 1)),
 o 6 (.mv (tv 37))] [] [5, 6])))

def v79 : VFun := ⟨1,
 (.seq (.region [] [oa 1 (.box (tv 0)) 64,
 o 2 (.mv (ki 0)),
 o 3 (.mv kF)] [] [1])
 (.seq (.seq (.region [] [o 4 (.mv (ki 0))] [] [1, 4])
 (.block 0 (.loop l79_0)))
 (.seq (.region [] [o 30 (.load true 11 (tv 1)),
 oa 31 (.call (kf 46) [(false, (tv 30))] []) 1920,
 o 5 (.mv (tv 31))] [] [5])
 (.seq (.seq (.region [64] [o 6 (.mv (ki 0))] [] [5, 6])
 (.block 2 (.loop l79_1)))
 (.seq (.region [] [o 2 (.mv (ki 0)),
 o 3 (.mv kF)] [] [2, 3])
 .ret))))),
 [.tmp 2, .tmp 3], false⟩

def l47_0 : VCode := (.seq (.region [] [o 130 (.bin .lss 0 (tv 129) (tv 128))] [] [1, 127, 128, 129, 130])
 (.seq (.cond (tv 130) .skip
 (.exit 2))
 (.seq (.block 3 (.seq (.region [] [o 131 (.idxA 14 (tv 127) (tv 129)),
 o 132 (.load true 14 (tv 131)),
 oa 6 (.new [zi, zs, .nil, zi, zi, zs, zi, .nil, .nil, zi, zs, zi, zi, .nil] []) 9536,
 on (.store 14 (tv 6) (tv 132) [])] [] [1, 6, 127, 128, 129])
 (.seq (.region [] [o 133 (.fld 0 (tv 6)),
 o 134 (.load false 1 (tv 133)),
 o 135 (.bin .lss 0 (tv 134) (ki 0)),
 o 136 (.mv (tv 135)),
 og 137 (.fld 1 (tv 6)) 136 false,
 og 138 (.load false 1 (tv 137)) 136 false,
 ⟨(some 139), (.call (kf 91) [(false, (tv 138))] []), (some (136, false)), 10048, []⟩,
 og 140 (.un .not (tv 139)) 136 false,
 o 141 (.pick (tv 136) kt (tv 140)),
 o 142 (.mv (tv 141)),
 og 143 (.fld 2 (tv 6)) 142 false,
 og 144 (.load false 1 (tv 143)) 142 false,
 og 145 (.len false (tv 144)) 142 false,
 og 146 (.bin .gtr 0 (tv 145) (ki 4)) 142 false,
 o 147 (.pick (tv 142) kt (tv 146)),
 o 148 (.mv (tv 147)),
 og 149 (.fld 2 (tv 6)) 148 false,
 og 150 (.load false 1 (tv 149)) 148 false,
 ⟨(some 151), (.call (kf 96) [(false, (tv 150)), (true, (kf 97))] []), (some (148, false)), 10816, []⟩,
 o 152 (.pick (tv 148) kt (tv 151))] [] [1, 127, 128, 129, 152])
 (.cond (tv 152) (.seq (.region [9536] [o 2 (.mv kF)] [] [2])
 .ret)
 .skip))))
 (.region [9536] [o 153 (.bin .add 0 (tv 129) (ki 1)),
 o 129 (.mv (tv 153))] [] [1, 127, 128, 129]))))

def v47 : VFun := ⟨1,
 (.seq (.region [] [oa 1 (.box (tv 0)) 64,
 o 2 (.mv kF)] [] [1])
 (.seq (.region [] [o 3 (.mv kF),
 o 4 (.mv (ki 0))] [] [1, 3, 4])
 (.seq (.seq (.region [] [o 7 (.fld 0 (tv 1)),
 o 8 (.load false 1 (tv 7))] [] [1, 3, 4, 8])
 (.block 0 (.seq (.seq (.region [] [o 10 (.bin .eql 0 (tv 8) (ki 1)),
 o 9 (.mv (tv 10))] [] [1, 3, 4, 8, 9])
 (.cond (tv 9) .skip
 (.region [] [o 11 (.bin .eql 0 (tv 8) (ki 2)),
 o 9 (.mv (tv 11))] [] [1, 3, 4, 8, 9])))
 (.cond (tv 9) (.region [] [o 3 (.mv kt)] [] [1, 3, 4])
 (.seq (.seq (.region [] [o 13 (.bin .eql 0 (tv 8) (ki 3)),
 o 12 (.mv (tv 13))] [] [1, 3, 4, 8, 12])
 (.cond (tv 12) .skip
 (.region [] [o 14 (.bin .eql 0 (tv 8) (ki 10)),
 o 12 (.mv (tv 14))] [] [1, 3, 4, 8, 12])))
 (.cond (tv 12) .skip
 (.seq (.region [] [o 16 (.bin .eql 0 (tv 8) (ki 4)),
 o 15 (.mv (tv 16))] [] [1, 3, 8, 15])
 (.cond (tv 15) (.region [] [o 3 (.mv kt),
 o 4 (.mv (ki 1))] [] [1, 3, 4])
 (.seq (.region [] [o 18 (.bin .eql 0 (tv 8) (ki 5)),
 o 17 (.mv (tv 18))] [] [1, 3, 8, 17])
 (.cond (tv 17) (.region [] [o 4 (.mv (ki 2))] [] [1, 3, 4])
 (.seq (.seq (.region [] [o 20 (.bin .eql 0 (tv 8) (ki 6)),
 o 19 (.mv (tv 20))] [] [1, 3, 8, 19])
 (.cond (tv 19) .skip
 (.region [] [o 21 (.bin .eql 0 (tv 8) (ki 7)),
 o 19 (.mv (tv 21))] [] [1, 3, 8, 19])))
 (.cond (tv 19) (.region [] [o 3 (.mv kt),
 o 4 (.mv (ki 2))] [] [1, 3, 4])
 (.seq (.seq (.region [] [o 23 (.bin .eql 0 (tv 8) (ki 8)),
 o 22 (.mv (tv 23))] [] [1, 3, 8, 22])
 (.cond (tv 22) .skip
 (.seq (.region [] [o 24 (.bin .eql 0 (tv 8) (ki 9)),
 o 22 (.mv (tv 24))] [] [1, 3, 8, 22])
 (.cond (tv 22) .skip
 (.region [] [o 25 (.bin .eql 0 (tv 8) (ki 11)),
 o 22 (.mv (tv 25))] [] [1, 3, 22])))))
 (.cond (tv 22) (.region [] [o 4 (.mv (ki 1))] [] [1, 3, 4])
 (.seq (.region [] [o 2 (.mv kF)] [] [2])
 .ret)))))))))))))))
 (.seq (.block 1 (.seq (.region [] [o 27 (.fld 1 (tv 1)),
 o 28 (.load false 1 (tv 27)),
 o 29 (.bin .lss 0 (tv 28) (ki 0)),
 o 30 (.mv (tv 29)),
 og 31 (.fld 4 (tv 1)) 30 false,
 og 32 (.load false 1 (tv 31)) 30 false,
 og 33 (.len false (tv 32)) 30 false,
 og 34 (.mv (tv 4)) 30 false,
 og 35 (.bin .neq 0 (tv 33) (tv 34)) 30 false,
 o 36 (.pick (tv 30) kt (tv 35)),
 o 37 (.mv (tv 36)),
 og 38 (.fld 5 (tv 1)) 37 false,
 og 39 (.load false 1 (tv 38)) 37 false,
 og 40 (.len false (tv 39)) 37 false,
 og 41 (.bin .gtr 0 (tv 40) (ki 0)) 37 false,
 og 42 (.fld 0 (tv 1)) 37 false,
 og 43 (.load false 1 (tv 42)) 37 false,
 og 44 (.bin .eql 0 (tv 43) (ki 8)) 37 false,
 og 45 (.bin .neq 1 (tv 41) (tv 44)) 37 false,
 o 46 (.pick (tv 37) kt (tv 45)),
 o 26 (.mv (tv 46))] [] [1, 3, 26])
 (.cond (tv 26) (.seq (.region [] [o 2 (.mv kF)] [] [2])
 .ret)
 (.seq (.region [] [o 48 (.fld 3 (tv 1)),
 o 49 (.load false 1 (tv 48)),
 o 50 (.bin .lss 0 (tv 49) (ki 0)),
 o 51 (.mv (tv 50)),
 og 52 (.fld 3 (tv 1)) 51 false,
 og 53 (.load false 1 (tv 52)) 51 false,
 og 54 (.bin .gtr 0 (tv 53) (ki 999999999)) 51 false,
 o 55 (.pick (tv 51) kt (tv 54)),
 o 56 (.mv (tv 55)),
 og 57 (.fld 3 (tv 1)) 56 false,
 og 58 (.load false 1 (tv 57)) 56 false,
 og 59 (.bin .neq 0 (tv 58) (ki 0)) 56 false,
 og 60 (.mv (tv 59)) 56 false,
 og 61 (.fld 0 (tv 1)) 60 true,
 og 62 (.load false 1 (tv 61)) 60 true,
 og 63 (.bin .neq 0 (tv 62) (ki 3)) 60 true,
 og 64 (.pick (tv 60) (tv 63) kF) 56 false,
 o 65 (.pick (tv 56) kt (tv 64)),
 o 47 (.mv (tv 65))] [] [1, 3, 47])
 (.cond (tv 47) (.seq (.region [] [o 2 (.mv kF)] [] [2])
 .ret)
 (.seq (.region [] [o 67 (.mv (tv 3)),
 o 68 (.un .not (tv 67)),
 o 69 (.mv (tv 68)),
 og 70 (.fld 2 (tv 1)) 69 true,
 og 71 (.load false 1 (tv 70)) 69 true,
 og 72 (.bin .neq 0 (tv 71) (.k (.sc zs))) 69 true,
 o 73 (.pick (tv 69) (tv 72) kF),
 o 74 (.mv (tv 73)),
 og 75 (.fld 0 (tv 1)) 74 false,
 og 76 (.load false 1 (tv 75)) 74 false,
 og 77 (.bin .eql 0 (tv 76) (ki 2)) 74 false,
 og 78 (.mv (tv 77)) 74 false,
 og 79 (.fld 2 (tv 1)) 78 true,
 og 80 (.load false 1 (tv 79)) 78 true,
 ⟨(some 81), (.call (kf 91) [(false, (tv 80))] []), (some (78, true)), 5952, []⟩,
 og 82 (.un .not (tv 81)) 78 true,
 og 83 (.pick (tv 78) (tv 82) kF) 74 false,
 o 84 (.pick (tv 74) kt (tv 83)),
 o 85 (.mv (tv 84)),
 og 86 (.mv (tv 3)) 85 false,
 og 87 (.mv (tv 86)) 85 false,
 og 88 (.fld 0 (tv 1)) 87 true,
 og 89 (.load false 1 (tv 88)) 87 true,
 og 90 (.bin .neq 0 (tv 89) (ki 2)) 87 true,
 og 91 (.pick (tv 87) (tv 90) kF) 85 false,
 og 92 (.mv (tv 91)) 85 false,
 og 93 (.fld 2 (tv 1)) 92 true,
 og 94 (.load false 1 (tv 93)) 92 true,
 ⟨(some 95), (.call (kf 92) [(false, (tv 94))] []), (some (92, true)), 6848, []⟩,
 og 96 (.un .not (tv 95)) 92 true,
 og 97 (.pick (tv 92) (tv 96) kF) 85 false,
 o 98 (.pick (tv 85) kt (tv 97)),
 o 66 (.mv (tv 98))] [] [1, 66])
 (.cond (tv 66) (.seq (.region [] [o 2 (.mv kF)] [] [2])
 .ret)
 (.seq (.region [] [o 100 (.fld 0 (tv 1)),
 o 101 (.load false 1 (tv 100)),
 o 102 (.bin .eql 0 (tv 101) (ki 9)),
 o 103 (.mv (tv 102)),
 og 104 (.fld 6 (tv 1)) 103 true,
 og 105 (.load true 5 (tv 104)) 103 true,
 ⟨(some 106), (.call (kf 93) [(false, (tv 105))] []), (some (103, true)), 7616, []⟩,
 og 107 (.un .not (tv 106)) 103 true,
 og 108 (.mv (tv 107)) 103 true,
 og 109 (.fld 6 (tv 1)) 108 false,
 og 110 (.load true 5 (tv 109)) 108 false,
 ⟨(some 111), (.call (kf 94) [(false, (tv 110))] []), (some (108, false)), 7936, []⟩,
 og 112 (.un .not (tv 111)) 108 false,
 og 113 (.pick (tv 108) kt (tv 112)) 103 true,
 o 114 (.pick (tv 103) (tv 113) kF),
 o 99 (.mv (tv 114))] [] [1, 99])
 (.cond (tv 99) (.seq (.region [] [o 2 (.mv kF)] [] [2])
 .ret)
 (.seq (.region [] [o 116 (.fld 0 (tv 1)),
 o 117 (.load false 1 (tv 116)),
 o 118 (.bin .neq 0 (tv 117) (ki 9)),
 o 119 (.mv (tv 118)),
 og 120 (.fld 6 (tv 1)) 119 true,
 og 121 (.load true 5 (tv 120)) 119 true,
 og 122 (.build [zi, zs, zi, zi, .nil] []) 119 true,
 ⟨(some 123), (.call (kf 95) [(false, (tv 121)), (false, (tv 122))] []), (some (119, true)), 8768, []⟩,
 og 124 (.un .not (tv 123)) 119 true,
 o 125 (.pick (tv 119) (tv 124) kF),
 o 115 (.mv (tv 125))] [] [1, 115])
 (.cond (tv 115) (.seq (.region [] [o 2 (.mv kF)] [] [2])
 .ret)
 .skip)))))))))))
 (.seq (.seq (.region [] [o 126 (.fld 5 (tv 1)),
 o 127 (.load false 1 (tv 126)),
 o 128 (.len false (tv 127)),
 o 129 (.mv (ki 0))] [] [1, 127, 128, 129])
 (.block 2 (.loop l47_0)))
 (.seq (.region [] [o 154 (.load true 11 (tv 1)),
 oa 155 (.call (kf 99) [(false, (tv 154))] []) 11200,
 oa 156 (.call (kf 98) [(false, (tv 155)), (true, (kf 100))] []) 11264,
 o 157 (.un .not (tv 156)),
 o 2 (.mv (tv 157))] [] [2])
 .ret)))))),
 [.tmp 2], false⟩

def l48_0 : VCode := (.seq (.region [] [o 16 (.bin .lss 0 (tv 15) (tv 14))] [] [1, 2, 13, 14, 15, 16])
 (.seq (.cond (tv 16) .skip
 (.exit 0))
 (.seq (.block 1 (.seq (.region [] [o 17 (.mv (tv 15)),
 o 18 (.idxA 2 (tv 13) (tv 15)),
 o 19 (.load true 2 (tv 18)),
 oa 6 (.new [(.c .nilfn), (.c .nilfn)] []) 768,
 o 5 (.mv (tv 17)),
 on (.store 2 (tv 6) (tv 19) [])] [] [1, 2, 5, 6, 13, 14, 15])
 (.seq (.region [] [o 20 (.fld 0 (tv 6)),
 o 21 (.load false 1 (tv 20)),
 o 22 (.load true 11 (tv 1)),
 oa 23 (.call (tv 21) [(false, (tv 22))] []) 1152] [] [1, 2, 5, 6, 13, 14, 15, 23])
 (.cond (tv 23) (.seq (.region [] [o 25 (.fld 1 (tv 6)),
 o 26 (.load false 1 (tv 25)),
 o 27 (.load true 11 (tv 1)),
 oa 28 (.call (tv 26) [(false, (tv 27))] []) 1408,
 o 24 (.mv (tv 28)),
 o 29 (.ext 0 (tv 24)),
 o 30 (.ext 1 (tv 24)),
 oa 7 (.new [zi, zi, zs, zi, .nil, .nil, zi, zs, zi, zi, .nil] []) 1664,
 on (.store 11 (tv 7) (tv 29) []),
 o 8 (.mv (tv 30))] [] [2, 5, 7, 8])
 (.seq (.region [768, 64] [o 31 (.load true 11 (tv 7)),
 o 32 (.mv (tv 5)),
 o 33 (.bin .add 0 (tv 32) (ki 1)),
 o 34 (.mv (tv 8)),
 on (.store 11 (tv 2) (tv 31) []),
 o 3 (.mv (tv 33)),
 o 4 (.mv (tv 34))] [] [2, 3, 4])
 .ret))
 .skip))))
 (.region [768, 1184, 1185, 1186, 1440, 1441, 1442, 1664] [o 35 (.bin .add 0 (tv 15) (ki 1)),
 o 15 (.mv (tv 35))] [] [1, 2, 13, 14, 15]))))

def v48 : VFun := ⟨1,
 (.seq (.region [] [oa 1 (.box (tv 0)) 64,
 oa 2 (.new [zi, zi, zs, zi, .nil, .nil, zi, zs, zi, zi, .nil] []) 128,
 o 3 (.mv (ki 0)),
 o 4 (.mv kF)] [] [1, 2])
 (.seq (.seq (.region [] [oa 13 (.call (kf 101) [] []) 320,
 o 14 (.len false (tv 13)),
 o 15 (.mv (ki 0))] [] [1, 2, 13, 14, 15])
 (.block 0 (.loop l48_0)))
 (.seq (.seq (.region [] [o 36 (.fld 0 (tv 1)),
 o 37 (.load false 1 (tv 36)),
 o 38 (.bin .neq 0 (tv 37) (ki 5)),
 o 39 (.mv (tv 38)),
 og 40 (.fld 0 (tv 1)) 39 true,
 og 41 (.load false 1 (tv 40)) 39 true,
 og 42 (.bin .neq 0 (tv 41) (ki 8)) 39 true,
 o 43 (.pick (tv 39) (tv 42) kF)] [] [1, 2, 43])
 (.cond (tv 43) (.seq (.region [] [o 44 (.load true 11 (tv 1)),
 on (.store 11 (tv 2) (tv 44) []),
 o 3 (.mv (ki 0)),
 o 4 (.mv kF)] [] [2, 3, 4])
 .ret)
 .skip))
 (.seq (.region [] [o 46 (.fld 4 (tv 1)),
 o 47 (.load false 1 (tv 46)),
 o 48 (.idxA 11 (tv 47) (ki 0)),
 o 49 (.load true 11 (tv 48)),
 oa 50 (.call (kf 48) [(false, (tv 49))] []) 3456,
 o 45 (.mv (tv 50)),
 o 51 (.ext 0 (tv 45)),
 o 52 (.ext 1 (tv 45)),
 o 53 (.ext 2 (tv 45)),
 oa 9 (.new [zi, zi, zs, zi, .nil, .nil, zi, zs, zi, zi, .nil] []) 3776,
 on (.store 11 (tv 9) (tv 51) []),
 o 10 (.mv (tv 52)),
 o 11 (.mv (tv 53))] [] [1, 2, 9, 10, 11])
 (.seq (.region [] [o 54 (.load true 11 (tv 1)),
 oa 55 (.call (kf 99) [(false, (tv 54))] []) 4096,
 o 12 (.mv (tv 55))] [] [1, 2, 9, 10, 11, 12])
 (.seq (.region [] [o 56 (.mv (tv 12)),
 o 57 (.load true 11 (tv 9)),
 o 58 (.idxA 11 (tv 56) (ki 0)),
 on (.store 11 (tv 58) (tv 57) [])] [] [1, 2, 10, 11, 12])
 (.seq (.region [3776] [o 59 (.load true 11 (tv 1)),
 o 60 (.mv (tv 12)),
 oa 61 (.call (kf 102) [(false, (tv 59)), (false, (tv 60))] []) 4608,
 o 62 (.mv (tv 10)),
 o 63 (.mv (tv 11)),
 on (.store 11 (tv 2) (tv 61) []),
 o 3 (.mv (tv 62)),
 o 4 (.mv (tv 63))] [] [2, 3, 4])
 .ret))))))),
 [.cell 2 true 11, .tmp 3, .tmp 4], false⟩

def v55 : VFun := ⟨1,
 (.seq (.region [] [oa 1 (.box (tv 0)) 64,
 o 2 (.mv kF)] [] [1])
 (.seq (.region [] [o 6 (.load true 11 (tv 1)),
 oa 7 (.call (kf 41) [(false, (tv 6))] []) 256,
 o 5 (.mv (tv 7)),
 o 8 (.ext 0 (tv 5)),
 o 9 (.ext 1 (tv 5)),
 oa 3 (.new [zi, zi, zs, zi, .nil, .nil, zi, zs, zi, zi, .nil] []) 512,
 on (.store 11 (tv 3) (tv 8) []),
 o 4 (.mv (tv 9))] [] [3])
 (.seq (.region [64] [o 10 (.fld 0 (tv 3)),
 o 11 (.load false 1 (tv 10)),
 o 12 (.bin .eql 0 (tv 11) (ki 2)),
 o 2 (.mv (tv 12))] [] [2])
 .ret))),
 [.tmp 2], false⟩

def v175 : VFun := ⟨1,
 (.seq (.region [] [o 2 (.mv kF)] [] [0])
 (.seq (.region [] [o 3 (.mv (tv 0)),
 o 4 (.bin .geq 0 (tv 3) (.k (.sc (.c (.int .u8 97))))),
 o 5 (.mv (tv 4)),
 og 6 (.mv (tv 0)) 5 true,
 og 7 (.bin .leq 0 (tv 6) (.k (.sc (.c (.int .u8 122))))) 5 true,
 o 8 (.pick (tv 5) (tv 7) kF),
 o 2 (.mv (tv 8))] [] [2])
 .ret)),
 [.tmp 2], false⟩

def v176 : VFun := ⟨1,
 (.seq (.region [] [o 2 (.mv kF)] [] [0])
 (.seq (.region [] [o 3 (.mv (tv 0)),
 o 4 (.bin .geq 0 (tv 3) (.k (.sc (.c (.int .u8 65))))),
 o 5 (.mv (tv 4)),
 og 6 (.mv (tv 0)) 5 true,
 og 7 (.bin .leq 0 (tv 6) (.k (.sc (.c (.int .u8 90))))) 5 true,
 o 8 (.pick (tv 5) (tv 7) kF),
 o 2 (.mv (tv 8))] [] [2])
 .ret)),
 [.tmp 2], false⟩

def v177 : VFun := ⟨1,
 (.seq (.region [] [o 2 (.mv kF)] [] [0])
 (.seq (.region [] [o 3 (.mv (tv 0)),
 o 4 (.bin .geq 0 (tv 3) (.k (.sc (.c (.int .u8 48))))),
 o 5 (.mv (tv 4)),
 og 6 (.mv (tv 0)) 5 true,
 og 7 (.bin .leq 0 (tv 6) (.k (.sc (.c (.int .u8 57))))) 5 true,
 o 8 (.pick (tv 5) (tv 7) kF),
 o 2 (.mv (tv 8))] [] [2])
 .ret)),
 [.tmp 2], false⟩

def l178_0 : VCode := (.seq (.seq (.region [] [o 6 (.mv (tv 4)),
 o 7 (.mv (tv 3)),
 o 8 (.len false (tv 7)),
 o 9 (.bin .lss 0 (tv 6) (tv 8))] [] [0, 3, 4, 9])
 (.cond (tv 9) .skip
 (.exit 0)))
 (.seq (.block 1 (.seq (.region [] [o 12 (.mv (tv 3)),
 o 13 (.mv (tv 4)),
 o 14 (.idxA 1 (tv 12) (tv 13)),
 o 15 (.load false 1 (tv 14)),
 o 16 (.mv (tv 0)),
 o 17 (.bin .eql 0 (tv 15) (tv 16))] [] [0, 3, 4, 17])
 (.cond (tv 17) (.seq (.region [] [o 2 (.mv kt)] [] [2])
 .ret)
 .skip)))
 (.region [] [o 10 (.mv (tv 4)),
 o 11 (.bin .add 0 (tv 10) (ki 1)),
 o 4 (.mv (tv 11))] [] [0, 3, 4])))

def v178 : VFun := ⟨1,
 (.seq (.region [] [o 2 (.mv kF)] [] [0])
 (.seq (.region [] [oa 5 (.mkSl 1 [(.k (.sc (.c (.str [100, 97, 116, 97])))), (.k (.sc (.c (.str [108, 101, 116])))), (.k (.sc (.c (.str [114, 101, 99])))), (.k (.sc (.c (.str [105, 110])))), (.k (.sc (.c (.str [99, 97, 115, 101])))), (.k (.sc (.c (.str [111, 102])))), (.k (.sc (.c (.str [101, 110, 100]))))]) 128,
 o 3 (.mv (tv 5))] [] [0, 3])
 (.seq (.seq (.region [] [o 4 (.mv (ki 0))] [] [0, 3, 4])
 (.block 0 (.loop l178_0)))
 (.seq (.region [] [o 2 (.mv kF)] [] [2])
 .ret)))),
 [.tmp 2], false⟩

def v179 : VFun := ⟨1,
 (.seq (.region [] [o 2 (.mv kF)] [] [0])
 (.seq (.region [] [o 3 (.mv (tv 0)),
 oa 4 (.call (kf 209) [(false, (tv 3))] []) 192,
 o 5 (.mv (tv 4)),
 og 6 (.mv (tv 0)) 5 true,
 og 7 (.idxS (tv 6) (ki 0)) 5 true,
 ⟨(some 8), (.call (kf 175) [(false, (tv 7))] []), (some (5, true)), 448, []⟩,
 o 9 (.pick (tv 5) (tv 8) kF),
 o 10 (.mv (tv 9)),
 og 11 (.mv (tv 0)) 10 true,
 og 12 (.len true (tv 11)) 10 true,
 og 13 (.bin .leq 0 (tv 12) (ki 12)) 10 true,
 o 14 (.pick (tv 10) (tv 13) kF),
 o 15 (.mv (tv 14)),
 og 16 (.mv (tv 0)) 15 true,
 ⟨(some 17), (.call (kf 178) [(false, (tv 16))] []), (some (15, true)), 1024, []⟩,
 og 18 (.un .not (tv 17)) 15 true,
 o 19 (.pick (tv 15) (tv 18) kF),
 o 2 (.mv (tv 19))] [] [2])
 .ret)),
 [.tmp 2], false⟩

def v180 : VFun := ⟨1,
 (.seq (.region [] [o 2 (.mv kF)] [] [0])
 (.seq (.region [] [o 3 (.mv (tv 0)),
 oa 4 (.call (kf 209) [(false, (tv 3))] []) 192,
 o 5 (.mv (tv 4)),
 og 6 (.mv (tv 0)) 5 true,
 og 7 (.idxS (tv 6) (ki 0)) 5 true,
 ⟨(some 8), (.call (kf 176) [(false, (tv 7))] []), (some (5, true)), 448, []⟩,
 o 9 (.pick (tv 5) (tv 8) kF),
 o 10 (.mv (tv 9)),
 og 11 (.mv (tv 0)) 10 true,
 og 12 (.len true (tv 11)) 10 true,
 og 13 (.bin .leq 0 (tv 12) (ki 12)) 10 true,
 o 14 (.pick (tv 10) (tv 13) kF),
 o 2 (.mv (tv 14))] [] [2])
 .ret)),
 [.tmp 2], false⟩

def l181_0 : VCode := (.seq (.seq (.region [] [o 21 (.mv (tv 3)),
 o 22 (.mv (tv 0)),
 o 23 (.len true (tv 22)),
 o 24 (.bin .lss 0 (tv 21) (tv 23))] [] [0, 3, 24])
 (.cond (tv 24) .skip
 (.exit 0)))
 (.seq (.block 1 (.seq (.region [] [o 27 (.mv (tv 0)),
 o 28 (.mv (tv 3)),
 o 29 (.idxS (tv 27) (tv 28)),
 oa 30 (.call (kf 177) [(false, (tv 29))] []) 1792,
 o 31 (.un .not (tv 30))] [] [0, 3, 31])
 (.cond (tv 31) (.seq (.region [] [o 2 (.mv kF)] [] [2])
 .ret)
 .skip)))
 (.region [] [o 25 (.mv (tv 3)),
 o 26 (.bin .add 0 (tv 25) (ki 1)),
 o 3 (.mv (tv 26))] [] [0, 3])))

def v181 : VFun := ⟨1,
 (.seq (.region [] [o 2 (.mv kF)] [] [0])
 (.seq (.seq (.region [] [o 4 (.mv (tv 0)),
 o 5 (.bin .eql 0 (tv 4) (.k (.sc zs))),
 o 6 (.mv (tv 5)),
 og 7 (.mv (tv 0)) 6 false,
 og 8 (.len true (tv 7)) 6 false,
 og 9 (.bin .gtr 0 (tv 8) (ki 9)) 6 false,
 o 10 (.pick (tv 6) kt (tv 9)),
 o 11 (.mv (tv 10)),
 og 12 (.mv (tv 0)) 11 false,
 og 13 (.idxS (tv 12) (ki 0)) 11 false,
 og 14 (.bin .eql 0 (tv 13) (.k (.sc (.c (.int .u8 48))))) 11 false,
 og 15 (.mv (tv 14)) 11 false,
 og 16 (.mv (tv 0)) 15 true,
 og 17 (.len true (tv 16)) 15 true,
 og 18 (.bin .gtr 0 (tv 17) (ki 1)) 15 true,
 og 19 (.pick (tv 15) (tv 18) kF) 11 false,
 o 20 (.pick (tv 11) kt (tv 19))] [] [0, 20])
 (.cond (tv 20) (.seq (.region [] [o 2 (.mv kF)] [] [2])
 .ret)
 .skip))
 (.seq (.seq (.region [] [o 3 (.mv (ki 0))] [] [0, 3])
 (.block 0 (.loop l181_0)))
 (.seq (.region [] [o 2 (.mv kt)] [] [2])
 .ret)))),
 [.tmp 2], false⟩

def l182_0 : VCode := (.seq (.seq (.region [] [o 6 (.mv (tv 3)),
 o 7 (.bin .lss 0 (tv 6) (ki 11))] [] [0, 3, 7])
 (.cond (tv 7) .skip
 (.exit 0)))
 (.seq (.block 1 (.seq (.region [] [o 10 (.mv (tv 0)),
 o 11 (.mv (tv 3)),
 o 12 (.mv (tv 3)),
 o 13 (.bin .add 0 (tv 12) (ki 1)),
 o 14 (.slS (.k (.sc (.c (.str [92, 46, 61, 59, 58, 124, 40, 41, 123, 125, 63])))) (some (tv 11)) (some (tv 13))),
 o 15 (.bin .eql 0 (tv 10) (tv 14))] [] [0, 3, 15])
 (.cond (tv 15) (.seq (.region [] [o 2 (.mv kt)] [] [2])
 .ret)
 .skip)))
 (.region [] [o 8 (.mv (tv 3)),
 o 9 (.bin .add 0 (tv 8) (ki 1)),
 o 3 (.mv (tv 9))] [] [0, 3])))

def v182 : VFun := ⟨1,
 (.seq (.region [] [o 2 (.mv kF)] [] [0])
 (.seq (.seq (.region [] [o 4 (.mv (tv 0)),
 o 5 (.bin .eql 0 (tv 4) (.k (.sc (.c (.str [45, 62])))))] [] [0, 5])
 (.cond (tv 5) (.seq (.region [] [o 2 (.mv kt)] [] [2])
 .ret)
 .skip))
 (.seq (.seq (.region [] [o 3 (.mv (ki 0))] [] [0, 3])
 (.block 0 (.loop l182_0)))
 (.seq (.region [] [o 2 (.mv kF)] [] [2])
 .ret)))),
 [.tmp 2], false⟩

def v131 : VFun := ⟨1,
 (.seq (.region [] [oa 2 (.new [zi, zi, zs, zi, .nil, .nil, zi, zs, zi, zi, .nil] []) 64] [] [0, 2])
 (.seq (.region [] [o 7 (.mv (tv 0)),
 oa 8 (.call (kf 126) [(true, (tv 7))] []) 192,
 o 3 (.mv (tv 8))] [] [0, 2, 3])
 (.seq (.block 0 (.seq (.region [] [o 10 (.mv (tv 0)),
 oa 11 (.call (kf 170) [(true, (tv 10)), (false, (ki 1))] []) 384,
 o 9 (.mv (tv 11))] [] [0, 2, 3, 9])
 (.cond (tv 9) (.seq (.region [] [o 12 (.mv (tv 3)),
 o 13 (.mv (tv 0)),
 oa 14 (.call (kf 128) [(true, (tv 13)), (false, (ki 1))] []) 640,
 o 15 (.build [zi, zi, zs, zi, .nil, .nil, zi, zs, zi, zi, .nil] [(0, 1, (ki 1)), (1, 1, (tv 12)), (2, 1, (tv 14))]),
 on (.store 11 (tv 2) (tv 15) [])] [] [2])
 .ret)
 (.seq (.region [] [o 17 (.mv (tv 0)),
 oa 18 (.call (kf 170) [(true, (tv 17)), (false, (ki 2))] []) 896,
 o 16 (.mv (tv 18))] [] [0, 2, 3, 16])
 (.cond (tv 16) (.seq (.region [] [o 19 (.mv (tv 3)),
 o 20 (.mv (tv 0)),
 oa 21 (.call (kf 128) [(true, (tv 20)), (false, (ki 2))] []) 1152,
 o 22 (.build [zi, zi, zs, zi, .nil, .nil, zi, zs, zi, zi, .nil] [(0, 1, (ki 2)), (1, 1, (tv 19)), (2, 1, (tv 21))]),
 on (.store 11 (tv 2) (tv 22) [])] [] [2])
 .ret)
 (.seq (.region [] [o 24 (.mv (tv 0)),
 oa 25 (.call (kf 170) [(true, (tv 24)), (false, (ki 3))] []) 1408,
 o 23 (.mv (tv 25))] [] [0, 2, 3, 23])
 (.cond (tv 23) (.seq (.region [] [o 26 (.mv (tv 3)),
 o 27 (.mv (tv 0)),
 oa 28 (.call (kf 128) [(true, (tv 27)), (false, (ki 3))] []) 1664,
 oa 29 (.call (kf 183) [(false, (tv 28))] []) 1728,
 o 30 (.build [zi, zi, zs, zi, .nil, .nil, zi, zs, zi, zi, .nil] [(0, 1, (ki 3)), (1, 1, (tv 26)), (3, 1, (tv 29))]),
 on (.store 11 (tv 2) (tv 30) [])] [] [2])
 .ret)
 (.seq (.region [] [o 32 (.mv (tv 0)),
 oa 33 (.call (kf 127) [(true, (tv 32)), (false, (.k (.sc (.c (.str [63])))))] []) 1984,
 o 31 (.mv (tv 33))] [] [0, 2, 3, 31])
 (.cond (tv 31) (.seq (.region [] [o 34 (.mv (tv 3)),
 o 35 (.build [zi, zi, zs, zi, .nil, .nil, zi, zs, zi, zi, .nil] [(0, 1, (ki 10)), (1, 1, (tv 34))]),
 on (.store 11 (tv 2) (tv 35) [])] [] [2])
 .ret)
 (.seq (.region [] [o 37 (.mv (tv 0)),
 oa 38 (.call (kf 127) [(true, (tv 37)), (false, (.k (.sc (.c (.str [123])))))] []) 2368,
 o 36 (.mv (tv 38))] [] [0, 2, 3, 36])
 (.cond (tv 36) (.seq (.region [] [o 39 (.mv (tv 0)),
 oa 40 (.call (kf 76) [(true, (tv 39))] []) 2560,
 oa 4 (.new [zi, zi, zs, zi, .nil, .nil, zi, zs, zi, zi, .nil] []) 2624,
 on (.store 11 (tv 4) (tv 40) [])] [] [0, 2, 3, 4])
 (.seq (.region [] [o 41 (.mv (tv 0)),
 oa 42 (.call (kf 129) [(true, (tv 41)), (false, (.k (.sc (.c (.str [125])))))] []) 2816] [] [2, 3, 4])
 (.seq (.region [] [o 43 (.mv (tv 3)),
 o 44 (.load true 11 (tv 4)),
 oa 45 (.mkSl 11 [(tv 44)]) 3008,
 o 46 (.build [zi, zi, zs, zi, .nil, .nil, zi, zs, zi, zi, .nil] [(0, 1, (ki 11)), (1, 1, (tv 43)), (4, 1, (tv 45))]),
 on (.store 11 (tv 2) (tv 46) [])] [] [2])
 .ret)))
 .skip)))))))))))
 (.seq (.region [] [o 47 (.mv (tv 0)),
 oa 48 (.call (kf 129) [(true, (tv 47)), (false, (.k (.sc (.c (.str [40])))))] []) 3264] [] [0, 2, 3])
 (.seq (.seq (.region [] [o 49 (.mv (tv 0)),
 o 50 (.nn (tv 49)),
 o 51 (.fld 2 (tv 50)),
 o 52 (.load false 1 (tv 51))] [] [0, 2, 3, 52])
 (.cond (tv 52) (.seq (.region [] [o 53 (.build [zi, zi, zs, zi, .nil, .nil, zi, zs, zi, zi, .nil] []),
 on (.store 11 (tv 2) (tv 53) [])] [] [2])
 .ret)
 .skip))
 (.seq (.region [] [o 54 (.mv (tv 0)),
 oa 55 (.call (kf 76) [(true, (tv 54))] []) 3776,
 oa 5 (.new [zi, zi, zs, zi, .nil, .nil, zi, zs, zi, zi, .nil] []) 3840,
 on (.store 11 (tv 5) (tv 55) [])] [] [0, 2, 3, 5])
 (.seq (.seq (.region [] [o 56 (.mv (tv 0)),
 oa 57 (.call (kf 127) [(true, (tv 56)), (false, (.k (.sc (.c (.str [58])))))] []) 4032] [] [0, 2, 3, 5, 57])
 (.cond (tv 57) (.seq (.region [] [o 58 (.mv (tv 0)),
 oa 59 (.call (kf 173) [(true, (tv 58))] []) 4160,
 oa 6 (.new [zi, zs, zi, zi, .nil] []) 4224,
 on (.store 5 (tv 6) (tv 59) [])] [] [0, 2, 3, 5, 6])
 (.region [] [o 60 (.mv (tv 3)),
 o 61 (.load true 11 (tv 5)),
 oa 62 (.mkSl 11 [(tv 61)]) 4480,
 o 63 (.load true 5 (tv 6)),
 o 64 (.build [zi, zi, zs, zi, .nil, .nil, zi, zs, zi, zi, .nil] [(0, 1, (ki 9)), (1, 1, (tv 60)), (4, 1, (tv 62)), (6, 5, (tv 63))]),
 on (.store 11 (tv 5) (tv 64) [])] [] [0, 2, 5]))
 .skip))
 (.seq (.region [4224] [o 65 (.mv (tv 0)),
 oa 66 (.call (kf 129) [(true, (tv 65)), (false, (.k (.sc (.c (.str [41])))))] []) 4800] [] [2, 5])
 (.seq (.region [] [o 67 (.load true 11 (tv 5)),
 on (.store 11 (tv 2) (tv 67) [])] [] [2])
 .ret))))))))),
 [.cell 2 true 11], false⟩

def v132 : VFun := ⟨1,
 (.seq (.region [] [oa 1 (.box (tv 0)) 64,
 o 2 (.mv kF)] [] [1])
 (.seq (.seq (.region [] [o 3 (.fld 0 (tv 1)),
 o 4 (.load false 1 (tv 3))] [] [1, 4])
 (.block 0 (.seq (.seq (.region [] [o 6 (.bin .eql 0 (tv 4) (ki 1)),
 o 5 (.mv (tv 6))] [] [1, 4, 5])
 (.cond (tv 5) .skip
 (.seq (.region [] [o 7 (.bin .eql 0 (tv 4) (ki 2)),
 o 5 (.mv (tv 7))] [] [1, 4, 5])
 (.cond (tv 5) .skip
 (.region [] [o 8 (.bin .eql 0 (tv 4) (ki 3)),
 o 5 (.mv (tv 8))] [] [1, 4, 5])))))
 (.cond (tv 5) (.seq (.region [] [o 2 (.mv kt)] [] [2])
 .ret)
 (.seq (.region [] [o 10 (.bin .eql 0 (tv 4) (ki 5)),
 o 9 (.mv (tv 10))] [] [1, 9])
 (.cond (tv 9) (.seq (.region [] [o 11 (.fld 1 (tv 1)),
 o 12 (.load false 1 (tv 11)),
 o 13 (.bin .eql 0 (tv 12) (.k (.sc (.c (.str [63]))))),
 o 14 (.mv (tv 13)),
 og 15 (.fld 1 (tv 1)) 14 false,
 og 16 (.load false 1 (tv 15)) 14 false,
 og 17 (.bin .eql 0 (tv 16) (.k (.sc (.c (.str [40]))))) 14 false,
 o 18 (.pick (tv 14) kt (tv 17)),
 o 19 (.mv (tv 18)),
 og 20 (.fld 1 (tv 1)) 19 false,
 og 21 (.load false 1 (tv 20)) 19 false,
 og 22 (.bin .eql 0 (tv 21) (.k (.sc (.c (.str [123]))))) 19 false,
 o 23 (.pick (tv 19) kt (tv 22)),
 o 2 (.mv (tv 23))] [] [2])
 .ret)
 .skip))))))
 (.seq (.region [] [o 2 (.mv kF)] [] [2])
 .ret))),
 [.tmp 2], false⟩

def l133_0 : VCode := (.seq (.seq (.region [] [o 8 (.mv (tv 5)),
 o 9 (.mv (tv 4)),
 o 10 (.len false (tv 9)),
 o 11 (.bin .lss 0 (tv 8) (tv 10))] [] [3, 4, 5, 11])
 (.cond (tv 11) .skip
 (.exit 0)))
 (.seq (.block 1 (.region [] [o 14 (.mv (tv 3)),
 o 15 (.mv (tv 4)),
 o 16 (.mv (tv 5)),
 o 17 (.idxA 11 (tv 15) (tv 16)),
 o 18 (.load true 11 (tv 17)),
 oa 19 (.call (kf 133) [(false, (tv 18))] []) 1088,
 o 20 (.bin .add 0 (ki 1) (tv 19)),
 o 21 (.mx (tv 14) (tv 20)),
 o 3 (.mv (tv 21))] [] [3, 4, 5]))
 (.region [] [o 12 (.mv (tv 5)),
 o 13 (.bin .add 0 (tv 12) (ki 1)),
 o 5 (.mv (tv 13))] [] [3, 4, 5])))

def v133 : VFun := ⟨1,
 (.seq (.region [] [oa 1 (.box (tv 0)) 64,
 o 2 (.mv (ki 0))] [] [1])
 (.seq (.region [] [o 3 (.mv (ki 0))] [] [1, 3])
 (.seq (.region [] [o 6 (.load true 11 (tv 1)),
 oa 7 (.call (kf 46) [(false, (tv 6))] []) 320,
 o 4 (.mv (tv 7))] [] [3, 4])
 (.seq (.seq (.region [64] [o 5 (.mv (ki 0))] [] [3, 4, 5])
 (.block 0 (.loop l133_0)))
 (.seq (.region [] [o 22 (.mv (tv 3)),
 o 2 (.mv (tv 22))] [] [2])
 .ret))))),
 [.tmp 2], false⟩

def l134_0 : VCode := (.seq (.seq (.region [] [o 16 (.mv (tv 4)),
 o 17 (.mv (tv 3)),
 o 18 (.len false (tv 17)),
 o 19 (.bin .lss 0 (tv 16) (tv 18))] [] [3, 4, 19])
 (.cond (tv 19) .skip
 (.exit 0)))
 (.seq (.block 1 (.seq (.region [] [o 22 (.mv (tv 3)),
 o 23 (.mv (tv 4)),
 o 24 (.idxA 11 (tv 22) (tv 23)),
 o 25 (.load true 11 (tv 24)),
 oa 26 (.call (kf 134) [(false, (tv 25))] []) 1600] [] [3, 4, 26])
 (.cond (tv 26) (.seq (.region [] [o 2 (.mv kt)] [] [2])
 .ret)
 .skip)))
 (.region [] [o 20 (.mv (tv 4)),
 o 21 (.bin .add 0 (tv 20) (ki 1)),
 o 4 (.mv (tv 21))] [] [3, 4])))

def v134 : VFun := ⟨1,
 (.seq (.region [] [oa 1 (.box (tv 0)) 64,
 o 2 (.mv kF)] [] [1])
 (.seq (.seq (.region [] [o 5 (.fld 0 (tv 1)),
 o 6 (.load false 1 (tv 5)),
 o 7 (.bin .eql 0 (tv 6) (ki 9)),
 o 8 (.mv (tv 7)),
 og 9 (.fld 6 (tv 1)) 8 true,
 og 10 (.load true 5 (tv 9)) 8 true,
 ⟨(some 11), (.call (kf 174) [(false, (tv 10))] []), (some (8, true)), 576, []⟩,
 og 12 (.bin .gtr 0 (tv 11) (ki 40)) 8 true,
 o 13 (.pick (tv 8) (tv 12) kF)] [] [1, 13])
 (.cond (tv 13) (.seq (.region [] [o 2 (.mv kt)] [] [2])
 .ret)
 .skip))
 (.seq (.region [] [o 14 (.load true 11 (tv 1)),
 oa 15 (.call (kf 46) [(false, (tv 14))] []) 896,
 o 3 (.mv (tv 15))] [] [3])
 (.seq (.seq (.region [64] [o 4 (.mv (ki 0))] [] [3, 4])
 (.block 0 (.loop l134_0)))
 (.seq (.region [] [o 2 (.mv kF)] [] [2])
 .ret))))),
 [.tmp 2], false⟩

def v92 : VFun := ⟨1,
 (.seq (.region [] [o 2 (.mv kF)] [] [0])
 (.seq (.region [] [o 3 (.mv (tv 0)),
 o 4 (.build [zi, zs, zi, zi, .nil] [(0, 1, (ki 5)), (1, 1, (tv 3))]),
 oa 5 (.call (kf 93) [(false, (tv 4))] []) 256,
 o 2 (.mv (tv 5))] [] [2])
 .ret)),
 [.tmp 2], false⟩

def v93 : VFun := ⟨1,
 (.seq (.region [] [oa 1 (.box (tv 0)) 64,
 o 2 (.mv kF)] [] [1])
 (.seq (.region [] [o 4 (.fld 1 (tv 1)),
 o 5 (.load false 1 (tv 4)),
 o 6 (.bin .eql 0 (tv 5) (.k (.sc zs))),
 o 7 (.mv (tv 6)),
 og 8 (.fld 4 (tv 1)) 7 true,
 og 9 (.load false 1 (tv 8)) 7 true,
 og 10 (.len false (tv 9)) 7 true,
 og 11 (.bin .eql 0 (tv 10) (ki 0)) 7 true,
 o 12 (.pick (tv 7) (tv 11) kF),
 o 13 (.mv (tv 12)),
 og 14 (.fld 2 (tv 1)) 13 true,
 og 15 (.load false 1 (tv 14)) 13 true,
 og 16 (.bin .geq 0 (tv 15) (ki 0)) 13 true,
 o 17 (.pick (tv 13) (tv 16) kF),
 o 18 (.mv (tv 17)),
 og 19 (.fld 2 (tv 1)) 18 true,
 og 20 (.load false 1 (tv 19)) 18 true,
 og 21 (.bin .leq 0 (tv 20) (ki 1000000)) 18 true,
 o 22 (.pick (tv 18) (tv 21) kF),
 o 3 (.mv (tv 22))] [] [1, 3])
 (.seq (.seq (.region [] [o 23 (.fld 0 (tv 1)),
 o 24 (.load false 1 (tv 23))] [] [1, 3, 24])
 (.block 0 (.seq (.seq (.region [] [o 26 (.bin .eql 0 (tv 24) (ki 1)),
 o 25 (.mv (tv 26))] [] [1, 3, 24, 25])
 (.cond (tv 25) .skip
 (.region [] [o 27 (.bin .eql 0 (tv 24) (ki 2)),
 o 25 (.mv (tv 27))] [] [1, 3, 24, 25])))
 (.cond (tv 25) (.seq (.region [] [o 28 (.mv (tv 3)),
 o 29 (.mv (tv 28)),
 og 30 (.fld 3 (tv 1)) 29 true,
 og 31 (.load false 1 (tv 30)) 29 true,
 og 32 (.bin .eql 0 (tv 31) (ki 0)) 29 true,
 o 33 (.pick (tv 29) (tv 32) kF),
 o 2 (.mv (tv 33))] [] [2])
 .ret)
 (.seq (.region [] [o 35 (.bin .eql 0 (tv 24) (ki 3)),
 o 34 (.mv (tv 35))] [] [1, 3, 24, 34])
 (.cond (tv 34) (.seq (.region [] [o 36 (.mv (tv 3)),
 o 37 (.mv (tv 36)),
 og 38 (.fld 3 (tv 1)) 37 true,
 og 39 (.load false 1 (tv 38)) 37 true,
 og 40 (.bin .geq 0 (tv 39) (ki (-1))) 37 true,
 o 41 (.pick (tv 37) (tv 40) kF),
 o 42 (.mv (tv 41)),
 og 43 (.fld 3 (tv 1)) 42 true,
 og 44 (.load false 1 (tv 43)) 42 true,
 og 45 (.bin .leq 0 (tv 44) (ki 1000000)) 42 true,
 o 46 (.pick (tv 42) (tv 45) kF),
 o 2 (.mv (tv 46))] [] [2])
 .ret)
 (.seq (.region [] [o 48 (.bin .eql 0 (tv 24) (ki 5)),
 o 47 (.mv (tv 48))] [] [1, 24, 47])
 (.cond (tv 47) (.seq (.region [] [o 49 (.fld 4 (tv 1)),
 o 50 (.load false 1 (tv 49)),
 o 51 (.len false (tv 50)),
 o 52 (.bin .eql 0 (tv 51) (ki 0)),
 o 53 (.mv (tv 52)),
 og 54 (.fld 2 (tv 1)) 53 true,
 og 55 (.load false 1 (tv 54)) 53 true,
 og 56 (.bin .eql 0 (tv 55) (ki 0)) 53 true,
 o 57 (.pick (tv 53) (tv 56) kF),
 o 58 (.mv (tv 57)),
 og 59 (.fld 3 (tv 1)) 58 true,
 og 60 (.load false 1 (tv 59)) 58 true,
 og 61 (.bin .eql 0 (tv 60) (ki 0)) 58 true,
 o 62 (.pick (tv 58) (tv 61) kF),
 o 63 (.mv (tv 62)),
 og 64 (.fld 1 (tv 1)) 63 true,
 og 65 (.load false 1 (tv 64)) 63 true,
 ⟨(some 66), (.call (kf 141) [(false, (tv 65)), (false, (.k (.sc (.c (.int .u8 97))))), (false, (.k (.sc (.c (.int .u8 122)))))] []), (some (63, true)), 4416, []⟩,
 o 67 (.pick (tv 63) (tv 66) kF),
 o 2 (.mv (tv 67))] [] [2])
 .ret)
 (.seq (.region [] [o 69 (.bin .eql 0 (tv 24) (ki 4)),
 o 68 (.mv (tv 69))] [] [1, 68])
 (.cond (tv 68) (.seq (.region [] [o 70 (.fld 2 (tv 1)),
 o 71 (.load false 1 (tv 70)),
 o 72 (.bin .eql 0 (tv 71) (ki 0)),
 o 73 (.mv (tv 72)),
 og 74 (.fld 3 (tv 1)) 73 true,
 og 75 (.load false 1 (tv 74)) 73 true,
 og 76 (.bin .eql 0 (tv 75) (ki 0)) 73 true,
 o 77 (.pick (tv 73) (tv 76) kF),
 o 78 (.mv (tv 77)),
 og 79 (.fld 1 (tv 1)) 78 true,
 og 80 (.load false 1 (tv 79)) 78 true,
 og 81 (.fld 4 (tv 1)) 78 true,
 og 82 (.load false 1 (tv 81)) 78 true,
 og 83 (.len false (tv 82)) 78 true,
 ⟨(some 84), (.call (kf 142) [(false, (tv 80)), (false, (tv 83))] []), (some (78, true)), 5632, []⟩,
 o 85 (.pick (tv 78) (tv 84) kF),
 o 86 (.mv (tv 85)),
 og 87 (.fld 4 (tv 1)) 86 true,
 og 88 (.load false 1 (tv 87)) 86 true,
 ⟨(some 89), (.call (kf 143) [(false, (tv 88)), (true, (kf 144))] []), (some (86, true)), 5952, []⟩,
 og 90 (.un .not (tv 89)) 86 true,
 o 91 (.pick (tv 86) (tv 90) kF),
 o 2 (.mv (tv 91))] [] [2])
 .ret)
 .skip))))))))))
 (.seq (.region [] [o 2 (.mv kF)] [] [2])
 .ret)))),
 [.tmp 2], false⟩

def v95 : VFun := ⟨2,
 (.seq (.region [] [oa 2 (.box (tv 0)) 64,
 oa 3 (.box (tv 1)) 128,
 o 4 (.mv kF)] [] [2, 3])
 (.seq (.region [] [o 5 (.load true 5 (tv 2)),
 o 6 (.load true 5 (tv 3)),
 oa 7 (.call (kf 146) [(false, (tv 5)), (false, (tv 6))] []) 384,
 o 8 (.bin .eql 0 (tv 7) (ki 0)),
 o 4 (.mv (tv 8))] [] [4])
 .ret)),
 [.tmp 4], false⟩

def v98 : VFun := ⟨2,
 (.seq (.region [] [o 4 (.mv kF)] [] [0, 1])
 (.seq (.region [] [o 5 (.mv (tv 0)),
 o 6 (.mv (tv 1)),
 oa 7 (.call (kf 148) [(false, (tv 5)), (true, (tv 6))] []) 256,
 o 8 (.bin .geq 0 (tv 7) (ki 0)),
 o 4 (.mv (tv 8))] [] [4])
 .ret)),
 [.tmp 4], false⟩

def v100 : VFun := ⟨1,
 (.seq (.region [] [oa 1 (.box (tv 0)) 64,
 o 2 (.mv kF)] [] [1])
 (.seq (.region [] [o 3 (.load true 11 (tv 1)),
 oa 4 (.call (kf 47) [(false, (tv 3))] []) 256,
 o 5 (.un .not (tv 4)),
 o 2 (.mv (tv 5))] [] [2])
 .ret)),
 [.tmp 2], false⟩

def v101 : VFun := ⟨0,
 (.seq (.region [] [o 0 (.mv kn)] [] [1000000])
 (.seq (.region [] [o 1 (.mv (kf 150))] [] [1])
 (.seq (.region [] [o 2 (.mv (kf 152))] [] [1, 2])
 (.seq (.region [] [o 3 (.build [(.c .nilfn), (.c .nilfn)] [(0, 1, (kf 153)), (1, 1, (kf 154))]),
 o 4 (.mv (tv 1)),
 oa 5 (.call (tv 4) [(false, (ki 6))] []) 384,
 o 6 (.build [(.c .nilfn), (.c .nilfn)] [(0, 1, (tv 5)), (1, 1, (kf 156))]),
 o 7 (.mv (tv 1)),
 oa 8 (.call (tv 7) [(false, (ki 7))] []) 576,
 o 9 (.build [(.c .nilfn), (.c .nilfn)] [(0, 1, (tv 8)), (1, 1, (kf 157))]),
 o 10 (.build [(.c .nilfn), (.c .nilfn)] [(0, 1, (kf 158)), (1, 1, (kf 159))]),
 o 11 (.mv (tv 1)),
 oa 12 (.call (tv 11) [(false, (ki 9))] []) 832,
 o 13 (.mv (tv 2)),
 o 14 (.build [(.c .nilfn), (.c .nilfn)] [(0, 1, (tv 12)), (1, 1, (tv 13))]),
 o 15 (.mv (tv 1)),
 oa 16 (.call (tv 15) [(false, (ki 11))] []) 1088,
 o 17 (.mv (tv 2)),
 o 18 (.build [(.c .nilfn), (.c .nilfn)] [(0, 1, (tv 16)), (1, 1, (tv 17))]),
 oa 19 (.mkSl 2 [(tv 3), (tv 6), (tv 9), (tv 10), (tv 14), (tv 18)]) 1280,
 o 0 (.mv (tv 19))] [] [0])
 .ret)))),
 [.tmp 0], true⟩

def l41_0 : VCode := (.seq (.seq (.region [] [o 5 (.fld 0 (tv 1)),
 o 6 (.load false 1 (tv 5)),
 o 7 (.bin .eql 0 (tv 6) (ki 5)),
 o 8 (.mv (tv 7)),
 og 9 (.fld 4 (tv 1)) 8 true,
 og 10 (.load false 1 (tv 9)) 8 true,
 og 11 (.len false (tv 10)) 8 true,
 og 12 (.bin .eql 0 (tv 11) (ki 2)) 8 true,
 o 13 (.pick (tv 8) (tv 12) kF)] [] [1, 2, 4, 13])
 (.cond (tv 13) .skip
 (.exit 0)))
 (.block 1 (.seq (.region [1216] [o 14 (.mv (tv 4)),
 o 15 (.fld 4 (tv 1)),
 o 16 (.load false 1 (tv 15)),
 o 17 (.idxA 11 (tv 16) (ki 1)),
 o 18 (.load true 11 (tv 17)),
 oa 19 (.mkSl 11 [(tv 18)]) 1216,
 o 20 (.app 11 152 false (tv 14) (tv 19)),
 o 4 (.mv (tv 20))] [] [1, 2, 4])
 (.region [1216] [o 21 (.fld 4 (tv 1)),
 o 22 (.load false 1 (tv 21)),
 o 23 (.idxA 11 (tv 22) (ki 0)),
 o 24 (.load true 11 (tv 23)),
 on (.store 11 (tv 1) (tv 24) [])] [] [1, 2, 4]))))

def v41 : VFun := ⟨1,
 (.seq (.region [] [oa 1 (.box (tv 0)) 64,
 oa 2 (.new [zi, zi, zs, zi, .nil, .nil, zi, zs, zi, zi, .nil] []) 128,
 o 3 (.mv kn)] [] [1, 2])
 (.seq (.region [] [⟨(some 4), (.mv kn), none, 256, [(0, 11)]⟩] [] [1, 2, 4])
 (.seq (.block 0 (.loop l41_0))
 (.seq (.region [] [o 25 (.mv (tv 4)),
 oa 26 (.call (kf 80) [(true, (tv 25))] []) 1792] [] [1, 2, 4])
 (.seq (.region [] [o 27 (.load true 11 (tv 1)),
 o 28 (.mv (tv 4)),
 on (.store 11 (tv 2) (tv 27) []),
 o 3 (.mv (tv 28))] [] [2, 3])
 .ret))))),
 [.cell 2 true 11, .tmp 3], false⟩

def l209_0 : VCode := (.seq (.seq (.region [] [o 4 (.mv (tv 3)),
 o 5 (.mv (tv 0)),
 o 6 (.len true (tv 5)),
 o 7 (.bin .lss 0 (tv 4) (tv 6))] [] [0, 3, 7])
 (.cond (tv 7) .skip
 (.exit 0)))
 (.seq (.block 1 (.seq (.region [] [o 10 (.mv (tv 0)),
 o 11 (.mv (tv 3)),
 o 12 (.idxS (tv 10) (tv 11)),
 oa 13 (.call (kf 124) [(false, (tv 12))] []) 640,
 o 14 (.un .not (tv 13))] [] [0, 3, 14])
 (.cond (tv 14) (.seq (.region [] [o 2 (.mv kF)] [] [2])
 .ret)
 .skip)))
 (.region [] [o 8 (.mv (tv 3)),
 o 9 (.bin .add 0 (tv 8) (ki 1)),
 o 3 (.mv (tv 9))] [] [0, 3])))

def v209 : VFun := ⟨1,
 (.seq (.region [] [o 2 (.mv kF)] [] [0])
 (.seq (.seq (.region [] [o 3 (.mv (ki 0))] [] [0, 3])
 (.block 0 (.loop l209_0)))
 (.seq (.region [] [o 15 (.mv (tv 0)),
 o 16 (.bin .neq 0 (tv 15) (.k (.sc zs))),
 o 2 (.mv (tv 16))] [] [2])
 .ret))),
 [.tmp 2], false⟩

def l183_0 : VCode := (.seq (.seq (.region [] [o 5 (.mv (tv 4)),
 o 6 (.mv (tv 0)),
 o 7 (.len true (tv 6)),
 o 8 (.bin .lss 0 (tv 5) (tv 7))] [] [0, 3, 4, 8])
 (.cond (tv 8) .skip
 (.exit 0)))
 (.seq (.block 1 (.region [] [o 11 (.mv (tv 3)),
 o 12 (.bin .mul 0 (ki 10) (tv 11)),
 o 13 (.mv (tv 0)),
 o 14 (.mv (tv 4)),
 o 15 (.idxS (tv 13) (tv 14)),
 o 16 (.bin .sub 0 (tv 15) (.k (.sc (.c (.int .u8 48))))),
 o 17 (.cvI .i64 (tv 16)),
 o 18 (.bin .add 0 (tv 12) (tv 17)),
 o 3 (.mv (tv 18))] [] [0, 3, 4]))
 (.region [] [o 9 (.mv (tv 4)),
 o 10 (.bin .add 0 (tv 9) (ki 1)),
 o 4 (.mv (tv 10))] [] [0, 3, 4])))

def v183 : VFun := ⟨1,
 (.seq (.region [] [o 2 (.mv (ki 0))] [] [0])
 (.seq (.region [] [o 3 (.mv (ki 0))] [] [0, 3])
 (.seq (.seq (.region [] [o 4 (.mv (ki 0))] [] [0, 3, 4])
 (.block 0 (.loop l183_0)))
 (.seq (.region [] [o 19 (.mv (tv 3)),
 o 2 (.mv (tv 19))] [] [2])
 .ret)))),
 [.tmp 2], false⟩

def l141_0 : VCode := (.seq (.region [] [o 33 (.bin .lss 0 (tv 32) (tv 31))] [] [0, 31, 32, 33])
 (.seq (.cond (tv 33) .skip
 (.exit 0))
 (.seq (.block 1 (.seq (.region [] [o 34 (.mv (tv 32)),
 o 7 (.mv (tv 34))] [] [0, 7, 31, 32])
 (.seq (.region [] [o 35 (.mv (tv 0)),
 o 36 (.mv (tv 7)),
 o 37 (.idxS (tv 35) (tv 36)),
 o 8 (.mv (tv 37))] [] [0, 8, 31, 32])
 (.seq (.region [] [o 38 (.mv (tv 8)),
 o 39 (.bin .geq 0 (tv 38) (.k (.sc (.c (.int .u8 97))))),
 o 40 (.mv (tv 39)),
 og 41 (.mv (tv 8)) 40 true,
 og 42 (.bin .leq 0 (tv 41) (.k (.sc (.c (.int .u8 122))))) 40 true,
 o 43 (.pick (tv 40) (tv 42) kF),
 o 44 (.mv (tv 43)),
 og 45 (.mv (tv 8)) 44 false,
 og 46 (.bin .geq 0 (tv 45) (.k (.sc (.c (.int .u8 65))))) 44 false,
 og 47 (.mv (tv 46)) 44 false,
 og 48 (.mv (tv 8)) 47 true,
 og 49 (.bin .leq 0 (tv 48) (.k (.sc (.c (.int .u8 90))))) 47 true,
 og 50 (.pick (tv 47) (tv 49) kF) 44 false,
 o 51 (.pick (tv 44) kt (tv 50)),
 o 9 (.mv (tv 51))] [] [0, 8, 9, 31, 32])
 (.seq (.region [] [o 52 (.mv (tv 9)),
 o 53 (.un .not (tv 52)),
 o 54 (.mv (tv 53)),
 og 55 (.mv (tv 8)) 54 true,
 og 56 (.bin .lss 0 (tv 55) (.k (.sc (.c (.int .u8 48))))) 54 true,
 og 57 (.mv (tv 56)) 54 true,
 og 58 (.mv (tv 8)) 57 false,
 og 59 (.bin .gtr 0 (tv 58) (.k (.sc (.c (.int .u8 57))))) 57 false,
 og 60 (.pick (tv 57) kt (tv 59)) 54 true,
 o 61 (.pick (tv 54) (tv 60) kF),
 o 62 (.mv (tv 61)),
 og 63 (.mv (tv 8)) 62 true,
 og 64 (.bin .neq 0 (tv 63) (.k (.sc (.c (.int .u8 95))))) 62 true,
 o 65 (.pick (tv 62) (tv 64) kF)] [] [0, 31, 32, 65])
 (.cond (tv 65) (.seq (.region [] [o 6 (.mv kF)] [] [6])
 .ret)
 .skip))))))
 (.region [] [o 66 (.bin .add 0 (tv 32) (ki 1)),
 o 32 (.mv (tv 66))] [] [0, 31, 32]))))

def v141 : VFun := ⟨3,
 (.seq (.region [] [o 6 (.mv kF)] [] [0, 1, 2])
 (.seq (.seq (.region [] [o 10 (.mv (tv 0)),
 o 11 (.len true (tv 10)),
 o 12 (.bin .lss 0 (tv 11) (ki 1)),
 o 13 (.mv (tv 12)),
 og 14 (.mv (tv 0)) 13 false,
 og 15 (.len true (tv 14)) 13 false,
 og 16 (.bin .gtr 0 (tv 15) (ki 12)) 13 false,
 o 17 (.pick (tv 13) kt (tv 16)),
 o 18 (.mv (tv 17)),
 og 19 (.mv (tv 0)) 18 false,
 og 20 (.idxS (tv 19) (ki 0)) 18 false,
 og 21 (.mv (tv 1)) 18 false,
 og 22 (.bin .lss 0 (tv 20) (tv 21)) 18 false,
 o 23 (.pick (tv 18) kt (tv 22)),
 o 24 (.mv (tv 23)),
 og 25 (.mv (tv 0)) 24 false,
 og 26 (.idxS (tv 25) (ki 0)) 24 false,
 og 27 (.mv (tv 2)) 24 false,
 og 28 (.bin .gtr 0 (tv 26) (tv 27)) 24 false,
 o 29 (.pick (tv 24) kt (tv 28))] [] [0, 29])
 (.cond (tv 29) (.seq (.region [] [o 6 (.mv kF)] [] [6])
 .ret)
 .skip))
 (.seq (.seq (.region [] [o 30 (.mv (tv 0)),
 o 31 (.len true (tv 30)),
 o 32 (.mv (ki 0))] [] [0, 31, 32])
 (.block 0 (.loop l141_0)))
 (.seq (.seq (.region [] [o 67 (.mv (tv 0))] [] [67])
 (.block 2 (.seq (.seq (.region [] [o 69 (.bin .eql 0 (tv 67) (.k (.sc (.c (.str [100, 97, 116, 97]))))),
 o 68 (.mv (tv 69))] [] [67, 68])
 (.cond (tv 68) .skip
 (.seq (.region [] [o 70 (.bin .eql 0 (tv 67) (.k (.sc (.c (.str [108, 101, 116]))))),
 o 68 (.mv (tv 70))] [] [67, 68])
 (.cond (tv 68) .skip
 (.seq (.region [] [o 71 (.bin .eql 0 (tv 67) (.k (.sc (.c (.str [114, 101, 99]))))),
 o 68 (.mv (tv 71))] [] [67, 68])
 (.cond (tv 68) .skip
 (.seq (.region [] [o 72 (.bin .eql 0 (tv 67) (.k (.sc (.c (.str [105, 110]))))),
 o 68 (.mv (tv 72))] [] [67, 68])
 (.cond (tv 68) .skip
 (.seq (.region [] [o 73 (.bin .eql 0 (tv 67) (.k (.sc (.c (.str [99, 97, 115, 101]))))),
 o 68 (.mv (tv 73))] [] [67, 68])
 (.cond (tv 68) .skip
 (.seq (.region [] [o 74 (.bin .eql 0 (tv 67) (.k (.sc (.c (.str [111, 102]))))),
 o 68 (.mv (tv 74))] [] [67, 68])
 (.cond (tv 68) .skip
 (.region [] [o 75 (.bin .eql 0 (tv 67) (.k (.sc (.c (.str [101, 110, 100]))))),
 o 68 (.mv (tv 75))] [] [68])))))))))))))
 (.cond (tv 68) (.seq (.region [] [o 6 (.mv kF)] [] [6])
 .ret)
 .skip))))
 (.seq (.region [] [o 6 (.mv kt)] [] [6])
 .ret))))),
 [.tmp 6], false⟩

set_option maxRecDepth 100000 in
theorem m8 : mFun Go.Proofs.Tryz.prog 8 v8 = true := by kernel_rfl
set_option maxRecDepth 100000 in
theorem m149 : mFun Go.Proofs.Tryz.prog 149 v149 = true := by kernel_rfl
set_option maxRecDepth 100000 in
theorem m223 : mFun Go.Proofs.Tryz.prog 223 v223 = true := by kernel_rfl
set_option maxRecDepth 100000 in
theorem m244 : mFun Go.Proofs.Tryz.prog 244 v244 = true := by kernel_rfl
set_option maxRecDepth 100000 in
theorem m25 : mFun Go.Proofs.Tryz.prog 25 v25 = true := by kernel_rfl
set_option maxRecDepth 100000 in
theorem m34 : mFun Go.Proofs.Tryz.prog 34 v34 = true := by kernel_rfl
set_option maxRecDepth 100000 in
theorem m30 : mFun Go.Proofs.Tryz.prog 30 v30 = true := by kernel_rfl
set_option maxRecDepth 100000 in
theorem m31 : mFun Go.Proofs.Tryz.prog 31 v31 = true := by kernel_rfl
set_option maxRecDepth 100000 in
theorem m18 : mFun Go.Proofs.Tryz.prog 18 v18 = true := by kernel_rfl
set_option maxRecDepth 100000 in
theorem m27 : mFun Go.Proofs.Tryz.prog 27 v27 = true := by kernel_rfl
set_option maxRecDepth 100000 in
theorem m72 : mFun Go.Proofs.Tryz.prog 72 v72 = true := by kernel_rfl
set_option maxRecDepth 100000 in
theorem m33 : mFun Go.Proofs.Tryz.prog 33 v33 = true := by kernel_rfl
set_option maxRecDepth 100000 in
theorem m52 : mFun Go.Proofs.Tryz.prog 52 v52 = true := by kernel_rfl
set_option maxRecDepth 100000 in
theorem m46 : mFun Go.Proofs.Tryz.prog 46 v46 = true := by kernel_rfl
set_option maxRecDepth 100000 in
theorem m54 : mFun Go.Proofs.Tryz.prog 54 v54 = true := by kernel_rfl
set_option maxRecDepth 100000 in
theorem m61 : mFun Go.Proofs.Tryz.prog 61 v61 = true := by kernel_rfl
set_option maxRecDepth 100000 in
theorem m49 : mFun Go.Proofs.Tryz.prog 49 v49 = true := by kernel_rfl
set_option maxRecDepth 100000 in
theorem m74 : mFun Go.Proofs.Tryz.prog 74 v74 = true := by kernel_rfl
set_option maxRecDepth 100000 in
theorem m75 : mFun Go.Proofs.Tryz.prog 75 v75 = true := by kernel_rfl
set_option maxRecDepth 100000 in
theorem m120 : mFun Go.Proofs.Tryz.prog 120 v120 = true := by kernel_rfl
set_option maxRecDepth 100000 in
theorem m122 : mFun Go.Proofs.Tryz.prog 122 v122 = true := by kernel_rfl
set_option maxRecDepth 100000 in
theorem m123 : mFun Go.Proofs.Tryz.prog 123 v123 = true := by kernel_rfl
set_option maxRecDepth 100000 in
theorem m16 : mFun Go.Proofs.Tryz.prog 16 v16 = true := by kernel_rfl
set_option maxRecDepth 100000 in
theorem m71 : mFun Go.Proofs.Tryz.prog 71 v71 = true := by kernel_rfl
set_option maxRecDepth 100000 in
theorem m19 : mFun Go.Proofs.Tryz.prog 19 v19 = true := by kernel_rfl
set_option maxRecDepth 100000 in
theorem m107 : mFun Go.Proofs.Tryz.prog 107 v107 = true := by kernel_rfl
set_option maxRecDepth 100000 in
theorem m99 : mFun Go.Proofs.Tryz.prog 99 v99 = true := by kernel_rfl
set_option maxRecDepth 100000 in
theorem m102 : mFun Go.Proofs.Tryz.prog 102 v102 = true := by kernel_rfl
set_option maxRecDepth 100000 in
theorem m124 : mFun Go.Proofs.Tryz.prog 124 v124 = true := by kernel_rfl
set_option maxRecDepth 100000 in
theorem m125 : mFun Go.Proofs.Tryz.prog 125 v125 = true := by kernel_rfl
set_option maxRecDepth 100000 in
theorem m126 : mFun Go.Proofs.Tryz.prog 126 v126 = true := by kernel_rfl
set_option maxRecDepth 100000 in
theorem m129 : mFun Go.Proofs.Tryz.prog 129 v129 = true := by kernel_rfl
set_option maxRecDepth 100000 in
theorem m128 : mFun Go.Proofs.Tryz.prog 128 v128 = true := by kernel_rfl
set_option maxRecDepth 100000 in
theorem m170 : mFun Go.Proofs.Tryz.prog 170 v170 = true := by kernel_rfl
set_option maxRecDepth 100000 in
theorem m127 : mFun Go.Proofs.Tryz.prog 127 v127 = true := by kernel_rfl
set_option maxRecDepth 100000 in
theorem m76 : mFun Go.Proofs.Tryz.prog 76 v76 = true := by kernel_rfl
set_option maxRecDepth 100000 in
theorem m78 : mFun Go.Proofs.Tryz.prog 78 v78 = true := by kernel_rfl
set_option maxRecDepth 100000 in
theorem m79 : mFun Go.Proofs.Tryz.prog 79 v79 = true := by kernel_rfl
set_option maxRecDepth 100000 in
theorem m47 : mFun Go.Proofs.Tryz.prog 47 v47 = true := by kernel_rfl
set_option maxRecDepth 100000 in
theorem m48 : mFun Go.Proofs.Tryz.prog 48 v48 = true := by kernel_rfl
set_option maxRecDepth 100000 in
theorem m55 : mFun Go.Proofs.Tryz.prog 55 v55 = true := by kernel_rfl
set_option maxRecDepth 100000 in
theorem m175 : mFun Go.Proofs.Tryz.prog 175 v175 = true := by kernel_rfl
set_option maxRecDepth 100000 in
theorem m176 : mFun Go.Proofs.Tryz.prog 176 v176 = true := by kernel_rfl
set_option maxRecDepth 100000 in
theorem m177 : mFun Go.Proofs.Tryz.prog 177 v177 = true := by kernel_rfl
set_option maxRecDepth 100000 in
theorem m178 : mFun Go.Proofs.Tryz.prog 178 v178 = true := by kernel_rfl
set_option maxRecDepth 100000 in
theorem m179 : mFun Go.Proofs.Tryz.prog 179 v179 = true := by kernel_rfl
set_option maxRecDepth 100000 in
theorem m180 : mFun Go.Proofs.Tryz.prog 180 v180 = true := by kernel_rfl
set_option maxRecDepth 100000 in
theorem m181 : mFun Go.Proofs.Tryz.prog 181 v181 = true := by kernel_rfl
set_option maxRecDepth 100000 in
theorem m182 : mFun Go.Proofs.Tryz.prog 182 v182 = true := by kernel_rfl
set_option maxRecDepth 100000 in
theorem m131 : mFun Go.Proofs.Tryz.prog 131 v131 = true := by kernel_rfl
set_option maxRecDepth 100000 in
theorem m132 : mFun Go.Proofs.Tryz.prog 132 v132 = true := by kernel_rfl
set_option maxRecDepth 100000 in
theorem m133 : mFun Go.Proofs.Tryz.prog 133 v133 = true := by kernel_rfl
set_option maxRecDepth 100000 in
theorem m134 : mFun Go.Proofs.Tryz.prog 134 v134 = true := by kernel_rfl
set_option maxRecDepth 100000 in
theorem m92 : mFun Go.Proofs.Tryz.prog 92 v92 = true := by kernel_rfl
set_option maxRecDepth 100000 in
theorem m93 : mFun Go.Proofs.Tryz.prog 93 v93 = true := by kernel_rfl
set_option maxRecDepth 100000 in
theorem m95 : mFun Go.Proofs.Tryz.prog 95 v95 = true := by kernel_rfl
set_option maxRecDepth 100000 in
theorem m98 : mFun Go.Proofs.Tryz.prog 98 v98 = true := by kernel_rfl
set_option maxRecDepth 100000 in
theorem m100 : mFun Go.Proofs.Tryz.prog 100 v100 = true := by kernel_rfl
set_option maxRecDepth 100000 in
theorem m101 : mFun Go.Proofs.Tryz.prog 101 v101 = true := by kernel_rfl
set_option maxRecDepth 100000 in
theorem m41 : mFun Go.Proofs.Tryz.prog 41 v41 = true := by kernel_rfl
set_option maxRecDepth 100000 in
theorem m209 : mFun Go.Proofs.Tryz.prog 209 v209 = true := by kernel_rfl
set_option maxRecDepth 100000 in
theorem m183 : mFun Go.Proofs.Tryz.prog 183 v183 = true := by kernel_rfl
set_option maxRecDepth 100000 in
theorem m141 : mFun Go.Proofs.Tryz.prog 141 v141 = true := by kernel_rfl

end Go.Vs.Tryz
