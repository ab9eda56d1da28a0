/- Functions of the program in the language of the value semantics, part 3 (printed by a program of mine), and that they match. (Parts of one proof, put together.) -/
import Derived.Test.YtlcncicmkkelcaaGreatDoorM3
import Derived.Test.YtlcncicmkkelcaaGreatDoorProg
import Derived.KernelRfl
import Derived.Test.YtlcncicmkkelcaaGreatDoorT1
import Derived.Test.YtlcncicmkkelcaaGreatDoorT2
import Derived.Lib.Strings
import Derived.Lib.Walk
import Derived.Lib.BufferWrite
import Derived.Lib.UnsafeStr
import Derived.Lib.Hide
import Derived.Laws.MakeOwn
import Derived.WalkKit
set_option linter.unusedSimpArgs false
set_option linter.unusedVariables false
set_option linter.deprecated false

/- Functions of the program in the language of the value semantics, part 3 (printed by a program of mine), and that they match. -/
namespace Go.Vs.Tryz
open Go Go.Vs

def l256_0 : VCode := (.seq (.seq (.region [] [o 6 (.mv (tv 3)),
 o 7 (.bin .lss 0 (tv 6) (ki 11))] [] [0, 3, 7])
 (.cond (tv 7) .skip
 (.exit 0)))
 (.seq (.block 1 (.seq (.region [] [o 10 (.mv (tv 0)),
 o 11 (.mv (tv 3)),
 o 12 (.mv (tv 3)),
 o 13 (.bin .add 0 (tv 12) (ki 1)),
 o 14 (.slS (.k (.sc (.c (.str [92, 46, 61, 59, 58, 124, 40, 41, 123, 125, 63])))) (some (tv 11)) (some (tv 13))),
 o 15 (.bin .eql 0 (tv 10) (tv 14))] [] [0, 3, 15])
 (.cond (tv 15) (.seq (.region [] [o 2 (.mv kt)] [] [2])
 .ret)
 .skip)))
 (.region [] [o 8 (.mv (tv 3)),
 o 9 (.bin .add 0 (tv 8) (ki 1)),
 o 3 (.mv (tv 9))] [] [0, 3])))

def v256 : VFun := ⟨1,
 (.seq (.region [] [o 2 (.mv kF)] [] [0])
 (.seq (.seq (.region [] [o 4 (.mv (tv 0)),
 o 5 (.bin .eql 0 (tv 4) (.k (.sc (.c (.str [45, 62])))))] [] [0, 5])
 (.cond (tv 5) (.seq (.region [] [o 2 (.mv kt)] [] [2])
 .ret)
 .skip))
 (.seq (.seq (.region [] [o 3 (.mv (ki 0))] [] [0, 3])
 (.block 0 (.loop l256_0)))
 (.seq (.region [] [o 2 (.mv kF)] [] [2])
 .ret)))),
 [.tmp 2], false⟩

def v170 : VFun := ⟨1,
 (.seq (.seq (.region [] [o 3 (.mv (tv 0)),
 o 4 (.nn (tv 3)),
 o 5 (.fld 2 (tv 4)),
 o 6 (.load false 1 (tv 5))] [] [0, 6])
 (.cond (tv 6) .ret
 .skip))
 (.seq (.region [] [o 7 (.mv (tv 0)),
 o 8 (.nn (tv 7)),
 o 9 (.fld 2 (tv 8)),
 on (.store 1 (tv 9) kt [])] [] [0])
 (.block 0 (.seq (.region [] [o 11 (.mv (tv 0)),
 o 12 (.nn (tv 11)),
 o 13 (.fld 1 (tv 12)),
 o 14 (.load false 1 (tv 13)),
 o 15 (.mv (tv 0)),
 o 16 (.nn (tv 15)),
 o 17 (.fld 0 (tv 16)),
 o 18 (.load false 1 (tv 17)),
 o 19 (.len false (tv 18)),
 o 20 (.bin .lss 0 (tv 14) (tv 19)),
 o 10 (.mv (tv 20))] [(1, 5), (2, 5), (3, 5), (1, 6), (2, 6), (3, 6), (1, 7), (2, 7), (3, 7), (1, 8), (2, 8), (3, 8)] [0, 10])
 (.cond (tv 10) (.region [] [o 21 (.mv (tv 0)),
 o 22 (.mv (tv 0)),
 o 23 (.nn (tv 22)),
 o 24 (.fld 0 (tv 23)),
 o 25 (.load false 1 (tv 24)),
 o 26 (.mv (tv 0)),
 o 27 (.nn (tv 26)),
 o 28 (.fld 1 (tv 27)),
 o 29 (.load false 1 (tv 28)),
 o 30 (.idxA 3 (tv 25) (tv 29)),
 o 31 (.fld 2 (tv 30)),
 o 32 (.load false 1 (tv 31)),
 o 33 (.nn (tv 21)),
 o 34 (.fld 3 (tv 33)),
 on (.store 1 (tv 34) (tv 32) [])] [(2, 6), (3, 6), (4, 6), (2, 7), (3, 7), (4, 7), (2, 8), (3, 8), (4, 8)] [1000000])
 (.seq (.region [] [o 36 (.mv (tv 0)),
 o 37 (.nn (tv 36)),
 o 38 (.fld 0 (tv 37)),
 o 39 (.load false 1 (tv 38)),
 o 40 (.len false (tv 39)),
 o 41 (.bin .gtr 0 (tv 40) (ki 0)),
 o 35 (.mv (tv 41))] [] [0, 35])
 (.cond (tv 35) (.seq (.region [] [o 42 (.mv (tv 0)),
 o 43 (.nn (tv 42)),
 o 44 (.fld 0 (tv 43)),
 o 45 (.load false 1 (tv 44)),
 o 46 (.mv (tv 0)),
 o 47 (.nn (tv 46)),
 o 48 (.fld 0 (tv 47)),
 o 49 (.load false 1 (tv 48)),
 o 50 (.len false (tv 49)),
 o 51 (.bin .sub 0 (tv 50) (ki 1)),
 o 52 (.idxA 3 (tv 45) (tv 51)),
 o 53 (.load true 3 (tv 52)),
 oa 2 (.new [zi, zs, zi] []) 3456,
 on (.store 3 (tv 2) (tv 53) [])] [(1, 5), (2, 5), (3, 5), (1, 6), (2, 6), (3, 6), (1, 7), (2, 7), (3, 7), (1, 8), (2, 8), (3, 8), (1, 12), (2, 12), (3, 12), (5, 12), (6, 12), (7, 12), (8, 12), (10, 12), (11, 12)] [0, 2])
 (.region [] [o 54 (.mv (tv 0)),
 o 55 (.fld 2 (tv 2)),
 o 56 (.load false 1 (tv 55)),
 o 57 (.fld 1 (tv 2)),
 o 58 (.load false 1 (tv 57)),
 o 59 (.len true (tv 58)),
 o 60 (.bin .add 0 (tv 56) (tv 59)),
 o 61 (.nn (tv 54)),
 o 62 (.fld 3 (tv 61)),
 on (.store 1 (tv 62) (tv 60) [])] [] [1000000]))
 .skip))))))),
 [], false⟩

def v258 : VFun := ⟨1,
 (.seq (.region [] [oa 2 (.new [zi, zs, zi, zi, .nil] []) 64] [] [0, 2])
 (.seq (.region [] [o 3 (.mv (tv 0)),
 o 4 (.build [zi, zs, zi, zi, .nil] [(0, 1, (ki 5)), (1, 1, (tv 3))]),
 on (.store 5 (tv 2) (tv 4) [])] [] [2])
 .ret)),
 [.cell 2 true 5], false⟩

def l223_0 : VCode := (.seq (.seq (.region [] [o 19 (.mv (tv 0)),
 oa 20 (.call (kf 228) [(true, (tv 19)), (false, (ki 1))] []) 1216] [] [0, 4, 5, 6, 20])
 (.cond (tv 20) .skip
 (.exit 2)))
 (.block 3 (.region [1536] [o 21 (.fld 2 (tv 6)),
 o 22 (.load false 1 (tv 21)),
 o 23 (.mv (tv 0)),
 oa 24 (.call (kf 221) [(true, (tv 23)), (false, (ki 1))] []) 1472,
 oa 25 (.mkSl 1 [(tv 24)]) 1536,
 o 26 (.app 1 16 false (tv 22) (tv 25)),
 o 27 (.fld 2 (tv 6)),
 on (.store 1 (tv 27) (tv 26) [])] [(0, 3), (1, 3), (0, 4), (1, 4)] [0, 4, 5, 6])))

def l223_1 : VCode := (.block 1 (.seq (.region [1024, 1088, 1091] [o 14 (.mv (tv 0)),
 oa 15 (.call (kf 219) [(true, (tv 14))] []) 768,
 o 16 (.mv (tv 0)),
 oa 17 (.call (kf 221) [(true, (tv 16)), (false, (ki 2))] []) 896,
 o 18 (.build [zi, zs, .nil, zi, zi, zs, zi, .nil, .nil, zi, zs, zi, zi, .nil] [(0, 1, (tv 15)), (1, 1, (tv 17))]),
 oa 6 (.new [zi, zs, .nil, zi, zi, zs, zi, .nil, .nil, zi, zs, zi, zi, .nil] []) 1024,
 ⟨none, (.store 14 (tv 6) (tv 18) [(2, 1)]), none, 1088, []⟩] [] [0, 4, 5, 6])
 (.seq (.block 2 (.loop l223_0))
 (.seq (.region [] [o 28 (.mv (tv 0)),
 oa 29 (.call (kf 222) [(true, (tv 28)), (false, (.k (.sc (.c (.str [46])))))] []) 1856] [] [0, 4, 5, 6])
 (.seq (.seq (.region [] [o 30 (.mv (tv 0)),
 o 31 (.nn (tv 30)),
 o 32 (.fld 2 (tv 31)),
 o 33 (.load false 1 (tv 32))] [] [0, 4, 5, 6, 33])
 (.cond (tv 33) (.seq (.region [] [o 34 (.build [zi, zi, zs, zi, .nil, .nil, zi, zs, zi, zi, .nil] []),
 on (.store 11 (tv 4) (tv 34) [])] [] [4])
 .ret)
 .skip))
 (.seq (.region [] [o 35 (.mv (tv 0)),
 oa 36 (.call (kf 169) [(true, (tv 35))] []) 2368,
 o 37 (.fld 3 (tv 6)),
 on (.store 11 (tv 37) (tv 36) [])] [] [0, 4, 5, 6])
 (.seq (.region [2752] [o 38 (.fld 5 (tv 5)),
 o 39 (.load false 1 (tv 38)),
 o 40 (.ldD true 14 (tv 6)),
 oa 41 (.mkSl 14 [(tv 40)]) 2752,
 o 42 (.app 14 200 false (tv 39) (tv 41)),
 o 43 (.fld 5 (tv 5)),
 on (.store 1 (tv 43) (tv 42) [])] [] [0, 4, 5])
 (.seq (.region [1024, 2752] [o 44 (.mv (tv 0)),
 oa 45 (.call (kf 220) [(true, (tv 44)), (false, (.k (.sc (.c (.str [124])))))] []) 3072,
 o 46 (.un .not (tv 45))] [] [0, 4, 5, 46])
 (.cond (tv 46) (.exit 0)
 .skip)))))))))

def v223 : VFun := ⟨2,
 (.seq (.region [] [oa 4 (.new [zi, zi, zs, zi, .nil, .nil, zi, zs, zi, zi, .nil] []) 64] [] [0, 1, 4])
 (.seq (.region [] [o 7 (.mv (tv 1)),
 o 8 (.mv (tv 0)),
 oa 9 (.call (kf 169) [(true, (tv 8))] []) 256,
 oa 10 (.mkSl 11 [(tv 9)]) 320,
 o 11 (.build [zi, zi, zs, zi, .nil, .nil, zi, zs, zi, zi, .nil] [(0, 1, (ki 8)), (1, 1, (tv 7)), (4, 1, (tv 10))]),
 oa 5 (.new [zi, zi, zs, zi, .nil, .nil, zi, zs, zi, zi, .nil] []) 448,
 ⟨none, (.store 11 (tv 5) (tv 11) [(5, 14)]), none, 512, []⟩] [] [0, 4, 5])
 (.seq (.region [] [o 12 (.mv (tv 0)),
 oa 13 (.call (kf 222) [(true, (tv 12)), (false, (.k (.sc (.c (.str [111, 102])))))] []) 640] [] [0, 4, 5])
 (.seq (.block 0 (.loop l223_1))
 (.seq (.region [] [o 47 (.mv (tv 0)),
 oa 48 (.call (kf 222) [(true, (tv 47)), (false, (.k (.sc (.c (.str [101, 110, 100])))))] []) 3264] [] [4, 5])
 (.seq (.region [] [o 49 (.ldD true 11 (tv 5)),
 on (.store 11 (tv 4) (tv 49) [])] [] [4])
 .ret)))))),
 [.cell 4 true 11], false⟩

def v224 : VFun := ⟨1,
 (.seq (.region [] [oa 2 (.new [zi, zi, zs, zi, .nil, .nil, zi, zs, zi, zi, .nil] []) 64] [] [0, 2])
 (.seq (.region [] [o 7 (.mv (tv 0)),
 oa 8 (.call (kf 219) [(true, (tv 7))] []) 192,
 o 3 (.mv (tv 8))] [] [0, 2, 3])
 (.seq (.block 0 (.seq (.region [] [o 10 (.mv (tv 0)),
 oa 11 (.call (kf 228) [(true, (tv 10)), (false, (ki 1))] []) 384,
 o 9 (.mv (tv 11))] [] [0, 2, 3, 9])
 (.cond (tv 9) (.seq (.region [] [o 12 (.mv (tv 3)),
 o 13 (.mv (tv 0)),
 oa 14 (.call (kf 221) [(true, (tv 13)), (false, (ki 1))] []) 640,
 o 15 (.build [zi, zi, zs, zi, .nil, .nil, zi, zs, zi, zi, .nil] [(0, 1, (ki 1)), (1, 1, (tv 12)), (2, 1, (tv 14))]),
 on (.store 11 (tv 2) (tv 15) [])] [] [2])
 .ret)
 (.seq (.region [] [o 17 (.mv (tv 0)),
 oa 18 (.call (kf 228) [(true, (tv 17)), (false, (ki 2))] []) 896,
 o 16 (.mv (tv 18))] [] [0, 2, 3, 16])
 (.cond (tv 16) (.seq (.region [] [o 19 (.mv (tv 3)),
 o 20 (.mv (tv 0)),
 oa 21 (.call (kf 221) [(true, (tv 20)), (false, (ki 2))] []) 1152,
 o 22 (.build [zi, zi, zs, zi, .nil, .nil, zi, zs, zi, zi, .nil] [(0, 1, (ki 2)), (1, 1, (tv 19)), (2, 1, (tv 21))]),
 on (.store 11 (tv 2) (tv 22) [])] [] [2])
 .ret)
 (.seq (.region [] [o 24 (.mv (tv 0)),
 oa 25 (.call (kf 228) [(true, (tv 24)), (false, (ki 3))] []) 1408,
 o 23 (.mv (tv 25))] [] [0, 2, 3, 23])
 (.cond (tv 23) (.seq (.region [] [o 26 (.mv (tv 3)),
 o 27 (.mv (tv 0)),
 oa 28 (.call (kf 221) [(true, (tv 27)), (false, (ki 3))] []) 1664,
 oa 29 (.call (kf 257) [(false, (tv 28))] []) 1728,
 o 30 (.build [zi, zi, zs, zi, .nil, .nil, zi, zs, zi, zi, .nil] [(0, 1, (ki 3)), (1, 1, (tv 26)), (3, 1, (tv 29))]),
 on (.store 11 (tv 2) (tv 30) [])] [] [2])
 .ret)
 (.seq (.region [] [o 32 (.mv (tv 0)),
 oa 33 (.call (kf 220) [(true, (tv 32)), (false, (.k (.sc (.c (.str [63])))))] []) 1984,
 o 31 (.mv (tv 33))] [] [0, 2, 3, 31])
 (.cond (tv 31) (.seq (.region [] [o 34 (.mv (tv 3)),
 o 35 (.build [zi, zi, zs, zi, .nil, .nil, zi, zs, zi, zi, .nil] [(0, 1, (ki 10)), (1, 1, (tv 34))]),
 on (.store 11 (tv 2) (tv 35) [])] [] [2])
 .ret)
 (.seq (.region [] [o 37 (.mv (tv 0)),
 oa 38 (.call (kf 220) [(true, (tv 37)), (false, (.k (.sc (.c (.str [123])))))] []) 2368,
 o 36 (.mv (tv 38))] [] [0, 2, 3, 36])
 (.cond (tv 36) (.seq (.region [] [o 39 (.mv (tv 0)),
 oa 40 (.call (kf 169) [(true, (tv 39))] []) 2560,
 oa 4 (.new [zi, zi, zs, zi, .nil, .nil, zi, zs, zi, zi, .nil] []) 2624,
 on (.store 11 (tv 4) (tv 40) [])] [] [0, 2, 3, 4])
 (.seq (.region [] [o 41 (.mv (tv 0)),
 oa 42 (.call (kf 222) [(true, (tv 41)), (false, (.k (.sc (.c (.str [125])))))] []) 2816] [] [2, 3, 4])
 (.seq (.region [] [o 43 (.mv (tv 3)),
 o 44 (.load true 11 (tv 4)),
 oa 45 (.mkSl 11 [(tv 44)]) 3008,
 o 46 (.build [zi, zi, zs, zi, .nil, .nil, zi, zs, zi, zi, .nil] [(0, 1, (ki 11)), (1, 1, (tv 43)), (4, 1, (tv 45))]),
 on (.store 11 (tv 2) (tv 46) [])] [] [2])
 .ret)))
 .skip)))))))))))
 (.seq (.region [] [o 47 (.mv (tv 0)),
 oa 48 (.call (kf 222) [(true, (tv 47)), (false, (.k (.sc (.c (.str [40])))))] []) 3264] [] [0, 2, 3])
 (.seq (.seq (.region [] [o 49 (.mv (tv 0)),
 o 50 (.nn (tv 49)),
 o 51 (.fld 2 (tv 50)),
 o 52 (.load false 1 (tv 51))] [] [0, 2, 3, 52])
 (.cond (tv 52) (.seq (.region [] [o 53 (.build [zi, zi, zs, zi, .nil, .nil, zi, zs, zi, zi, .nil] []),
 on (.store 11 (tv 2) (tv 53) [])] [] [2])
 .ret)
 .skip))
 (.seq (.region [] [o 54 (.mv (tv 0)),
 oa 55 (.call (kf 169) [(true, (tv 54))] []) 3776,
 oa 5 (.new [zi, zi, zs, zi, .nil, .nil, zi, zs, zi, zi, .nil] []) 3840,
 on (.store 11 (tv 5) (tv 55) [])] [] [0, 2, 3, 5])
 (.seq (.seq (.region [] [o 56 (.mv (tv 0)),
 oa 57 (.call (kf 220) [(true, (tv 56)), (false, (.k (.sc (.c (.str [58])))))] []) 4032] [] [0, 2, 3, 5, 57])
 (.cond (tv 57) (.seq (.region [] [o 58 (.mv (tv 0)),
 oa 59 (.call (kf 231) [(true, (tv 58))] []) 4160,
 oa 6 (.new [zi, zs, zi, zi, .nil] []) 4224,
 on (.store 5 (tv 6) (tv 59) [])] [] [0, 2, 3, 5, 6])
 (.region [] [o 60 (.mv (tv 3)),
 o 61 (.load true 11 (tv 5)),
 oa 62 (.mkSl 11 [(tv 61)]) 4480,
 o 63 (.load true 5 (tv 6)),
 o 64 (.build [zi, zi, zs, zi, .nil, .nil, zi, zs, zi, zi, .nil] [(0, 1, (ki 9)), (1, 1, (tv 60)), (4, 1, (tv 62)), (6, 5, (tv 63))]),
 on (.store 11 (tv 5) (tv 64) [])] [] [0, 2, 5]))
 .skip))
 (.seq (.region [4224] [o 65 (.mv (tv 0)),
 oa 66 (.call (kf 222) [(true, (tv 65)), (false, (.k (.sc (.c (.str [41])))))] []) 4800] [] [2, 5])
 (.seq (.region [] [o 67 (.load true 11 (tv 5)),
 on (.store 11 (tv 2) (tv 67) [])] [] [2])
 .ret))))))))),
 [.cell 2 true 11], false⟩

def v225 : VFun := ⟨1,
 (.seq (.region [] [oa 1 (.box (tv 0)) 64,
 o 2 (.mv kF)] [] [1])
 (.seq (.seq (.region [] [o 3 (.fld 0 (tv 1)),
 o 4 (.load false 1 (tv 3))] [] [1, 4])
 (.block 0 (.seq (.seq (.region [] [o 6 (.bin .eql 0 (tv 4) (ki 1)),
 o 5 (.mv (tv 6))] [] [1, 4, 5])
 (.cond (tv 5) .skip
 (.seq (.region [] [o 7 (.bin .eql 0 (tv 4) (ki 2)),
 o 5 (.mv (tv 7))] [] [1, 4, 5])
 (.cond (tv 5) .skip
 (.region [] [o 8 (.bin .eql 0 (tv 4) (ki 3)),
 o 5 (.mv (tv 8))] [] [1, 4, 5])))))
 (.cond (tv 5) (.seq (.region [] [o 2 (.mv kt)] [] [2])
 .ret)
 (.seq (.region [] [o 10 (.bin .eql 0 (tv 4) (ki 5)),
 o 9 (.mv (tv 10))] [] [1, 9])
 (.cond (tv 9) (.seq (.region [] [o 11 (.fld 1 (tv 1)),
 o 12 (.load false 1 (tv 11)),
 o 13 (.bin .eql 0 (tv 12) (.k (.sc (.c (.str [63]))))),
 o 14 (.mv (tv 13)),
 og 15 (.fld 1 (tv 1)) 14 false,
 og 16 (.load false 1 (tv 15)) 14 false,
 og 17 (.bin .eql 0 (tv 16) (.k (.sc (.c (.str [40]))))) 14 false,
 o 18 (.pick (tv 14) kt (tv 17)),
 o 19 (.mv (tv 18)),
 og 20 (.fld 1 (tv 1)) 19 false,
 og 21 (.load false 1 (tv 20)) 19 false,
 og 22 (.bin .eql 0 (tv 21) (.k (.sc (.c (.str [123]))))) 19 false,
 o 23 (.pick (tv 19) kt (tv 22)),
 o 2 (.mv (tv 23))] [] [2])
 .ret)
 .skip))))))
 (.seq (.region [] [o 2 (.mv kF)] [] [2])
 .ret))),
 [.tmp 2], false⟩

def l226_0 : VCode := (.seq (.seq (.region [] [o 8 (.mv (tv 5)),
 o 9 (.mv (tv 4)),
 o 10 (.len false (tv 9)),
 o 11 (.bin .lss 0 (tv 8) (tv 10))] [] [3, 4, 5, 11])
 (.cond (tv 11) .skip
 (.exit 0)))
 (.seq (.block 1 (.region [] [o 14 (.mv (tv 3)),
 o 15 (.mv (tv 4)),
 o 16 (.mv (tv 5)),
 o 17 (.idxA 11 (tv 15) (tv 16)),
 o 18 (.load true 11 (tv 17)),
 oa 19 (.call (kf 226) [(false, (tv 18))] []) 1088,
 o 20 (.bin .add 0 (ki 1) (tv 19)),
 o 21 (.mx (tv 14) (tv 20)),
 o 3 (.mv (tv 21))] [] [3, 4, 5]))
 (.region [] [o 12 (.mv (tv 5)),
 o 13 (.bin .add 0 (tv 12) (ki 1)),
 o 5 (.mv (tv 13))] [] [3, 4, 5])))

def v226 : VFun := ⟨1,
 (.seq (.region [] [oa 1 (.box (tv 0)) 64,
 o 2 (.mv (ki 0))] [] [1])
 (.seq (.region [] [o 3 (.mv (ki 0))] [] [1, 3])
 (.seq (.region [] [o 6 (.load true 11 (tv 1)),
 oa 7 (.call (kf 69) [(false, (tv 6))] []) 320,
 o 4 (.mv (tv 7))] [] [3, 4])
 (.seq (.seq (.region [64] [o 5 (.mv (ki 0))] [] [3, 4, 5])
 (.block 0 (.loop l226_0)))
 (.seq (.region [] [o 22 (.mv (tv 3)),
 o 2 (.mv (tv 22))] [] [2])
 .ret))))),
 [.tmp 2], false⟩

def l227_0 : VCode := (.seq (.seq (.region [] [o 16 (.mv (tv 4)),
 o 17 (.mv (tv 3)),
 o 18 (.len false (tv 17)),
 o 19 (.bin .lss 0 (tv 16) (tv 18))] [] [3, 4, 19])
 (.cond (tv 19) .skip
 (.exit 0)))
 (.seq (.block 1 (.seq (.region [] [o 22 (.mv (tv 3)),
 o 23 (.mv (tv 4)),
 o 24 (.idxA 11 (tv 22) (tv 23)),
 o 25 (.load true 11 (tv 24)),
 oa 26 (.call (kf 227) [(false, (tv 25))] []) 1600] [] [3, 4, 26])
 (.cond (tv 26) (.seq (.region [] [o 2 (.mv kt)] [] [2])
 .ret)
 .skip)))
 (.region [] [o 20 (.mv (tv 4)),
 o 21 (.bin .add 0 (tv 20) (ki 1)),
 o 4 (.mv (tv 21))] [] [3, 4])))

def v227 : VFun := ⟨1,
 (.seq (.region [] [oa 1 (.box (tv 0)) 64,
 o 2 (.mv kF)] [] [1])
 (.seq (.seq (.region [] [o 5 (.fld 0 (tv 1)),
 o 6 (.load false 1 (tv 5)),
 o 7 (.bin .eql 0 (tv 6) (ki 9)),
 o 8 (.mv (tv 7)),
 og 9 (.fld 6 (tv 1)) 8 true,
 og 10 (.load true 5 (tv 9)) 8 true,
 ⟨(some 11), (.call (kf 232) [(false, (tv 10))] []), (some (8, true)), 576, []⟩,
 og 12 (.bin .gtr 0 (tv 11) (ki 40)) 8 true,
 o 13 (.pick (tv 8) (tv 12) kF)] [] [1, 13])
 (.cond (tv 13) (.seq (.region [] [o 2 (.mv kt)] [] [2])
 .ret)
 .skip))
 (.seq (.region [] [o 14 (.load true 11 (tv 1)),
 oa 15 (.call (kf 69) [(false, (tv 14))] []) 896,
 o 3 (.mv (tv 15))] [] [3])
 (.seq (.seq (.region [64] [o 4 (.mv (ki 0))] [] [3, 4])
 (.block 0 (.loop l227_0)))
 (.seq (.region [] [o 2 (.mv kF)] [] [2])
 .ret))))),
 [.tmp 2], false⟩

def l69_0 : VCode := (.seq (.seq (.region [] [o 8 (.mv (tv 4)),
 o 9 (.fld 5 (tv 1)),
 o 10 (.load false 1 (tv 9)),
 o 11 (.len false (tv 10)),
 o 12 (.bin .lss 0 (tv 8) (tv 11))] [] [1, 3, 4, 12])
 (.cond (tv 12) .skip
 (.exit 0)))
 (.seq (.block 1 (.region [] [o 15 (.mv (tv 3)),
 o 16 (.fld 5 (tv 1)),
 o 17 (.load false 1 (tv 16)),
 o 18 (.mv (tv 4)),
 o 19 (.idxA 14 (tv 17) (tv 18)),
 o 20 (.fld 3 (tv 19)),
 o 21 (.load true 11 (tv 20)),
 oa 22 (.mkSl 11 [(tv 21)]) 1280,
 o 23 (.app 11 152 false (tv 15) (tv 22)),
 o 3 (.mv (tv 23))] [] [1, 3, 4]))
 (.region [1280] [o 13 (.mv (tv 4)),
 o 14 (.bin .add 0 (tv 13) (ki 1)),
 o 4 (.mv (tv 14))] [] [1, 3, 4])))

def v69 : VFun := ⟨1,
 (.seq (.region [] [oa 1 (.box (tv 0)) 64,
 o 2 (.mv kn)] [] [1])
 (.seq (.region [] [o 5 (.fld 4 (tv 1)),
 o 6 (.load false 1 (tv 5)),
 oa 7 (.app 11 152 true kn (tv 6)) 320,
 o 3 (.mv (tv 7))] [] [1, 3])
 (.seq (.seq (.region [] [o 4 (.mv (ki 0))] [] [1, 3, 4])
 (.block 0 (.loop l69_0)))
 (.seq (.region [] [o 24 (.mv (tv 3)),
 o 2 (.mv (tv 24))] [] [2])
 .ret)))),
 [.tmp 2], true⟩

def l147_0 : VCode := (.seq (.seq (.region [] [o 11 (.mv (tv 5)),
 o 12 (.mv (tv 0)),
 o 13 (.len false (tv 12)),
 o 14 (.bin .lss 0 (tv 11) (tv 13))] [] [0, 1, 5, 14])
 (.cond (tv 14) .skip
 (.exit 0)))
 (.seq (.block 1 (.seq (.region [] [o 17 (.mv (tv 0)),
 o 18 (.mv (tv 5)),
 o 19 (.idxA 5 (tv 17) (tv 18)),
 o 20 (.load true 5 (tv 19)),
 o 21 (.mv (tv 1)),
 o 22 (.mv (tv 5)),
 o 23 (.idxA 5 (tv 21) (tv 22)),
 o 24 (.load true 5 (tv 23)),
 oa 25 (.call (kf 84) [(false, (tv 20)), (false, (tv 24))] []) 1344,
 o 26 (.un .not (tv 25))] [(2, 6), (3, 6), (2, 7), (3, 7)] [0, 1, 5, 26])
 (.cond (tv 26) (.seq (.region [] [o 4 (.mv kF)] [] [4])
 .ret)
 .skip)))
 (.region [] [o 15 (.mv (tv 5)),
 o 16 (.bin .add 0 (tv 15) (ki 1)),
 o 5 (.mv (tv 16))] [] [0, 1, 5])))

def v147 : VFun := ⟨2,
 (.seq (.region [] [o 4 (.mv kF)] [] [0, 1])
 (.seq (.seq (.region [] [o 6 (.mv (tv 0)),
 o 7 (.len false (tv 6)),
 o 8 (.mv (tv 1)),
 o 9 (.len false (tv 8)),
 o 10 (.bin .neq 0 (tv 7) (tv 9))] [] [0, 1, 10])
 (.cond (tv 10) (.seq (.region [] [o 4 (.mv kF)] [] [4])
 .ret)
 .skip))
 (.seq (.seq (.region [] [o 5 (.mv (ki 0))] [] [0, 1, 5])
 (.block 0 (.loop l147_0)))
 (.seq (.region [] [o 4 (.mv kt)] [] [4])
 .ret)))),
 [.tmp 4], false⟩

def v259 : VFun := ⟨1,
 (.seq (.region [] [o 2 (.mv (.k (.sc zs)))] [] [0])
 (.seq (.region [] [o 3 (.mv (tv 0)),
 oa 4 (.call (kf 264) [(false, (tv 3)), (false, (ki 10))] []) 192,
 o 2 (.mv (tv 4))] [] [2])
 .ret)),
 [.tmp 2], false⟩

def v260 : VFun := ⟨1,
 (.seq (.region [] [o 2 (.mv (ki 0))] [] [0])
 (.seq (.seq (.region [] [o 3 (.mv (tv 0)),
 o 4 (.bin .eql 0 (tv 3) (.k (.sc (.c (.int .u32 0)))))] [] [0, 4])
 (.cond (tv 4) (.seq (.region [] [o 2 (.mv (ki 32))] [] [2])
 .ret)
 .skip))
 (.seq (.region [] [o 5 (.mv (tv 0)),
 o 6 (.mv (tv 0)),
 o 7 (.un .neg (tv 6)),
 o 8 (.bin .and 0 (tv 5) (tv 7)),
 o 9 (.bin .mul 0 (tv 8) (.k (.sc (.c (.int .u32 125613361))))),
 o 10 (.bin .shr 0 (tv 9) (.k (.sc (.c (.int .u64 27))))),
 o 11 (.idxAA 1 32 (.g 3) (tv 10)),
 o 12 (.load false 1 (tv 11)),
 o 13 (.cvI .i64 (tv 12)),
 o 2 (.mv (tv 13))] [] [2])
 .ret))),
 [.tmp 2], false⟩

def v261 : VFun := ⟨1,
 (.seq (.region [] [o 2 (.mv (ki 0))] [] [0])
 (.seq (.seq (.region [] [o 3 (.mv (tv 0)),
 o 4 (.bin .eql 0 (tv 3) (.k (.sc (.c (.int .u64 0)))))] [] [0, 4])
 (.cond (tv 4) (.seq (.region [] [o 2 (.mv (ki 64))] [] [2])
 .ret)
 .skip))
 (.seq (.region [] [o 5 (.mv (tv 0)),
 o 6 (.mv (tv 0)),
 o 7 (.un .neg (tv 6)),
 o 8 (.bin .and 0 (tv 5) (tv 7)),
 o 9 (.bin .mul 0 (tv 8) (.k (.sc (.c (.int .u64 285870213051353865))))),
 o 10 (.bin .shr 0 (tv 9) (.k (.sc (.c (.int .u64 58))))),
 o 11 (.idxAA 1 64 (.g 4) (tv 10)),
 o 12 (.load false 1 (tv 11)),
 o 13 (.cvI .i64 (tv 12)),
 o 2 (.mv (tv 13))] [] [2])
 .ret))),
 [.tmp 2], false⟩

def v262 : VFun := ⟨4,
 (.seq (.region [] [o 8 (.mv (ki 0)),
 o 9 (.mv (ki 0))] [] [0, 1, 2, 3])
 (.seq (.seq (.region [] [o 10 (.mv (tv 0)),
 o 11 (.mv (tv 2)),
 o 12 (.idxA 1 (tv 10) (tv 11)),
 o 13 (.load false 1 (tv 12)),
 o 14 (.mv (tv 0)),
 o 15 (.mv (tv 1)),
 o 16 (.idxA 1 (tv 14) (tv 15)),
 o 17 (.load false 1 (tv 16)),
 oa 18 (.call (kf 198) [(false, (tv 13)), (false, (tv 17))] []) 704] [(2, 6), (3, 6), (2, 7), (3, 7)] [1, 2, 3, 18])
 (.cond (tv 18) (.seq (.region [] [o 19 (.mv (tv 3)),
 o 20 (.nn (tv 19)),
 o 21 (.load false 1 (tv 20)),
 o 22 (.bin .add 0 (tv 21) (ki 1)),
 o 23 (.nn (tv 19)),
 on (.store 1 (tv 23) (tv 22) [])] [] [1, 2])
 (.seq (.region [] [o 24 (.mv (tv 2)),
 o 25 (.mv (tv 1)),
 o 8 (.mv (tv 24)),
 o 9 (.mv (tv 25))] [] [8, 9])
 .ret))
 .skip))
 (.seq (.region [] [o 26 (.mv (tv 1)),
 o 27 (.mv (tv 2)),
 o 8 (.mv (tv 26)),
 o 9 (.mv (tv 27))] [] [8, 9])
 .ret))),
 [.tmp 8, .tmp 9], false⟩

def l263_0 : VCode := (.seq (.seq (.region [] [o 4 (.mv (tv 3)),
 o 5 (.mv (tv 0)),
 o 6 (.len true (tv 5)),
 o 7 (.bin .lss 0 (tv 4) (tv 6))] [] [0, 3, 7])
 (.cond (tv 7) .skip
 (.exit 0)))
 (.seq (.block 1 (.seq (.region [] [o 10 (.mv (tv 0)),
 o 11 (.mv (tv 3)),
 o 12 (.idxS (tv 10) (tv 11)),
 oa 13 (.call (kf 217) [(false, (tv 12))] []) 640,
 o 14 (.un .not (tv 13))] [] [0, 3, 14])
 (.cond (tv 14) (.seq (.region [] [o 2 (.mv kF)] [] [2])
 .ret)
 .skip)))
 (.region [] [o 8 (.mv (tv 3)),
 o 9 (.bin .add 0 (tv 8) (ki 1)),
 o 3 (.mv (tv 9))] [] [0, 3])))

def v263 : VFun := ⟨1,
 (.seq (.region [] [o 2 (.mv kF)] [] [0])
 (.seq (.seq (.region [] [o 3 (.mv (ki 0))] [] [0, 3])
 (.block 0 (.loop l263_0)))
 (.seq (.region [] [o 15 (.mv (tv 0)),
 o 16 (.bin .neq 0 (tv 15) (.k (.sc zs))),
 o 2 (.mv (tv 16))] [] [2])
 .ret))),
 [.tmp 2], false⟩

def l257_0 : VCode := (.seq (.seq (.region [] [o 5 (.mv (tv 4)),
 o 6 (.mv (tv 0)),
 o 7 (.len true (tv 6)),
 o 8 (.bin .lss 0 (tv 5) (tv 7))] [] [0, 3, 4, 8])
 (.cond (tv 8) .skip
 (.exit 0)))
 (.seq (.block 1 (.region [] [o 11 (.mv (tv 3)),
 o 12 (.bin .mul 0 (ki 10) (tv 11)),
 o 13 (.mv (tv 0)),
 o 14 (.mv (tv 4)),
 o 15 (.idxS (tv 13) (tv 14)),
 o 16 (.bin .sub 0 (tv 15) (.k (.sc (.c (.int .u8 48))))),
 o 17 (.cvI .i64 (tv 16)),
 o 18 (.bin .add 0 (tv 12) (tv 17)),
 o 3 (.mv (tv 18))] [] [0, 3, 4]))
 (.region [] [o 9 (.mv (tv 4)),
 o 10 (.bin .add 0 (tv 9) (ki 1)),
 o 4 (.mv (tv 10))] [] [0, 3, 4])))

def v257 : VFun := ⟨1,
 (.seq (.region [] [o 2 (.mv (ki 0))] [] [0])
 (.seq (.region [] [o 3 (.mv (ki 0))] [] [0, 3])
 (.seq (.seq (.region [] [o 4 (.mv (ki 0))] [] [0, 3, 4])
 (.block 0 (.loop l257_0)))
 (.seq (.region [] [o 19 (.mv (tv 3)),
 o 2 (.mv (tv 19))] [] [2])
 .ret)))),
 [.tmp 2], false⟩

def v264 : VFun := ⟨2,
 (.seq (.region [] [o 4 (.mv (.k (.sc zs)))] [] [0, 1])
 (.seq (.seq (.region [] [o 10 (.mv (tv 1)),
 o 11 (.bin .eql 0 (tv 10) (ki 10))] [] [0, 1, 11])
 (.cond (tv 11) (.seq (.seq (.region [] [o 12 (.mv (tv 0)),
 o 13 (.bin .leq 0 (ki 0) (tv 12)),
 o 14 (.mv (tv 13)),
 og 15 (.mv (tv 0)) 14 true,
 og 16 (.bin .lss 0 (tv 15) (ki 100)) 14 true,
 o 17 (.pick (tv 14) (tv 16) kF)] [] [0, 17])
 (.cond (tv 17) (.seq (.region [] [o 18 (.mv (tv 0)),
 oa 19 (.call (kf 188) [(false, (tv 18))] []) 704,
 o 4 (.mv (tv 19))] [] [4])
 .ret)
 .skip))
 (.seq (.region [] [oa 5 (.new [(.c (.int .u8 0)), (.c (.int .u8 0)), (.c (.int .u8 0)), (.c (.int .u8 0)), (.c (.int .u8 0)), (.c (.int .u8 0)), (.c (.int .u8 0)), (.c (.int .u8 0)), (.c (.int .u8 0)), (.c (.int .u8 0)), (.c (.int .u8 0)), (.c (.int .u8 0)), (.c (.int .u8 0)), (.c (.int .u8 0)), (.c (.int .u8 0)), (.c (.int .u8 0)), (.c (.int .u8 0)), (.c (.int .u8 0)), (.c (.int .u8 0)), (.c (.int .u8 0)), (.c (.int .u8 0)), (.c (.int .u8 0)), (.c (.int .u8 0)), (.c (.int .u8 0))] []) 832] [] [0, 5])
 (.seq (.region [] [o 20 (.mv (tv 0)),
 o 21 (.cvI .u64 (tv 20)),
 o 6 (.mv (tv 21))] [] [0, 5, 6])
 (.seq (.seq (.region [] [o 22 (.mv (tv 0)),
 o 23 (.bin .lss 0 (tv 22) (ki 0))] [] [0, 5, 6, 23])
 (.cond (tv 23) (.region [] [o 24 (.mv (tv 6)),
 o 25 (.un .neg (tv 24)),
 o 6 (.mv (tv 25))] [] [0, 5, 6])
 .skip))
 (.seq (.region [] [o 26 (.mv (tv 6)),
 oa 27 (.call (kf 189) [(false, (tv 26))] []) 1472,
 o 7 (.mv (tv 27))] [] [0, 5, 6, 7])
 (.seq (.region [] [o 28 (.mv (tv 7)),
 o 29 (.bin .add 0 (ki 1) (tv 28)),
 o 30 .bad,
 o 31 (.mv (tv 6)),
 oa 32 (.call (kf 190) [(false, (tv 30)), (false, (tv 31))] []) 1856] [] [0, 5, 7])
 (.seq (.seq (.region [] [o 33 (.mv (tv 0)),
 o 34 (.bin .lss 0 (tv 33) (ki 0))] [] [5, 7, 34])
 (.cond (tv 34) (.seq (.region [] [o 35 (.idxAA 1 24 (tv 5) (ki 0)),
 on (.store 1 (tv 35) (.k (.sc (.c (.int .u8 45)))) [])] [] [7])
 (.seq (.region [832] [o 36 (.mv (tv 7)),
 o 37 (.bin .add 0 (ki 1) (tv 36)),
 o 38 .bad,
 o 39 .bad,
 o 4 (.mv (tv 39))] [] [4])
 .ret))
 .skip))
 (.seq (.region [] [o 40 (.mv (tv 7)),
 o 41 (.bin .add 0 (ki 1) (tv 40)),
 o 42 .bad,
 o 43 .bad,
 o 4 (.mv (tv 43))] [] [4])
 .ret))))))))
 .skip))
 (.seq (.region [] [o 45 (.mv (tv 0)),
 o 46 (.cvI .u64 (tv 45)),
 o 47 (.mv (tv 1)),
 o 48 (.mv (tv 0)),
 o 49 (.bin .lss 0 (tv 48) (ki 0)),
 oa 50 (.call (kf 191) [(false, kn), (false, (tv 46)), (false, (tv 47)), (false, (tv 49)), (false, kF)] []) 3136,
 o 44 (.mv (tv 50)),
 o 51 (.ext 0 (tv 44)),
 o 52 (.ext 1 (tv 44)),
 o 8 (.mv (tv 51)),
 o 9 (.mv (tv 52))] [] [9])
 (.seq (.region [] [o 53 (.mv (tv 9)),
 o 4 (.mv (tv 53))] [] [4])
 .ret)))),
 [.tmp 4], false⟩

set_option maxRecDepth 100000 in
theorem m256 : mFun Go.Proofs.Tryz.prog 256 v256 = true := by kernel_rfl
set_option maxRecDepth 100000 in
theorem m170 : mFun Go.Proofs.Tryz.prog 170 v170 = true := by kernel_rfl
set_option maxRecDepth 100000 in
theorem m258 : mFun Go.Proofs.Tryz.prog 258 v258 = true := by kernel_rfl
set_option maxRecDepth 100000 in
theorem m223 : mFun Go.Proofs.Tryz.prog 223 v223 = true := by kernel_rfl
set_option maxRecDepth 100000 in
theorem m224 : mFun Go.Proofs.Tryz.prog 224 v224 = true := by kernel_rfl
set_option maxRecDepth 100000 in
theorem m225 : mFun Go.Proofs.Tryz.prog 225 v225 = true := by kernel_rfl
set_option maxRecDepth 100000 in
theorem m226 : mFun Go.Proofs.Tryz.prog 226 v226 = true := by kernel_rfl
set_option maxRecDepth 100000 in
theorem m227 : mFun Go.Proofs.Tryz.prog 227 v227 = true := by kernel_rfl
set_option maxRecDepth 100000 in
theorem m69 : mFun Go.Proofs.Tryz.prog 69 v69 = true := by kernel_rfl
set_option maxRecDepth 100000 in
theorem m147 : mFun Go.Proofs.Tryz.prog 147 v147 = true := by kernel_rfl
set_option maxRecDepth 100000 in
theorem m259 : mFun Go.Proofs.Tryz.prog 259 v259 = true := by kernel_rfl
set_option maxRecDepth 100000 in
theorem m260 : mFun Go.Proofs.Tryz.prog 260 v260 = true := by kernel_rfl
set_option maxRecDepth 100000 in
theorem m261 : mFun Go.Proofs.Tryz.prog 261 v261 = true := by kernel_rfl
set_option maxRecDepth 100000 in
theorem m262 : mFun Go.Proofs.Tryz.prog 262 v262 = true := by kernel_rfl
set_option maxRecDepth 100000 in
theorem m263 : mFun Go.Proofs.Tryz.prog 263 v263 = true := by kernel_rfl
set_option maxRecDepth 100000 in
theorem m257 : mFun Go.Proofs.Tryz.prog 257 v257 = true := by kernel_rfl
set_option maxRecDepth 100000 in
theorem m264 : mFun Go.Proofs.Tryz.prog 264 v264 = true := by kernel_rfl

end Go.Vs.Tryz

/- The tables. -/
namespace Go.Vs.Tryz
open Go Go.Vs

def tab : List (Nat × VFun) := [(3, v3), (12, v12), (13, v13), (14, v14), (15, v15), (16, v16), (47, v47), (46, v46), (48, v48), (49, v49), (41, v41), (44, v44), (23, v23), (50, v50), (52, v52), (53, v53), (51, v51), (54, v54), (57, v57), (58, v58), (63, v63), (64, v64), (100, v100), (62, v62), (99, v99), (28, v28), (71, v71), (101, v101), (34, v34), (103, v103), (70, v70), (102, v102), (104, v104), (27, v27), (56, v56), (55, v55), (60, v60), (59, v59), (61, v61), (110, v110), (111, v111), (112, v112), (113, v113), (114, v114), (115, v115), (116, v116), (79, v79), (117, v117), (118, v118), (42, v42), (119, v119), (120, v120), (121, v121), (98, v98), (122, v122), (123, v123), (109, v109), (150, v150), (73, v73), (74, v74), (75, v75), (76, v76), (77, v77), (129, v129), (155, v155), (128, v128), (151, v151), (152, v152), (153, v153), (154, v154), (106, v106), (107, v107), (108, v108), (105, v105), (157, v157), (158, v158), (159, v159), (160, v160), (161, v161), (162, v162), (163, v163), (164, v164), (65, v65), (165, v165), (166, v166), (212, v212), (211, v211), (134, v134), (135, v135), (136, v136), (137, v137), (139, v139), (138, v138), (167, v167), (168, v168), (173, v173), (174, v174), (175, v175), (176, v176), (213, v213), (156, v156), (214, v214), (215, v215), (216, v216), (124, v124), (247, v247), (181, v181), (182, v182), (183, v183), (184, v184), (185, v185), (186, v186), (187, v187), (188, v188), (189, v189), (190, v190), (191, v191), (201, v201), (202, v202), (192, v192), (193, v193), (194, v194), (195, v195), (196, v196), (197, v197), (198, v198), (199, v199), (200, v200), (217, v217), (218, v218), (219, v219), (222, v222), (221, v221), (228, v228), (229, v229), (230, v230), (220, v220), (231, v231), (169, v169), (232, v232), (171, v171), (172, v172), (84, v84), (248, v248), (235, v235), (234, v234), (236, v236), (237, v237), (238, v238), (239, v239), (240, v240), (241, v241), (242, v242), (243, v243), (244, v244), (245, v245), (249, v249), (250, v250), (251, v251), (252, v252), (253, v253), (254, v254), (255, v255), (256, v256), (170, v170), (258, v258), (223, v223), (224, v224), (225, v225), (226, v226), (227, v227), (69, v69), (147, v147), (259, v259), (260, v260), (261, v261), (262, v262), (263, v263), (257, v257), (264, v264)]
def T : FuncId → Option VFun := get? tab

set_option maxRecDepth 100000 in
theorem T_ok : ∀ f vf, T f = some vf → mFun Go.Proofs.Tryz.prog f vf = true := AllT.get (l := tab) ⟨m3, m12, m13, m14, m15, m16, m47, m46, m48, m49, m41, m44, m23, m50, m52, m53, m51, m54, m57, m58, m63, m64, m100, m62, m99, m28, m71, m101, m34, m103, m70, m102, m104, m27, m56, m55, m60, m59, m61, m110, m111, m112, m113, m114, m115, m116, m79, m117, m118, m42, m119, m120, m121, m98, m122, m123, m109, m150, m73, m74, m75, m76, m77, m129, m155, m128, m151, m152, m153, m154, m106, m107, m108, m105, m157, m158, m159, m160, m161, m162, m163, m164, m65, m165, m166, m212, m211, m134, m135, m136, m137, m139, m138, m167, m168, m173, m174, m175, m176, m213, m156, m214, m215, m216, m124, m247, m181, m182, m183, m184, m185, m186, m187, m188, m189, m190, m191, m201, m202, m192, m193, m194, m195, m196, m197, m198, m199, m200, m217, m218, m219, m222, m221, m228, m229, m230, m220, m231, m169, m232, m171, m172, m84, m248, m235, m234, m236, m237, m238, m239, m240, m241, m242, m243, m244, m245, m249, m250, m251, m252, m253, m254, m255, m256, m170, m258, m223, m224, m225, m226, m227, m69, m147, m259, m260, m261, m262, m263, m257, m264, trivial⟩

def cab : List (Nat × VFun) := [(133, v133), (144, v144), (95, v95), (140, v140)]
def Tc : FuncId → Option VFun := get? cab

set_option maxRecDepth 100000 in
theorem Tc_ok : ∀ f vf, Tc f = some vf → mFun Go.Proofs.Tryz.prog f vf = true := AllT.get (l := cab) ⟨m133, m144, m95, m140, trivial⟩

theorem follows : Go.Proofs.Tryz.prog.follows .mixedOrders = true := by kernel_rfl

end Go.Vs.Tryz

/- The library's Clone of a string at this program: its contract, by a walk (lines of a worked proof of the kit, turned to this program). -/
namespace Go.Vs.Tryz
open Go Go.RowKit Go.Proofs Go.Vs

theorem info5 : (Go.Proofs.Tryz.prog.info? 5).map (fun i => (i.zero, i.size, i.bytes)) = some (some (Value.int IntKind.u8 0), 1, 1) := by kernel_rfl

theorem info_of5 : ∃ i0 : TypeInfo, Go.Proofs.Tryz.prog.info? 5 = some i0 ∧ i0.zero = some (.int .u8 0) ∧ i0.size = 1 ∧ i0.bytes = 1 := by
  have h := info5
  cases hi : Go.Proofs.Tryz.prog.info? 5 with
  | none => rw [hi] at h; cases h
  | some i =>
    rw [hi] at h
    simp only [Option.map_some, Option.some.injEq, Prod.mk.injEq] at h
    exact ⟨i, rfl, h.1, h.2.1, h.2.2⟩

set_option maxHeartbeats 4000000 in
set_option maxRecDepth 100000 in
theorem clone202 (s : ByteArray) (w : World) (hlim : s.size ≤ 281474976710656) :
    Calls Go.Proofs.Tryz.prog 233 #[.string s] w fun e w' => e = .returned (.string s) ∧ Below w.heap.size w w' := by
  by_cases h0 : s.size = 0
  · have hs : s = ⟨#[]⟩ := by
      apply ByteArray.ext
      exact Array.eq_empty_of_size_eq_zero h0
    subst hs
    go_enter Go.Proofs.Tryz.func233, Go.Proofs.Tryz.ntmps233
    go_wp2
    go_ret
    exact ⟨rfl, Below.refl _ _⟩
  · obtain ⟨i0, hi, hz0, hz1, hz2⟩ := info_of5
    have hinfo : (Go.Proofs.Tryz.prog.info? 5).map (·.size) = some 1 := by rw [hi]; simp [hz1]
    have hco : Go.Proofs.Tryz.prog.cellsOf 5 = 1 := by simp [Program.cellsOf, hi, hz1]
    obtain ⟨M, hM⟩ : ∃ M, M = madeCells (Value.int .u8 0).cells (((s.size : Nat) : Int).toNat * i0.size) := ⟨_, rfl⟩
    have hMs : M.size = s.size := by rw [hM, size_madeCells, hz1]; simp
    have hmk : ∀ W : World, (Instr.makeSlice 211 (.int .i64 (s.size : Int)) (.int .i64 (s.size : Int))).run Go.Proofs.Tryz.prog W = .ok (.slice (some ⟨W.heap.size, 0, none⟩) s.size s.size) (W.alloc (.cells M 5)) := fun W => by
      have h := run_make (P := Go.Proofs.Tryz.prog) W 211 5 i0 (.int .u8 0) Go.Proofs.Tryz.underlying211 hi hz0 .i64 .i64 (s.size : Int) (s.size : Int) (by omega) (by omega) (by rw [hz2]; omega) (by omega)
      rw [← hM] at h
      simpa using h
    clear hM
    have hcp := Lib.run_copy_row_string (P := Go.Proofs.Tryz.prog) (w.alloc (.cells M 5)) 211 9 3 5 w.heap.size 0 s.size s.size s M 5 Go.Proofs.Tryz.underlying211 hinfo (heap_alloc_new w _) (Nat.le_refl _) (by omega)
    obtain ⟨Y, hY⟩ : ∃ Y, Y = (M.toList.take 0 ++ Lib.byteCells s.data.toList ++ M.toList.drop (0 + s.size)).toArray := ⟨_, rfl⟩
    rw [← hY] at hcp
    have hYl : Y.toList = Lib.byteCells s.data.toList := by
      rw [hY, List.toList_toArray, List.take_zero, List.nil_append, List.drop_of_length_le (by rw [Array.length_toList]; omega), List.append_nil]
    have hYs : Y.size = s.size := by rw [← Array.length_toList, hYl, Lib.byteCells_length, ← Lib.size_eq]
    have hgY : ((w.alloc (.cells M 5)).setRow w.heap.size Y).heap[w.heap.size]? = some (.cells Y 5 (0, 0)) := setRow_heap _ _ M _ 5 (0, 0) (heap_alloc_new w _)
    have hne : s.data.toList ≠ [] := fun e => h0 (by rw [Lib.size_eq, e]; rfl)
    have hUS := Lib.run_unsafeString_row (P := Go.Proofs.Tryz.prog) ((w.alloc (.cells M 5)).setRow w.heap.size Y) 265 3 9 5 Go.Proofs.Tryz.underlying265 hco w.heap.size Y.size (by unfold World.shape?; rw [hgY]) s.data.toList hne (by rw [← Lib.size_eq]; omega) (by rw [← Lib.size_eq]; omega)
      (fun j x hx => Lib.cells_of_row hgY Y.size j _ (by rw [List.take_of_length_le (by rw [Array.length_toList]; exact Nat.le_refl _), hYl]; simp [Lib.byteCells, hx]))
    rw [← Lib.size_eq] at hUS
    clear hY
    go_enter Go.Proofs.Tryz.func233, Go.Proofs.Tryz.ntmps233
    go_wp2
    go_ret
    have hb1 : Below w.heap.size w (w.alloc (.cells M 5)) := (Below.refl _ w).alloc (Nat.le_refl _) _
    have hb2 : Below w.heap.size (w.alloc (.cells M 5)) ((w.alloc (.cells M 5)).setRow w.heap.size Y) := ⟨rfl, rfl, rfl, by simp, fun k hk => setRow_other _ _ _ _ (by omega)⟩
    exact ⟨rfl, Lib.below_freeze (hb1.trans hb2) (p := ⟨w.heap.size, 0, none⟩) (Nat.le_refl _) _⟩
end Go.Vs.Tryz

/- The oracle beside the tables: the library's Clone of strings, and Clone of empty slices; the package-level variables; the examples of the two chapters. -/
namespace Go.Vs.Tryz
open Go Go.Vs Go.RowKit

def tabOf (k : IntKind) (l : List Int) : List Cell := l.map fun n => .int k n
def pow10Tab : List Int := [1, 10, 100, 1000, 10000, 100000, 1000000, 10000000, 100000000, 1000000000, 10000000000, 100000000000, 1000000000000, 10000000000000, 100000000000000, 1000000000000000, 10000000000000000, 100000000000000000, 1000000000000000000, 10000000000000000000]
def de32Tab : List Int := [0, 1, 28, 2, 29, 14, 24, 3, 30, 22, 20, 15, 25, 17, 4, 8, 31, 27, 13, 23, 21, 19, 16, 7, 26, 12, 18, 6, 11, 5, 10, 9]
def de64Tab : List Int := [0, 1, 56, 2, 57, 49, 28, 3, 61, 58, 42, 50, 38, 29, 17, 4, 62, 47, 59, 36, 45, 43, 51, 22, 53, 39, 33, 30, 24, 18, 12, 5, 63, 55, 48, 27, 60, 41, 37, 16, 46, 35, 44, 21, 52, 32, 23, 11, 54, 26, 40, 15, 34, 20, 31, 10, 25, 14, 19, 9, 13, 8, 7, 6]
def errCell (s : List UInt8) : Cell := .ifc 266 true [.ro [.str s] 0]
def synText : List UInt8 := [105, 110, 118, 97, 108, 105, 100, 32, 115, 121, 110, 116, 97, 120]
def rngText : List UInt8 := [118, 97, 108, 117, 101, 32, 111, 117, 116, 32, 111, 102, 32, 114, 97, 110, 103, 101]

/-- What the package-level variables hold. -/
def gl5 : Nat → List Cell
  | 0 => [errCell synText]
  | 1 => [errCell rngText]
  | 2 => tabOf .u64 pow10Tab
  | 3 => tabOf .u8 de32Tab
  | 4 => tabOf .u8 de64Tab
  | _ => []
/-- Those of them that are read. -/
def gl0 : Nat → List Cell
  | 0 => [errCell synText]
  | 1 => [errCell rngText]
  | _ => []

def isClone (f : Nat) : Bool := f == 140 || f == 133
def isClone2 (f : Nat) : Bool := f == 144 || f == 95

def X : Oracle := fun f args objs => match objs with
  | _ :: _ => evalFn Tc (fun _ _ _ => none) gl0 3 f args objs
  | [] => match args with
    | [.sc (.c (.str l))] => bif f == 233 && Nat.ble l.length 281474976710656 then some (.sc (.c (.str l)), []) else none
    | [.sc (.c (.sl []))] => bif isClone f then some (.sc (.full []), []) else bif isClone2 f then some (.sc (.c (.sl [])), []) else none
    | _ => evalFn Tc (fun _ _ _ => none) gl0 3 f args objs

abbrev ev (n : Nat) (f : FuncId) (args : List V) (objs : List Obj) : Option (V × List Obj) := evalFn T X gl0 n f args objs

end Go.Vs.Tryz

/- The oracle beside the tables is sound. -/
namespace Go.Vs
open Go Go.RowKit

theorem keeps_below {w w' : World} {ω : Nat → Nat} {S : Nat → Prop} (hb : Below w.heap.size w w') : Keeps w ω S w' ω :=
  ⟨⟨fun b i hi v hv => by
    obtain ⟨cs, t, fr, h⟩ := cells_of_at hv
    have h' : w'.heap[b]? = some (.cells cs t fr) := (hb.block b (Array.getElem?_eq_some_iff.1 h).1).trans h
    refine ⟨?_, hi⟩
    rw [at?_block h', ← at?_block h]
    exact hv⟩, hb.size, fun b hbl _ => ⟨hb.block b hbl, rfl⟩, hb.os, hb.tape, hb.output⟩

theorem clone_empty {P : Program} {gl : Nat → List Cell} {f : FuncId} (h1 : FnOk P gl f [.sc (.e0 true)] [] (.sc .nil) []) (h2 : FnOk P gl f [.sc (.e0 false)] [] (.sc (.full [])) []) :
    FnOk P gl f [.sc (.c (.sl []))] [] (.sc (.full [])) [] := by
  refine ⟨h1.1, fun w ω β cargs hgl hargs hobj hinj => ?_⟩
  obtain ⟨l⟩ := cargs
  match l, hargs with
  | [], hargs => simp [RVs] at hargs
  | v :: _ :: _, hargs => simp [RVs] at hargs
  | [v], hargs =>
    simp only [RVs, RV1, RW, RD, and_true] at hargs
    obtain ⟨base, cap, hv, _, hcap, _⟩ := hargs
    simp only [List.length_nil] at hv
    cases base with
    | none =>
      have hr : RVs w ω β (Lof []) [.sc (.e0 true)] [v] := by
        simp only [RVs, RV1, RW, and_true]
        exact ⟨none, cap, hv, hcap, rfl⟩
      refine (h1.2 w ω β #[v] hgl hr hobj hinj).mono ?_
      rintro e w' ⟨vv, ω', β', he, hrv, hrest⟩
      refine ⟨vv, ω', β', he, ?_, hrest⟩
      simp only [RV, RV1, RW] at hrv
      subst hrv
      simp only [RV, RV1, RW, RD]
      exact ⟨⟨none, 0, rfl, by simp, by simp [maxRows], by simp⟩, none, 0, rfl⟩
    | some a =>
      have hr : RVs w ω β (Lof []) [.sc (.e0 false)] [v] := by
        simp only [RVs, RV1, RW, and_true]
        exact ⟨some a, cap, hv, hcap, rfl⟩
      exact h2.2 w ω β #[v] hgl hr hobj hinj

theorem clone_both {P : Program} {gl : Nat → List Cell} {f : FuncId} (h1 : FnOk P gl f [.sc (.e0 true)] [] (.sc (.c (.sl []))) []) (h2 : FnOk P gl f [.sc (.e0 false)] [] (.sc (.full [])) []) :
    FnOk P gl f [.sc (.c (.sl []))] [] (.sc (.c (.sl []))) [] := by
  refine ⟨h1.1, fun w ω β cargs hgl hargs hobj hinj => ?_⟩
  obtain ⟨l⟩ := cargs
  match l, hargs with
  | [], hargs => simp [RVs] at hargs
  | v :: _ :: _, hargs => simp [RVs] at hargs
  | [v], hargs =>
    simp only [RVs, RV1, RW, RD, and_true] at hargs
    obtain ⟨base, cap, hv, _, hcap, _⟩ := hargs
    simp only [List.length_nil] at hv
    cases base with
    | none =>
      have hr : RVs w ω β (Lof []) [.sc (.e0 true)] [v] := by
        simp only [RVs, RV1, RW, and_true]
        exact ⟨none, cap, hv, hcap, rfl⟩
      exact h1.2 w ω β #[v] hgl hr hobj hinj
    | some a =>
      have hr : RVs w ω β (Lof []) [.sc (.e0 false)] [v] := by
        simp only [RVs, RV1, RW, and_true]
        exact ⟨some a, cap, hv, hcap, rfl⟩
      refine (h2.2 w ω β #[v] hgl hr hobj hinj).mono ?_
      rintro e w' ⟨vv, ω', β', he, hrv, hrest⟩
      refine ⟨vv, ω', β', he, ?_, hrest⟩
      simp only [RV, RV1, RW] at hrv ⊢
      exact hrv.1

namespace Tryz

theorem ok202 {gl : Nat → List Cell} {l : List UInt8} (hl : l.length ≤ 281474976710656) : FnOk Go.Proofs.Tryz.prog gl 233 [.sc (.c (.str l))] [] (.sc (.c (.str l))) [] := by
  refine ⟨⟨_, Go.Proofs.Tryz.func233, by kernel_rfl, by kernel_rfl⟩, fun w ω β cargs hgl hargs hobj hinj => ?_⟩
  obtain ⟨l'⟩ := cargs
  match l', hargs with
  | [], hargs => simp [RVs] at hargs
  | v :: _ :: _, hargs => simp [RVs] at hargs
  | [v], hargs =>
    simp only [RVs, RV1, RW, RD, and_true] at hargs
    obtain ⟨a, rfl, ha⟩ := hargs
    refine (clone202 a w (by rw [Lib.size_eq, ha]; exact hl)).mono ?_
    rintro e w' ⟨rfl, hb⟩
    refine ⟨_, ω, β, rfl, ?_, fun k o hk => by simp [Lof] at hk, fun j k b hj => by simp [Lof] at hj, keeps_below hb, fun k b hk => by simp [Lof] at hk, fun k => by simp [Tr, Lof]⟩
    simp only [RV, RV1, RW, RD]
    exact ⟨a, rfl, ha⟩

theorem X_none : ∀ (f : FuncId) (args : List V) (objs : List Obj) (rv : V) (objs' : List Obj), (fun _ _ _ => none : Oracle) f args objs = some (rv, objs') → FnOk Go.Proofs.Tryz.prog gl0 f args objs rv objs' :=
  fun _ _ _ _ _ h => by cases h

theorem Tc_fn {n : Nat} {f : FuncId} {args : List V} {objs : List Obj} {rv : V} {objs' : List Obj} (h : evalFn Tc (fun _ _ _ => none) gl0 n f args objs = some (rv, objs')) : FnOk Go.Proofs.Tryz.prog gl0 f args objs rv objs' :=
  evalFn_ok follows Tc_ok X_none n h

theorem clone_of {f : Nat} (h : isClone f = true) : FnOk Go.Proofs.Tryz.prog gl0 f [.sc (.c (.sl []))] [] (.sc (.full [])) [] := by
  have hf : f = 140 ∨ f = 133 := by
    simp only [isClone, Bool.or_eq_true, beq_iff_eq] at h
    omega
  rcases hf with rfl | rfl
  · exact clone_empty (Tc_fn (n := 3) (by kernel_rfl)) (Tc_fn (n := 3) (by kernel_rfl))
  · exact clone_empty (Tc_fn (n := 3) (by kernel_rfl)) (Tc_fn (n := 3) (by kernel_rfl))

theorem clone2_of {f : Nat} (h : isClone2 f = true) : FnOk Go.Proofs.Tryz.prog gl0 f [.sc (.c (.sl []))] [] (.sc (.c (.sl []))) [] := by
  have hf : f = 144 ∨ f = 95 := by
    simp only [isClone2, Bool.or_eq_true, beq_iff_eq] at h
    omega
  rcases hf with rfl | rfl
  · exact clone_both (Tc_fn (n := 3) (by kernel_rfl)) (Tc_fn (n := 3) (by kernel_rfl))
  · exact clone_both (Tc_fn (n := 3) (by kernel_rfl)) (Tc_fn (n := 3) (by kernel_rfl))

theorem X_ok : ∀ (f : FuncId) (args : List V) (objs : List Obj) (rv : V) (objs' : List Obj), X f args objs = some (rv, objs') → FnOk Go.Proofs.Tryz.prog gl0 f args objs rv objs' := by
  intro f args objs rv objs' h
  unfold X at h
  split at h
  · exact Tc_fn h
  · split at h
    · rename_i l
      cases hc : (f == 233 && Nat.ble l.length 281474976710656) with
      | false => rw [hc] at h; cases h
      | true =>
        rw [hc] at h
        simp only [cond_true, Option.some.injEq, Prod.mk.injEq] at h
        simp only [Bool.and_eq_true, beq_iff_eq] at hc
        obtain ⟨rfl, rfl⟩ := h
        obtain ⟨rfl, hl⟩ := hc
        exact ok202 (Nat.le_of_ble_eq_true hl)
    · cases hc : isClone f with
      | false =>
        rw [hc] at h
        simp only [cond_false] at h
        cases hc2 : isClone2 f with
        | false => rw [hc2] at h; cases h
        | true =>
          rw [hc2] at h
          simp only [cond_true, Option.some.injEq, Prod.mk.injEq] at h
          obtain ⟨rfl, rfl⟩ := h
          exact clone2_of hc2
      | true =>
        rw [hc] at h
        simp only [cond_true, Option.some.injEq, Prod.mk.injEq] at h
        obtain ⟨rfl, rfl⟩ := h
        exact clone_of hc
    · exact Tc_fn h

/-- What the evaluator says, the program does. -/
theorem ev_ok {n : Nat} {f : FuncId} {args : List V} {objs : List Obj} {rv : V} {objs' : List Obj} (h : ev n f args objs = some (rv, objs')) : FnOk Go.Proofs.Tryz.prog gl0 f args objs rv objs' :=
  evalFn_ok follows T_ok X_ok n h
end Tryz
end Go.Vs
