/- Functions of the program in the language of the value semantics, part 2 (printed by a program of mine), and that they match. (Parts of one proof, put together.) -/
import Derived.Test.YtlcncicmkkelcaaGreatDoorM3
import Derived.Test.YtlcncicmkkelcaaGreatDoorProg
import Derived.KernelRfl
set_option linter.unusedSimpArgs false
set_option linter.unusedVariables false
set_option linter.deprecated false

/- Functions of the program in the language of the value semantics, part 2 (printed by a program of mine), and that they match. -/
namespace Go.Vs.Tryz
open Go Go.Vs

def v136 : VFun := ⟨5,
 (.seq (.region [] [o 10 (.mv (.k (.sc (.c .nilif))))] [] [0, 1, 2, 3, 4])
 (.seq (.seq (.region [] [o 11 (.mv (tv 4))] [] [0, 1, 2, 3, 4, 11])
 (.block 0 (.seq (.region [] [o 13 (.ifc 209 (ki 2)),
 o 14 (.bin .eql 215 (tv 11) (tv 13)),
 o 12 (.mv (tv 14))] [] [0, 1, 2, 3, 4, 11, 12])
 (.cond (tv 12) (.seq (.region [] [o 15 (.mv (tv 0)),
 o 16 (.mv (tv 1)),
 oa 17 (.call (kf 184) [(false, (tv 15)), (false, (tv 16))] []) 512,
 o 18 (.ifc 212 (tv 17)),
 o 10 (.mv (tv 18))] [] [10])
 .ret)
 (.seq (.region [] [o 20 (.ifc 209 (ki 1)),
 o 21 (.bin .eql 215 (tv 11) (tv 20)),
 o 19 (.mv (tv 21))] [] [0, 1, 2, 3, 4, 11, 19])
 (.cond (tv 19) (.seq (.region [] [o 22 (.mv (tv 0)),
 o 23 (.mv (tv 1)),
 oa 24 (.call (kf 185) [(false, (tv 22)), (false, (tv 23))] []) 1024,
 o 25 (.ifc 212 (tv 24)),
 o 10 (.mv (tv 25))] [] [10])
 .ret)
 (.seq (.region [] [o 27 (.ifc 209 (ki 3)),
 o 28 (.bin .eql 215 (tv 11) (tv 27)),
 o 26 (.mv (tv 28))] [] [0, 1, 2, 3, 4, 11, 26])
 (.cond (tv 26) (.seq (.region [] [o 29 (.mv (tv 0)),
 o 30 (.mv (tv 1)),
 o 31 (.mv (tv 2)),
 oa 32 (.call (kf 186) [(false, (tv 29)), (false, (tv 30)), (false, (tv 31))] []) 1600,
 o 33 (.ifc 212 (tv 32)),
 o 10 (.mv (tv 33))] [] [10])
 .ret)
 (.seq (.region [] [o 35 (.ifc 209 (ki 4)),
 o 36 (.bin .eql 215 (tv 11) (tv 35)),
 o 34 (.mv (tv 36))] [] [0, 1, 3, 4, 34])
 (.cond (tv 34) (.seq (.region [] [o 37 (.mv (tv 0)),
 o 38 (.mv (tv 1)),
 o 39 (.mv (tv 3)),
 oa 40 (.call (kf 187) [(false, (tv 37)), (false, (tv 38)), (false, (tv 39))] []) 2176,
 o 41 (.ifc 212 (tv 40)),
 o 10 (.mv (tv 41))] [] [10])
 .ret)
 .skip))))))))))
 (.seq (.region [] [o 42 (.mv (tv 4)),
 o 10 (.mv (tv 42))] [] [10])
 .ret))),
 [.tmp 10], true⟩

def v137 : VFun := ⟨2,
 (.seq (.region [] [o 4 (.mv (.k (.sc zs)))] [] [0, 1])
 (.seq (.seq (.region [] [o 9 (.mv (tv 1)),
 o 10 (.bin .eql 0 (tv 9) (ki 10))] [] [0, 1, 10])
 (.cond (tv 10) (.seq (.seq (.region [] [o 11 (.mv (tv 0)),
 o 12 (.bin .lss 0 (tv 11) (.k (.sc (.c (.int .u64 100)))))] [] [0, 12])
 (.cond (tv 12) (.seq (.region [] [o 13 (.mv (tv 0)),
 o 14 (.cvI .i64 (tv 13)),
 oa 15 (.call (kf 188) [(false, (tv 14))] []) 512,
 o 4 (.mv (tv 15))] [] [4])
 .ret)
 .skip))
 (.seq (.region [] [oa 5 (.new [(.c (.int .u8 0)), (.c (.int .u8 0)), (.c (.int .u8 0)), (.c (.int .u8 0)), (.c (.int .u8 0)), (.c (.int .u8 0)), (.c (.int .u8 0)), (.c (.int .u8 0)), (.c (.int .u8 0)), (.c (.int .u8 0)), (.c (.int .u8 0)), (.c (.int .u8 0)), (.c (.int .u8 0)), (.c (.int .u8 0)), (.c (.int .u8 0)), (.c (.int .u8 0)), (.c (.int .u8 0)), (.c (.int .u8 0)), (.c (.int .u8 0)), (.c (.int .u8 0)), (.c (.int .u8 0)), (.c (.int .u8 0)), (.c (.int .u8 0)), (.c (.int .u8 0))] []) 640] [] [0])
 (.seq (.region [640] [o 16 (.mv (tv 0)),
 oa 17 (.call (kf 189) [(false, (tv 16))] []) 768,
 o 6 (.mv (tv 17))] [] [0, 6])
 (.seq (.region [] [o 18 (.mv (tv 6)),
 o 19 .bad,
 o 20 (.mv (tv 0)),
 oa 21 (.call (kf 190) [(false, (tv 19)), (false, (tv 20))] []) 1088] [] [6])
 (.seq (.region [] [o 22 (.mv (tv 6)),
 o 23 .bad,
 o 24 .bad,
 o 4 (.mv (tv 24))] [] [4])
 .ret)))))
 .skip))
 (.seq (.region [] [o 26 (.mv (tv 0)),
 o 27 (.mv (tv 1)),
 oa 28 (.call (kf 191) [(false, kn), (false, (tv 26)), (false, (tv 27)), (false, kF), (false, kF)] []) 1536,
 o 25 (.mv (tv 28)),
 o 29 (.ext 0 (tv 25)),
 o 30 (.ext 1 (tv 25)),
 o 7 (.mv (tv 29)),
 o 8 (.mv (tv 30))] [] [8])
 (.seq (.region [] [o 31 (.mv (tv 8)),
 o 4 (.mv (tv 31))] [] [4])
 .ret)))),
 [.tmp 4], false⟩

def v139 : VFun := ⟨1,
 (.seq (.region [] [o 2 (.mv (ki 0))] [] [0])
 (.seq (.cond kF (.seq (.region [] [o 3 (.mv (tv 0)),
 o 4 (.cvI .u32 (tv 3)),
 oa 5 (.call (kf 201) [(false, (tv 4))] []) 256,
 o 2 (.mv (tv 5))] [] [2])
 .ret)
 .skip)
 (.seq (.region [] [o 6 (.mv (tv 0)),
 oa 7 (.call (kf 202) [(false, (tv 6))] []) 448,
 o 2 (.mv (tv 7))] [] [2])
 .ret))),
 [.tmp 2], false⟩

def l138_0 : VCode := (.block 1 (.seq (.region [] [o 19 (.mv (tv 2)),
 o 20 (.mv (tv 1)),
 o 21 (.bin .sub 0 (tv 19) (tv 20)),
 o 10 (.mv (tv 21))] [] [0, 1, 2, 3, 8, 9, 10])
 (.seq (.seq (.region [] [o 22 (.mv (tv 10)),
 o 23 (.bin .leq 0 (tv 22) (ki 12))] [] [0, 1, 2, 3, 8, 9, 10, 23])
 (.cond (tv 23) (.seq (.region [] [o 24 (.mv (tv 0)),
 o 25 (.mv (tv 1)),
 o 26 (.mv (tv 2)),
 oa 27 (.call (kf 192) [(false, (tv 24)), (false, (tv 25)), (false, (tv 26))] []) 768] [] [1000000])
 .ret)
 .skip))
 (.seq (.seq (.region [] [o 28 (.mv (tv 3)),
 o 29 (.bin .eql 0 (tv 28) (ki 0))] [] [0, 1, 2, 3, 8, 9, 10, 29])
 (.cond (tv 29) (.seq (.region [] [o 30 (.mv (tv 0)),
 o 31 (.mv (tv 1)),
 o 32 (.mv (tv 2)),
 oa 33 (.call (kf 193) [(false, (tv 30)), (false, (tv 31)), (false, (tv 32))] []) 1152] [] [1000000])
 .ret)
 .skip))
 (.seq (.seq (.region [] [o 34 (.mv (tv 8)),
 o 35 (.un .not (tv 34))] [] [0, 1, 2, 3, 8, 9, 10, 35])
 (.cond (tv 35) (.seq (.region [] [o 36 (.mv (tv 0)),
 o 37 (.mv (tv 1)),
 o 38 (.mv (tv 2)),
 oa 39 (.call (kf 194) [(false, (tv 36)), (false, (tv 37)), (false, (tv 38))] []) 1536] [] [0, 1, 2, 3, 8, 9, 10])
 (.region [] [o 40 (.mv (tv 3)),
 o 41 (.bin .sub 0 (tv 40) (ki 1)),
 o 3 (.mv (tv 41))] [] [0, 1, 2, 3, 8, 9, 10]))
 .skip))
 (.seq (.region [] [o 43 (.mv (tv 0)),
 o 44 (.mv (tv 1)),
 o 45 (.mv (tv 2)),
 oa 46 (.call (kf 195) [(false, (tv 43)), (false, (tv 44)), (false, (tv 45))] []) 1984,
 o 42 (.mv (tv 46)),
 o 47 (.ext 0 (tv 42)),
 o 48 (.ext 1 (tv 42)),
 o 11 (.mv (tv 47)),
 o 12 (.mv (tv 48))] [] [0, 1, 2, 3, 8, 9, 10, 11, 12])
 (.seq (.seq (.region [] [o 49 (.mv (tv 12)),
 o 50 (.bin .eql 0 (tv 49) (ki 2))] [] [0, 1, 2, 3, 8, 9, 10, 11, 12, 50])
 (.cond (tv 50) (.seq (.region [] [o 51 (.mv (tv 0)),
 o 52 (.mv (tv 1)),
 o 53 (.mv (tv 2)),
 oa 54 (.call (kf 196) [(false, (tv 51)), (false, (tv 52)), (false, (tv 53))] []) 2688] [] [0, 1, 2, 3, 8, 9, 10, 11])
 (.seq (.region [] [o 55 (.mv (tv 2)),
 o 56 (.bin .sub 0 (tv 55) (ki 1)),
 o 57 (.mv (tv 11)),
 o 58 (.mv (tv 1)),
 o 59 (.bin .sub 0 (tv 57) (tv 58)),
 o 60 (.bin .sub 0 (tv 56) (tv 59)),
 o 11 (.mv (tv 60))] [] [0, 1, 2, 3, 8, 9, 10, 11])
 (.region [] [o 12 (.mv (ki 1))] [] [0, 1, 2, 3, 8, 9, 10, 11, 12])))
 .skip))
 (.seq (.seq (.region [] [o 61 (.mv (tv 8)),
 o 62 (.mv (tv 61)),
 og 63 (.mv (tv 9)) 62 true,
 o 64 (.pick (tv 62) (tv 63) kF),
 o 65 (.mv (tv 64)),
 og 66 (.mv (tv 12)) 65 true,
 og 67 (.bin .eql 0 (tv 66) (ki 1)) 65 true,
 o 68 (.pick (tv 65) (tv 67) kF)] [] [0, 1, 2, 3, 8, 9, 10, 11, 68])
 (.cond (tv 68) (.seq (.region [] [o 69 (.mv (tv 0)),
 o 70 (.mv (tv 1)),
 o 71 (.mv (tv 2)),
 oa 72 (.call (kf 197) [(false, (tv 69)), (false, (tv 70)), (false, (tv 71))] []) 3968] [] [0, 1, 2, 3, 8, 9, 10, 11, 72])
 (.cond (tv 72) .ret
 .skip))
 .skip))
 (.seq (.seq (.region [] [o 73 (.mv (tv 1)),
 o 74 (.bin .gtr 0 (tv 73) (ki 0)),
 o 75 (.mv (tv 74)),
 og 76 (.mv (tv 0)) 75 true,
 og 77 (.mv (tv 1)) 75 true,
 og 78 (.bin .sub 0 (tv 77) (ki 1)) 75 true,
 og 79 (.idxA 1 (tv 76) (tv 78)) 75 true,
 og 80 (.load false 1 (tv 79)) 75 true,
 og 81 (.mv (tv 0)) 75 true,
 og 82 (.mv (tv 11)) 75 true,
 og 83 (.idxA 1 (tv 81) (tv 82)) 75 true,
 og 84 (.load false 1 (tv 83)) 75 true,
 ⟨(some 85), (.call (kf 198) [(false, (tv 80)), (false, (tv 84))] []), (some (75, true)), 4800, []⟩,
 og 86 (.un .not (tv 85)) 75 true,
 o 87 (.pick (tv 75) (tv 86) kF)] [(6, 10), (7, 10), (6, 11), (7, 11)] [0, 1, 2, 3, 8, 9, 10, 11, 87])
 (.cond (tv 87) (.seq (.region [] [o 88 (.mv (tv 0)),
 o 89 (.mv (tv 1)),
 o 90 (.mv (tv 2)),
 o 91 (.mv (tv 11)),
 oa 92 (.call (kf 199) [(false, (tv 88)), (false, (tv 89)), (false, (tv 90)), (false, (tv 91))] []) 5248,
 o 13 (.mv (tv 92))] [] [0, 2, 3, 8, 9, 13])
 (.seq (.region [] [o 93 (.mv (tv 13)),
 o 1 (.mv (tv 93))] [] [0, 1, 2, 3, 8, 9])
 (.exit 1)))
 .skip))
 (.seq (.region [] [o 95 (.mv (tv 0)),
 o 96 (.mv (tv 1)),
 o 97 (.mv (tv 2)),
 o 98 (.mv (tv 11)),
 oa 99 (.call (kf 200) [(false, (tv 95)), (false, (tv 96)), (false, (tv 97)), (false, (tv 98))] []) 5760,
 o 94 (.mv (tv 99)),
 o 100 (.ext 0 (tv 94)),
 o 101 (.ext 1 (tv 94)),
 o 14 (.mv (tv 100)),
 o 15 (.mv (tv 101))] [] [0, 1, 2, 3, 10, 14, 15])
 (.seq (.region [] [o 102 (.mv (tv 15)),
 o 9 (.mv (tv 102))] [] [0, 1, 2, 3, 9, 10, 14])
 (.seq (.region [] [o 103 (.mv (tv 14)),
 o 104 (.mv (tv 1)),
 o 105 (.bin .sub 0 (tv 103) (tv 104)),
 o 106 (.mv (tv 2)),
 o 107 (.mv (tv 14)),
 o 108 (.bin .sub 0 (tv 106) (tv 107)),
 o 16 (.mv (tv 105)),
 o 17 (.mv (tv 108))] [] [0, 1, 2, 3, 9, 10, 14, 16, 17])
 (.seq (.region [] [o 109 (.mv (tv 10)),
 o 110 (.bin .quo 0 (tv 109) (ki 8)),
 o 18 (.mv (tv 110))] [] [0, 1, 2, 3, 9, 14, 16, 17, 18])
 (.seq (.region [] [o 111 (.mv (tv 16)),
 o 112 (.mv (tv 17)),
 o 113 (.bin .lss 0 (tv 111) (tv 112))] [] [0, 1, 2, 3, 9, 14, 16, 17, 18, 113])
 (.cond (tv 113) (.seq (.region [] [o 114 (.mv (tv 16)),
 o 115 (.mv (tv 18)),
 o 116 (.bin .geq 0 (tv 114) (tv 115)),
 o 8 (.mv (tv 116))] [] [0, 1, 2, 3, 8, 9, 14])
 (.seq (.region [] [o 117 (.mv (tv 0)),
 o 118 (.mv (tv 1)),
 o 119 (.mv (tv 14)),
 o 120 (.mv (tv 3)),
 oa 121 (.call (kf 138) [(false, (tv 117)), (false, (tv 118)), (false, (tv 119)), (false, (tv 120))] []) 7680] [] [0, 2, 3, 8, 9, 14])
 (.region [] [o 122 (.mv (tv 14)),
 o 123 (.bin .add 0 (tv 122) (ki 1)),
 o 1 (.mv (tv 123))] [] [0, 1, 2, 3, 8, 9])))
 (.seq (.region [] [o 124 (.mv (tv 17)),
 o 125 (.mv (tv 18)),
 o 126 (.bin .geq 0 (tv 124) (tv 125)),
 o 8 (.mv (tv 126))] [] [0, 1, 2, 3, 8, 9, 14])
 (.seq (.region [] [o 127 (.mv (tv 0)),
 o 128 (.mv (tv 14)),
 o 129 (.bin .add 0 (tv 128) (ki 1)),
 o 130 (.mv (tv 2)),
 o 131 (.mv (tv 3)),
 oa 132 (.call (kf 138) [(false, (tv 127)), (false, (tv 129)), (false, (tv 130)), (false, (tv 131))] []) 8512] [] [0, 1, 3, 8, 9, 14])
 (.region [] [o 133 (.mv (tv 14)),
 o 2 (.mv (tv 133))] [] [0, 1, 2, 3, 8, 9]))))))))))))))))))

def v138 : VFun := ⟨4,
 (.seq (.region [] [o 8 (.mv kt)] [] [0, 1, 2, 3, 8])
 (.seq (.region [] [o 9 (.mv kt)] [] [0, 1, 2, 3, 8, 9])
 (.block 0 (.loop l138_0)))),
 [], false⟩

def l167_0 : VCode := (.seq (.seq (.region [] [o 42 (.mv (tv 5)),
 o 43 (.mv (tv 0)),
 o 44 (.len true (tv 43)),
 o 45 (.bin .lss 0 (tv 42) (tv 44)),
 o 46 (.mv (tv 45)),
 og 47 (.mv (tv 0)) 46 true,
 og 48 (.mv (tv 5)) 46 true,
 og 49 (.idxS (tv 47) (tv 48)) 46 true,
 og 50 (.bin .neq 0 (tv 49) (.k (.sc (.c (.int .u8 10))))) 46 true,
 o 51 (.pick (tv 46) (tv 50) kF)] [] [0, 3, 4, 5, 51])
 (.cond (tv 51) .skip
 (.exit 3)))
 (.block 4 (.region [] [o 52 (.mv (tv 5)),
 o 53 (.bin .add 0 (tv 52) (ki 1)),
 o 5 (.mv (tv 53))] [] [0, 3, 4, 5])))

def l167_1 : VCode := (.seq (.seq (.region [] [o 57 (.mv (tv 7)),
 o 58 (.mv (tv 0)),
 o 59 (.len true (tv 58)),
 o 60 (.bin .lss 0 (tv 57) (tv 59)),
 o 61 (.mv (tv 60)),
 og 62 (.mv (tv 0)) 61 true,
 og 63 (.mv (tv 7)) 61 true,
 og 64 (.idxS (tv 62) (tv 63)) 61 true,
 ⟨(some 65), (.call (kf 217) [(false, (tv 64))] []), (some (61, true)), 4288, []⟩,
 o 66 (.pick (tv 61) (tv 65) kF)] [] [0, 3, 4, 5, 7, 66])
 (.cond (tv 66) .skip
 (.exit 5)))
 (.block 6 (.region [] [o 67 (.mv (tv 7)),
 o 68 (.bin .add 0 (tv 67) (ki 1)),
 o 7 (.mv (tv 68))] [] [0, 3, 4, 5, 7])))

def l167_2 : VCode := (.seq (.seq (.region [] [o 13 (.mv (tv 5)),
 o 14 (.mv (tv 0)),
 o 15 (.len true (tv 14)),
 o 16 (.bin .lss 0 (tv 13) (tv 15))] [] [0, 3, 4, 5, 16])
 (.cond (tv 16) .skip
 (.exit 0)))
 (.block 1 (.seq (.region [] [o 17 (.mv (tv 0)),
 o 18 (.mv (tv 5)),
 o 19 (.idxS (tv 17) (tv 18)),
 o 6 (.mv (tv 19))] [] [0, 3, 4, 5, 6])
 (.seq (.region [] [o 20 (.mv (tv 5)),
 o 21 (.bin .add 0 (tv 20) (ki 1)),
 o 7 (.mv (tv 21))] [] [0, 3, 4, 5, 6, 7])
 (.seq (.block 2 (.seq (.region [] [o 23 (.mv (tv 6)),
 o 24 (.bin .eql 0 (tv 23) (.k (.sc (.c (.int .u8 32))))),
 o 25 (.mv (tv 24)),
 og 26 (.mv (tv 6)) 25 false,
 og 27 (.bin .eql 0 (tv 26) (.k (.sc (.c (.int .u8 9))))) 25 false,
 o 28 (.pick (tv 25) kt (tv 27)),
 o 29 (.mv (tv 28)),
 og 30 (.mv (tv 6)) 29 false,
 og 31 (.bin .eql 0 (tv 30) (.k (.sc (.c (.int .u8 13))))) 29 false,
 o 32 (.pick (tv 29) kt (tv 31)),
 o 33 (.mv (tv 32)),
 og 34 (.mv (tv 6)) 33 false,
 og 35 (.bin .eql 0 (tv 34) (.k (.sc (.c (.int .u8 10))))) 33 false,
 o 36 (.pick (tv 33) kt (tv 35)),
 o 22 (.mv (tv 36))] [] [0, 3, 4, 5, 6, 7, 22])
 (.cond (tv 22) (.seq (.region [] [o 37 (.mv (tv 5)),
 o 38 (.bin .add 0 (tv 37) (ki 1)),
 o 5 (.mv (tv 38))] [] [0, 3, 4, 5])
 (.exit 1))
 (.seq (.region [] [o 40 (.mv (tv 6)),
 o 41 (.bin .eql 0 (tv 40) (.k (.sc (.c (.int .u8 35))))),
 o 39 (.mv (tv 41))] [] [0, 3, 4, 5, 6, 7, 39])
 (.cond (tv 39) (.seq (.block 3 (.loop l167_0))
 (.exit 1))
 (.seq (.region [] [o 55 (.mv (tv 6)),
 oa 56 (.call (kf 217) [(false, (tv 55))] []) 3648,
 o 54 (.mv (tv 56))] [] [0, 3, 4, 5, 6, 7, 54])
 (.cond (tv 54) (.block 5 (.loop l167_1))
 (.seq (.region [] [o 70 (.mv (tv 6)),
 o 71 (.bin .eql 0 (tv 70) (.k (.sc (.c (.int .u8 45))))),
 o 72 (.mv (tv 71)),
 og 73 (.mv (tv 7)) 72 true,
 og 74 (.mv (tv 0)) 72 true,
 og 75 (.len true (tv 74)) 72 true,
 og 76 (.bin .lss 0 (tv 73) (tv 75)) 72 true,
 o 77 (.pick (tv 72) (tv 76) kF),
 o 78 (.mv (tv 77)),
 og 79 (.mv (tv 0)) 78 true,
 og 80 (.mv (tv 7)) 78 true,
 og 81 (.idxS (tv 79) (tv 80)) 78 true,
 og 82 (.bin .eql 0 (tv 81) (.k (.sc (.c (.int .u8 62))))) 78 true,
 o 83 (.pick (tv 78) (tv 82) kF),
 o 69 (.mv (tv 83))] [] [0, 3, 4, 5, 7, 69])
 (.cond (tv 69) (.region [] [o 84 (.mv (tv 7)),
 o 85 (.bin .add 0 (tv 84) (ki 1)),
 o 7 (.mv (tv 85))] [] [0, 3, 4, 5, 7])
 .skip)))))))))
 (.seq (.region [] [o 86 (.mv (tv 0)),
 o 87 (.mv (tv 5)),
 o 88 (.mv (tv 7)),
 o 89 (.slS (tv 86) (some (tv 87)) (some (tv 88))),
 oa 90 (.call (kf 218) [(false, (tv 89))] []) 6016,
 o 8 (.mv (tv 90))] [] [0, 3, 4, 5, 7, 8])
 (.seq (.seq (.region [] [o 91 (.mv (tv 8)),
 o 92 (.bin .eql 0 (tv 91) (ki 0))] [] [0, 3, 4, 5, 7, 8, 92])
 (.cond (tv 92) (.seq (.region [] [o 93 (.mv (tv 5)),
 o 94 (.build [zi, zi] [(0, 1, (ki 2)), (1, 1, (tv 93))]),
 o 2 (.mv kn),
 on (.store 2 (tv 3) (tv 94) [])] [] [2, 3])
 .ret)
 .skip))
 (.seq (.region [7040] [o 95 (.mv (tv 4)),
 o 96 (.mv (tv 8)),
 o 97 (.mv (tv 0)),
 o 98 (.mv (tv 5)),
 o 99 (.mv (tv 7)),
 o 100 (.slS (tv 97) (some (tv 98)) (some (tv 99))),
 o 101 (.mv (tv 5)),
 o 102 (.build [zi, zs, zi] [(0, 1, (tv 96)), (1, 1, (tv 100)), (2, 1, (tv 101))]),
 oa 103 (.mkSl 3 [(tv 102)]) 7040,
 o 104 (.app 3 32 false (tv 95) (tv 103)),
 o 4 (.mv (tv 104))] [] [0, 3, 4, 7])
 (.region [7040] [o 105 (.mv (tv 7)),
 o 5 (.mv (tv 105))] [] [0, 3, 4, 5])))))))))

def v167 : VFun := ⟨1,
 (.seq (.region [] [o 2 (.mv kn),
 oa 3 (.new [zi, zi] []) 128] [] [0, 3])
 (.seq (.seq (.region [] [o 9 (.mv (tv 0)),
 o 10 (.len true (tv 9)),
 o 11 (.bin .gtr 0 (tv 10) (ki 4000))] [] [0, 3, 11])
 (.cond (tv 11) (.seq (.region [] [o 12 (.build [zi, zi] [(0, 1, (ki 1))]),
 o 2 (.mv kn),
 on (.store 2 (tv 3) (tv 12) [])] [] [2, 3])
 .ret)
 .skip))
 (.seq (.region [] [⟨(some 4), (.mv kn), none, 576, [(0, 3)]⟩] [] [0, 3, 4])
 (.seq (.seq (.region [] [o 5 (.mv (ki 0))] [] [0, 3, 4, 5])
 (.block 0 (.loop l167_2)))
 (.seq (.region [] [o 106 (.mv (tv 4)),
 o 107 (.build [zi, zi] []),
 o 2 (.mv (tv 106)),
 on (.store 2 (tv 3) (tv 107) [])] [] [2, 3])
 .ret))))),
 [.tmp 2, .cell 3 true 2], false⟩

def v168 : VFun := ⟨2,
 (.seq (.region [] [o 4 (.mv (.k (.sc (.c .nilptr))))] [] [0, 1])
 (.seq (.seq (.region [] [o 5 (.mv (tv 1)),
 o 6 (.bin .lss 0 (tv 5) (ki 0)),
 o 7 (.mv (tv 6)),
 og 8 (.mv (tv 1)) 7 false,
 og 9 (.mv (tv 0)) 7 false,
 og 10 (.len false (tv 9)) 7 false,
 og 11 (.bin .gtr 0 (tv 8) (tv 10)) 7 false,
 o 12 (.pick (tv 7) kt (tv 11))] [] [0, 1, 12])
 (.cond (tv 12) (.region [] [o 13 (.mv (tv 0)),
 o 14 (.len false (tv 13)),
 o 1 (.mv (tv 14))] [] [0, 1])
 .skip))
 (.seq (.region [] [o 15 (.mv (tv 0)),
 o 16 (.mv (tv 1)),
 o 17 (.build [.nil, zi, (.c (.bool false)), zi] [(0, 1, (tv 15)), (1, 1, (tv 16))]),
 oa 18 (.box (tv 17)) 1024,
 o 4 (.mv (tv 18))] [] [4])
 .ret))),
 [.tmp 4], true⟩

def v173 : VFun := ⟨2,
 (.seq (.region [] [o 4 (.mv kF)] [] [0, 1])
 (.seq (.region [] [o 5 (.mv (tv 0)),
 o 6 (.nn (tv 5)),
 o 7 (.fld 2 (tv 6)),
 o 8 (.load false 1 (tv 7)),
 o 9 (.un .not (tv 8)),
 o 10 (.mv (tv 9)),
 og 11 (.mv (tv 0)) 10 true,
 og 12 (.nn (tv 11)) 10 true,
 og 13 (.fld 1 (tv 12)) 10 true,
 og 14 (.load false 1 (tv 13)) 10 true,
 og 15 (.mv (tv 0)) 10 true,
 og 16 (.nn (tv 15)) 10 true,
 og 17 (.fld 0 (tv 16)) 10 true,
 og 18 (.load false 1 (tv 17)) 10 true,
 og 19 (.len false (tv 18)) 10 true,
 og 20 (.bin .lss 0 (tv 14) (tv 19)) 10 true,
 o 21 (.pick (tv 10) (tv 20) kF),
 o 22 (.mv (tv 21)),
 og 23 (.mv (tv 0)) 22 true,
 og 24 (.nn (tv 23)) 22 true,
 og 25 (.fld 0 (tv 24)) 22 true,
 og 26 (.load false 1 (tv 25)) 22 true,
 og 27 (.mv (tv 0)) 22 true,
 og 28 (.nn (tv 27)) 22 true,
 og 29 (.fld 1 (tv 28)) 22 true,
 og 30 (.load false 1 (tv 29)) 22 true,
 og 31 (.idxA 3 (tv 26) (tv 30)) 22 true,
 og 32 (.fld 0 (tv 31)) 22 true,
 og 33 (.load false 1 (tv 32)) 22 true,
 og 34 (.bin .eql 0 (tv 33) (ki 5)) 22 true,
 og 35 (.mv (tv 34)) 22 true,
 og 36 (.mv (tv 0)) 35 false,
 og 37 (.nn (tv 36)) 35 false,
 og 38 (.fld 0 (tv 37)) 35 false,
 og 39 (.load false 1 (tv 38)) 35 false,
 og 40 (.mv (tv 0)) 35 false,
 og 41 (.nn (tv 40)) 35 false,
 og 42 (.fld 1 (tv 41)) 35 false,
 og 43 (.load false 1 (tv 42)) 35 false,
 og 44 (.idxA 3 (tv 39) (tv 43)) 35 false,
 og 45 (.fld 0 (tv 44)) 35 false,
 og 46 (.load false 1 (tv 45)) 35 false,
 og 47 (.bin .eql 0 (tv 46) (ki 4)) 35 false,
 og 48 (.pick (tv 35) kt (tv 47)) 22 true,
 o 49 (.pick (tv 22) (tv 48) kF),
 o 50 (.mv (tv 49)),
 og 51 (.mv (tv 0)) 50 true,
 og 52 (.nn (tv 51)) 50 true,
 og 53 (.fld 0 (tv 52)) 50 true,
 og 54 (.load false 1 (tv 53)) 50 true,
 og 55 (.mv (tv 0)) 50 true,
 og 56 (.nn (tv 55)) 50 true,
 og 57 (.fld 1 (tv 56)) 50 true,
 og 58 (.load false 1 (tv 57)) 50 true,
 og 59 (.idxA 3 (tv 54) (tv 58)) 50 true,
 og 60 (.fld 1 (tv 59)) 50 true,
 og 61 (.load false 1 (tv 60)) 50 true,
 og 62 (.mv (tv 1)) 50 true,
 og 63 (.bin .eql 0 (tv 61) (tv 62)) 50 true,
 o 64 (.pick (tv 50) (tv 63) kF),
 o 4 (.mv (tv 64))] [(7, 11), (8, 11), (9, 11), (7, 12), (8, 12), (9, 12), (7, 13), (8, 13), (9, 13), (7, 14), (8, 14), (9, 14), (19, 23), (20, 23), (21, 23), (19, 24), (20, 24), (21, 24), (19, 25), (20, 25), (21, 25), (32, 36), (33, 36), (34, 36), (32, 37), (33, 37), (34, 37), (32, 38), (33, 38), (34, 38), (47, 51), (48, 51), (49, 51), (47, 52), (48, 52), (49, 52), (47, 53), (48, 53), (49, 53)] [4])
 .ret)),
 [.tmp 4], false⟩

def l174_0 : VCode := (.seq (.seq (.region [] [o 13 (.mv (tv 0)),
 oa 14 (.call (kf 228) [(true, (tv 13)), (false, (ki 1))] []) 896] [] [0, 2, 3, 14])
 (.cond (tv 14) .skip
 (.exit 0)))
 (.block 1 (.region [1216] [o 15 (.fld 2 (tv 3)),
 o 16 (.load false 1 (tv 15)),
 o 17 (.mv (tv 0)),
 oa 18 (.call (kf 221) [(true, (tv 17)), (false, (ki 1))] []) 1152,
 oa 19 (.mkSl 1 [(tv 18)]) 1216,
 o 20 (.app 1 16 false (tv 16) (tv 19)),
 o 21 (.fld 2 (tv 3)),
 on (.store 1 (tv 21) (tv 20) [])] [(0, 3), (1, 3), (0, 4), (1, 4)] [0, 2, 3])))

def l174_1 : VCode := (.seq (.seq (.region [] [o 34 (.mv (tv 0)),
 oa 35 (.call (kf 229) [(true, (tv 34))] []) 2432] [] [0, 2, 3, 4, 35])
 (.cond (tv 35) .skip
 (.exit 4)))
 (.block 5 (.region [2752] [o 36 (.fld 2 (tv 4)),
 o 37 (.load false 1 (tv 36)),
 o 38 (.mv (tv 0)),
 oa 39 (.call (kf 230) [(true, (tv 38))] []) 2688,
 oa 40 (.mkSl 5 [(tv 39)]) 2752,
 o 41 (.app 5 64 false (tv 37) (tv 40)),
 o 42 (.fld 2 (tv 4)),
 on (.store 1 (tv 42) (tv 41) [])] [(0, 3), (1, 3), (0, 4), (1, 4)] [0, 2, 3, 4])))

def l174_2 : VCode := (.seq (.seq (.region [] [o 24 (.mv (tv 0)),
 o 25 (.nn (tv 24)),
 o 26 (.fld 2 (tv 25)),
 o 27 (.load false 1 (tv 26)),
 o 28 (.un .not (tv 27))] [] [0, 2, 3, 28])
 (.cond (tv 28) .skip
 (.exit 2)))
 (.block 3 (.seq (.region [2240, 2304, 2307] [o 29 (.mv (tv 0)),
 oa 30 (.call (kf 219) [(true, (tv 29))] []) 1984,
 o 31 (.mv (tv 0)),
 oa 32 (.call (kf 221) [(true, (tv 31)), (false, (ki 2))] []) 2112,
 o 33 (.build [zi, zs, .nil] [(0, 1, (tv 30)), (1, 1, (tv 32))]),
 oa 4 (.new [zi, zs, .nil] []) 2240,
 ⟨none, (.store 3 (tv 4) (tv 33) [(2, 5)]), none, 2304, []⟩] [] [0, 2, 3, 4])
 (.seq (.block 4 (.loop l174_1))
 (.seq (.region [3200] [o 43 (.fld 3 (tv 3)),
 o 44 (.load false 1 (tv 43)),
 o 45 (.ldD true 3 (tv 4)),
 oa 46 (.mkSl 3 [(tv 45)]) 3200,
 o 47 (.app 3 48 false (tv 44) (tv 46)),
 o 48 (.fld 3 (tv 3)),
 on (.store 1 (tv 48) (tv 47) [])] [] [0, 2, 3])
 (.seq (.region [2240, 3200] [o 49 (.mv (tv 0)),
 oa 50 (.call (kf 220) [(true, (tv 49)), (false, (.k (.sc (.c (.str [124])))))] []) 3520,
 o 51 (.un .not (tv 50))] [] [0, 2, 3, 51])
 (.cond (tv 51) (.exit 2)
 .skip)))))))

def v174 : VFun := ⟨1,
 (.seq (.region [] [oa 2 (.new [zi, zs, .nil, .nil] []) 64] [] [0, 2])
 (.seq (.region [] [o 5 (.mv (tv 0)),
 oa 6 (.call (kf 219) [(true, (tv 5))] []) 192,
 o 7 (.build [zi, zs, .nil, .nil] [(0, 1, (tv 6))]),
 oa 3 (.new [zi, zs, .nil, .nil] []) 320,
 ⟨none, (.store 4 (tv 3) (tv 7) [(2, 1), (3, 3)]), none, 384, []⟩] [] [0, 2, 3])
 (.seq (.region [] [o 8 (.mv (tv 0)),
 oa 9 (.call (kf 222) [(true, (tv 8)), (false, (.k (.sc (.c (.str [100, 97, 116, 97])))))] []) 512] [] [0, 2, 3])
 (.seq (.region [] [o 10 (.mv (tv 0)),
 oa 11 (.call (kf 221) [(true, (tv 10)), (false, (ki 2))] []) 640,
 o 12 (.fld 1 (tv 3)),
 on (.store 1 (tv 12) (tv 11) [])] [] [0, 2, 3])
 (.seq (.block 0 (.loop l174_0))
 (.seq (.region [] [o 22 (.mv (tv 0)),
 oa 23 (.call (kf 222) [(true, (tv 22)), (false, (.k (.sc (.c (.str [61])))))] []) 1536] [] [0, 2, 3])
 (.seq (.block 2 (.loop l174_2))
 (.seq (.region [] [o 52 (.mv (tv 0)),
 oa 53 (.call (kf 222) [(true, (tv 52)), (false, (.k (.sc (.c (.str [59])))))] []) 3712] [] [2, 3])
 (.seq (.region [] [o 54 (.ldD true 4 (tv 3)),
 on (.store 4 (tv 2) (tv 54) [])] [] [2])
 .ret))))))))),
 [.cell 2 true 4], false⟩

def v175 : VFun := ⟨1,
 (.seq (.region [] [oa 2 (.new [zi, (.c (.bool false)), zs, (.c (.bool false)), zi, zs, zi, zi, .nil, zi, zi, zs, zi, .nil, .nil, zi, zs, zi, zi, .nil] []) 64] [] [0, 2])
 (.seq (.region [] [o 4 (.mv (tv 0)),
 oa 5 (.call (kf 219) [(true, (tv 4))] []) 192,
 o 6 (.build [zi, (.c (.bool false)), zs, (.c (.bool false)), zi, zs, zi, zi, .nil, zi, zi, zs, zi, .nil, .nil, zi, zs, zi, zi, .nil] [(0, 1, (tv 5))]),
 oa 3 (.new [zi, (.c (.bool false)), zs, (.c (.bool false)), zi, zs, zi, zi, .nil, zi, zi, zs, zi, .nil, .nil, zi, zs, zi, zi, .nil] []) 320,
 on (.store 20 (tv 3) (tv 6) [])] [] [0, 2, 3])
 (.seq (.region [] [o 7 (.mv (tv 0)),
 oa 8 (.call (kf 222) [(true, (tv 7)), (false, (.k (.sc (.c (.str [108, 101, 116])))))] []) 512] [] [0, 2, 3])
 (.seq (.region [] [o 9 (.mv (tv 0)),
 oa 10 (.call (kf 220) [(true, (tv 9)), (false, (.k (.sc (.c (.str [114, 101, 99])))))] []) 640,
 o 11 (.fld 1 (tv 3)),
 on (.store 1 (tv 11) (tv 10) [])] [] [0, 2, 3])
 (.seq (.region [] [o 12 (.mv (tv 0)),
 oa 13 (.call (kf 221) [(true, (tv 12)), (false, (ki 1))] []) 896,
 o 14 (.fld 2 (tv 3)),
 on (.store 1 (tv 14) (tv 13) [])] [] [0, 2, 3])
 (.seq (.seq (.region [] [o 15 (.mv (tv 0)),
 oa 16 (.call (kf 220) [(true, (tv 15)), (false, (.k (.sc (.c (.str [58])))))] []) 1152] [] [0, 2, 3, 16])
 (.cond (tv 16) (.seq (.region [] [o 17 (.fld 3 (tv 3)),
 on (.store 1 (tv 17) kt [])] [] [0, 2, 3])
 (.region [] [o 18 (.mv (tv 0)),
 oa 19 (.call (kf 231) [(true, (tv 18))] []) 1408,
 o 20 (.fld 4 (tv 3)),
 on (.store 5 (tv 20) (tv 19) [])] [] [0, 2, 3]))
 .skip))
 (.seq (.region [] [o 21 (.mv (tv 0)),
 oa 22 (.call (kf 222) [(true, (tv 21)), (false, (.k (.sc (.c (.str [61])))))] []) 1664] [] [0, 2, 3])
 (.seq (.seq (.region [] [o 23 (.mv (tv 0)),
 o 24 (.nn (tv 23)),
 o 25 (.fld 2 (tv 24)),
 o 26 (.load false 1 (tv 25)),
 o 27 (.un .not (tv 26))] [] [0, 2, 3, 27])
 (.cond (tv 27) (.region [] [o 28 (.mv (tv 0)),
 oa 29 (.call (kf 169) [(true, (tv 28))] []) 2112,
 o 30 (.fld 9 (tv 3)),
 on (.store 11 (tv 30) (tv 29) [])] [] [0, 2, 3])
 .skip))
 (.seq (.region [] [o 31 (.mv (tv 0)),
 oa 32 (.call (kf 222) [(true, (tv 31)), (false, (.k (.sc (.c (.str [59])))))] []) 2368] [] [2, 3])
 (.seq (.region [] [o 33 (.load true 20 (tv 3)),
 on (.store 20 (tv 2) (tv 33) [])] [] [2])
 .ret)))))))))),
 [.cell 2 true 20], false⟩

def l176_0 : VCode := (.seq (.seq (.region [] [o 43 (.mv (tv 5)),
 o 44 (.fld 3 (tv 4)),
 o 45 (.load false 1 (tv 44)),
 o 46 (.len false (tv 45)),
 o 47 (.bin .lss 0 (tv 43) (tv 46))] [] [1, 2, 3, 4, 5, 47])
 (.cond (tv 47) .skip
 (.exit 2)))
 (.seq (.block 3 (.seq (.region [] [o 50 (.fld 3 (tv 4)),
 o 51 (.load false 1 (tv 50)),
 o 52 (.mv (tv 5)),
 o 53 (.idxA 3 (tv 51) (tv 52)),
 o 54 (.fld 2 (tv 53)),
 o 55 (.load false 1 (tv 54)),
 o 56 (.len false (tv 55)),
 o 57 (.bin .gtr 0 (tv 56) (ki 4))] [] [1, 2, 3, 4, 5, 57])
 (.cond (tv 57) (.seq (.region [] [o 58 (.fld 3 (tv 4)),
 o 59 (.load false 1 (tv 58)),
 o 60 (.mv (tv 5)),
 o 61 (.idxA 3 (tv 59) (tv 60)),
 o 62 (.fld 0 (tv 61)),
 o 63 (.load false 1 (tv 62)),
 o 64 (.build [zi, zi] [(0, 1, (ki 5)), (1, 1, (tv 63))]),
 on (.store 2 (tv 2) (tv 64) [])] [] [2])
 .ret)
 .skip)))
 (.region [] [o 48 (.mv (tv 5)),
 o 49 (.bin .add 0 (tv 48) (ki 1)),
 o 5 (.mv (tv 49))] [] [1, 2, 3, 4, 5])))

def l176_1 : VCode := (.seq (.seq (.region [] [o 14 (.mv (tv 3)),
 o 15 (.fld 0 (tv 1)),
 o 16 (.load false 1 (tv 15)),
 o 17 (.len false (tv 16)),
 o 18 (.bin .lss 0 (tv 14) (tv 17))] [] [1, 2, 3, 18])
 (.cond (tv 18) .skip
 (.exit 0)))
 (.seq (.block 1 (.seq (.region [] [o 21 (.fld 0 (tv 1)),
 o 22 (.load false 1 (tv 21)),
 o 23 (.mv (tv 3)),
 o 24 (.idxA 4 (tv 22) (tv 23)),
 o 25 (.load true 4 (tv 24)),
 oa 4 (.new [zi, zs, .nil, .nil] []) 896,
 on (.store 4 (tv 4) (tv 25) [])] [] [1, 2, 3, 4])
 (.seq (.seq (.region [] [o 26 (.mv (tv 3)),
 o 27 (.bin .geq 0 (tv 26) (ki 8)),
 o 28 (.mv (tv 27)),
 og 29 (.fld 2 (tv 4)) 28 false,
 og 30 (.load false 1 (tv 29)) 28 false,
 og 31 (.len false (tv 30)) 28 false,
 og 32 (.bin .gtr 0 (tv 31) (ki 4)) 28 false,
 o 33 (.pick (tv 28) kt (tv 32)),
 o 34 (.mv (tv 33)),
 og 35 (.fld 3 (tv 4)) 34 false,
 og 36 (.load false 1 (tv 35)) 34 false,
 og 37 (.len false (tv 36)) 34 false,
 og 38 (.bin .gtr 0 (tv 37) (ki 6)) 34 false,
 o 39 (.pick (tv 34) kt (tv 38))] [] [1, 2, 3, 4, 39])
 (.cond (tv 39) (.seq (.region [] [o 40 (.fld 0 (tv 4)),
 o 41 (.load false 1 (tv 40)),
 o 42 (.build [zi, zi] [(0, 1, (ki 5)), (1, 1, (tv 41))]),
 on (.store 2 (tv 2) (tv 42) [])] [] [2])
 .ret)
 .skip))
 (.seq (.region [] [o 5 (.mv (ki 0))] [] [1, 2, 3, 4, 5])
 (.block 2 (.loop l176_0))))))
 (.region [896] [o 19 (.mv (tv 3)),
 o 20 (.bin .add 0 (tv 19) (ki 1)),
 o 3 (.mv (tv 20))] [] [1, 2, 3])))

def l176_2 : VCode := (.seq (.seq (.region [] [o 94 (.mv (tv 9)),
 o 95 (.fld 3 (tv 7)),
 o 96 (.load false 1 (tv 95)),
 o 97 (.mv (tv 8)),
 o 98 (.idxA 3 (tv 96) (tv 97)),
 o 99 (.fld 2 (tv 98)),
 o 100 (.load false 1 (tv 99)),
 o 101 (.len false (tv 100)),
 o 102 (.bin .lss 0 (tv 94) (tv 101))] [] [1, 2, 6, 7, 8, 9, 102])
 (.cond (tv 102) .skip
 (.exit 8)))
 (.seq (.block 9 (.seq (.region [] [o 105 (.fld 3 (tv 7)),
 o 106 (.load false 1 (tv 105)),
 o 107 (.mv (tv 8)),
 o 108 (.idxA 3 (tv 106) (tv 107)),
 o 109 (.fld 2 (tv 108)),
 o 110 (.load false 1 (tv 109)),
 o 111 (.mv (tv 9)),
 o 112 (.idxA 5 (tv 110) (tv 111)),
 o 113 (.load true 5 (tv 112)),
 oa 114 (.call (kf 232) [(false, (tv 113))] []) 7104,
 o 115 (.bin .gtr 0 (tv 114) (ki 40))] [] [1, 2, 6, 7, 8, 9, 115])
 (.cond (tv 115) (.seq (.region [] [o 116 (.fld 0 (tv 7)),
 o 117 (.load false 1 (tv 116)),
 o 118 (.build [zi, zi] [(0, 1, (ki 4)), (1, 1, (tv 117))]),
 on (.store 2 (tv 2) (tv 118) [])] [] [2])
 .ret)
 .skip)))
 (.region [] [o 103 (.mv (tv 9)),
 o 104 (.bin .add 0 (tv 103) (ki 1)),
 o 9 (.mv (tv 104))] [] [1, 2, 6, 7, 8, 9])))

def l176_3 : VCode := (.seq (.seq (.region [] [o 87 (.mv (tv 8)),
 o 88 (.fld 3 (tv 7)),
 o 89 (.load false 1 (tv 88)),
 o 90 (.len false (tv 89)),
 o 91 (.bin .lss 0 (tv 87) (tv 90))] [] [1, 2, 6, 7, 8, 91])
 (.cond (tv 91) .skip
 (.exit 6)))
 (.seq (.block 7 (.seq (.region [] [o 9 (.mv (ki 0))] [] [1, 2, 6, 7, 8, 9])
 (.block 8 (.loop l176_2))))
 (.region [] [o 92 (.mv (tv 8)),
 o 93 (.bin .add 0 (tv 92) (ki 1)),
 o 8 (.mv (tv 93))] [] [1, 2, 6, 7, 8])))

def l176_4 : VCode := (.seq (.seq (.region [] [o 75 (.mv (tv 6)),
 o 76 (.fld 0 (tv 1)),
 o 77 (.load false 1 (tv 76)),
 o 78 (.len false (tv 77)),
 o 79 (.bin .lss 0 (tv 75) (tv 78))] [] [1, 2, 6, 79])
 (.cond (tv 79) .skip
 (.exit 4)))
 (.seq (.block 5 (.seq (.region [] [o 82 (.fld 0 (tv 1)),
 o 83 (.load false 1 (tv 82)),
 o 84 (.mv (tv 6)),
 o 85 (.idxA 4 (tv 83) (tv 84)),
 o 86 (.load true 4 (tv 85)),
 oa 7 (.new [zi, zs, .nil, .nil] []) 5376,
 on (.store 4 (tv 7) (tv 86) [])] [] [1, 2, 6, 7])
 (.seq (.region [] [o 8 (.mv (ki 0))] [] [1, 2, 6, 7, 8])
 (.block 6 (.loop l176_3)))))
 (.region [5376] [o 80 (.mv (tv 6)),
 o 81 (.bin .add 0 (tv 80) (ki 1)),
 o 6 (.mv (tv 81))] [] [1, 2, 6])))

def l176_5 : VCode := (.seq (.seq (.region [] [o 119 (.mv (tv 10)),
 o 120 (.fld 1 (tv 1)),
 o 121 (.load false 1 (tv 120)),
 o 122 (.len false (tv 121)),
 o 123 (.bin .lss 0 (tv 119) (tv 122))] [] [1, 2, 10, 123])
 (.cond (tv 123) .skip
 (.exit 10)))
 (.seq (.block 11 (.seq (.region [] [o 126 (.fld 1 (tv 1)),
 o 127 (.load false 1 (tv 126)),
 o 128 (.mv (tv 10)),
 o 129 (.idxA 20 (tv 127) (tv 128)),
 o 130 (.load true 20 (tv 129)),
 oa 11 (.new [zi, (.c (.bool false)), zs, (.c (.bool false)), zi, zs, zi, zi, .nil, zi, zi, zs, zi, .nil, .nil, zi, zs, zi, zi, .nil] []) 8768,
 on (.store 20 (tv 11) (tv 130) [])] [] [1, 2, 10, 11])
 (.seq (.seq (.region [] [o 131 (.fld 3 (tv 11)),
 o 132 (.load false 1 (tv 131)),
 o 133 (.mv (tv 132)),
 og 134 (.fld 4 (tv 11)) 133 true,
 og 135 (.load true 5 (tv 134)) 133 true,
 ⟨(some 136), (.call (kf 232) [(false, (tv 135))] []), (some (133, true)), 9216, []⟩,
 og 137 (.bin .gtr 0 (tv 136) (ki 40)) 133 true,
 o 138 (.pick (tv 133) (tv 137) kF),
 o 139 (.mv (tv 138)),
 og 140 (.fld 9 (tv 11)) 139 false,
 og 141 (.load true 11 (tv 140)) 139 false,
 ⟨(some 142), (.call (kf 171) [(false, (tv 141))] []), (some (139, false)), 9600, []⟩,
 o 143 (.pick (tv 139) kt (tv 142))] [] [1, 2, 10, 11, 143])
 (.cond (tv 143) (.seq (.region [] [o 144 (.fld 0 (tv 11)),
 o 145 (.load false 1 (tv 144)),
 o 146 (.build [zi, zi] [(0, 1, (ki 4)), (1, 1, (tv 145))]),
 on (.store 2 (tv 2) (tv 146) [])] [] [2])
 .ret)
 .skip))
 (.seq (.region [] [o 148 (.fld 9 (tv 11)),
 o 149 (.load true 11 (tv 148)),
 oa 150 (.call (kf 172) [(false, (tv 149))] []) 10112,
 o 147 (.mv (tv 150)),
 o 151 (.ext 0 (tv 147)),
 o 152 (.ext 1 (tv 147)),
 o 12 (.mv (tv 151)),
 o 13 (.mv (tv 152))] [] [1, 2, 10, 12, 13])
 (.seq (.region [8768] [o 153 (.mv (tv 13))] [] [1, 2, 10, 12, 153])
 (.cond (tv 153) (.seq (.region [] [o 154 (.mv (tv 12)),
 o 155 (.build [zi, zi] [(0, 1, (ki 5)), (1, 1, (tv 154))]),
 on (.store 2 (tv 2) (tv 155) [])] [] [2])
 .ret)
 .skip))))))
 (.region [8768] [o 124 (.mv (tv 10)),
 o 125 (.bin .add 0 (tv 124) (ki 1)),
 o 10 (.mv (tv 125))] [] [1, 2, 10])))

def v176 : VFun := ⟨1,
 (.seq (.region [] [oa 1 (.box (tv 0)) 64,
 oa 2 (.new [zi, zi] []) 128] [] [1, 2])
 (.seq (.seq (.region [] [o 3 (.mv (ki 0))] [] [1, 2, 3])
 (.block 0 (.loop l176_1)))
 (.seq (.seq (.region [] [o 65 (.fld 1 (tv 1)),
 o 66 (.load false 1 (tv 65)),
 o 67 (.len false (tv 66)),
 o 68 (.bin .gtr 0 (tv 67) (ki 16))] [] [1, 2, 68])
 (.cond (tv 68) (.seq (.region [] [o 69 (.fld 1 (tv 1)),
 o 70 (.load false 1 (tv 69)),
 o 71 (.idxA 20 (tv 70) (ki 16)),
 o 72 (.fld 0 (tv 71)),
 o 73 (.load false 1 (tv 72)),
 o 74 (.build [zi, zi] [(0, 1, (ki 5)), (1, 1, (tv 73))]),
 on (.store 2 (tv 2) (tv 74) [])] [] [2])
 .ret)
 .skip))
 (.seq (.seq (.region [] [o 6 (.mv (ki 0))] [] [1, 2, 6])
 (.block 4 (.loop l176_4)))
 (.seq (.seq (.region [] [o 10 (.mv (ki 0))] [] [1, 2, 10])
 (.block 10 (.loop l176_5)))
 (.seq (.region [] [o 156 (.build [zi, zi] []),
 on (.store 2 (tv 2) (tv 156) [])] [] [2])
 .ret)))))),
 [.cell 2 true 2], false⟩

def l213_0 : VCode := (.seq (.seq (.region [] [o 19 (.mv (tv 7)),
 o 20 (.mv (tv 0)),
 o 21 (.len false (tv 20)),
 o 22 (.bin .lss 0 (tv 19) (tv 21))] [] [0, 4, 7, 22])
 (.cond (tv 22) .skip
 (.exit 0)))
 (.seq (.block 1 (.seq (.region [] [o 25 (.mv (tv 0)),
 o 26 (.mv (tv 7)),
 o 27 (.idxA 5 (tv 25) (tv 26)),
 o 28 (.load true 5 (tv 27)),
 o 29 (.load true 5 (tv 4)),
 oa 30 (.call (kf 84) [(false, (tv 28)), (false, (tv 29))] []) 1472] [(2, 4), (3, 4)] [0, 4, 7, 30])
 (.cond (tv 30) (.seq (.region [] [o 31 (.mv (tv 0)),
 o 6 (.mv (tv 31))] [] [6])
 .ret)
 .skip)))
 (.region [] [o 23 (.mv (tv 7)),
 o 24 (.bin .add 0 (tv 23) (ki 1)),
 o 7 (.mv (tv 24))] [] [0, 4, 7])))

def l213_1 : VCode := (.seq (.seq (.region [] [o 36 (.mv (tv 8)),
 o 37 (.fld 4 (tv 4)),
 o 38 (.load false 1 (tv 37)),
 o 39 (.len false (tv 38)),
 o 40 (.bin .lss 0 (tv 36) (tv 39))] [] [0, 2, 4, 8, 40])
 (.cond (tv 40) .skip
 (.exit 2)))
 (.seq (.block 3 (.region [] [o 43 (.mv (tv 0)),
 o 44 (.fld 4 (tv 4)),
 o 45 (.load false 1 (tv 44)),
 o 46 (.mv (tv 8)),
 o 47 (.idxA 5 (tv 45) (tv 46)),
 o 48 (.load true 5 (tv 47)),
 o 49 (.mv (tv 2)),
 oa 50 (.call (kf 213) [(true, (tv 43)), (false, (tv 48)), (false, (tv 49))] []) 3008,
 o 0 (.mv (tv 50))] [] [0, 2, 4, 8]))
 (.region [3040, 3041, 3042] [o 41 (.mv (tv 8)),
 o 42 (.bin .add 0 (tv 41) (ki 1)),
 o 8 (.mv (tv 42))] [] [0, 2, 4, 8])))

def v213 : VFun := ⟨3,
 (.seq (.region [] [oa 4 (.box (tv 1)) 64,
 o 6 (.mv kn)] [] [0, 2, 4])
 (.seq (.seq (.region [] [o 9 (.fld 0 (tv 4)),
 o 10 (.load false 1 (tv 9)),
 o 11 (.mv (tv 2)),
 o 12 (.bin .eql 0 (tv 10) (tv 11)),
 o 13 (.mv (tv 12)),
 og 14 (.fld 4 (tv 4)) 13 true,
 og 15 (.load false 1 (tv 14)) 13 true,
 og 16 (.len false (tv 15)) 13 true,
 og 17 (.bin .eql 0 (tv 16) (ki 0)) 13 true,
 o 18 (.pick (tv 13) (tv 17) kF)] [] [0, 2, 4, 18])
 (.cond (tv 18) (.seq (.seq (.region [] [o 7 (.mv (ki 0))] [] [0, 4, 7])
 (.block 0 (.loop l213_0)))
 (.seq (.region [] [o 32 (.mv (tv 0)),
 o 33 (.load true 5 (tv 4)),
 oa 34 (.mkSl 5 [(tv 33)]) 1984,
 o 35 (.app 5 64 false (tv 32) (tv 34)),
 o 6 (.mv (tv 35))] [] [6])
 .ret))
 .skip))
 (.seq (.seq (.region [] [o 8 (.mv (ki 0))] [] [0, 2, 4, 8])
 (.block 2 (.loop l213_1)))
 (.seq (.region [] [o 51 (.mv (tv 0)),
 o 6 (.mv (tv 51))] [] [6])
 .ret)))),
 [.tmp 6], true⟩

def l156_0 : VCode := (.seq (.seq (.region [] [o 7 (.mv (tv 3)),
 o 8 (.bin .geq 0 (tv 7) (ki 0))] [] [0, 1, 3, 8])
 (.cond (tv 8) .skip
 (.exit 0)))
 (.seq (.block 1 (.seq (.region [] [o 11 (.mv (tv 0)),
 o 12 (.mv (tv 3)),
 o 13 (.load false 1 (tv 1)),
 o 14 (.mv (tv 3)),
 o 15 (.idxA 1 (tv 13) (tv 14)),
 o 16 (.load false 1 (tv 15)),
 oa 17 (.call (tv 11) [(false, (tv 12)), (false, (tv 16))] []) 832,
 o 18 (.un .not (tv 17))] [] [0, 1, 3, 18])
 (.cond (tv 18) .ret
 .skip)))
 (.region [864, 865, 866] [o 9 (.mv (tv 3)),
 o 10 (.bin .sub 0 (tv 9) (ki 1)),
 o 3 (.mv (tv 10))] [] [0, 1, 3])))

def v156 : VFun := ⟨2,
 (.seq (.region [] [o 4 (.load false 1 (tv 1)),
 o 5 (.len false (tv 4)),
 o 6 (.bin .sub 0 (tv 5) (ki 1)),
 o 3 (.mv (tv 6))] [] [0, 1, 3])
 (.block 0 (.loop l156_0))),
 [], false⟩

def l214_0 : VCode := (.seq (.region [] [o 9 (.bin .lss 0 (tv 8) (tv 7))] [] [0, 1, 7, 8, 9])
 (.seq (.cond (tv 9) .skip
 (.exit 0))
 (.seq (.block 1 (.seq (.region [] [o 10 (.mv (tv 8)),
 o 5 (.mv (tv 10))] [] [0, 1, 5, 7, 8])
 (.seq (.region [] [o 11 (.mv (tv 1)),
 o 12 (.mv (tv 0)),
 o 13 (.mv (tv 5)),
 o 14 (.idxA 5 (tv 12) (tv 13)),
 o 15 (.load true 5 (tv 14)),
 oa 16 (.call (tv 11) [(false, (tv 15))] []) 832] [] [0, 1, 5, 7, 8, 16])
 (.cond (tv 16) (.seq (.region [] [o 17 (.mv (tv 5)),
 o 4 (.mv (tv 17))] [] [4])
 .ret)
 .skip))))
 (.region [864, 865, 866] [o 18 (.bin .add 0 (tv 8) (ki 1)),
 o 8 (.mv (tv 18))] [] [0, 1, 7, 8]))))

def v214 : VFun := ⟨2,
 (.seq (.region [] [o 4 (.mv (ki 0))] [] [0, 1])
 (.seq (.seq (.region [] [o 6 (.mv (tv 0)),
 o 7 (.len false (tv 6)),
 o 8 (.mv (ki 0))] [] [0, 1, 7, 8])
 (.block 0 (.loop l214_0)))
 (.seq (.region [] [o 4 (.mv (ki (-1)))] [] [4])
 .ret))),
 [.tmp 4], false⟩

def v215 : VFun := ⟨2,
 (.seq (.region [] [o 4 (.mv (ki 0))] [] [0, 1])
 (.seq (.region [] [o 7 (.mv (tv 0)),
 oa 8 (.call (kf 248) [(false, (tv 7))] []) 192,
 o 5 (.mv (tv 8))] [] [0, 1, 5])
 (.seq (.region [] [o 9 (.mv (tv 1)),
 oa 10 (.call (kf 248) [(false, (tv 9))] []) 384,
 o 6 (.mv (tv 10))] [] [0, 1, 5, 6])
 (.seq (.seq (.region [] [o 11 (.mv (tv 5))] [] [0, 1, 6, 11])
 (.cond (tv 11) (.seq (.seq (.region [] [o 12 (.mv (tv 6))] [] [12])
 (.cond (tv 12) (.seq (.region [] [o 4 (.mv (ki 0))] [] [4])
 .ret)
 .skip))
 (.seq (.region [] [o 4 (.mv (ki (-1)))] [] [4])
 .ret))
 .skip))
 (.seq (.seq (.region [] [o 13 (.mv (tv 6))] [] [0, 1, 13])
 (.cond (tv 13) (.seq (.region [] [o 4 (.mv (ki 1))] [] [4])
 .ret)
 .skip))
 (.seq (.seq (.region [] [o 14 (.mv (tv 0)),
 o 15 (.mv (tv 1)),
 o 16 (.bin .lss 0 (tv 14) (tv 15))] [] [0, 1, 16])
 (.cond (tv 16) (.seq (.region [] [o 4 (.mv (ki (-1)))] [] [4])
 .ret)
 .skip))
 (.seq (.seq (.region [] [o 17 (.mv (tv 0)),
 o 18 (.mv (tv 1)),
 o 19 (.bin .gtr 0 (tv 17) (tv 18))] [] [19])
 (.cond (tv 19) (.seq (.region [] [o 4 (.mv (ki 1))] [] [4])
 .ret)
 .skip))
 (.seq (.region [] [o 4 (.mv (ki 0))] [] [4])
 .ret)))))))),
 [.tmp 4], false⟩

def l216_0 : VCode := (.seq (.region [] [o 14 (.bin .lss 0 (tv 13) (tv 12))] [] [0, 1, 2, 11, 12, 13, 14])
 (.seq (.cond (tv 14) .skip
 (.exit 0))
 (.seq (.block 1 (.seq (.region [] [o 15 (.mv (tv 13)),
 o 16 (.idxA 5 (tv 11) (tv 13)),
 o 17 (.load true 5 (tv 16)),
 oa 8 (.new [zi, zs, zi, zi, .nil] []) 576,
 o 7 (.mv (tv 15)),
 on (.store 5 (tv 8) (tv 17) [])] [] [0, 1, 2, 7, 8, 11, 12, 13])
 (.seq (.seq (.region [] [o 18 (.mv (tv 7)),
 o 19 (.mv (tv 1)),
 o 20 (.len false (tv 19)),
 o 21 (.bin .geq 0 (tv 18) (tv 20))] [] [0, 1, 2, 7, 8, 11, 12, 13, 21])
 (.cond (tv 21) (.seq (.region [] [o 6 (.mv (ki 1))] [] [6])
 .ret)
 .skip))
 (.seq (.region [] [o 22 (.mv (tv 1)),
 o 23 (.mv (tv 7)),
 o 24 (.idxA 5 (tv 22) (tv 23)),
 o 25 (.load true 5 (tv 24)),
 oa 9 (.new [zi, zs, zi, zi, .nil] []) 1344,
 on (.store 5 (tv 9) (tv 25) [])] [] [0, 1, 2, 8, 9, 11, 12, 13])
 (.seq (.region [] [o 26 (.mv (tv 2)),
 o 27 (.load true 5 (tv 8)),
 o 28 (.load true 5 (tv 9)),
 oa 29 (.call (tv 26) [(false, (tv 27)), (false, (tv 28))] []) 1664,
 o 10 (.mv (tv 29))] [] [0, 1, 2, 10, 11, 12, 13])
 (.seq (.region [576, 1344] [o 30 (.mv (tv 10)),
 o 31 (.bin .neq 0 (tv 30) (ki 0))] [] [0, 1, 2, 10, 11, 12, 13, 31])
 (.cond (tv 31) (.seq (.region [] [o 32 (.mv (tv 10)),
 o 6 (.mv (tv 32))] [] [6])
 .ret)
 .skip)))))))
 (.region [576, 1344, 1696, 1697, 1698] [o 33 (.bin .add 0 (tv 13) (ki 1)),
 o 13 (.mv (tv 33))] [] [0, 1, 2, 11, 12, 13]))))

def v216 : VFun := ⟨3,
 (.seq (.region [] [o 6 (.mv (ki 0))] [] [0, 1, 2])
 (.seq (.seq (.region [] [o 11 (.mv (tv 0)),
 o 12 (.len false (tv 11)),
 o 13 (.mv (ki 0))] [] [0, 1, 2, 11, 12, 13])
 (.block 0 (.loop l216_0)))
 (.seq (.seq (.region [] [o 34 (.mv (tv 0)),
 o 35 (.len false (tv 34)),
 o 36 (.mv (tv 1)),
 o 37 (.len false (tv 36)),
 o 38 (.bin .lss 0 (tv 35) (tv 37))] [] [38])
 (.cond (tv 38) (.seq (.region [] [o 6 (.mv (ki (-1)))] [] [6])
 .ret)
 .skip))
 (.seq (.region [] [o 6 (.mv (ki 0))] [] [6])
 .ret)))),
 [.tmp 6], false⟩

def l124_0 : VCode := (.seq (.seq (.region [] [o 10 (.mv (tv 6)),
 o 11 (.bin .geq 0 (tv 10) (ki 0))] [] [0, 1, 4, 6, 11])
 (.cond (tv 11) .skip
 (.exit 0)))
 (.seq (.block 1 (.seq (.region [] [o 14 (.mv (tv 0)),
 o 15 (.mv (tv 6)),
 o 16 (.idxA 7 (tv 14) (tv 15)),
 o 17 (.fld 0 (tv 16)),
 o 18 (.load false 1 (tv 17)),
 o 19 (.mv (tv 1)),
 o 20 (.bin .eql 0 (tv 18) (tv 19))] [] [0, 1, 4, 6, 20])
 (.cond (tv 20) (.seq (.region [] [o 21 (.mv (tv 0)),
 o 22 (.mv (tv 6)),
 o 23 (.idxA 7 (tv 21) (tv 22)),
 o 24 (.fld 1 (tv 23)),
 o 25 (.load true 6 (tv 24)),
 on (.store 6 (tv 4) (tv 25) []),
 o 5 (.mv kt)] [] [4, 5])
 .ret)
 .skip)))
 (.region [] [o 12 (.mv (tv 6)),
 o 13 (.bin .sub 0 (tv 12) (ki 1)),
 o 6 (.mv (tv 13))] [] [0, 1, 4, 6])))

def v124 : VFun := ⟨2,
 (.seq (.region [] [oa 4 (.new [zi, zi, zs, zi, zi, .nil] []) 64,
 o 5 (.mv kF)] [] [0, 1, 4])
 (.seq (.seq (.region [] [o 7 (.mv (tv 0)),
 o 8 (.len false (tv 7)),
 o 9 (.bin .sub 0 (tv 8) (ki 1)),
 o 6 (.mv (tv 9))] [] [0, 1, 4, 6])
 (.block 0 (.loop l124_0)))
 (.seq (.region [] [o 26 (.build [zi, zi, zs, zi, zi, .nil] []),
 on (.store 6 (tv 4) (tv 26) []),
 o 5 (.mv kF)] [] [4, 5])
 .ret))),
 [.cell 4 true 6, .tmp 5], false⟩

def l247_0 : VCode := (.seq (.region [] [o 9 (.bin .lss 0 (tv 8) (tv 7))] [] [0, 1, 7, 8, 9])
 (.seq (.cond (tv 9) .skip
 (.exit 0))
 (.seq (.block 1 (.seq (.region [] [o 10 (.mv (tv 8)),
 o 5 (.mv (tv 10))] [] [0, 1, 5, 7, 8])
 (.seq (.region [] [o 11 (.mv (tv 1)),
 o 12 (.mv (tv 0)),
 o 13 (.mv (tv 5)),
 o 14 (.idxA 7 (tv 12) (tv 13)),
 o 15 (.load true 7 (tv 14)),
 oa 16 (.call (tv 11) [(false, (tv 15))] []) 832] [] [0, 1, 5, 7, 8, 16])
 (.cond (tv 16) (.seq (.region [] [o 17 (.mv (tv 5)),
 o 4 (.mv (tv 17))] [] [4])
 .ret)
 .skip))))
 (.region [864, 865, 866] [o 18 (.bin .add 0 (tv 8) (ki 1)),
 o 8 (.mv (tv 18))] [] [0, 1, 7, 8]))))

def v247 : VFun := ⟨2,
 (.seq (.region [] [o 4 (.mv (ki 0))] [] [0, 1])
 (.seq (.seq (.region [] [o 6 (.mv (tv 0)),
 o 7 (.len false (tv 6)),
 o 8 (.mv (ki 0))] [] [0, 1, 7, 8])
 (.block 0 (.loop l247_0)))
 (.seq (.region [] [o 4 (.mv (ki (-1)))] [] [4])
 .ret))),
 [.tmp 4], false⟩

def v181 : VFun := ⟨2,
 (.seq (.region [] [o 4 (.mv kF)] [] [0, 1])
 (.seq (.region [] [o 5 (.mv (tv 0)),
 o 6 (.len true (tv 5)),
 o 7 (.mv (tv 1)),
 o 8 (.len true (tv 7)),
 o 9 (.bin .geq 0 (tv 6) (tv 8)),
 o 10 (.mv (tv 9)),
 og 11 (.mv (tv 0)) 10 true,
 og 12 (.mv (tv 1)) 10 true,
 og 13 (.len true (tv 12)) 10 true,
 og 14 (.slS (tv 11) none (some (tv 13))) 10 true,
 og 15 (.mv (tv 1)) 10 true,
 og 16 (.bin .eql 0 (tv 14) (tv 15)) 10 true,
 o 17 (.pick (tv 10) (tv 16) kF),
 o 4 (.mv (tv 17))] [] [4])
 .ret)),
 [.tmp 4], false⟩

def v182 : VFun := ⟨1,
 (.seq (.region [] [o 2 (.mv (.k (.sc (.c (.int .u8 0)))))] [] [0])
 (.seq (.region [] [o 3 (.mv (tv 0)),
 o 4 (.bin .or 0 (tv 3) (.k (.sc (.c (.int .u8 32))))),
 o 2 (.mv (tv 4))] [] [2])
 .ret)),
 [.tmp 2], false⟩

def l183_0 : VCode := (.seq (.seq (.region [] [o 51 (.mv (tv 4)),
 o 52 (.mv (tv 0)),
 o 53 (.len true (tv 52)),
 o 54 (.bin .lss 0 (tv 51) (tv 53))] [] [0, 3, 4, 5, 54])
 (.cond (tv 54) .skip
 (.exit 0)))
 (.seq (.block 1 (.seq (.seq (.region [] [o 57 (.mv (tv 0)),
 o 58 (.mv (tv 4)),
 o 59 (.idxS (tv 57) (tv 58)),
 o 60 (.bin .leq 0 (.k (.sc (.c (.int .u8 48)))) (tv 59)),
 o 61 (.mv (tv 60)),
 og 62 (.mv (tv 0)) 61 true,
 og 63 (.mv (tv 4)) 61 true,
 og 64 (.idxS (tv 62) (tv 63)) 61 true,
 og 65 (.bin .leq 0 (tv 64) (.k (.sc (.c (.int .u8 57))))) 61 true,
 o 66 (.pick (tv 61) (tv 65) kF),
 o 67 (.mv (tv 66)),
 og 68 (.mv (tv 5)) 67 false,
 og 69 (.mv (tv 68)) 67 false,
 og 70 (.mv (tv 0)) 69 true,
 og 71 (.mv (tv 4)) 69 true,
 og 72 (.idxS (tv 70) (tv 71)) 69 true,
 ⟨(some 73), (.call (kf 182) [(false, (tv 72))] []), (some (69, true)), 4736, []⟩,
 og 74 (.bin .leq 0 (.k (.sc (.c (.int .u8 97)))) (tv 73)) 69 true,
 og 75 (.pick (tv 69) (tv 74) kF) 67 false,
 og 76 (.mv (tv 75)) 67 false,
 og 77 (.mv (tv 0)) 76 true,
 og 78 (.mv (tv 4)) 76 true,
 og 79 (.idxS (tv 77) (tv 78)) 76 true,
 ⟨(some 80), (.call (kf 182) [(false, (tv 79))] []), (some (76, true)), 5184, []⟩,
 og 81 (.bin .leq 0 (tv 80) (.k (.sc (.c (.int .u8 102))))) 76 true,
 og 82 (.pick (tv 76) (tv 81) kF) 67 false,
 o 83 (.pick (tv 67) kt (tv 82))] [] [0, 3, 4, 5, 83])
 (.cond (tv 83) (.seq (.region [] [o 3 (.mv (.k (.sc (.c (.int .i32 48)))))] [] [0, 3, 4, 5])
 (.exit 1))
 .skip))
 (.seq (.seq (.region [] [o 84 (.mv (tv 0)),
 o 85 (.mv (tv 4)),
 o 86 (.idxS (tv 84) (tv 85)),
 o 87 (.bin .eql 0 (tv 86) (.k (.sc (.c (.int .u8 95)))))] [] [0, 3, 4, 5, 87])
 (.cond (tv 87) (.seq (.seq (.region [] [o 88 (.mv (tv 3)),
 o 89 (.bin .neq 0 (tv 88) (.k (.sc (.c (.int .i32 48)))))] [] [0, 4, 5, 89])
 (.cond (tv 89) (.seq (.region [] [o 2 (.mv kF)] [] [2])
 .ret)
 .skip))
 (.seq (.region [] [o 3 (.mv (.k (.sc (.c (.int .i32 95)))))] [] [0, 3, 4, 5])
 (.exit 1)))
 .skip))
 (.seq (.seq (.region [] [o 90 (.mv (tv 3)),
 o 91 (.bin .eql 0 (tv 90) (.k (.sc (.c (.int .i32 95)))))] [] [0, 4, 5, 91])
 (.cond (tv 91) (.seq (.region [] [o 2 (.mv kF)] [] [2])
 .ret)
 .skip))
 (.region [] [o 3 (.mv (.k (.sc (.c (.int .i32 33)))))] [] [0, 3, 4, 5])))))
 (.region [] [o 55 (.mv (tv 4)),
 o 56 (.bin .add 0 (tv 55) (ki 1)),
 o 4 (.mv (tv 56))] [] [0, 3, 4, 5])))

def v183 : VFun := ⟨1,
 (.seq (.region [] [o 2 (.mv kF)] [] [0])
 (.seq (.region [] [o 3 (.mv (.k (.sc (.c (.int .i32 94)))))] [] [0, 3])
 (.seq (.region [] [o 4 (.mv (ki 0))] [] [0, 3, 4])
 (.seq (.seq (.region [] [o 6 (.mv (tv 0)),
 o 7 (.len true (tv 6)),
 o 8 (.bin .geq 0 (tv 7) (ki 1)),
 o 9 (.mv (tv 8)),
 og 10 (.mv (tv 0)) 9 true,
 og 11 (.idxS (tv 10) (ki 0)) 9 true,
 og 12 (.bin .eql 0 (tv 11) (.k (.sc (.c (.int .u8 45))))) 9 true,
 og 13 (.mv (tv 12)) 9 true,
 og 14 (.mv (tv 0)) 13 false,
 og 15 (.idxS (tv 14) (ki 0)) 13 false,
 og 16 (.bin .eql 0 (tv 15) (.k (.sc (.c (.int .u8 43))))) 13 false,
 og 17 (.pick (tv 13) kt (tv 16)) 9 true,
 o 18 (.pick (tv 9) (tv 17) kF)] [] [0, 3, 4, 18])
 (.cond (tv 18) (.region [] [o 19 (.mv (tv 0)),
 o 20 (.slS (tv 19) (some (ki 1)) none),
 o 0 (.mv (tv 20))] [] [0, 3, 4])
 .skip))
 (.seq (.region [] [o 5 (.mv kF)] [] [0, 3, 4, 5])
 (.seq (.seq (.region [] [o 21 (.mv (tv 0)),
 o 22 (.len true (tv 21)),
 o 23 (.bin .geq 0 (tv 22) (ki 2)),
 o 24 (.mv (tv 23)),
 og 25 (.mv (tv 0)) 24 true,
 og 26 (.idxS (tv 25) (ki 0)) 24 true,
 og 27 (.bin .eql 0 (tv 26) (.k (.sc (.c (.int .u8 48))))) 24 true,
 o 28 (.pick (tv 24) (tv 27) kF),
 o 29 (.mv (tv 28)),
 og 30 (.mv (tv 0)) 29 true,
 og 31 (.idxS (tv 30) (ki 1)) 29 true,
 ⟨(some 32), (.call (kf 182) [(false, (tv 31))] []), (some (29, true)), 2048, []⟩,
 og 33 (.bin .eql 0 (tv 32) (.k (.sc (.c (.int .u8 98))))) 29 true,
 og 34 (.mv (tv 33)) 29 true,
 og 35 (.mv (tv 0)) 34 false,
 og 36 (.idxS (tv 35) (ki 1)) 34 false,
 ⟨(some 37), (.call (kf 182) [(false, (tv 36))] []), (some (34, false)), 2368, []⟩,
 og 38 (.bin .eql 0 (tv 37) (.k (.sc (.c (.int .u8 111))))) 34 false,
 og 39 (.pick (tv 34) kt (tv 38)) 29 true,
 og 40 (.mv (tv 39)) 29 true,
 og 41 (.mv (tv 0)) 40 false,
 og 42 (.idxS (tv 41) (ki 1)) 40 false,
 ⟨(some 43), (.call (kf 182) [(false, (tv 42))] []), (some (40, false)), 2752, []⟩,
 og 44 (.bin .eql 0 (tv 43) (.k (.sc (.c (.int .u8 120))))) 40 false,
 og 45 (.pick (tv 40) kt (tv 44)) 29 true,
 o 46 (.pick (tv 29) (tv 45) kF)] [] [0, 3, 4, 5, 46])
 (.cond (tv 46) (.seq (.region [] [o 4 (.mv (ki 2))] [] [0, 4])
 (.seq (.region [] [o 3 (.mv (.k (.sc (.c (.int .i32 48)))))] [] [0, 3, 4])
 (.region [] [o 47 (.mv (tv 0)),
 o 48 (.idxS (tv 47) (ki 1)),
 oa 49 (.call (kf 182) [(false, (tv 48))] []) 3264,
 o 50 (.bin .eql 0 (tv 49) (.k (.sc (.c (.int .u8 120))))),
 o 5 (.mv (tv 50))] [] [0, 3, 4, 5])))
 .skip))
 (.seq (.block 0 (.loop l183_0))
 (.seq (.region [] [o 92 (.mv (tv 3)),
 o 93 (.bin .neq 0 (tv 92) (.k (.sc (.c (.int .i32 95))))),
 o 2 (.mv (tv 93))] [] [2])
 .ret)))))))),
 [.tmp 2], false⟩

def v184 : VFun := ⟨2,
 (.seq (.region [] [o 4 (.mv (.k (.sc (.c .nilptr))))] [] [0, 1])
 (.seq (.region [] [o 5 (.mv (tv 0)),
 o 6 (.mv (tv 1)),
 oa 7 (.call (kf 233) [(false, (tv 6))] []) 256,
 o 8 (.load false 1 (.g 0)),
 o 9 (.build [zs, zs, (.c .nilif)] [(0, 1, (tv 5)), (1, 1, (tv 7)), (2, 1, (tv 8))]),
 oa 10 (.box (tv 9)) 448,
 o 4 (.mv (tv 10))] [(2, 3)] [4])
 .ret)),
 [.tmp 4], true⟩

def v185 : VFun := ⟨2,
 (.seq (.region [] [o 4 (.mv (.k (.sc (.c .nilptr))))] [] [0, 1])
 (.seq (.region [] [o 5 (.mv (tv 0)),
 o 6 (.mv (tv 1)),
 oa 7 (.call (kf 233) [(false, (tv 6))] []) 256,
 o 8 (.load false 1 (.g 1)),
 o 9 (.build [zs, zs, (.c .nilif)] [(0, 1, (tv 5)), (1, 1, (tv 7)), (2, 1, (tv 8))]),
 oa 10 (.box (tv 9)) 448,
 o 4 (.mv (tv 10))] [(2, 3)] [4])
 .ret)),
 [.tmp 4], true⟩

def v186 : VFun := ⟨3,
 (.seq (.region [] [o 6 (.mv (.k (.sc (.c .nilptr))))] [] [0, 1, 2])
 (.seq (.region [] [o 7 (.mv (tv 0)),
 o 8 (.mv (tv 1)),
 oa 9 (.call (kf 233) [(false, (tv 8))] []) 256,
 o 10 (.mv (tv 2)),
 oa 11 (.call (kf 235) [(false, (tv 10))] []) 384,
 o 12 (.bin .add 0 (.k (.sc (.c (.str [105, 110, 118, 97, 108, 105, 100, 32, 98, 97, 115, 101, 32])))) (tv 11)),
 oa 13 (.call (kf 234) [(false, (tv 12))] []) 512,
 o 14 (.build [zs, zs, (.c .nilif)] [(0, 1, (tv 7)), (1, 1, (tv 9)), (2, 1, (tv 13))]),
 oa 15 (.box (tv 14)) 640,
 o 6 (.mv (tv 15))] [] [6])
 .ret)),
 [.tmp 6], true⟩

def v187 : VFun := ⟨3,
 (.seq (.region [] [o 6 (.mv (.k (.sc (.c .nilptr))))] [] [0, 1, 2])
 (.seq (.region [] [o 7 (.mv (tv 0)),
 o 8 (.mv (tv 1)),
 oa 9 (.call (kf 233) [(false, (tv 8))] []) 256,
 o 10 (.mv (tv 2)),
 oa 11 (.call (kf 235) [(false, (tv 10))] []) 384,
 o 12 (.bin .add 0 (.k (.sc (.c (.str [105, 110, 118, 97, 108, 105, 100, 32, 98, 105, 116, 32, 115, 105, 122, 101, 32])))) (tv 11)),
 oa 13 (.call (kf 234) [(false, (tv 12))] []) 512,
 o 14 (.build [zs, zs, (.c .nilif)] [(0, 1, (tv 7)), (1, 1, (tv 9)), (2, 1, (tv 13))]),
 oa 15 (.box (tv 14)) 640,
 o 6 (.mv (tv 15))] [] [6])
 .ret)),
 [.tmp 6], true⟩

def v188 : VFun := ⟨1,
 (.seq (.region [] [o 2 (.mv (.k (.sc zs)))] [] [0])
 (.seq (.seq (.region [] [o 3 (.mv (tv 0)),
 o 4 (.bin .lss 0 (tv 3) (ki 10))] [] [0, 4])
 (.cond (tv 4) (.seq (.region [] [o 5 (.mv (tv 0)),
 o 6 (.mv (tv 0)),
 o 7 (.bin .add 0 (tv 6) (ki 1)),
 o 8 (.slS (.k (.sc (.c (.str [48, 49, 50, 51, 52, 53, 54, 55, 56, 57, 97, 98, 99, 100, 101, 102, 103, 104, 105, 106, 107, 108, 109, 110, 111, 112, 113, 114, 115, 116, 117, 118, 119, 120, 121, 122])))) (some (tv 5)) (some (tv 7))),
 o 2 (.mv (tv 8))] [] [2])
 .ret)
 .skip))
 (.seq (.region [] [o 9 (.mv (tv 0)),
 o 10 (.bin .mul 0 (tv 9) (ki 2)),
 o 11 (.mv (tv 0)),
 o 12 (.bin .mul 0 (tv 11) (ki 2)),
 o 13 (.bin .add 0 (tv 12) (ki 2)),
 o 14 (.slS (.k (.sc (.c (.str [48, 48, 48, 49, 48, 50, 48, 51, 48, 52, 48, 53, 48, 54, 48, 55, 48, 56, 48, 57, 49, 48, 49, 49, 49, 50, 49, 51, 49, 52, 49, 53, 49, 54, 49, 55, 49, 56, 49, 57, 50, 48, 50, 49, 50, 50, 50, 51, 50, 52, 50, 53, 50, 54, 50, 55, 50, 56, 50, 57, 51, 48, 51, 49, 51, 50, 51, 51, 51, 52, 51, 53, 51, 54, 51, 55, 51, 56, 51, 57, 52, 48, 52, 49, 52, 50, 52, 51, 52, 52, 52, 53, 52, 54, 52, 55, 52, 56, 52, 57, 53, 48, 53, 49, 53, 50, 53, 51, 53, 52, 53, 53, 53, 54, 53, 55, 53, 56, 53, 57, 54, 48, 54, 49, 54, 50, 54, 51, 54, 52, 54, 53, 54, 54, 54, 55, 54, 56, 54, 57, 55, 48, 55, 49, 55, 50, 55, 51, 55, 52, 55, 53, 55, 54, 55, 55, 55, 56, 55, 57, 56, 48, 56, 49, 56, 50, 56, 51, 56, 52, 56, 53, 56, 54, 56, 55, 56, 56, 56, 57, 57, 48, 57, 49, 57, 50, 57, 51, 57, 52, 57, 53, 57, 54, 57, 55, 57, 56, 57, 57])))) (some (tv 10)) (some (tv 13))),
 o 2 (.mv (tv 14))] [] [2])
 .ret))),
 [.tmp 2], false⟩

def v189 : VFun := ⟨1,
 (.seq (.region [] [o 2 (.mv (ki 0))] [] [0])
 (.seq (.region [] [o 4 (.mv (tv 0)),
 oa 5 (.call (kf 202) [(false, (tv 4))] []) 192,
 oa 6 (.call (kf 236) [(false, (tv 5))] []) 256,
 o 3 (.mv (tv 6))] [] [0, 3])
 (.seq (.region [] [o 7 (.mv (tv 3)),
 o 8 (.mv (tv 0)),
 o 9 (.mv (tv 3)),
 o 10 (.idxAA 1 20 (.g 2) (tv 9)),
 o 11 (.load false 1 (tv 10)),
 o 12 (.bin .geq 0 (tv 8) (tv 11)),
 oa 13 (.call (kf 237) [(false, (tv 12))] []) 768,
 o 14 (.bin .add 0 (tv 7) (tv 13)),
 o 2 (.mv (tv 14))] [] [2])
 .ret))),
 [.tmp 2], false⟩

def l190_0 : VCode := (.seq (.seq (.region [] [o 19 (.mv (tv 4)),
 o 20 (.bin .geq 0 (tv 19) (ki 8))] [] [0, 1, 4, 20])
 (.cond (tv 20) .skip
 (.exit 0)))
 (.block 1 (.seq (.region [] [o 21 (.mv (tv 1)),
 o 22 (.bin .rem 0 (tv 21) (.k (.sc (.c (.int .u64 100000000))))),
 o 23 (.cvI .u32 (tv 22)),
 o 5 (.mv (tv 23))] [] [0, 1, 4, 5])
 (.seq (.region [] [o 24 (.mv (tv 1)),
 o 25 (.bin .quo 0 (tv 24) (.k (.sc (.c (.int .u64 100000000))))),
 o 1 (.mv (tv 25))] [] [0, 1, 4, 5])
 (.seq (.region [] [o 26 (.mv (tv 5)),
 o 27 (.bin .quo 0 (tv 26) (.k (.sc (.c (.int .u32 10000))))),
 o 28 (.mv (tv 5)),
 o 29 (.bin .rem 0 (tv 28) (.k (.sc (.c (.int .u32 10000))))),
 o 6 (.mv (tv 27)),
 o 7 (.mv (tv 29))] [] [0, 1, 4, 6, 7])
 (.seq (.region [] [o 30 (.mv (tv 7)),
 o 31 (.bin .quo 0 (tv 30) (.k (.sc (.c (.int .u32 100))))),
 o 32 (.bin .mul 0 (tv 31) (.k (.sc (.c (.int .u32 2))))),
 o 33 (.mv (tv 7)),
 o 34 (.bin .rem 0 (tv 33) (.k (.sc (.c (.int .u32 100))))),
 o 35 (.bin .mul 0 (tv 34) (.k (.sc (.c (.int .u32 2))))),
 o 8 (.mv (tv 32)),
 o 9 (.mv (tv 35))] [] [0, 1, 4, 6, 8, 9])
 (.seq (.region [] [o 36 (.mv (tv 6)),
 o 37 (.bin .quo 0 (tv 36) (.k (.sc (.c (.int .u32 100))))),
 o 38 (.bin .mul 0 (tv 37) (.k (.sc (.c (.int .u32 2))))),
 o 39 (.mv (tv 6)),
 o 40 (.bin .rem 0 (tv 39) (.k (.sc (.c (.int .u32 100))))),
 o 41 (.bin .mul 0 (tv 40) (.k (.sc (.c (.int .u32 2))))),
 o 10 (.mv (tv 38)),
 o 11 (.mv (tv 41))] [] [0, 1, 4, 8, 9, 10, 11])
 (.seq (.region [] [o 42 (.mv (tv 0)),
 o 43 (.mv (tv 4)),
 o 44 (.bin .sub 0 (tv 43) (ki 1)),
 o 45 (.mv (tv 0)),
 o 46 (.mv (tv 4)),
 o 47 (.bin .sub 0 (tv 46) (ki 2)),
 o 48 (.mv (tv 9)),
 o 49 (.bin .add 0 (tv 48) (.k (.sc (.c (.int .u32 1))))),
 o 50 (.idxS (.k (.sc (.c (.str [48, 48, 48, 49, 48, 50, 48, 51, 48, 52, 48, 53, 48, 54, 48, 55, 48, 56, 48, 57, 49, 48, 49, 49, 49, 50, 49, 51, 49, 52, 49, 53, 49, 54, 49, 55, 49, 56, 49, 57, 50, 48, 50, 49, 50, 50, 50, 51, 50, 52, 50, 53, 50, 54, 50, 55, 50, 56, 50, 57, 51, 48, 51, 49, 51, 50, 51, 51, 51, 52, 51, 53, 51, 54, 51, 55, 51, 56, 51, 57, 52, 48, 52, 49, 52, 50, 52, 51, 52, 52, 52, 53, 52, 54, 52, 55, 52, 56, 52, 57, 53, 48, 53, 49, 53, 50, 53, 51, 53, 52, 53, 53, 53, 54, 53, 55, 53, 56, 53, 57, 54, 48, 54, 49, 54, 50, 54, 51, 54, 52, 54, 53, 54, 54, 54, 55, 54, 56, 54, 57, 55, 48, 55, 49, 55, 50, 55, 51, 55, 52, 55, 53, 55, 54, 55, 55, 55, 56, 55, 57, 56, 48, 56, 49, 56, 50, 56, 51, 56, 52, 56, 53, 56, 54, 56, 55, 56, 56, 56, 57, 57, 48, 57, 49, 57, 50, 57, 51, 57, 52, 57, 53, 57, 54, 57, 55, 57, 56, 57, 57])))) (tv 49)),
 o 51 (.mv (tv 9)),
 o 52 (.idxS (.k (.sc (.c (.str [48, 48, 48, 49, 48, 50, 48, 51, 48, 52, 48, 53, 48, 54, 48, 55, 48, 56, 48, 57, 49, 48, 49, 49, 49, 50, 49, 51, 49, 52, 49, 53, 49, 54, 49, 55, 49, 56, 49, 57, 50, 48, 50, 49, 50, 50, 50, 51, 50, 52, 50, 53, 50, 54, 50, 55, 50, 56, 50, 57, 51, 48, 51, 49, 51, 50, 51, 51, 51, 52, 51, 53, 51, 54, 51, 55, 51, 56, 51, 57, 52, 48, 52, 49, 52, 50, 52, 51, 52, 52, 52, 53, 52, 54, 52, 55, 52, 56, 52, 57, 53, 48, 53, 49, 53, 50, 53, 51, 53, 52, 53, 53, 53, 54, 53, 55, 53, 56, 53, 57, 54, 48, 54, 49, 54, 50, 54, 51, 54, 52, 54, 53, 54, 54, 54, 55, 54, 56, 54, 57, 55, 48, 55, 49, 55, 50, 55, 51, 55, 52, 55, 53, 55, 54, 55, 55, 55, 56, 55, 57, 56, 48, 56, 49, 56, 50, 56, 51, 56, 52, 56, 53, 56, 54, 56, 55, 56, 56, 56, 57, 57, 48, 57, 49, 57, 50, 57, 51, 57, 52, 57, 53, 57, 54, 57, 55, 57, 56, 57, 57])))) (tv 51)),
 o 53 (.idxA 1 (tv 42) (tv 44)),
 on (.store 1 (tv 53) (tv 50) []),
 o 54 (.idxA 1 (tv 45) (tv 47)),
 on (.store 1 (tv 54) (tv 52) [])] [] [0, 1, 4, 8, 10, 11])
 (.seq (.region [] [o 55 (.mv (tv 0)),
 o 56 (.mv (tv 4)),
 o 57 (.bin .sub 0 (tv 56) (ki 3)),
 o 58 (.mv (tv 0)),
 o 59 (.mv (tv 4)),
 o 60 (.bin .sub 0 (tv 59) (ki 4)),
 o 61 (.mv (tv 8)),
 o 62 (.bin .add 0 (tv 61) (.k (.sc (.c (.int .u32 1))))),
 o 63 (.idxS (.k (.sc (.c (.str [48, 48, 48, 49, 48, 50, 48, 51, 48, 52, 48, 53, 48, 54, 48, 55, 48, 56, 48, 57, 49, 48, 49, 49, 49, 50, 49, 51, 49, 52, 49, 53, 49, 54, 49, 55, 49, 56, 49, 57, 50, 48, 50, 49, 50, 50, 50, 51, 50, 52, 50, 53, 50, 54, 50, 55, 50, 56, 50, 57, 51, 48, 51, 49, 51, 50, 51, 51, 51, 52, 51, 53, 51, 54, 51, 55, 51, 56, 51, 57, 52, 48, 52, 49, 52, 50, 52, 51, 52, 52, 52, 53, 52, 54, 52, 55, 52, 56, 52, 57, 53, 48, 53, 49, 53, 50, 53, 51, 53, 52, 53, 53, 53, 54, 53, 55, 53, 56, 53, 57, 54, 48, 54, 49, 54, 50, 54, 51, 54, 52, 54, 53, 54, 54, 54, 55, 54, 56, 54, 57, 55, 48, 55, 49, 55, 50, 55, 51, 55, 52, 55, 53, 55, 54, 55, 55, 55, 56, 55, 57, 56, 48, 56, 49, 56, 50, 56, 51, 56, 52, 56, 53, 56, 54, 56, 55, 56, 56, 56, 57, 57, 48, 57, 49, 57, 50, 57, 51, 57, 52, 57, 53, 57, 54, 57, 55, 57, 56, 57, 57])))) (tv 62)),
 o 64 (.mv (tv 8)),
 o 65 (.idxS (.k (.sc (.c (.str [48, 48, 48, 49, 48, 50, 48, 51, 48, 52, 48, 53, 48, 54, 48, 55, 48, 56, 48, 57, 49, 48, 49, 49, 49, 50, 49, 51, 49, 52, 49, 53, 49, 54, 49, 55, 49, 56, 49, 57, 50, 48, 50, 49, 50, 50, 50, 51, 50, 52, 50, 53, 50, 54, 50, 55, 50, 56, 50, 57, 51, 48, 51, 49, 51, 50, 51, 51, 51, 52, 51, 53, 51, 54, 51, 55, 51, 56, 51, 57, 52, 48, 52, 49, 52, 50, 52, 51, 52, 52, 52, 53, 52, 54, 52, 55, 52, 56, 52, 57, 53, 48, 53, 49, 53, 50, 53, 51, 53, 52, 53, 53, 53, 54, 53, 55, 53, 56, 53, 57, 54, 48, 54, 49, 54, 50, 54, 51, 54, 52, 54, 53, 54, 54, 54, 55, 54, 56, 54, 57, 55, 48, 55, 49, 55, 50, 55, 51, 55, 52, 55, 53, 55, 54, 55, 55, 55, 56, 55, 57, 56, 48, 56, 49, 56, 50, 56, 51, 56, 52, 56, 53, 56, 54, 56, 55, 56, 56, 56, 57, 57, 48, 57, 49, 57, 50, 57, 51, 57, 52, 57, 53, 57, 54, 57, 55, 57, 56, 57, 57])))) (tv 64)),
 o 66 (.idxA 1 (tv 55) (tv 57)),
 on (.store 1 (tv 66) (tv 63) []),
 o 67 (.idxA 1 (tv 58) (tv 60)),
 on (.store 1 (tv 67) (tv 65) [])] [] [0, 1, 4, 10, 11])
 (.seq (.region [] [o 68 (.mv (tv 0)),
 o 69 (.mv (tv 4)),
 o 70 (.bin .sub 0 (tv 69) (ki 5)),
 o 71 (.mv (tv 0)),
 o 72 (.mv (tv 4)),
 o 73 (.bin .sub 0 (tv 72) (ki 6)),
 o 74 (.mv (tv 11)),
 o 75 (.bin .add 0 (tv 74) (.k (.sc (.c (.int .u32 1))))),
 o 76 (.idxS (.k (.sc (.c (.str [48, 48, 48, 49, 48, 50, 48, 51, 48, 52, 48, 53, 48, 54, 48, 55, 48, 56, 48, 57, 49, 48, 49, 49, 49, 50, 49, 51, 49, 52, 49, 53, 49, 54, 49, 55, 49, 56, 49, 57, 50, 48, 50, 49, 50, 50, 50, 51, 50, 52, 50, 53, 50, 54, 50, 55, 50, 56, 50, 57, 51, 48, 51, 49, 51, 50, 51, 51, 51, 52, 51, 53, 51, 54, 51, 55, 51, 56, 51, 57, 52, 48, 52, 49, 52, 50, 52, 51, 52, 52, 52, 53, 52, 54, 52, 55, 52, 56, 52, 57, 53, 48, 53, 49, 53, 50, 53, 51, 53, 52, 53, 53, 53, 54, 53, 55, 53, 56, 53, 57, 54, 48, 54, 49, 54, 50, 54, 51, 54, 52, 54, 53, 54, 54, 54, 55, 54, 56, 54, 57, 55, 48, 55, 49, 55, 50, 55, 51, 55, 52, 55, 53, 55, 54, 55, 55, 55, 56, 55, 57, 56, 48, 56, 49, 56, 50, 56, 51, 56, 52, 56, 53, 56, 54, 56, 55, 56, 56, 56, 57, 57, 48, 57, 49, 57, 50, 57, 51, 57, 52, 57, 53, 57, 54, 57, 55, 57, 56, 57, 57])))) (tv 75)),
 o 77 (.mv (tv 11)),
 o 78 (.idxS (.k (.sc (.c (.str [48, 48, 48, 49, 48, 50, 48, 51, 48, 52, 48, 53, 48, 54, 48, 55, 48, 56, 48, 57, 49, 48, 49, 49, 49, 50, 49, 51, 49, 52, 49, 53, 49, 54, 49, 55, 49, 56, 49, 57, 50, 48, 50, 49, 50, 50, 50, 51, 50, 52, 50, 53, 50, 54, 50, 55, 50, 56, 50, 57, 51, 48, 51, 49, 51, 50, 51, 51, 51, 52, 51, 53, 51, 54, 51, 55, 51, 56, 51, 57, 52, 48, 52, 49, 52, 50, 52, 51, 52, 52, 52, 53, 52, 54, 52, 55, 52, 56, 52, 57, 53, 48, 53, 49, 53, 50, 53, 51, 53, 52, 53, 53, 53, 54, 53, 55, 53, 56, 53, 57, 54, 48, 54, 49, 54, 50, 54, 51, 54, 52, 54, 53, 54, 54, 54, 55, 54, 56, 54, 57, 55, 48, 55, 49, 55, 50, 55, 51, 55, 52, 55, 53, 55, 54, 55, 55, 55, 56, 55, 57, 56, 48, 56, 49, 56, 50, 56, 51, 56, 52, 56, 53, 56, 54, 56, 55, 56, 56, 56, 57, 57, 48, 57, 49, 57, 50, 57, 51, 57, 52, 57, 53, 57, 54, 57, 55, 57, 56, 57, 57])))) (tv 77)),
 o 79 (.idxA 1 (tv 68) (tv 70)),
 on (.store 1 (tv 79) (tv 76) []),
 o 80 (.idxA 1 (tv 71) (tv 73)),
 on (.store 1 (tv 80) (tv 78) [])] [] [0, 1, 4, 10])
 (.seq (.region [] [o 81 (.mv (tv 0)),
 o 82 (.mv (tv 4)),
 o 83 (.bin .sub 0 (tv 82) (ki 7)),
 o 84 (.mv (tv 0)),
 o 85 (.mv (tv 4)),
 o 86 (.bin .sub 0 (tv 85) (ki 8)),
 o 87 (.mv (tv 10)),
 o 88 (.bin .add 0 (tv 87) (.k (.sc (.c (.int .u32 1))))),
 o 89 (.idxS (.k (.sc (.c (.str [48, 48, 48, 49, 48, 50, 48, 51, 48, 52, 48, 53, 48, 54, 48, 55, 48, 56, 48, 57, 49, 48, 49, 49, 49, 50, 49, 51, 49, 52, 49, 53, 49, 54, 49, 55, 49, 56, 49, 57, 50, 48, 50, 49, 50, 50, 50, 51, 50, 52, 50, 53, 50, 54, 50, 55, 50, 56, 50, 57, 51, 48, 51, 49, 51, 50, 51, 51, 51, 52, 51, 53, 51, 54, 51, 55, 51, 56, 51, 57, 52, 48, 52, 49, 52, 50, 52, 51, 52, 52, 52, 53, 52, 54, 52, 55, 52, 56, 52, 57, 53, 48, 53, 49, 53, 50, 53, 51, 53, 52, 53, 53, 53, 54, 53, 55, 53, 56, 53, 57, 54, 48, 54, 49, 54, 50, 54, 51, 54, 52, 54, 53, 54, 54, 54, 55, 54, 56, 54, 57, 55, 48, 55, 49, 55, 50, 55, 51, 55, 52, 55, 53, 55, 54, 55, 55, 55, 56, 55, 57, 56, 48, 56, 49, 56, 50, 56, 51, 56, 52, 56, 53, 56, 54, 56, 55, 56, 56, 56, 57, 57, 48, 57, 49, 57, 50, 57, 51, 57, 52, 57, 53, 57, 54, 57, 55, 57, 56, 57, 57])))) (tv 88)),
 o 90 (.mv (tv 10)),
 o 91 (.idxS (.k (.sc (.c (.str [48, 48, 48, 49, 48, 50, 48, 51, 48, 52, 48, 53, 48, 54, 48, 55, 48, 56, 48, 57, 49, 48, 49, 49, 49, 50, 49, 51, 49, 52, 49, 53, 49, 54, 49, 55, 49, 56, 49, 57, 50, 48, 50, 49, 50, 50, 50, 51, 50, 52, 50, 53, 50, 54, 50, 55, 50, 56, 50, 57, 51, 48, 51, 49, 51, 50, 51, 51, 51, 52, 51, 53, 51, 54, 51, 55, 51, 56, 51, 57, 52, 48, 52, 49, 52, 50, 52, 51, 52, 52, 52, 53, 52, 54, 52, 55, 52, 56, 52, 57, 53, 48, 53, 49, 53, 50, 53, 51, 53, 52, 53, 53, 53, 54, 53, 55, 53, 56, 53, 57, 54, 48, 54, 49, 54, 50, 54, 51, 54, 52, 54, 53, 54, 54, 54, 55, 54, 56, 54, 57, 55, 48, 55, 49, 55, 50, 55, 51, 55, 52, 55, 53, 55, 54, 55, 55, 55, 56, 55, 57, 56, 48, 56, 49, 56, 50, 56, 51, 56, 52, 56, 53, 56, 54, 56, 55, 56, 56, 56, 57, 57, 48, 57, 49, 57, 50, 57, 51, 57, 52, 57, 53, 57, 54, 57, 55, 57, 56, 57, 57])))) (tv 90)),
 o 92 (.idxA 1 (tv 81) (tv 83)),
 on (.store 1 (tv 92) (tv 89) []),
 o 93 (.idxA 1 (tv 84) (tv 86)),
 on (.store 1 (tv 93) (tv 91) [])] [] [0, 1, 4])
 (.region [] [o 94 (.mv (tv 4)),
 o 95 (.bin .sub 0 (tv 94) (ki 8)),
 o 4 (.mv (tv 95))] [] [0, 1, 4]))))))))))))

def v190 : VFun := ⟨2,
 (.seq (.region [] [o 17 (.mv (tv 0)),
 o 18 (.len false (tv 17)),
 o 4 (.mv (tv 18))] [] [0, 1, 4])
 (.seq (.block 0 (.loop l190_0))
 (.seq (.region [] [o 96 (.mv (tv 1)),
 o 97 (.cvI .u32 (tv 96)),
 o 12 (.mv (tv 97))] [] [0, 4, 12])
 (.seq (.seq (.region [] [o 98 (.mv (tv 4)),
 o 99 (.bin .geq 0 (tv 98) (ki 4))] [] [0, 4, 12, 99])
 (.cond (tv 99) (.seq (.region [] [o 100 (.mv (tv 12)),
 o 101 (.bin .rem 0 (tv 100) (.k (.sc (.c (.int .u32 10000))))),
 o 13 (.mv (tv 101))] [] [0, 4, 12, 13])
 (.seq (.region [] [o 102 (.mv (tv 12)),
 o 103 (.bin .quo 0 (tv 102) (.k (.sc (.c (.int .u32 10000))))),
 o 12 (.mv (tv 103))] [] [0, 4, 12, 13])
 (.seq (.region [] [o 104 (.mv (tv 13)),
 o 105 (.bin .quo 0 (tv 104) (.k (.sc (.c (.int .u32 100))))),
 o 106 (.bin .mul 0 (tv 105) (.k (.sc (.c (.int .u32 2))))),
 o 107 (.mv (tv 13)),
 o 108 (.bin .rem 0 (tv 107) (.k (.sc (.c (.int .u32 100))))),
 o 109 (.bin .mul 0 (tv 108) (.k (.sc (.c (.int .u32 2))))),
 o 14 (.mv (tv 106)),
 o 15 (.mv (tv 109))] [] [0, 4, 12, 14, 15])
 (.seq (.region [] [o 110 (.mv (tv 0)),
 o 111 (.mv (tv 4)),
 o 112 (.bin .sub 0 (tv 111) (ki 1)),
 o 113 (.mv (tv 0)),
 o 114 (.mv (tv 4)),
 o 115 (.bin .sub 0 (tv 114) (ki 2)),
 o 116 (.mv (tv 15)),
 o 117 (.bin .add 0 (tv 116) (.k (.sc (.c (.int .u32 1))))),
 o 118 (.idxS (.k (.sc (.c (.str [48, 48, 48, 49, 48, 50, 48, 51, 48, 52, 48, 53, 48, 54, 48, 55, 48, 56, 48, 57, 49, 48, 49, 49, 49, 50, 49, 51, 49, 52, 49, 53, 49, 54, 49, 55, 49, 56, 49, 57, 50, 48, 50, 49, 50, 50, 50, 51, 50, 52, 50, 53, 50, 54, 50, 55, 50, 56, 50, 57, 51, 48, 51, 49, 51, 50, 51, 51, 51, 52, 51, 53, 51, 54, 51, 55, 51, 56, 51, 57, 52, 48, 52, 49, 52, 50, 52, 51, 52, 52, 52, 53, 52, 54, 52, 55, 52, 56, 52, 57, 53, 48, 53, 49, 53, 50, 53, 51, 53, 52, 53, 53, 53, 54, 53, 55, 53, 56, 53, 57, 54, 48, 54, 49, 54, 50, 54, 51, 54, 52, 54, 53, 54, 54, 54, 55, 54, 56, 54, 57, 55, 48, 55, 49, 55, 50, 55, 51, 55, 52, 55, 53, 55, 54, 55, 55, 55, 56, 55, 57, 56, 48, 56, 49, 56, 50, 56, 51, 56, 52, 56, 53, 56, 54, 56, 55, 56, 56, 56, 57, 57, 48, 57, 49, 57, 50, 57, 51, 57, 52, 57, 53, 57, 54, 57, 55, 57, 56, 57, 57])))) (tv 117)),
 o 119 (.mv (tv 15)),
 o 120 (.idxS (.k (.sc (.c (.str [48, 48, 48, 49, 48, 50, 48, 51, 48, 52, 48, 53, 48, 54, 48, 55, 48, 56, 48, 57, 49, 48, 49, 49, 49, 50, 49, 51, 49, 52, 49, 53, 49, 54, 49, 55, 49, 56, 49, 57, 50, 48, 50, 49, 50, 50, 50, 51, 50, 52, 50, 53, 50, 54, 50, 55, 50, 56, 50, 57, 51, 48, 51, 49, 51, 50, 51, 51, 51, 52, 51, 53, 51, 54, 51, 55, 51, 56, 51, 57, 52, 48, 52, 49, 52, 50, 52, 51, 52, 52, 52, 53, 52, 54, 52, 55, 52, 56, 52, 57, 53, 48, 53, 49, 53, 50, 53, 51, 53, 52, 53, 53, 53, 54, 53, 55, 53, 56, 53, 57, 54, 48, 54, 49, 54, 50, 54, 51, 54, 52, 54, 53, 54, 54, 54, 55, 54, 56, 54, 57, 55, 48, 55, 49, 55, 50, 55, 51, 55, 52, 55, 53, 55, 54, 55, 55, 55, 56, 55, 57, 56, 48, 56, 49, 56, 50, 56, 51, 56, 52, 56, 53, 56, 54, 56, 55, 56, 56, 56, 57, 57, 48, 57, 49, 57, 50, 57, 51, 57, 52, 57, 53, 57, 54, 57, 55, 57, 56, 57, 57])))) (tv 119)),
 o 121 (.idxA 1 (tv 110) (tv 112)),
 on (.store 1 (tv 121) (tv 118) []),
 o 122 (.idxA 1 (tv 113) (tv 115)),
 on (.store 1 (tv 122) (tv 120) [])] [] [0, 4, 12, 14])
 (.seq (.region [] [o 123 (.mv (tv 0)),
 o 124 (.mv (tv 4)),
 o 125 (.bin .sub 0 (tv 124) (ki 3)),
 o 126 (.mv (tv 0)),
 o 127 (.mv (tv 4)),
 o 128 (.bin .sub 0 (tv 127) (ki 4)),
 o 129 (.mv (tv 14)),
 o 130 (.bin .add 0 (tv 129) (.k (.sc (.c (.int .u32 1))))),
 o 131 (.idxS (.k (.sc (.c (.str [48, 48, 48, 49, 48, 50, 48, 51, 48, 52, 48, 53, 48, 54, 48, 55, 48, 56, 48, 57, 49, 48, 49, 49, 49, 50, 49, 51, 49, 52, 49, 53, 49, 54, 49, 55, 49, 56, 49, 57, 50, 48, 50, 49, 50, 50, 50, 51, 50, 52, 50, 53, 50, 54, 50, 55, 50, 56, 50, 57, 51, 48, 51, 49, 51, 50, 51, 51, 51, 52, 51, 53, 51, 54, 51, 55, 51, 56, 51, 57, 52, 48, 52, 49, 52, 50, 52, 51, 52, 52, 52, 53, 52, 54, 52, 55, 52, 56, 52, 57, 53, 48, 53, 49, 53, 50, 53, 51, 53, 52, 53, 53, 53, 54, 53, 55, 53, 56, 53, 57, 54, 48, 54, 49, 54, 50, 54, 51, 54, 52, 54, 53, 54, 54, 54, 55, 54, 56, 54, 57, 55, 48, 55, 49, 55, 50, 55, 51, 55, 52, 55, 53, 55, 54, 55, 55, 55, 56, 55, 57, 56, 48, 56, 49, 56, 50, 56, 51, 56, 52, 56, 53, 56, 54, 56, 55, 56, 56, 56, 57, 57, 48, 57, 49, 57, 50, 57, 51, 57, 52, 57, 53, 57, 54, 57, 55, 57, 56, 57, 57])))) (tv 130)),
 o 132 (.mv (tv 14)),
 o 133 (.idxS (.k (.sc (.c (.str [48, 48, 48, 49, 48, 50, 48, 51, 48, 52, 48, 53, 48, 54, 48, 55, 48, 56, 48, 57, 49, 48, 49, 49, 49, 50, 49, 51, 49, 52, 49, 53, 49, 54, 49, 55, 49, 56, 49, 57, 50, 48, 50, 49, 50, 50, 50, 51, 50, 52, 50, 53, 50, 54, 50, 55, 50, 56, 50, 57, 51, 48, 51, 49, 51, 50, 51, 51, 51, 52, 51, 53, 51, 54, 51, 55, 51, 56, 51, 57, 52, 48, 52, 49, 52, 50, 52, 51, 52, 52, 52, 53, 52, 54, 52, 55, 52, 56, 52, 57, 53, 48, 53, 49, 53, 50, 53, 51, 53, 52, 53, 53, 53, 54, 53, 55, 53, 56, 53, 57, 54, 48, 54, 49, 54, 50, 54, 51, 54, 52, 54, 53, 54, 54, 54, 55, 54, 56, 54, 57, 55, 48, 55, 49, 55, 50, 55, 51, 55, 52, 55, 53, 55, 54, 55, 55, 55, 56, 55, 57, 56, 48, 56, 49, 56, 50, 56, 51, 56, 52, 56, 53, 56, 54, 56, 55, 56, 56, 56, 57, 57, 48, 57, 49, 57, 50, 57, 51, 57, 52, 57, 53, 57, 54, 57, 55, 57, 56, 57, 57])))) (tv 132)),
 o 134 (.idxA 1 (tv 123) (tv 125)),
 on (.store 1 (tv 134) (tv 131) []),
 o 135 (.idxA 1 (tv 126) (tv 128)),
 on (.store 1 (tv 135) (tv 133) [])] [] [0, 4, 12])
 (.region [] [o 136 (.mv (tv 4)),
 o 137 (.bin .sub 0 (tv 136) (ki 4)),
 o 4 (.mv (tv 137))] [] [0, 4, 12]))))))
 .skip))
 (.seq (.seq (.region [] [o 138 (.mv (tv 4)),
 o 139 (.bin .geq 0 (tv 138) (ki 2))] [] [0, 4, 12, 139])
 (.cond (tv 139) (.seq (.region [] [o 140 (.mv (tv 12)),
 o 141 (.bin .rem 0 (tv 140) (.k (.sc (.c (.int .u32 100))))),
 o 142 (.bin .mul 0 (tv 141) (.k (.sc (.c (.int .u32 2))))),
 o 16 (.mv (tv 142))] [] [0, 4, 12, 16])
 (.seq (.region [] [o 143 (.mv (tv 12)),
 o 144 (.bin .quo 0 (tv 143) (.k (.sc (.c (.int .u32 100))))),
 o 12 (.mv (tv 144))] [] [0, 4, 12, 16])
 (.seq (.region [] [o 145 (.mv (tv 0)),
 o 146 (.mv (tv 4)),
 o 147 (.bin .sub 0 (tv 146) (ki 1)),
 o 148 (.mv (tv 0)),
 o 149 (.mv (tv 4)),
 o 150 (.bin .sub 0 (tv 149) (ki 2)),
 o 151 (.mv (tv 16)),
 o 152 (.bin .add 0 (tv 151) (.k (.sc (.c (.int .u32 1))))),
 o 153 (.idxS (.k (.sc (.c (.str [48, 48, 48, 49, 48, 50, 48, 51, 48, 52, 48, 53, 48, 54, 48, 55, 48, 56, 48, 57, 49, 48, 49, 49, 49, 50, 49, 51, 49, 52, 49, 53, 49, 54, 49, 55, 49, 56, 49, 57, 50, 48, 50, 49, 50, 50, 50, 51, 50, 52, 50, 53, 50, 54, 50, 55, 50, 56, 50, 57, 51, 48, 51, 49, 51, 50, 51, 51, 51, 52, 51, 53, 51, 54, 51, 55, 51, 56, 51, 57, 52, 48, 52, 49, 52, 50, 52, 51, 52, 52, 52, 53, 52, 54, 52, 55, 52, 56, 52, 57, 53, 48, 53, 49, 53, 50, 53, 51, 53, 52, 53, 53, 53, 54, 53, 55, 53, 56, 53, 57, 54, 48, 54, 49, 54, 50, 54, 51, 54, 52, 54, 53, 54, 54, 54, 55, 54, 56, 54, 57, 55, 48, 55, 49, 55, 50, 55, 51, 55, 52, 55, 53, 55, 54, 55, 55, 55, 56, 55, 57, 56, 48, 56, 49, 56, 50, 56, 51, 56, 52, 56, 53, 56, 54, 56, 55, 56, 56, 56, 57, 57, 48, 57, 49, 57, 50, 57, 51, 57, 52, 57, 53, 57, 54, 57, 55, 57, 56, 57, 57])))) (tv 152)),
 o 154 (.mv (tv 16)),
 o 155 (.idxS (.k (.sc (.c (.str [48, 48, 48, 49, 48, 50, 48, 51, 48, 52, 48, 53, 48, 54, 48, 55, 48, 56, 48, 57, 49, 48, 49, 49, 49, 50, 49, 51, 49, 52, 49, 53, 49, 54, 49, 55, 49, 56, 49, 57, 50, 48, 50, 49, 50, 50, 50, 51, 50, 52, 50, 53, 50, 54, 50, 55, 50, 56, 50, 57, 51, 48, 51, 49, 51, 50, 51, 51, 51, 52, 51, 53, 51, 54, 51, 55, 51, 56, 51, 57, 52, 48, 52, 49, 52, 50, 52, 51, 52, 52, 52, 53, 52, 54, 52, 55, 52, 56, 52, 57, 53, 48, 53, 49, 53, 50, 53, 51, 53, 52, 53, 53, 53, 54, 53, 55, 53, 56, 53, 57, 54, 48, 54, 49, 54, 50, 54, 51, 54, 52, 54, 53, 54, 54, 54, 55, 54, 56, 54, 57, 55, 48, 55, 49, 55, 50, 55, 51, 55, 52, 55, 53, 55, 54, 55, 55, 55, 56, 55, 57, 56, 48, 56, 49, 56, 50, 56, 51, 56, 52, 56, 53, 56, 54, 56, 55, 56, 56, 56, 57, 57, 48, 57, 49, 57, 50, 57, 51, 57, 52, 57, 53, 57, 54, 57, 55, 57, 56, 57, 57])))) (tv 154)),
 o 156 (.idxA 1 (tv 145) (tv 147)),
 on (.store 1 (tv 156) (tv 153) []),
 o 157 (.idxA 1 (tv 148) (tv 150)),
 on (.store 1 (tv 157) (tv 155) [])] [] [0, 4, 12])
 (.region [] [o 158 (.mv (tv 4)),
 o 159 (.bin .sub 0 (tv 158) (ki 2)),
 o 4 (.mv (tv 159))] [] [0, 4, 12]))))
 .skip))
 (.seq (.region [] [o 160 (.mv (tv 4)),
 o 161 (.bin .gtr 0 (tv 160) (ki 0))] [] [0, 12, 161])
 (.cond (tv 161) (.region [] [o 162 (.mv (tv 0)),
 o 163 (.mv (tv 12)),
 o 164 (.bin .add 0 (.k (.sc (.c (.int .u32 48)))) (tv 163)),
 o 165 (.cvI .u8 (tv 164)),
 o 166 (.idxA 1 (tv 162) (ki 0)),
 on (.store 1 (tv 166) (tv 165) [])] [] [1000000])
 .skip))))))),
 [], false⟩

def l191_0 : VCode := (.seq (.seq (.region [] [o 44 (.mv (tv 1)),
 o 45 (.mv (tv 15)),
 o 46 (.bin .geq 0 (tv 44) (tv 45))] [] [0, 1, 3, 4, 10, 11, 12, 13, 14, 15, 16, 46])
 (.cond (tv 46) .skip
 (.exit 0)))
 (.block 1 (.seq (.region [] [o 47 (.mv (tv 13)),
 o 48 (.bin .sub 0 (tv 47) (ki 1)),
 o 13 (.mv (tv 48))] [] [0, 1, 3, 4, 10, 11, 12, 13, 14, 15, 16])
 (.seq (.region [] [o 49 (.mv (tv 13)),
 o 50 (.mv (tv 1)),
 o 51 (.mv (tv 16)),
 o 52 (.bin .and 0 (tv 50) (tv 51)),
 o 53 (.idxS (.k (.sc (.c (.str [48, 49, 50, 51, 52, 53, 54, 55, 56, 57, 97, 98, 99, 100, 101, 102, 103, 104, 105, 106, 107, 108, 109, 110, 111, 112, 113, 114, 115, 116, 117, 118, 119, 120, 121, 122])))) (tv 52)),
 o 54 (.idxAA 1 65 (tv 12) (tv 49)),
 on (.store 1 (tv 54) (tv 53) [])] [] [0, 1, 3, 4, 10, 11, 12, 13, 14, 15, 16])
 (.region [] [o 55 (.mv (tv 1)),
 o 56 (.mv (tv 14)),
 o 57 (.bin .shr 0 (tv 55) (tv 56)),
 o 1 (.mv (tv 57))] [] [0, 1, 3, 4, 10, 11, 12, 13, 14, 15, 16])))))

def l191_1 : VCode := (.seq (.seq (.region [] [o 66 (.mv (tv 1)),
 o 67 (.mv (tv 17)),
 o 68 (.bin .geq 0 (tv 66) (tv 67))] [] [0, 1, 3, 4, 10, 11, 12, 13, 17, 68])
 (.cond (tv 68) .skip
 (.exit 2)))
 (.block 3 (.seq (.region [] [o 69 (.mv (tv 13)),
 o 70 (.bin .sub 0 (tv 69) (ki 1)),
 o 13 (.mv (tv 70))] [] [0, 1, 3, 4, 10, 11, 12, 13, 17])
 (.seq (.region [] [o 71 (.mv (tv 1)),
 o 72 (.mv (tv 17)),
 o 73 (.bin .quo 0 (tv 71) (tv 72)),
 o 18 (.mv (tv 73))] [] [0, 1, 3, 4, 10, 11, 12, 13, 17, 18])
 (.seq (.region [] [o 74 (.mv (tv 13)),
 o 75 (.mv (tv 1)),
 o 76 (.mv (tv 18)),
 o 77 (.mv (tv 17)),
 o 78 (.bin .mul 0 (tv 76) (tv 77)),
 o 79 (.bin .sub 0 (tv 75) (tv 78)),
 o 80 (.idxS (.k (.sc (.c (.str [48, 49, 50, 51, 52, 53, 54, 55, 56, 57, 97, 98, 99, 100, 101, 102, 103, 104, 105, 106, 107, 108, 109, 110, 111, 112, 113, 114, 115, 116, 117, 118, 119, 120, 121, 122])))) (tv 79)),
 o 81 (.idxAA 1 65 (tv 12) (tv 74)),
 on (.store 1 (tv 81) (tv 80) [])] [] [0, 3, 4, 10, 11, 12, 13, 17, 18])
 (.region [] [o 82 (.mv (tv 18)),
 o 1 (.mv (tv 82))] [] [0, 1, 3, 4, 10, 11, 12, 13, 17]))))))

def v191 : VFun := ⟨5,
 (.seq (.region [] [o 10 (.mv kn),
 o 11 (.mv (.k (.sc zs)))] [] [0, 1, 2, 3, 4, 10, 11])
 (.seq (.seq (.region [] [o 19 (.mv (tv 2)),
 o 20 (.bin .lss 0 (tv 19) (ki 2)),
 o 21 (.mv (tv 20)),
 og 22 (.mv (tv 2)) 21 false,
 og 23 (.bin .eql 0 (tv 22) (ki 10)) 21 false,
 o 24 (.pick (tv 21) kt (tv 23)),
 o 25 (.mv (tv 24)),
 og 26 (.mv (tv 2)) 25 false,
 og 27 (.bin .gtr 0 (tv 26) (ki 36)) 25 false,
 o 28 (.pick (tv 25) kt (tv 27))] [] [0, 1, 2, 3, 4, 10, 11, 28])
 (.cond (tv 28) (.region [] [o 29 (.ifc 9 (.k (.sc (.c (.str [115, 116, 114, 99, 111, 110, 118, 58, 32, 105, 108, 108, 101, 103, 97, 108, 32, 65, 112, 112, 101, 110, 100, 73, 110, 116, 47, 70, 111, 114, 109, 97, 116, 73, 110, 116, 32, 98, 97, 115, 101]))))),
 on .bad] [] [0, 1, 2, 3, 4, 10, 11])
 .skip))
 (.seq (.region [] [oa 12 (.new [(.c (.int .u8 0)), (.c (.int .u8 0)), (.c (.int .u8 0)), (.c (.int .u8 0)), (.c (.int .u8 0)), (.c (.int .u8 0)), (.c (.int .u8 0)), (.c (.int .u8 0)), (.c (.int .u8 0)), (.c (.int .u8 0)), (.c (.int .u8 0)), (.c (.int .u8 0)), (.c (.int .u8 0)), (.c (.int .u8 0)), (.c (.int .u8 0)), (.c (.int .u8 0)), (.c (.int .u8 0)), (.c (.int .u8 0)), (.c (.int .u8 0)), (.c (.int .u8 0)), (.c (.int .u8 0)), (.c (.int .u8 0)), (.c (.int .u8 0)), (.c (.int .u8 0)), (.c (.int .u8 0)), (.c (.int .u8 0)), (.c (.int .u8 0)), (.c (.int .u8 0)), (.c (.int .u8 0)), (.c (.int .u8 0)), (.c (.int .u8 0)), (.c (.int .u8 0)), (.c (.int .u8 0)), (.c (.int .u8 0)), (.c (.int .u8 0)), (.c (.int .u8 0)), (.c (.int .u8 0)), (.c (.int .u8 0)), (.c (.int .u8 0)), (.c (.int .u8 0)), (.c (.int .u8 0)), (.c (.int .u8 0)), (.c (.int .u8 0)), (.c (.int .u8 0)), (.c (.int .u8 0)), (.c (.int .u8 0)), (.c (.int .u8 0)), (.c (.int .u8 0)), (.c (.int .u8 0)), (.c (.int .u8 0)), (.c (.int .u8 0)), (.c (.int .u8 0)), (.c (.int .u8 0)), (.c (.int .u8 0)), (.c (.int .u8 0)), (.c (.int .u8 0)), (.c (.int .u8 0)), (.c (.int .u8 0)), (.c (.int .u8 0)), (.c (.int .u8 0)), (.c (.int .u8 0)), (.c (.int .u8 0)), (.c (.int .u8 0)), (.c (.int .u8 0)), (.c (.int .u8 0))] []) 960] [] [0, 1, 2, 3, 4, 10, 11, 12])
 (.seq (.region [] [o 13 (.mv (ki 65))] [] [0, 1, 2, 3, 4, 10, 11, 12, 13])
 (.seq (.seq (.region [] [o 30 (.mv (tv 3))] [] [0, 1, 2, 3, 4, 10, 11, 12, 13, 30])
 (.cond (tv 30) (.region [] [o 31 (.mv (tv 1)),
 o 32 (.un .neg (tv 31)),
 o 1 (.mv (tv 32))] [] [0, 1, 2, 3, 4, 10, 11, 12, 13])
 .skip))
 (.seq (.seq (.region [] [o 33 (.mv (tv 2)),
 oa 34 (.call (kf 238) [(false, (tv 33))] []) 1408] [] [0, 1, 2, 3, 4, 10, 11, 12, 13, 34])
 (.cond (tv 34) (.seq (.region [] [o 35 (.mv (tv 2)),
 o 36 (.cvI .u64 (tv 35)),
 oa 37 (.call (kf 239) [(false, (tv 36))] []) 1600,
 o 38 (.cvI .u64 (tv 37)),
 o 14 (.mv (tv 38))] [] [0, 1, 2, 3, 4, 10, 11, 12, 13, 14])
 (.seq (.region [] [o 39 (.mv (tv 2)),
 o 40 (.cvI .u64 (tv 39)),
 o 15 (.mv (tv 40))] [] [0, 1, 2, 3, 4, 10, 11, 12, 13, 14, 15])
 (.seq (.region [] [o 41 (.mv (tv 2)),
 o 42 (.cvI .u64 (tv 41)),
 o 43 (.bin .sub 0 (tv 42) (.k (.sc (.c (.int .u64 1))))),
 o 16 (.mv (tv 43))] [] [0, 1, 3, 4, 10, 11, 12, 13, 14, 15, 16])
 (.seq (.block 0 (.loop l191_0))
 (.seq (.region [] [o 58 (.mv (tv 13)),
 o 59 (.bin .sub 0 (tv 58) (ki 1)),
 o 13 (.mv (tv 59))] [] [0, 1, 3, 4, 10, 11, 12, 13])
 (.region [] [o 60 (.mv (tv 13)),
 o 61 (.mv (tv 1)),
 o 62 (.idxS (.k (.sc (.c (.str [48, 49, 50, 51, 52, 53, 54, 55, 56, 57, 97, 98, 99, 100, 101, 102, 103, 104, 105, 106, 107, 108, 109, 110, 111, 112, 113, 114, 115, 116, 117, 118, 119, 120, 121, 122])))) (tv 61)),
 o 63 (.idxAA 1 65 (tv 12) (tv 60)),
 on (.store 1 (tv 63) (tv 62) [])] [] [0, 3, 4, 10, 11, 12, 13]))))))
 (.seq (.region [] [o 64 (.mv (tv 2)),
 o 65 (.cvI .u64 (tv 64)),
 o 17 (.mv (tv 65))] [] [0, 1, 3, 4, 10, 11, 12, 13, 17])
 (.seq (.block 2 (.loop l191_1))
 (.seq (.region [] [o 83 (.mv (tv 13)),
 o 84 (.bin .sub 0 (tv 83) (ki 1)),
 o 13 (.mv (tv 84))] [] [0, 1, 3, 4, 10, 11, 12, 13])
 (.region [] [o 85 (.mv (tv 13)),
 o 86 (.mv (tv 1)),
 o 87 (.idxS (.k (.sc (.c (.str [48, 49, 50, 51, 52, 53, 54, 55, 56, 57, 97, 98, 99, 100, 101, 102, 103, 104, 105, 106, 107, 108, 109, 110, 111, 112, 113, 114, 115, 116, 117, 118, 119, 120, 121, 122])))) (tv 86)),
 o 88 (.idxAA 1 65 (tv 12) (tv 85)),
 on (.store 1 (tv 88) (tv 87) [])] [] [0, 3, 4, 10, 11, 12, 13]))))))
 (.seq (.seq (.region [] [o 89 (.mv (tv 3))] [] [0, 4, 10, 11, 12, 13, 89])
 (.cond (tv 89) (.seq (.region [] [o 90 (.mv (tv 13)),
 o 91 (.bin .sub 0 (tv 90) (ki 1)),
 o 13 (.mv (tv 91))] [] [0, 4, 10, 11, 12, 13])
 (.region [] [o 92 (.mv (tv 13)),
 o 93 (.idxAA 1 65 (tv 12) (tv 92)),
 on (.store 1 (tv 93) (.k (.sc (.c (.int .u8 45)))) [])] [] [0, 4, 10, 11, 13]))
 .skip))
 (.seq (.seq (.region [960] [o 94 (.mv (tv 4))] [] [0, 10, 11, 13, 94])
 (.cond (tv 94) (.seq (.region [] [o 95 (.mv (tv 0)),
 o 96 (.mv (tv 13)),
 o 97 .bad,
 oa 98 (.app 1 1 true (tv 95) (tv 97)) 6592,
 o 10 (.mv (tv 98))] [] [10, 11])
 .ret)
 .skip))
 (.seq (.region [] [o 99 (.mv (tv 13)),
 o 100 .bad,
 o 101 .bad,
 o 11 (.mv (tv 101))] [] [10, 11])
 .ret))))))))),
 [.tmp 10, .tmp 11], false⟩

def v201 : VFun := ⟨1,
 (.seq (.region [] [o 2 (.mv (ki 0))] [] [0, 2])
 (.seq (.seq (.region [] [o 3 (.mv (tv 0)),
 o 4 (.bin .geq 0 (tv 3) (.k (.sc (.c (.int .u32 65536)))))] [] [0, 2, 4])
 (.cond (tv 4) (.seq (.region [] [o 5 (.mv (tv 0)),
 o 6 (.bin .shr 0 (tv 5) (.k (.sc (.c (.int .u64 16))))),
 o 0 (.mv (tv 6))] [] [0])
 (.region [] [o 2 (.mv (ki 16))] [] [0, 2]))
 .skip))
 (.seq (.seq (.region [] [o 7 (.mv (tv 0)),
 o 8 (.bin .geq 0 (tv 7) (.k (.sc (.c (.int .u32 256)))))] [] [0, 2, 8])
 (.cond (tv 8) (.seq (.region [] [o 9 (.mv (tv 0)),
 o 10 (.bin .shr 0 (tv 9) (.k (.sc (.c (.int .u64 8))))),
 o 0 (.mv (tv 10))] [] [0, 2])
 (.region [] [o 11 (.mv (tv 2)),
 o 12 (.bin .add 0 (tv 11) (ki 8)),
 o 2 (.mv (tv 12))] [] [0, 2]))
 .skip))
 (.seq (.region [] [o 13 (.mv (tv 2)),
 o 14 (.mv (tv 0)),
 o 15 (.cvI .u8 (tv 14)),
 o 16 (.idxS (.k (.sc (.c (.str [0, 1, 2, 2, 3, 3, 3, 3, 4, 4, 4, 4, 4, 4, 4, 4, 5, 5, 5, 5, 5, 5, 5, 5, 5, 5, 5, 5, 5, 5, 5, 5, 6, 6, 6, 6, 6, 6, 6, 6, 6, 6, 6, 6, 6, 6, 6, 6, 6, 6, 6, 6, 6, 6, 6, 6, 6, 6, 6, 6, 6, 6, 6, 6, 7, 7, 7, 7, 7, 7, 7, 7, 7, 7, 7, 7, 7, 7, 7, 7, 7, 7, 7, 7, 7, 7, 7, 7, 7, 7, 7, 7, 7, 7, 7, 7, 7, 7, 7, 7, 7, 7, 7, 7, 7, 7, 7, 7, 7, 7, 7, 7, 7, 7, 7, 7, 7, 7, 7, 7, 7, 7, 7, 7, 7, 7, 7, 7, 8, 8, 8, 8, 8, 8, 8, 8, 8, 8, 8, 8, 8, 8, 8, 8, 8, 8, 8, 8, 8, 8, 8, 8, 8, 8, 8, 8, 8, 8, 8, 8, 8, 8, 8, 8, 8, 8, 8, 8, 8, 8, 8, 8, 8, 8, 8, 8, 8, 8, 8, 8, 8, 8, 8, 8, 8, 8, 8, 8, 8, 8, 8, 8, 8, 8, 8, 8, 8, 8, 8, 8, 8, 8, 8, 8, 8, 8, 8, 8, 8, 8, 8, 8, 8, 8, 8, 8, 8, 8, 8, 8, 8, 8, 8, 8, 8, 8, 8, 8, 8, 8, 8, 8, 8, 8, 8, 8, 8, 8, 8, 8, 8, 8, 8, 8, 8, 8, 8, 8, 8, 8, 8, 8, 8, 8, 8, 8])))) (tv 15)),
 o 17 (.cvI .i64 (tv 16)),
 o 18 (.bin .add 0 (tv 13) (tv 17)),
 o 2 (.mv (tv 18))] [] [2])
 .ret)))),
 [.tmp 2], false⟩

def v202 : VFun := ⟨1,
 (.seq (.region [] [o 2 (.mv (ki 0))] [] [0, 2])
 (.seq (.seq (.region [] [o 3 (.mv (tv 0)),
 o 4 (.bin .geq 0 (tv 3) (.k (.sc (.c (.int .u64 4294967296)))))] [] [0, 2, 4])
 (.cond (tv 4) (.seq (.region [] [o 5 (.mv (tv 0)),
 o 6 (.bin .shr 0 (tv 5) (.k (.sc (.c (.int .u64 32))))),
 o 0 (.mv (tv 6))] [] [0])
 (.region [] [o 2 (.mv (ki 32))] [] [0, 2]))
 .skip))
 (.seq (.seq (.region [] [o 7 (.mv (tv 0)),
 o 8 (.bin .geq 0 (tv 7) (.k (.sc (.c (.int .u64 65536)))))] [] [0, 2, 8])
 (.cond (tv 8) (.seq (.region [] [o 9 (.mv (tv 0)),
 o 10 (.bin .shr 0 (tv 9) (.k (.sc (.c (.int .u64 16))))),
 o 0 (.mv (tv 10))] [] [0, 2])
 (.region [] [o 11 (.mv (tv 2)),
 o 12 (.bin .add 0 (tv 11) (ki 16)),
 o 2 (.mv (tv 12))] [] [0, 2]))
 .skip))
 (.seq (.seq (.region [] [o 13 (.mv (tv 0)),
 o 14 (.bin .geq 0 (tv 13) (.k (.sc (.c (.int .u64 256)))))] [] [0, 2, 14])
 (.cond (tv 14) (.seq (.region [] [o 15 (.mv (tv 0)),
 o 16 (.bin .shr 0 (tv 15) (.k (.sc (.c (.int .u64 8))))),
 o 0 (.mv (tv 16))] [] [0, 2])
 (.region [] [o 17 (.mv (tv 2)),
 o 18 (.bin .add 0 (tv 17) (ki 8)),
 o 2 (.mv (tv 18))] [] [0, 2]))
 .skip))
 (.seq (.region [] [o 19 (.mv (tv 2)),
 o 20 (.mv (tv 0)),
 o 21 (.cvI .u8 (tv 20)),
 o 22 (.idxS (.k (.sc (.c (.str [0, 1, 2, 2, 3, 3, 3, 3, 4, 4, 4, 4, 4, 4, 4, 4, 5, 5, 5, 5, 5, 5, 5, 5, 5, 5, 5, 5, 5, 5, 5, 5, 6, 6, 6, 6, 6, 6, 6, 6, 6, 6, 6, 6, 6, 6, 6, 6, 6, 6, 6, 6, 6, 6, 6, 6, 6, 6, 6, 6, 6, 6, 6, 6, 7, 7, 7, 7, 7, 7, 7, 7, 7, 7, 7, 7, 7, 7, 7, 7, 7, 7, 7, 7, 7, 7, 7, 7, 7, 7, 7, 7, 7, 7, 7, 7, 7, 7, 7, 7, 7, 7, 7, 7, 7, 7, 7, 7, 7, 7, 7, 7, 7, 7, 7, 7, 7, 7, 7, 7, 7, 7, 7, 7, 7, 7, 7, 7, 8, 8, 8, 8, 8, 8, 8, 8, 8, 8, 8, 8, 8, 8, 8, 8, 8, 8, 8, 8, 8, 8, 8, 8, 8, 8, 8, 8, 8, 8, 8, 8, 8, 8, 8, 8, 8, 8, 8, 8, 8, 8, 8, 8, 8, 8, 8, 8, 8, 8, 8, 8, 8, 8, 8, 8, 8, 8, 8, 8, 8, 8, 8, 8, 8, 8, 8, 8, 8, 8, 8, 8, 8, 8, 8, 8, 8, 8, 8, 8, 8, 8, 8, 8, 8, 8, 8, 8, 8, 8, 8, 8, 8, 8, 8, 8, 8, 8, 8, 8, 8, 8, 8, 8, 8, 8, 8, 8, 8, 8, 8, 8, 8, 8, 8, 8, 8, 8, 8, 8, 8, 8, 8, 8, 8, 8, 8, 8])))) (tv 21)),
 o 23 (.cvI .i64 (tv 22)),
 o 24 (.bin .add 0 (tv 19) (tv 23)),
 o 2 (.mv (tv 24))] [] [2])
 .ret))))),
 [.tmp 2], false⟩

def l192_0 : VCode := (.seq (.seq (.region [] [o 16 (.mv (tv 7)),
 o 17 (.mv (tv 1)),
 o 18 (.bin .gtr 0 (tv 16) (tv 17)),
 o 19 (.mv (tv 18)),
 og 20 (.mv (tv 0)) 19 true,
 og 21 (.mv (tv 7)) 19 true,
 og 22 (.idxA 1 (tv 20) (tv 21)) 19 true,
 og 23 (.load false 1 (tv 22)) 19 true,
 og 24 (.mv (tv 0)) 19 true,
 og 25 (.mv (tv 7)) 19 true,
 og 26 (.bin .sub 0 (tv 25) (ki 1)) 19 true,
 og 27 (.idxA 1 (tv 24) (tv 26)) 19 true,
 og 28 (.load false 1 (tv 27)) 19 true,
 ⟨(some 29), (.call (kf 198) [(false, (tv 23)), (false, (tv 28))] []), (some (19, true)), 1408, []⟩,
 o 30 (.pick (tv 19) (tv 29) kF)] [(6, 11), (7, 11), (6, 12), (7, 12)] [0, 1, 2, 6, 7, 30])
 (.cond (tv 30) .skip
 (.exit 2)))
 (.seq (.block 3 (.region [] [o 33 (.mv (tv 0)),
 o 34 (.mv (tv 7)),
 o 35 (.mv (tv 0)),
 o 36 (.mv (tv 7)),
 o 37 (.bin .sub 0 (tv 36) (ki 1)),
 o 38 (.mv (tv 0)),
 o 39 (.mv (tv 7)),
 o 40 (.bin .sub 0 (tv 39) (ki 1)),
 o 41 (.idxA 1 (tv 38) (tv 40)),
 o 42 (.load false 1 (tv 41)),
 o 43 (.mv (tv 0)),
 o 44 (.mv (tv 7)),
 o 45 (.idxA 1 (tv 43) (tv 44)),
 o 46 (.load false 1 (tv 45)),
 o 47 (.idxA 1 (tv 33) (tv 34)),
 on (.store 1 (tv 47) (tv 42) []),
 o 48 (.idxA 1 (tv 35) (tv 37)),
 on (.store 1 (tv 48) (tv 46) [])] [(8, 12), (9, 12), (8, 13), (9, 13)] [0, 1, 2, 6, 7]))
 (.region [] [o 31 (.mv (tv 7)),
 o 32 (.bin .sub 0 (tv 31) (ki 1)),
 o 7 (.mv (tv 32))] [] [0, 1, 2, 6, 7])))

def l192_1 : VCode := (.seq (.seq (.region [] [o 10 (.mv (tv 6)),
 o 11 (.mv (tv 2)),
 o 12 (.bin .lss 0 (tv 10) (tv 11))] [] [0, 1, 2, 6, 12])
 (.cond (tv 12) .skip
 (.exit 0)))
 (.seq (.block 1 (.seq (.region [] [o 15 (.mv (tv 6)),
 o 7 (.mv (tv 15))] [] [0, 1, 2, 6, 7])
 (.block 2 (.loop l192_0))))
 (.region [] [o 13 (.mv (tv 6)),
 o 14 (.bin .add 0 (tv 13) (ki 1)),
 o 6 (.mv (tv 14))] [] [0, 1, 2, 6])))

def v192 : VFun := ⟨3,
 (.seq (.region [] [o 8 (.mv (tv 1)),
 o 9 (.bin .add 0 (tv 8) (ki 1)),
 o 6 (.mv (tv 9))] [] [0, 1, 2, 6])
 (.block 0 (.loop l192_1))),
 [], false⟩

def l193_0 : VCode := (.seq (.seq (.region [] [o 18 (.mv (tv 9)),
 o 19 (.bin .geq 0 (tv 18) (ki 0))] [] [0, 6, 7, 8, 9, 19])
 (.cond (tv 19) .skip
 (.exit 0)))
 (.seq (.block 1 (.region [] [o 22 (.mv (tv 0)),
 o 23 (.mv (tv 9)),
 o 24 (.mv (tv 8)),
 o 25 (.mv (tv 6)),
 oa 26 (.call (kf 240) [(false, (tv 22)), (false, (tv 23)), (false, (tv 24)), (false, (tv 25))] []) 1152] [] [0, 6, 7, 8, 9]))
 (.region [] [o 20 (.mv (tv 9)),
 o 21 (.bin .sub 0 (tv 20) (ki 1)),
 o 9 (.mv (tv 21))] [] [0, 6, 7, 8, 9])))

def l193_1 : VCode := (.seq (.seq (.region [] [o 29 (.mv (tv 10)),
 o 30 (.bin .geq 0 (tv 29) (ki 0))] [] [0, 6, 7, 10, 30])
 (.cond (tv 30) .skip
 (.exit 2)))
 (.seq (.block 3 (.seq (.region [] [o 33 (.mv (tv 0)),
 o 34 (.mv (tv 6)),
 o 35 (.mv (tv 0)),
 o 36 (.mv (tv 6)),
 o 37 (.mv (tv 10)),
 o 38 (.bin .add 0 (tv 36) (tv 37)),
 o 39 (.mv (tv 0)),
 o 40 (.mv (tv 6)),
 o 41 (.mv (tv 10)),
 o 42 (.bin .add 0 (tv 40) (tv 41)),
 o 43 (.idxA 1 (tv 39) (tv 42)),
 o 44 (.load false 1 (tv 43)),
 o 45 (.mv (tv 0)),
 o 46 (.mv (tv 6)),
 o 47 (.idxA 1 (tv 45) (tv 46)),
 o 48 (.load false 1 (tv 47)),
 o 49 (.idxA 1 (tv 33) (tv 34)),
 on (.store 1 (tv 49) (tv 44) []),
 o 50 (.idxA 1 (tv 35) (tv 38)),
 on (.store 1 (tv 50) (tv 48) [])] [(10, 14), (11, 14), (10, 15), (11, 15)] [0, 6, 7, 10])
 (.region [] [o 51 (.mv (tv 0)),
 o 52 (.mv (tv 7)),
 o 53 (.mv (tv 10)),
 o 54 (.mv (tv 6)),
 oa 55 (.call (kf 240) [(false, (tv 51)), (false, (tv 52)), (false, (tv 53)), (false, (tv 54))] []) 3264] [] [0, 6, 7, 10])))
 (.region [] [o 31 (.mv (tv 10)),
 o 32 (.bin .sub 0 (tv 31) (ki 1)),
 o 10 (.mv (tv 32))] [] [0, 6, 7, 10])))

def v193 : VFun := ⟨3,
 (.seq (.region [] [o 11 (.mv (tv 1)),
 o 6 (.mv (tv 11))] [] [0, 1, 2, 6])
 (.seq (.region [] [o 7 (.mv (ki 0))] [] [0, 1, 2, 6, 7])
 (.seq (.region [] [o 12 (.mv (tv 2)),
 o 13 (.mv (tv 1)),
 o 14 (.bin .sub 0 (tv 12) (tv 13)),
 o 8 (.mv (tv 14))] [] [0, 6, 7, 8])
 (.seq (.seq (.region [] [o 15 (.mv (tv 8)),
 o 16 (.bin .sub 0 (tv 15) (ki 1)),
 o 17 (.bin .quo 0 (tv 16) (ki 2)),
 o 9 (.mv (tv 17))] [] [0, 6, 7, 8, 9])
 (.block 0 (.loop l193_0)))
 (.seq (.region [] [o 27 (.mv (tv 8)),
 o 28 (.bin .sub 0 (tv 27) (ki 1)),
 o 10 (.mv (tv 28))] [] [0, 6, 7, 10])
 (.block 2 (.loop l193_1))))))),
 [], false⟩

def l194_0 : VCode := (.seq (.seq (.region [] [o 26 (.mv (tv 9)),
 o 27 (.mv (tv 1)),
 o 28 (.mv (tv 6)),
 o 29 (.bin .quo 0 (tv 28) (ki 4)),
 o 30 (.bin .mul 0 (tv 29) (ki 2)),
 o 31 (.bin .add 0 (tv 27) (tv 30)),
 o 32 (.bin .add 0 (tv 31) (ki 1)),
 o 33 (.bin .leq 0 (tv 26) (tv 32))] [] [0, 1, 6, 7, 8, 9, 33])
 (.cond (tv 33) .skip
 (.exit 0)))
 (.seq (.block 1 (.seq (.region [] [oa 36 (.call (kf 242) [(false, (tv 7))] []) 1856,
 o 37 (.mv (tv 8)),
 o 38 (.bin .sub 0 (tv 37) (.k (.sc (.c (.int .u64 1))))),
 o 39 (.bin .and 0 (tv 36) (tv 38)),
 o 40 (.cvI .i64 (tv 39)),
 o 10 (.mv (tv 40))] [] [0, 1, 6, 7, 8, 9, 10])
 (.seq (.seq (.region [] [o 41 (.mv (tv 10)),
 o 42 (.mv (tv 6)),
 o 43 (.bin .geq 0 (tv 41) (tv 42))] [] [0, 1, 6, 7, 8, 9, 10, 43])
 (.cond (tv 43) (.region [] [o 44 (.mv (tv 10)),
 o 45 (.mv (tv 6)),
 o 46 (.bin .sub 0 (tv 44) (tv 45)),
 o 10 (.mv (tv 46))] [] [0, 1, 6, 7, 8, 9, 10])
 .skip))
 (.region [] [o 47 (.mv (tv 0)),
 o 48 (.mv (tv 9)),
 o 49 (.mv (tv 0)),
 o 50 (.mv (tv 1)),
 o 51 (.mv (tv 10)),
 o 52 (.bin .add 0 (tv 50) (tv 51)),
 o 53 (.mv (tv 0)),
 o 54 (.mv (tv 1)),
 o 55 (.mv (tv 10)),
 o 56 (.bin .add 0 (tv 54) (tv 55)),
 o 57 (.idxA 1 (tv 53) (tv 56)),
 o 58 (.load false 1 (tv 57)),
 o 59 (.mv (tv 0)),
 o 60 (.mv (tv 9)),
 o 61 (.idxA 1 (tv 59) (tv 60)),
 o 62 (.load false 1 (tv 61)),
 o 63 (.idxA 1 (tv 47) (tv 48)),
 on (.store 1 (tv 63) (tv 58) []),
 o 64 (.idxA 1 (tv 49) (tv 52)),
 on (.store 1 (tv 64) (tv 62) [])] [(10, 14), (11, 14), (10, 15), (11, 15)] [0, 1, 6, 7, 8, 9]))))
 (.region [] [o 34 (.mv (tv 9)),
 o 35 (.bin .add 0 (tv 34) (ki 1)),
 o 9 (.mv (tv 35))] [] [0, 1, 6, 7, 8, 9])))

def v194 : VFun := ⟨3,
 (.seq (.region [] [o 11 (.mv (tv 2)),
 o 12 (.mv (tv 1)),
 o 13 (.bin .sub 0 (tv 11) (tv 12)),
 o 6 (.mv (tv 13))] [] [0, 1, 6])
 (.seq (.region [] [o 14 (.mv (tv 6)),
 o 15 (.bin .geq 0 (tv 14) (ki 8))] [] [0, 1, 6, 15])
 (.cond (tv 15) (.seq (.region [] [o 16 (.mv (tv 6)),
 o 17 (.cvI .u64 (tv 16)),
 oa 7 (.new [(.c (.int .u64 0))] []) 576,
 on (.store 1 (tv 7) (tv 17) [])] [] [0, 1, 6, 7])
 (.seq (.region [] [o 18 (.mv (tv 6)),
 oa 19 (.call (kf 241) [(false, (tv 18))] []) 768,
 o 8 (.mv (tv 19))] [] [0, 1, 6, 7, 8])
 (.seq (.region [] [o 20 (.mv (tv 1)),
 o 21 (.mv (tv 6)),
 o 22 (.bin .quo 0 (tv 21) (ki 4)),
 o 23 (.bin .mul 0 (tv 22) (ki 2)),
 o 24 (.bin .add 0 (tv 20) (tv 23)),
 o 25 (.bin .sub 0 (tv 24) (ki 1)),
 o 9 (.mv (tv 25))] [] [0, 1, 6, 7, 8, 9])
 (.block 0 (.loop l194_0)))))
 .skip))),
 [], false⟩

def v195 : VFun := ⟨3,
 (.seq (.region [] [o 6 (.mv (ki 0)),
 o 7 (.mv (ki 0))] [] [0, 1, 2])
 (.seq (.region [] [o 13 (.mv (tv 2)),
 o 14 (.mv (tv 1)),
 o 15 (.bin .sub 0 (tv 13) (tv 14)),
 o 8 (.mv (tv 15))] [] [0, 1, 8])
 (.seq (.region [] [oa 9 (.new [zi] []) 448] [] [0, 1, 8, 9])
 (.seq (.region [] [o 16 (.mv (tv 1)),
 o 17 (.mv (tv 8)),
 o 18 (.bin .quo 0 (tv 17) (ki 4)),
 o 19 (.bin .mul 0 (tv 18) (ki 1)),
 o 20 (.bin .add 0 (tv 16) (tv 19)),
 o 10 (.mv (tv 20))] [] [0, 1, 8, 9, 10])
 (.seq (.region [] [o 21 (.mv (tv 1)),
 o 22 (.mv (tv 8)),
 o 23 (.bin .quo 0 (tv 22) (ki 4)),
 o 24 (.bin .mul 0 (tv 23) (ki 2)),
 o 25 (.bin .add 0 (tv 21) (tv 24)),
 o 11 (.mv (tv 25))] [] [0, 1, 8, 9, 10, 11])
 (.seq (.region [] [o 26 (.mv (tv 1)),
 o 27 (.mv (tv 8)),
 o 28 (.bin .quo 0 (tv 27) (ki 4)),
 o 29 (.bin .mul 0 (tv 28) (ki 3)),
 o 30 (.bin .add 0 (tv 26) (tv 29)),
 o 12 (.mv (tv 30))] [] [0, 8, 9, 10, 11, 12])
 (.seq (.seq (.region [] [o 31 (.mv (tv 8)),
 o 32 (.bin .geq 0 (tv 31) (ki 8))] [] [0, 8, 9, 10, 11, 12, 32])
 (.cond (tv 32) (.seq (.seq (.region [] [o 33 (.mv (tv 8)),
 o 34 (.bin .geq 0 (tv 33) (ki 50))] [] [0, 9, 10, 11, 12, 34])
 (.cond (tv 34) (.seq (.region [] [o 35 (.mv (tv 0)),
 o 36 (.mv (tv 10)),
 oa 37 (.call (kf 243) [(false, (tv 35)), (false, (tv 36)), (true, (tv 9))] []) 2048,
 o 10 (.mv (tv 37))] [] [0, 9, 10, 11, 12])
 (.seq (.region [] [o 38 (.mv (tv 0)),
 o 39 (.mv (tv 11)),
 oa 40 (.call (kf 243) [(false, (tv 38)), (false, (tv 39)), (true, (tv 9))] []) 2304,
 o 11 (.mv (tv 40))] [] [0, 9, 10, 11, 12])
 (.region [] [o 41 (.mv (tv 0)),
 o 42 (.mv (tv 12)),
 oa 43 (.call (kf 243) [(false, (tv 41)), (false, (tv 42)), (true, (tv 9))] []) 2560,
 o 12 (.mv (tv 43))] [] [0, 9, 10, 11, 12])))
 .skip))
 (.region [] [o 44 (.mv (tv 0)),
 o 45 (.mv (tv 10)),
 o 46 (.mv (tv 11)),
 o 47 (.mv (tv 12)),
 oa 48 (.call (kf 244) [(false, (tv 44)), (false, (tv 45)), (false, (tv 46)), (false, (tv 47)), (true, (tv 9))] []) 2944,
 o 11 (.mv (tv 48))] [] [9, 11]))
 .skip))
 (.seq (.region [] [o 49 (.load false 1 (tv 9))] [] [11, 49])
 (.block 0 (.seq (.region [] [o 52 (.bin .eql 0 (tv 49) (ki 0)),
 o 51 (.mv (tv 52))] [] [11, 49, 51])
 (.cond (tv 51) (.seq (.region [] [o 53 (.mv (tv 11)),
 o 6 (.mv (tv 53)),
 o 7 (.mv (ki 1))] [] [6, 7])
 .ret)
 (.seq (.region [] [o 55 (.bin .eql 0 (tv 49) (ki 12)),
 o 54 (.mv (tv 55))] [] [11, 54])
 (.cond (tv 54) (.seq (.region [] [o 56 (.mv (tv 11)),
 o 6 (.mv (tv 56)),
 o 7 (.mv (ki 2))] [] [6, 7])
 .ret)
 (.seq (.region [] [o 50 (.mv (tv 11)),
 o 6 (.mv (tv 50)),
 o 7 (.mv (ki 0))] [] [6, 7])
 .ret)))))))))))))),
 [.tmp 6, .tmp 7], false⟩

def l196_0 : VCode := (.seq (.seq (.region [] [o 11 (.mv (tv 6)),
 o 12 (.mv (tv 7)),
 o 13 (.bin .lss 0 (tv 11) (tv 12))] [] [0, 6, 7, 13])
 (.cond (tv 13) .skip
 (.exit 0)))
 (.block 1 (.seq (.region [] [o 14 (.mv (tv 0)),
 o 15 (.mv (tv 6)),
 o 16 (.mv (tv 0)),
 o 17 (.mv (tv 7)),
 o 18 (.mv (tv 0)),
 o 19 (.mv (tv 7)),
 o 20 (.idxA 1 (tv 18) (tv 19)),
 o 21 (.load false 1 (tv 20)),
 o 22 (.mv (tv 0)),
 o 23 (.mv (tv 6)),
 o 24 (.idxA 1 (tv 22) (tv 23)),
 o 25 (.load false 1 (tv 24)),
 o 26 (.idxA 1 (tv 14) (tv 15)),
 on (.store 1 (tv 26) (tv 21) []),
 o 27 (.idxA 1 (tv 16) (tv 17)),
 on (.store 1 (tv 27) (tv 25) [])] [(6, 10), (7, 10), (6, 11), (7, 11)] [0, 6, 7])
 (.seq (.region [] [o 28 (.mv (tv 6)),
 o 29 (.bin .add 0 (tv 28) (ki 1)),
 o 6 (.mv (tv 29))] [] [0, 6, 7])
 (.region [] [o 30 (.mv (tv 7)),
 o 31 (.bin .sub 0 (tv 30) (ki 1)),
 o 7 (.mv (tv 31))] [] [0, 6, 7])))))

def v196 : VFun := ⟨3,
 (.seq (.region [] [o 8 (.mv (tv 1)),
 o 6 (.mv (tv 8))] [] [0, 2, 6])
 (.seq (.region [] [o 9 (.mv (tv 2)),
 o 10 (.bin .sub 0 (tv 9) (ki 1)),
 o 7 (.mv (tv 10))] [] [0, 6, 7])
 (.block 0 (.loop l196_0)))),
 [], false⟩

def l197_0 : VCode := (.seq (.seq (.region [] [o 17 (.mv (tv 7)),
 o 18 (.mv (tv 2)),
 o 19 (.bin .lss 0 (tv 17) (tv 18)),
 o 20 (.mv (tv 19)),
 og 21 (.mv (tv 0)) 20 true,
 og 22 (.mv (tv 7)) 20 true,
 og 23 (.idxA 1 (tv 21) (tv 22)) 20 true,
 og 24 (.load false 1 (tv 23)) 20 true,
 og 25 (.mv (tv 0)) 20 true,
 og 26 (.mv (tv 7)) 20 true,
 og 27 (.bin .sub 0 (tv 26) (ki 1)) 20 true,
 og 28 (.idxA 1 (tv 25) (tv 27)) 20 true,
 og 29 (.load false 1 (tv 28)) 20 true,
 ⟨(some 30), (.call (kf 198) [(false, (tv 24)), (false, (tv 29))] []), (some (20, true)), 1344, []⟩,
 og 31 (.un .not (tv 30)) 20 true,
 o 32 (.pick (tv 20) (tv 31) kF)] [(6, 11), (7, 11), (6, 12), (7, 12)] [0, 1, 2, 7, 8, 32])
 (.cond (tv 32) .skip
 (.exit 2)))
 (.block 3 (.region [] [o 33 (.mv (tv 7)),
 o 34 (.bin .add 0 (tv 33) (ki 1)),
 o 7 (.mv (tv 34))] [] [0, 1, 2, 7, 8])))

def l197_1 : VCode := (.seq (.seq (.region [] [o 64 (.mv (tv 9)),
 o 65 (.bin .geq 0 (tv 64) (ki 1))] [] [0, 1, 2, 7, 8, 9, 65])
 (.cond (tv 65) .skip
 (.exit 4)))
 (.seq (.block 5 (.seq (.seq (.region [] [o 68 (.mv (tv 0)),
 o 69 (.mv (tv 9)),
 o 70 (.idxA 1 (tv 68) (tv 69)),
 o 71 (.load false 1 (tv 70)),
 o 72 (.mv (tv 0)),
 o 73 (.mv (tv 9)),
 o 74 (.bin .sub 0 (tv 73) (ki 1)),
 o 75 (.idxA 1 (tv 72) (tv 74)),
 o 76 (.load false 1 (tv 75)),
 oa 77 (.call (kf 198) [(false, (tv 71)), (false, (tv 76))] []) 4608,
 o 78 (.un .not (tv 77))] [(2, 7), (3, 7), (2, 8), (3, 8)] [0, 1, 2, 7, 8, 9, 78])
 (.cond (tv 78) (.exit 4)
 .skip))
 (.region [] [o 79 (.mv (tv 0)),
 o 80 (.mv (tv 9)),
 o 81 (.mv (tv 0)),
 o 82 (.mv (tv 9)),
 o 83 (.bin .sub 0 (tv 82) (ki 1)),
 o 84 (.mv (tv 0)),
 o 85 (.mv (tv 9)),
 o 86 (.bin .sub 0 (tv 85) (ki 1)),
 o 87 (.idxA 1 (tv 84) (tv 86)),
 o 88 (.load false 1 (tv 87)),
 o 89 (.mv (tv 0)),
 o 90 (.mv (tv 9)),
 o 91 (.idxA 1 (tv 89) (tv 90)),
 o 92 (.load false 1 (tv 91)),
 o 93 (.idxA 1 (tv 79) (tv 80)),
 on (.store 1 (tv 93) (tv 88) []),
 o 94 (.idxA 1 (tv 81) (tv 83)),
 on (.store 1 (tv 94) (tv 92) [])] [(8, 12), (9, 12), (8, 13), (9, 13)] [0, 1, 2, 7, 8, 9])))
 (.region [] [o 66 (.mv (tv 9)),
 o 67 (.bin .sub 0 (tv 66) (ki 1)),
 o 9 (.mv (tv 67))] [] [0, 1, 2, 7, 8, 9])))

def l197_2 : VCode := (.seq (.seq (.region [] [o 101 (.mv (tv 10)),
 o 102 (.mv (tv 2)),
 o 103 (.bin .lss 0 (tv 101) (tv 102))] [] [0, 1, 2, 7, 8, 10, 103])
 (.cond (tv 103) .skip
 (.exit 6)))
 (.seq (.block 7 (.seq (.seq (.region [] [o 106 (.mv (tv 0)),
 o 107 (.mv (tv 10)),
 o 108 (.idxA 1 (tv 106) (tv 107)),
 o 109 (.load false 1 (tv 108)),
 o 110 (.mv (tv 0)),
 o 111 (.mv (tv 10)),
 o 112 (.bin .sub 0 (tv 111) (ki 1)),
 o 113 (.idxA 1 (tv 110) (tv 112)),
 o 114 (.load false 1 (tv 113)),
 oa 115 (.call (kf 198) [(false, (tv 109)), (false, (tv 114))] []) 7296,
 o 116 (.un .not (tv 115))] [(2, 7), (3, 7), (2, 8), (3, 8)] [0, 1, 2, 7, 8, 10, 116])
 (.cond (tv 116) (.exit 6)
 .skip))
 (.region [] [o 117 (.mv (tv 0)),
 o 118 (.mv (tv 10)),
 o 119 (.mv (tv 0)),
 o 120 (.mv (tv 10)),
 o 121 (.bin .sub 0 (tv 120) (ki 1)),
 o 122 (.mv (tv 0)),
 o 123 (.mv (tv 10)),
 o 124 (.bin .sub 0 (tv 123) (ki 1)),
 o 125 (.idxA 1 (tv 122) (tv 124)),
 o 126 (.load false 1 (tv 125)),
 o 127 (.mv (tv 0)),
 o 128 (.mv (tv 10)),
 o 129 (.idxA 1 (tv 127) (tv 128)),
 o 130 (.load false 1 (tv 129)),
 o 131 (.idxA 1 (tv 117) (tv 118)),
 on (.store 1 (tv 131) (tv 126) []),
 o 132 (.idxA 1 (tv 119) (tv 121)),
 on (.store 1 (tv 132) (tv 130) [])] [(8, 12), (9, 12), (8, 13), (9, 13)] [0, 1, 2, 7, 8, 10])))
 (.region [] [o 104 (.mv (tv 10)),
 o 105 (.bin .add 0 (tv 104) (ki 1)),
 o 10 (.mv (tv 105))] [] [0, 1, 2, 7, 8, 10])))

def l197_3 : VCode := (.seq (.seq (.region [] [o 13 (.mv (tv 8)),
 o 14 (.bin .lss 0 (tv 13) (ki 5))] [] [0, 1, 2, 7, 8, 14])
 (.cond (tv 14) .skip
 (.exit 0)))
 (.seq (.block 1 (.seq (.block 2 (.loop l197_0))
 (.seq (.seq (.region [] [o 35 (.mv (tv 7)),
 o 36 (.mv (tv 2)),
 o 37 (.bin .eql 0 (tv 35) (tv 36))] [] [0, 1, 2, 7, 8, 37])
 (.cond (tv 37) (.seq (.region [] [o 6 (.mv kt)] [] [6])
 .ret)
 .skip))
 (.seq (.seq (.region [] [o 38 (.mv (tv 2)),
 o 39 (.mv (tv 1)),
 o 40 (.bin .sub 0 (tv 38) (tv 39)),
 o 41 (.bin .lss 0 (tv 40) (ki 50))] [] [0, 1, 2, 7, 8, 41])
 (.cond (tv 41) (.seq (.region [] [o 6 (.mv kF)] [] [6])
 .ret)
 .skip))
 (.seq (.region [] [o 42 (.mv (tv 0)),
 o 43 (.mv (tv 7)),
 o 44 (.mv (tv 0)),
 o 45 (.mv (tv 7)),
 o 46 (.bin .sub 0 (tv 45) (ki 1)),
 o 47 (.mv (tv 0)),
 o 48 (.mv (tv 7)),
 o 49 (.bin .sub 0 (tv 48) (ki 1)),
 o 50 (.idxA 1 (tv 47) (tv 49)),
 o 51 (.load false 1 (tv 50)),
 o 52 (.mv (tv 0)),
 o 53 (.mv (tv 7)),
 o 54 (.idxA 1 (tv 52) (tv 53)),
 o 55 (.load false 1 (tv 54)),
 o 56 (.idxA 1 (tv 42) (tv 43)),
 on (.store 1 (tv 56) (tv 51) []),
 o 57 (.idxA 1 (tv 44) (tv 46)),
 on (.store 1 (tv 57) (tv 55) [])] [(8, 12), (9, 12), (8, 13), (9, 13)] [0, 1, 2, 7, 8])
 (.seq (.seq (.region [] [o 58 (.mv (tv 7)),
 o 59 (.mv (tv 1)),
 o 60 (.bin .sub 0 (tv 58) (tv 59)),
 o 61 (.bin .geq 0 (tv 60) (ki 2))] [] [0, 1, 2, 7, 8, 61])
 (.cond (tv 61) (.seq (.region [] [o 62 (.mv (tv 7)),
 o 63 (.bin .sub 0 (tv 62) (ki 1)),
 o 9 (.mv (tv 63))] [] [0, 1, 2, 7, 8, 9])
 (.block 4 (.loop l197_1)))
 .skip))
 (.seq (.region [] [o 95 (.mv (tv 2)),
 o 96 (.mv (tv 7)),
 o 97 (.bin .sub 0 (tv 95) (tv 96)),
 o 98 (.bin .geq 0 (tv 97) (ki 2))] [] [0, 1, 2, 7, 8, 98])
 (.cond (tv 98) (.seq (.region [] [o 99 (.mv (tv 7)),
 o 100 (.bin .add 0 (tv 99) (ki 1)),
 o 10 (.mv (tv 100))] [] [0, 1, 2, 7, 8, 10])
 (.block 6 (.loop l197_2)))
 .skip))))))))
 (.region [] [o 15 (.mv (tv 8)),
 o 16 (.bin .add 0 (tv 15) (ki 1)),
 o 8 (.mv (tv 16))] [] [0, 1, 2, 7, 8])))

def v197 : VFun := ⟨3,
 (.seq (.region [] [o 6 (.mv kF)] [] [0, 1, 2])
 (.seq (.region [] [o 11 (.mv (tv 1)),
 o 12 (.bin .add 0 (tv 11) (ki 1)),
 o 7 (.mv (tv 12))] [] [0, 1, 2, 7])
 (.seq (.seq (.region [] [o 8 (.mv (ki 0))] [] [0, 1, 2, 7, 8])
 (.block 0 (.loop l197_3)))
 (.seq (.region [] [o 6 (.mv kF)] [] [6])
 .ret)))),
 [.tmp 6], false⟩

def v198 : VFun := ⟨2,
 (.seq (.region [] [o 4 (.mv kF)] [] [0, 1])
 (.seq (.region [] [o 5 (.mv (tv 0)),
 oa 6 (.call (kf 245) [(false, (tv 5))] []) 192,
 o 7 (.mv (tv 6)),
 og 8 (.mv (tv 1)) 7 true,
 ⟨(some 9), (.call (kf 245) [(false, (tv 8))] []), (some (7, true)), 384, []⟩,
 og 10 (.un .not (tv 9)) 7 true,
 o 11 (.pick (tv 7) (tv 10) kF),
 o 12 (.mv (tv 11)),
 og 13 (.mv (tv 0)) 12 false,
 og 14 (.mv (tv 1)) 12 false,
 og 15 (.bin .lss 0 (tv 13) (tv 14)) 12 false,
 o 16 (.pick (tv 12) kt (tv 15)),
 o 4 (.mv (tv 16))] [] [4])
 .ret)),
 [.tmp 4], false⟩

def l199_0 : VCode := (.seq (.seq (.region [] [o 29 (.mv (tv 9)),
 o 30 (.mv (tv 10)),
 o 31 (.bin .leq 0 (tv 29) (tv 30)),
 o 32 (.mv (tv 31)),
 og 33 (.mv (tv 0)) 32 true,
 og 34 (.mv (tv 1)) 32 true,
 og 35 (.idxA 1 (tv 33) (tv 34)) 32 true,
 og 36 (.load false 1 (tv 35)) 32 true,
 og 37 (.mv (tv 0)) 32 true,
 og 38 (.mv (tv 9)) 32 true,
 og 39 (.idxA 1 (tv 37) (tv 38)) 32 true,
 og 40 (.load false 1 (tv 39)) 32 true,
 ⟨(some 41), (.call (kf 198) [(false, (tv 36)), (false, (tv 40))] []), (some (32, true)), 2304, []⟩,
 og 42 (.un .not (tv 41)) 32 true,
 o 43 (.pick (tv 32) (tv 42) kF)] [(6, 10), (7, 10), (6, 11), (7, 11)] [0, 1, 9, 10, 43])
 (.cond (tv 43) .skip
 (.exit 2)))
 (.block 3 (.region [] [o 44 (.mv (tv 9)),
 o 45 (.bin .add 0 (tv 44) (ki 1)),
 o 9 (.mv (tv 45))] [] [0, 1, 9, 10])))

def l199_1 : VCode := (.seq (.seq (.region [] [o 46 (.mv (tv 9)),
 o 47 (.mv (tv 10)),
 o 48 (.bin .leq 0 (tv 46) (tv 47)),
 o 49 (.mv (tv 48)),
 og 50 (.mv (tv 0)) 49 true,
 og 51 (.mv (tv 1)) 49 true,
 og 52 (.idxA 1 (tv 50) (tv 51)) 49 true,
 og 53 (.load false 1 (tv 52)) 49 true,
 og 54 (.mv (tv 0)) 49 true,
 og 55 (.mv (tv 10)) 49 true,
 og 56 (.idxA 1 (tv 54) (tv 55)) 49 true,
 og 57 (.load false 1 (tv 56)) 49 true,
 ⟨(some 58), (.call (kf 198) [(false, (tv 53)), (false, (tv 57))] []), (some (49, true)), 3456, []⟩,
 o 59 (.pick (tv 49) (tv 58) kF)] [(6, 10), (7, 10), (6, 11), (7, 11)] [0, 1, 9, 10, 59])
 (.cond (tv 59) .skip
 (.exit 4)))
 (.block 5 (.region [] [o 60 (.mv (tv 10)),
 o 61 (.bin .sub 0 (tv 60) (ki 1)),
 o 10 (.mv (tv 61))] [] [0, 1, 9, 10])))

def l199_2 : VCode := (.block 1 (.seq (.block 2 (.loop l199_0))
 (.seq (.block 4 (.loop l199_1))
 (.seq (.seq (.region [] [o 62 (.mv (tv 9)),
 o 63 (.mv (tv 10)),
 o 64 (.bin .gtr 0 (tv 62) (tv 63))] [] [0, 1, 9, 10, 64])
 (.cond (tv 64) (.exit 0)
 .skip))
 (.seq (.region [] [o 65 (.mv (tv 0)),
 o 66 (.mv (tv 9)),
 o 67 (.mv (tv 0)),
 o 68 (.mv (tv 10)),
 o 69 (.mv (tv 0)),
 o 70 (.mv (tv 10)),
 o 71 (.idxA 1 (tv 69) (tv 70)),
 o 72 (.load false 1 (tv 71)),
 o 73 (.mv (tv 0)),
 o 74 (.mv (tv 9)),
 o 75 (.idxA 1 (tv 73) (tv 74)),
 o 76 (.load false 1 (tv 75)),
 o 77 (.idxA 1 (tv 65) (tv 66)),
 on (.store 1 (tv 77) (tv 72) []),
 o 78 (.idxA 1 (tv 67) (tv 68)),
 on (.store 1 (tv 78) (tv 76) [])] [(6, 10), (7, 10), (6, 11), (7, 11)] [0, 1, 9, 10])
 (.seq (.region [] [o 79 (.mv (tv 9)),
 o 80 (.bin .add 0 (tv 79) (ki 1)),
 o 9 (.mv (tv 80))] [] [0, 1, 9, 10])
 (.region [] [o 81 (.mv (tv 10)),
 o 82 (.bin .sub 0 (tv 81) (ki 1)),
 o 10 (.mv (tv 82))] [] [0, 1, 9, 10])))))))

def v199 : VFun := ⟨4,
 (.seq (.region [] [o 8 (.mv (ki 0))] [] [0, 1, 2, 3])
 (.seq (.region [] [o 11 (.mv (tv 0)),
 o 12 (.mv (tv 1)),
 o 13 (.mv (tv 0)),
 o 14 (.mv (tv 3)),
 o 15 (.mv (tv 0)),
 o 16 (.mv (tv 3)),
 o 17 (.idxA 1 (tv 15) (tv 16)),
 o 18 (.load false 1 (tv 17)),
 o 19 (.mv (tv 0)),
 o 20 (.mv (tv 1)),
 o 21 (.idxA 1 (tv 19) (tv 20)),
 o 22 (.load false 1 (tv 21)),
 o 23 (.idxA 1 (tv 11) (tv 12)),
 on (.store 1 (tv 23) (tv 18) []),
 o 24 (.idxA 1 (tv 13) (tv 14)),
 on (.store 1 (tv 24) (tv 22) [])] [(6, 10), (7, 10), (6, 11), (7, 11)] [0, 1, 2])
 (.seq (.region [] [o 25 (.mv (tv 1)),
 o 26 (.bin .add 0 (tv 25) (ki 1)),
 o 27 (.mv (tv 2)),
 o 28 (.bin .sub 0 (tv 27) (ki 1)),
 o 9 (.mv (tv 26)),
 o 10 (.mv (tv 28))] [] [0, 1, 9, 10])
 (.seq (.block 0 (.loop l199_2))
 (.seq (.region [] [o 83 (.mv (tv 9)),
 o 8 (.mv (tv 83))] [] [8])
 .ret))))),
 [.tmp 8], false⟩

def l200_0 : VCode := (.seq (.seq (.region [] [o 30 (.mv (tv 10)),
 o 31 (.mv (tv 11)),
 o 32 (.bin .leq 0 (tv 30) (tv 31)),
 o 33 (.mv (tv 32)),
 og 34 (.mv (tv 0)) 33 true,
 og 35 (.mv (tv 10)) 33 true,
 og 36 (.idxA 1 (tv 34) (tv 35)) 33 true,
 og 37 (.load false 1 (tv 36)) 33 true,
 og 38 (.mv (tv 0)) 33 true,
 og 39 (.mv (tv 1)) 33 true,
 og 40 (.idxA 1 (tv 38) (tv 39)) 33 true,
 og 41 (.load false 1 (tv 40)) 33 true,
 ⟨(some 42), (.call (kf 198) [(false, (tv 37)), (false, (tv 41))] []), (some (33, true)), 2368, []⟩,
 o 43 (.pick (tv 33) (tv 42) kF)] [(6, 10), (7, 10), (6, 11), (7, 11)] [0, 1, 10, 11, 43])
 (.cond (tv 43) .skip
 (.exit 0)))
 (.block 1 (.region [] [o 44 (.mv (tv 10)),
 o 45 (.bin .add 0 (tv 44) (ki 1)),
 o 10 (.mv (tv 45))] [] [0, 1, 10, 11])))

def l200_1 : VCode := (.seq (.seq (.region [] [o 46 (.mv (tv 10)),
 o 47 (.mv (tv 11)),
 o 48 (.bin .leq 0 (tv 46) (tv 47)),
 o 49 (.mv (tv 48)),
 og 50 (.mv (tv 0)) 49 true,
 og 51 (.mv (tv 11)) 49 true,
 og 52 (.idxA 1 (tv 50) (tv 51)) 49 true,
 og 53 (.load false 1 (tv 52)) 49 true,
 og 54 (.mv (tv 0)) 49 true,
 og 55 (.mv (tv 1)) 49 true,
 og 56 (.idxA 1 (tv 54) (tv 55)) 49 true,
 og 57 (.load false 1 (tv 56)) 49 true,
 ⟨(some 58), (.call (kf 198) [(false, (tv 53)), (false, (tv 57))] []), (some (49, true)), 3456, []⟩,
 og 59 (.un .not (tv 58)) 49 true,
 o 60 (.pick (tv 49) (tv 59) kF)] [(6, 10), (7, 10), (6, 11), (7, 11)] [0, 1, 10, 11, 60])
 (.cond (tv 60) .skip
 (.exit 2)))
 (.block 3 (.region [] [o 61 (.mv (tv 11)),
 o 62 (.bin .sub 0 (tv 61) (ki 1)),
 o 11 (.mv (tv 62))] [] [0, 1, 10, 11])))

def l200_2 : VCode := (.seq (.seq (.region [] [o 99 (.mv (tv 10)),
 o 100 (.mv (tv 11)),
 o 101 (.bin .leq 0 (tv 99) (tv 100)),
 o 102 (.mv (tv 101)),
 og 103 (.mv (tv 0)) 102 true,
 og 104 (.mv (tv 10)) 102 true,
 og 105 (.idxA 1 (tv 103) (tv 104)) 102 true,
 og 106 (.load false 1 (tv 105)) 102 true,
 og 107 (.mv (tv 0)) 102 true,
 og 108 (.mv (tv 1)) 102 true,
 og 109 (.idxA 1 (tv 107) (tv 108)) 102 true,
 og 110 (.load false 1 (tv 109)) 102 true,
 ⟨(some 111), (.call (kf 198) [(false, (tv 106)), (false, (tv 110))] []), (some (102, true)), 7424, []⟩,
 o 112 (.pick (tv 102) (tv 111) kF)] [(6, 10), (7, 10), (6, 11), (7, 11)] [0, 1, 10, 11, 112])
 (.cond (tv 112) .skip
 (.exit 6)))
 (.block 7 (.region [] [o 113 (.mv (tv 10)),
 o 114 (.bin .add 0 (tv 113) (ki 1)),
 o 10 (.mv (tv 114))] [] [0, 1, 10, 11])))

def l200_3 : VCode := (.seq (.seq (.region [] [o 115 (.mv (tv 10)),
 o 116 (.mv (tv 11)),
 o 117 (.bin .leq 0 (tv 115) (tv 116)),
 o 118 (.mv (tv 117)),
 og 119 (.mv (tv 0)) 118 true,
 og 120 (.mv (tv 11)) 118 true,
 og 121 (.idxA 1 (tv 119) (tv 120)) 118 true,
 og 122 (.load false 1 (tv 121)) 118 true,
 og 123 (.mv (tv 0)) 118 true,
 og 124 (.mv (tv 1)) 118 true,
 og 125 (.idxA 1 (tv 123) (tv 124)) 118 true,
 og 126 (.load false 1 (tv 125)) 118 true,
 ⟨(some 127), (.call (kf 198) [(false, (tv 122)), (false, (tv 126))] []), (some (118, true)), 8512, []⟩,
 og 128 (.un .not (tv 127)) 118 true,
 o 129 (.pick (tv 118) (tv 128) kF)] [(6, 10), (7, 10), (6, 11), (7, 11)] [0, 1, 10, 11, 129])
 (.cond (tv 129) .skip
 (.exit 8)))
 (.block 9 (.region [] [o 130 (.mv (tv 11)),
 o 131 (.bin .sub 0 (tv 130) (ki 1)),
 o 11 (.mv (tv 131))] [] [0, 1, 10, 11])))

def l200_4 : VCode := (.block 5 (.seq (.block 6 (.loop l200_2))
 (.seq (.block 8 (.loop l200_3))
 (.seq (.seq (.region [] [o 132 (.mv (tv 10)),
 o 133 (.mv (tv 11)),
 o 134 (.bin .gtr 0 (tv 132) (tv 133))] [] [0, 1, 10, 11, 134])
 (.cond (tv 134) (.exit 4)
 .skip))
 (.seq (.region [] [o 135 (.mv (tv 0)),
 o 136 (.mv (tv 10)),
 o 137 (.mv (tv 0)),
 o 138 (.mv (tv 11)),
 o 139 (.mv (tv 0)),
 o 140 (.mv (tv 11)),
 o 141 (.idxA 1 (tv 139) (tv 140)),
 o 142 (.load false 1 (tv 141)),
 o 143 (.mv (tv 0)),
 o 144 (.mv (tv 10)),
 o 145 (.idxA 1 (tv 143) (tv 144)),
 o 146 (.load false 1 (tv 145)),
 o 147 (.idxA 1 (tv 135) (tv 136)),
 on (.store 1 (tv 147) (tv 142) []),
 o 148 (.idxA 1 (tv 137) (tv 138)),
 on (.store 1 (tv 148) (tv 146) [])] [(6, 10), (7, 10), (6, 11), (7, 11)] [0, 1, 10, 11])
 (.seq (.region [] [o 149 (.mv (tv 10)),
 o 150 (.bin .add 0 (tv 149) (ki 1)),
 o 10 (.mv (tv 150))] [] [0, 1, 10, 11])
 (.region [] [o 151 (.mv (tv 11)),
 o 152 (.bin .sub 0 (tv 151) (ki 1)),
 o 11 (.mv (tv 152))] [] [0, 1, 10, 11])))))))

def v200 : VFun := ⟨4,
 (.seq (.region [] [o 8 (.mv (ki 0)),
 o 9 (.mv kF)] [] [0, 1, 2, 3])
 (.seq (.region [] [o 12 (.mv (tv 0)),
 o 13 (.mv (tv 1)),
 o 14 (.mv (tv 0)),
 o 15 (.mv (tv 3)),
 o 16 (.mv (tv 0)),
 o 17 (.mv (tv 3)),
 o 18 (.idxA 1 (tv 16) (tv 17)),
 o 19 (.load false 1 (tv 18)),
 o 20 (.mv (tv 0)),
 o 21 (.mv (tv 1)),
 o 22 (.idxA 1 (tv 20) (tv 21)),
 o 23 (.load false 1 (tv 22)),
 o 24 (.idxA 1 (tv 12) (tv 13)),
 on (.store 1 (tv 24) (tv 19) []),
 o 25 (.idxA 1 (tv 14) (tv 15)),
 on (.store 1 (tv 25) (tv 23) [])] [(6, 10), (7, 10), (6, 11), (7, 11)] [0, 1, 2])
 (.seq (.region [] [o 26 (.mv (tv 1)),
 o 27 (.bin .add 0 (tv 26) (ki 1)),
 o 28 (.mv (tv 2)),
 o 29 (.bin .sub 0 (tv 28) (ki 1)),
 o 10 (.mv (tv 27)),
 o 11 (.mv (tv 29))] [] [0, 1, 10, 11])
 (.seq (.block 0 (.loop l200_0))
 (.seq (.block 2 (.loop l200_1))
 (.seq (.seq (.region [] [o 63 (.mv (tv 10)),
 o 64 (.mv (tv 11)),
 o 65 (.bin .gtr 0 (tv 63) (tv 64))] [] [0, 1, 10, 11, 65])
 (.cond (tv 65) (.seq (.region [] [o 66 (.mv (tv 0)),
 o 67 (.mv (tv 11)),
 o 68 (.mv (tv 0)),
 o 69 (.mv (tv 1)),
 o 70 (.mv (tv 0)),
 o 71 (.mv (tv 1)),
 o 72 (.idxA 1 (tv 70) (tv 71)),
 o 73 (.load false 1 (tv 72)),
 o 74 (.mv (tv 0)),
 o 75 (.mv (tv 11)),
 o 76 (.idxA 1 (tv 74) (tv 75)),
 o 77 (.load false 1 (tv 76)),
 o 78 (.idxA 1 (tv 66) (tv 67)),
 on (.store 1 (tv 78) (tv 73) []),
 o 79 (.idxA 1 (tv 68) (tv 69)),
 on (.store 1 (tv 79) (tv 77) [])] [(6, 10), (7, 10), (6, 11), (7, 11)] [11])
 (.seq (.region [] [o 80 (.mv (tv 11)),
 o 8 (.mv (tv 80)),
 o 9 (.mv kt)] [] [8, 9])
 .ret))
 .skip))
 (.seq (.region [] [o 81 (.mv (tv 0)),
 o 82 (.mv (tv 10)),
 o 83 (.mv (tv 0)),
 o 84 (.mv (tv 11)),
 o 85 (.mv (tv 0)),
 o 86 (.mv (tv 11)),
 o 87 (.idxA 1 (tv 85) (tv 86)),
 o 88 (.load false 1 (tv 87)),
 o 89 (.mv (tv 0)),
 o 90 (.mv (tv 10)),
 o 91 (.idxA 1 (tv 89) (tv 90)),
 o 92 (.load false 1 (tv 91)),
 o 93 (.idxA 1 (tv 81) (tv 82)),
 on (.store 1 (tv 93) (tv 88) []),
 o 94 (.idxA 1 (tv 83) (tv 84)),
 on (.store 1 (tv 94) (tv 92) [])] [(6, 10), (7, 10), (6, 11), (7, 11)] [0, 1, 10, 11])
 (.seq (.region [] [o 95 (.mv (tv 10)),
 o 96 (.bin .add 0 (tv 95) (ki 1)),
 o 10 (.mv (tv 96))] [] [0, 1, 10, 11])
 (.seq (.region [] [o 97 (.mv (tv 11)),
 o 98 (.bin .sub 0 (tv 97) (ki 1)),
 o 11 (.mv (tv 98))] [] [0, 1, 10, 11])
 (.seq (.block 4 (.loop l200_4))
 (.seq (.region [] [o 153 (.mv (tv 0)),
 o 154 (.mv (tv 11)),
 o 155 (.mv (tv 0)),
 o 156 (.mv (tv 1)),
 o 157 (.mv (tv 0)),
 o 158 (.mv (tv 1)),
 o 159 (.idxA 1 (tv 157) (tv 158)),
 o 160 (.load false 1 (tv 159)),
 o 161 (.mv (tv 0)),
 o 162 (.mv (tv 11)),
 o 163 (.idxA 1 (tv 161) (tv 162)),
 o 164 (.load false 1 (tv 163)),
 o 165 (.idxA 1 (tv 153) (tv 154)),
 on (.store 1 (tv 165) (tv 160) []),
 o 166 (.idxA 1 (tv 155) (tv 156)),
 on (.store 1 (tv 166) (tv 164) [])] [(6, 10), (7, 10), (6, 11), (7, 11)] [11])
 (.seq (.region [] [o 167 (.mv (tv 11)),
 o 8 (.mv (tv 167)),
 o 9 (.mv kF)] [] [8, 9])
 .ret)))))))))))),
 [.tmp 8, .tmp 9], false⟩

def v217 : VFun := ⟨1,
 (.seq (.region [] [o 2 (.mv kF)] [] [0])
 (.seq (.region [] [o 3 (.mv (tv 0)),
 oa 4 (.call (kf 249) [(false, (tv 3))] []) 192,
 o 5 (.mv (tv 4)),
 og 6 (.mv (tv 0)) 5 false,
 ⟨(some 7), (.call (kf 250) [(false, (tv 6))] []), (some (5, false)), 384, []⟩,
 o 8 (.pick (tv 5) kt (tv 7)),
 o 9 (.mv (tv 8)),
 og 10 (.mv (tv 0)) 9 false,
 ⟨(some 11), (.call (kf 251) [(false, (tv 10))] []), (some (9, false)), 640, []⟩,
 o 12 (.pick (tv 9) kt (tv 11)),
 o 13 (.mv (tv 12)),
 og 14 (.mv (tv 0)) 13 false,
 og 15 (.bin .eql 0 (tv 14) (.k (.sc (.c (.int .u8 95))))) 13 false,
 o 16 (.pick (tv 13) kt (tv 15)),
 o 2 (.mv (tv 16))] [] [2])
 .ret)),
 [.tmp 2], false⟩

def v218 : VFun := ⟨1,
 (.seq (.region [] [o 2 (.mv (ki 0))] [] [0])
 (.seq (.block 0 (.seq (.region [] [o 4 (.mv (tv 0)),
 oa 5 (.call (kf 252) [(false, (tv 4))] []) 192,
 o 3 (.mv (tv 5))] [] [0, 3])
 (.cond (tv 3) (.seq (.region [] [o 2 (.mv (ki 4))] [] [2])
 .ret)
 (.seq (.region [] [o 7 (.mv (tv 0)),
 oa 8 (.call (kf 253) [(false, (tv 7))] []) 448,
 o 6 (.mv (tv 8))] [] [0, 6])
 (.cond (tv 6) (.seq (.region [] [o 2 (.mv (ki 1))] [] [2])
 .ret)
 (.seq (.region [] [o 10 (.mv (tv 0)),
 oa 11 (.call (kf 254) [(false, (tv 10))] []) 704,
 o 9 (.mv (tv 11))] [] [0, 9])
 (.cond (tv 9) (.seq (.region [] [o 2 (.mv (ki 2))] [] [2])
 .ret)
 (.seq (.region [] [o 13 (.mv (tv 0)),
 oa 14 (.call (kf 255) [(false, (tv 13))] []) 960,
 o 12 (.mv (tv 14))] [] [0, 12])
 (.cond (tv 12) (.seq (.region [] [o 2 (.mv (ki 3))] [] [2])
 .ret)
 (.seq (.region [] [o 16 (.mv (tv 0)),
 oa 17 (.call (kf 256) [(false, (tv 16))] []) 1216,
 o 15 (.mv (tv 17))] [] [15])
 (.cond (tv 15) (.seq (.region [] [o 2 (.mv (ki 5))] [] [2])
 .ret)
 .skip)))))))))))
 (.seq (.region [] [o 2 (.mv (ki 0))] [] [2])
 .ret))),
 [.tmp 2], false⟩

def v219 : VFun := ⟨1,
 (.seq (.region [] [o 2 (.mv (ki 0))] [] [0])
 (.seq (.seq (.region [] [o 3 (.mv (tv 0)),
 o 4 (.nn (tv 3)),
 o 5 (.fld 1 (tv 4)),
 o 6 (.load false 1 (tv 5)),
 o 7 (.mv (tv 0)),
 o 8 (.nn (tv 7)),
 o 9 (.fld 0 (tv 8)),
 o 10 (.load false 1 (tv 9)),
 o 11 (.len false (tv 10)),
 o 12 (.bin .lss 0 (tv 6) (tv 11))] [(1, 5), (2, 5), (3, 5), (1, 6), (2, 6), (3, 6), (1, 7), (2, 7), (3, 7), (1, 8), (2, 8), (3, 8)] [0, 12])
 (.cond (tv 12) (.seq (.region [] [o 13 (.mv (tv 0)),
 o 14 (.nn (tv 13)),
 o 15 (.fld 0 (tv 14)),
 o 16 (.load false 1 (tv 15)),
 o 17 (.mv (tv 0)),
 o 18 (.nn (tv 17)),
 o 19 (.fld 1 (tv 18)),
 o 20 (.load false 1 (tv 19)),
 o 21 (.idxA 3 (tv 16) (tv 20)),
 o 22 (.fld 2 (tv 21)),
 o 23 (.load false 1 (tv 22)),
 o 2 (.mv (tv 23))] [(1, 5), (2, 5), (3, 5), (1, 6), (2, 6), (3, 6), (1, 7), (2, 7), (3, 7)] [2])
 .ret)
 .skip))
 (.seq (.region [] [o 2 (.mv (ki 0))] [] [2])
 .ret))),
 [.tmp 2], false⟩

def v222 : VFun := ⟨2,
 (.seq (.region [] [o 4 (.mv (tv 0)),
 o 5 (.mv (tv 1)),
 oa 6 (.call (kf 220) [(true, (tv 4)), (false, (tv 5))] []) 192,
 o 7 (.un .not (tv 6))] [] [0, 7])
 (.cond (tv 7) (.region [] [o 8 (.mv (tv 0)),
 oa 9 (.call (kf 170) [(true, (tv 8))] []) 384] [] [1000000])
 .skip)),
 [], false⟩

def v221 : VFun := ⟨2,
 (.seq (.region [] [o 4 (.mv (.k (.sc zs)))] [] [0, 1])
 (.seq (.seq (.region [] [o 5 (.mv (tv 0)),
 o 6 (.mv (tv 1)),
 oa 7 (.call (kf 228) [(true, (tv 5)), (false, (tv 6))] []) 256,
 o 8 (.un .not (tv 7))] [] [0, 8])
 (.cond (tv 8) (.seq (.region [] [o 9 (.mv (tv 0)),
 oa 10 (.call (kf 170) [(true, (tv 9))] []) 448] [] [1000000])
 (.seq (.region [] [o 4 (.mv (.k (.sc zs)))] [] [4])
 .ret))
 .skip))
 (.seq (.region [] [o 11 (.mv (tv 0)),
 o 12 (.nn (tv 11)),
 o 13 (.fld 1 (tv 12)),
 o 14 (.load false 1 (tv 13)),
 o 15 (.bin .add 0 (tv 14) (ki 1)),
 o 16 (.nn (tv 11)),
 o 17 (.fld 1 (tv 16)),
 on (.store 1 (tv 17) (tv 15) [])] [] [0])
 (.seq (.region [] [o 18 (.mv (tv 0)),
 o 19 (.nn (tv 18)),
 o 20 (.fld 0 (tv 19)),
 o 21 (.load false 1 (tv 20)),
 o 22 (.mv (tv 0)),
 o 23 (.nn (tv 22)),
 o 24 (.fld 1 (tv 23)),
 o 25 (.load false 1 (tv 24)),
 o 26 (.bin .sub 0 (tv 25) (ki 1)),
 o 27 (.idxA 3 (tv 21) (tv 26)),
 o 28 (.fld 1 (tv 27)),
 o 29 (.load false 1 (tv 28)),
 o 4 (.mv (tv 29))] [(1, 5), (2, 5), (3, 5), (1, 6), (2, 6), (3, 6), (1, 7), (2, 7), (3, 7)] [4])
 .ret)))),
 [.tmp 4], false⟩

def v228 : VFun := ⟨2,
 (.seq (.region [] [o 4 (.mv kF)] [] [0, 1])
 (.seq (.region [] [o 5 (.mv (tv 0)),
 o 6 (.nn (tv 5)),
 o 7 (.fld 2 (tv 6)),
 o 8 (.load false 1 (tv 7)),
 o 9 (.un .not (tv 8)),
 o 10 (.mv (tv 9)),
 og 11 (.mv (tv 0)) 10 true,
 og 12 (.nn (tv 11)) 10 true,
 og 13 (.fld 1 (tv 12)) 10 true,
 og 14 (.load false 1 (tv 13)) 10 true,
 og 15 (.mv (tv 0)) 10 true,
 og 16 (.nn (tv 15)) 10 true,
 og 17 (.fld 0 (tv 16)) 10 true,
 og 18 (.load false 1 (tv 17)) 10 true,
 og 19 (.len false (tv 18)) 10 true,
 og 20 (.bin .lss 0 (tv 14) (tv 19)) 10 true,
 o 21 (.pick (tv 10) (tv 20) kF),
 o 22 (.mv (tv 21)),
 og 23 (.mv (tv 0)) 22 true,
 og 24 (.nn (tv 23)) 22 true,
 og 25 (.fld 0 (tv 24)) 22 true,
 og 26 (.load false 1 (tv 25)) 22 true,
 og 27 (.mv (tv 0)) 22 true,
 og 28 (.nn (tv 27)) 22 true,
 og 29 (.fld 1 (tv 28)) 22 true,
 og 30 (.load false 1 (tv 29)) 22 true,
 og 31 (.idxA 3 (tv 26) (tv 30)) 22 true,
 og 32 (.fld 0 (tv 31)) 22 true,
 og 33 (.load false 1 (tv 32)) 22 true,
 og 34 (.mv (tv 1)) 22 true,
 og 35 (.bin .eql 0 (tv 33) (tv 34)) 22 true,
 o 36 (.pick (tv 22) (tv 35) kF),
 o 4 (.mv (tv 36))] [(7, 11), (8, 11), (9, 11), (7, 12), (8, 12), (9, 12), (7, 13), (8, 13), (9, 13), (7, 14), (8, 14), (9, 14), (19, 23), (20, 23), (21, 23), (19, 24), (20, 24), (21, 24), (19, 25), (20, 25), (21, 25)] [4])
 .ret)),
 [.tmp 4], false⟩

def v229 : VFun := ⟨1,
 (.seq (.region [] [o 2 (.mv kF)] [] [0])
 (.seq (.region [] [o 3 (.mv (tv 0)),
 oa 4 (.call (kf 228) [(true, (tv 3)), (false, (ki 1))] []) 192,
 o 5 (.mv (tv 4)),
 og 6 (.mv (tv 0)) 5 false,
 ⟨(some 7), (.call (kf 228) [(true, (tv 6)), (false, (ki 2))] []), (some (5, false)), 384, []⟩,
 o 8 (.pick (tv 5) kt (tv 7)),
 o 9 (.mv (tv 8)),
 og 10 (.mv (tv 0)) 9 false,
 ⟨(some 11), (.call (kf 173) [(true, (tv 10)), (false, (.k (.sc (.c (.str [40])))))] []), (some (9, false)), 640, []⟩,
 o 12 (.pick (tv 9) kt (tv 11)),
 o 2 (.mv (tv 12))] [] [2])
 .ret)),
 [.tmp 2], false⟩

def v230 : VFun := ⟨1,
 (.seq (.region [] [oa 2 (.new [zi, zs, zi, zi, .nil] []) 64] [] [0, 2])
 (.seq (.block 0 (.seq (.region [] [o 5 (.mv (tv 0)),
 oa 6 (.call (kf 228) [(true, (tv 5)), (false, (ki 1))] []) 192,
 o 4 (.mv (tv 6))] [] [0, 2, 4])
 (.cond (tv 4) (.seq (.region [] [o 7 (.mv (tv 0)),
 oa 8 (.call (kf 221) [(true, (tv 7)), (false, (ki 1))] []) 384,
 oa 9 (.call (kf 258) [(false, (tv 8))] []) 448,
 on (.store 5 (tv 2) (tv 9) [])] [] [2])
 .ret)
 (.seq (.region [] [o 11 (.mv (tv 0)),
 oa 12 (.call (kf 228) [(true, (tv 11)), (false, (ki 2))] []) 640,
 o 10 (.mv (tv 12))] [] [0, 2, 10])
 (.cond (tv 10) (.seq (.region [] [o 13 (.mv (tv 0)),
 oa 14 (.call (kf 221) [(true, (tv 13)), (false, (ki 2))] []) 832,
 oa 15 (.call (kf 100) [(false, (tv 14)), (false, kn)] []) 896,
 on (.store 5 (tv 2) (tv 15) [])] [] [2])
 .ret)
 .skip)))))
 (.seq (.region [] [o 16 (.mv (tv 0)),
 oa 17 (.call (kf 222) [(true, (tv 16)), (false, (.k (.sc (.c (.str [40])))))] []) 1088] [] [0, 2])
 (.seq (.seq (.region [] [o 18 (.mv (tv 0)),
 o 19 (.nn (tv 18)),
 o 20 (.fld 2 (tv 19)),
 o 21 (.load false 1 (tv 20))] [] [0, 2, 21])
 (.cond (tv 21) (.seq (.region [] [o 22 (.build [zi, zs, zi, zi, .nil] []),
 on (.store 5 (tv 2) (tv 22) [])] [] [2])
 .ret)
 .skip))
 (.seq (.region [] [o 23 (.mv (tv 0)),
 oa 24 (.call (kf 231) [(true, (tv 23))] []) 1600,
 oa 3 (.new [zi, zs, zi, zi, .nil] []) 1664,
 on (.store 5 (tv 3) (tv 24) [])] [] [0, 2, 3])
 (.seq (.region [] [o 25 (.mv (tv 0)),
 oa 26 (.call (kf 222) [(true, (tv 25)), (false, (.k (.sc (.c (.str [41])))))] []) 1856] [] [2, 3])
 (.seq (.region [] [o 27 (.load true 5 (tv 3)),
 on (.store 5 (tv 2) (tv 27) [])] [] [2])
 .ret))))))),
 [.cell 2 true 5], false⟩

def v220 : VFun := ⟨2,
 (.seq (.region [] [o 4 (.mv kF)] [] [0, 1])
 (.seq (.seq (.region [] [o 5 (.mv (tv 0)),
 o 6 (.mv (tv 1)),
 oa 7 (.call (kf 173) [(true, (tv 5)), (false, (tv 6))] []) 256] [] [0, 7])
 (.cond (tv 7) (.seq (.region [] [o 8 (.mv (tv 0)),
 o 9 (.nn (tv 8)),
 o 10 (.fld 1 (tv 9)),
 o 11 (.load false 1 (tv 10)),
 o 12 (.bin .add 0 (tv 11) (ki 1)),
 o 13 (.nn (tv 8)),
 o 14 (.fld 1 (tv 13)),
 on (.store 1 (tv 14) (tv 12) [])] [] [1000000])
 (.seq (.region [] [o 4 (.mv kt)] [] [4])
 .ret))
 .skip))
 (.seq (.region [] [o 4 (.mv kF)] [] [4])
 .ret))),
 [.tmp 4], false⟩

def l231_0 : VCode := (.seq (.seq (.region [] [o 9 (.mv (tv 0)),
 oa 10 (.call (kf 229) [(true, (tv 9))] []) 640] [] [0, 2, 3, 10])
 (.cond (tv 10) .skip
 (.exit 0)))
 (.block 1 (.region [960] [o 11 (.fld 4 (tv 3)),
 o 12 (.load false 1 (tv 11)),
 o 13 (.mv (tv 0)),
 oa 14 (.call (kf 230) [(true, (tv 13))] []) 896,
 oa 15 (.mkSl 5 [(tv 14)]) 960,
 o 16 (.app 5 64 false (tv 12) (tv 15)),
 o 17 (.fld 4 (tv 3)),
 on (.store 1 (tv 17) (tv 16) [])] [(0, 3), (1, 3), (0, 4), (1, 4)] [0, 2, 3])))

def v231 : VFun := ⟨1,
 (.seq (.region [] [oa 2 (.new [zi, zs, zi, zi, .nil] []) 64] [] [0, 2])
 (.seq (.region [] [oa 3 (.new [zi, zs, zi, zi, .nil] []) 128] [] [0, 2, 3])
 (.seq (.seq (.region [] [o 4 (.mv (tv 0)),
 oa 5 (.call (kf 228) [(true, (tv 4)), (false, (ki 2))] []) 256] [] [0, 2, 3, 5])
 (.cond (tv 5) (.seq (.region [] [o 6 (.mv (tv 0)),
 oa 7 (.call (kf 221) [(true, (tv 6)), (false, (ki 2))] []) 384,
 oa 8 (.call (kf 100) [(false, (tv 7)), (true, kn)] []) 448,
 ⟨none, (.store 5 (tv 3) (tv 8) [(4, 5)]), none, 512, []⟩] [] [0, 2, 3])
 (.block 0 (.loop l231_0)))
 (.region [] [o 18 (.mv (tv 0)),
 oa 19 (.call (kf 230) [(true, (tv 18))] []) 1280,
 ⟨none, (.store 5 (tv 3) (tv 19) [(4, 5)]), none, 1344, []⟩] [] [0, 2, 3])))
 (.seq (.seq (.region [] [o 20 (.mv (tv 0)),
 oa 21 (.call (kf 220) [(true, (tv 20)), (false, (.k (.sc (.c (.str [45, 62])))))] []) 1472] [] [0, 2, 3, 21])
 (.cond (tv 21) (.seq (.region [] [o 22 (.ldD true 5 (tv 3)),
 o 23 (.mv (tv 0)),
 oa 24 (.call (kf 231) [(true, (tv 23))] []) 1664,
 oa 25 (.call (kf 128) [(false, (tv 22)), (false, (tv 24))] []) 1728,
 on (.store 5 (tv 2) (tv 25) [])] [(0, 2)] [2])
 .ret)
 .skip))
 (.seq (.region [] [o 26 (.ldD true 5 (tv 3)),
 on (.store 5 (tv 2) (tv 26) [])] [] [2])
 .ret))))),
 [.cell 2 true 5], false⟩

def l169_0 : VCode := (.seq (.seq (.region [] [o 69 (.mv (tv 0)),
 o 70 (.nn (tv 69)),
 o 71 (.fld 2 (tv 70)),
 o 72 (.load false 1 (tv 71)),
 o 73 (.un .not (tv 72)),
 o 74 (.mv (tv 73)),
 og 75 (.mv (tv 0)) 74 true,
 og 76 (.nn (tv 75)) 74 true,
 og 77 (.fld 1 (tv 76)) 74 true,
 og 78 (.load false 1 (tv 77)) 74 true,
 og 79 (.mv (tv 0)) 74 true,
 og 80 (.nn (tv 79)) 74 true,
 og 81 (.fld 0 (tv 80)) 74 true,
 og 82 (.load false 1 (tv 81)) 74 true,
 og 83 (.len false (tv 82)) 74 true,
 og 84 (.bin .lss 0 (tv 78) (tv 83)) 74 true,
 o 85 (.pick (tv 74) (tv 84) kF),
 o 86 (.mv (tv 85)),
 og 87 (.mv (tv 0)) 86 true,
 og 88 (.nn (tv 87)) 86 true,
 og 89 (.fld 0 (tv 88)) 86 true,
 og 90 (.load false 1 (tv 89)) 86 true,
 og 91 (.mv (tv 0)) 86 true,
 og 92 (.nn (tv 91)) 86 true,
 og 93 (.fld 1 (tv 92)) 86 true,
 og 94 (.load false 1 (tv 93)) 86 true,
 og 95 (.idxA 3 (tv 90) (tv 94)) 86 true,
 og 96 (.load true 3 (tv 95)) 86 true,
 ⟨(some 97), (.call (kf 225) [(false, (tv 96))] []), (some (86, true)), 6656, []⟩,
 o 98 (.pick (tv 86) (tv 97) kF)] [(7, 11), (8, 11), (9, 11), (7, 12), (8, 12), (9, 12), (7, 13), (8, 13), (9, 13), (7, 14), (8, 14), (9, 14), (19, 23), (20, 23), (21, 23), (19, 24), (20, 24), (21, 24), (19, 25), (20, 25), (21, 25)] [0, 2, 8, 98])
 (.cond (tv 98) .skip
 (.exit 1)))
 (.block 2 (.seq (.region [6912] [o 99 (.mv (tv 0)),
 oa 100 (.call (kf 224) [(true, (tv 99))] []) 6848,
 oa 9 (.new [zi, zi, zs, zi, .nil, .nil, zi, zs, zi, zi, .nil] []) 6912,
 on (.store 11 (tv 9) (tv 100) [])] [] [0, 2, 8, 9])
 (.region [7296] [o 101 (.fld 1 (tv 8)),
 o 102 (.load false 1 (tv 101)),
 o 103 (.load true 11 (tv 8)),
 o 104 (.load true 11 (tv 9)),
 oa 105 (.mkSl 11 [(tv 103), (tv 104)]) 7296,
 o 106 (.build [zi, zi, zs, zi, .nil, .nil, zi, zs, zi, zi, .nil] [(0, 1, (ki 5)), (1, 1, (tv 102)), (4, 1, (tv 105))]),
 on (.store 11 (tv 8) (tv 106) [])] [] [0, 2, 8]))))

def v169 : VFun := ⟨1,
 (.seq (.region [] [oa 2 (.new [zi, zi, zs, zi, .nil, .nil, zi, zs, zi, zi, .nil] []) 64] [] [0, 2])
 (.seq (.region [] [o 10 (.mv (tv 0)),
 oa 11 (.call (kf 219) [(true, (tv 10))] []) 192,
 o 3 (.mv (tv 11))] [] [0, 2, 3])
 (.seq (.block 0 (.seq (.region [] [o 13 (.mv (tv 0)),
 oa 14 (.call (kf 220) [(true, (tv 13)), (false, (.k (.sc (.c (.str [92])))))] []) 384,
 o 12 (.mv (tv 14))] [] [0, 2, 3, 12])
 (.cond (tv 12) (.seq (.region [] [o 15 (.mv (tv 0)),
 oa 16 (.call (kf 221) [(true, (tv 15)), (false, (ki 1))] []) 576,
 o 4 (.mv (tv 16))] [] [0, 2, 3, 4])
 (.seq (.region [] [o 17 (.mv (tv 0)),
 oa 18 (.call (kf 222) [(true, (tv 17)), (false, (.k (.sc (.c (.str [46])))))] []) 768] [] [0, 2, 3, 4])
 (.seq (.seq (.region [] [o 19 (.mv (tv 0)),
 o 20 (.nn (tv 19)),
 o 21 (.fld 2 (tv 20)),
 o 22 (.load false 1 (tv 21))] [] [0, 2, 3, 4, 22])
 (.cond (tv 22) (.seq (.region [] [o 23 (.build [zi, zi, zs, zi, .nil, .nil, zi, zs, zi, zi, .nil] []),
 on (.store 11 (tv 2) (tv 23) [])] [] [2])
 .ret)
 .skip))
 (.seq (.region [] [o 24 (.mv (tv 3)),
 o 25 (.mv (tv 4)),
 o 26 (.mv (tv 0)),
 oa 27 (.call (kf 169) [(true, (tv 26))] []) 1408,
 oa 28 (.mkSl 11 [(tv 27)]) 1472,
 o 29 (.build [zi, zi, zs, zi, .nil, .nil, zi, zs, zi, zi, .nil] [(0, 1, (ki 4)), (1, 1, (tv 24)), (2, 1, (tv 25)), (4, 1, (tv 28))]),
 on (.store 11 (tv 2) (tv 29) [])] [] [2])
 .ret))))
 (.seq (.region [] [o 31 (.mv (tv 0)),
 oa 32 (.call (kf 220) [(true, (tv 31)), (false, (.k (.sc (.c (.str [108, 101, 116])))))] []) 1728,
 o 30 (.mv (tv 32))] [] [0, 2, 3, 30])
 (.cond (tv 30) (.seq (.region [] [o 5 (.mv (ki 6))] [] [0, 2, 3, 5])
 (.seq (.seq (.region [] [o 33 (.mv (tv 0)),
 oa 34 (.call (kf 220) [(true, (tv 33)), (false, (.k (.sc (.c (.str [114, 101, 99])))))] []) 1984] [] [0, 2, 3, 5, 34])
 (.cond (tv 34) (.region [] [o 5 (.mv (ki 7))] [] [0, 2, 3, 5])
 .skip))
 (.seq (.region [] [o 35 (.mv (tv 0)),
 oa 36 (.call (kf 221) [(true, (tv 35)), (false, (ki 1))] []) 2176,
 o 6 (.mv (tv 36))] [] [0, 2, 3, 5, 6])
 (.seq (.region [] [o 37 (.mv (tv 0)),
 oa 38 (.call (kf 222) [(true, (tv 37)), (false, (.k (.sc (.c (.str [61])))))] []) 2368] [] [0, 2, 3, 5, 6])
 (.seq (.seq (.region [] [o 39 (.mv (tv 0)),
 o 40 (.nn (tv 39)),
 o 41 (.fld 2 (tv 40)),
 o 42 (.load false 1 (tv 41))] [] [0, 2, 3, 5, 6, 42])
 (.cond (tv 42) (.seq (.region [] [o 43 (.build [zi, zi, zs, zi, .nil, .nil, zi, zs, zi, zi, .nil] []),
 on (.store 11 (tv 2) (tv 43) [])] [] [2])
 .ret)
 .skip))
 (.seq (.region [] [o 44 (.mv (tv 0)),
 oa 45 (.call (kf 169) [(true, (tv 44))] []) 2880,
 oa 7 (.new [zi, zi, zs, zi, .nil, .nil, zi, zs, zi, zi, .nil] []) 2944,
 on (.store 11 (tv 7) (tv 45) [])] [] [0, 2, 3, 5, 6, 7])
 (.seq (.region [] [o 46 (.mv (tv 0)),
 oa 47 (.call (kf 222) [(true, (tv 46)), (false, (.k (.sc (.c (.str [105, 110])))))] []) 3136] [] [0, 2, 3, 5, 6, 7])
 (.seq (.seq (.region [] [o 48 (.mv (tv 0)),
 o 49 (.nn (tv 48)),
 o 50 (.fld 2 (tv 49)),
 o 51 (.load false 1 (tv 50))] [] [0, 2, 3, 5, 6, 7, 51])
 (.cond (tv 51) (.seq (.region [] [o 52 (.build [zi, zi, zs, zi, .nil, .nil, zi, zs, zi, zi, .nil] []),
 on (.store 11 (tv 2) (tv 52) [])] [] [2])
 .ret)
 .skip))
 (.seq (.region [] [o 53 (.mv (tv 5)),
 o 54 (.mv (tv 3)),
 o 55 (.mv (tv 6)),
 o 56 (.load true 11 (tv 7)),
 o 57 (.mv (tv 0)),
 oa 58 (.call (kf 169) [(true, (tv 57))] []) 3904,
 oa 59 (.mkSl 11 [(tv 56), (tv 58)]) 3968,
 o 60 (.build [zi, zi, zs, zi, .nil, .nil, zi, zs, zi, zi, .nil] [(0, 1, (tv 53)), (1, 1, (tv 54)), (2, 1, (tv 55)), (4, 1, (tv 59))]),
 on (.store 11 (tv 2) (tv 60) [])] [(3, 5)] [2])
 .ret)))))))))
 (.seq (.region [] [o 62 (.mv (tv 0)),
 oa 63 (.call (kf 220) [(true, (tv 62)), (false, (.k (.sc (.c (.str [99, 97, 115, 101])))))] []) 4224,
 o 61 (.mv (tv 63))] [] [0, 2, 3, 61])
 (.cond (tv 61) (.seq (.region [] [o 64 (.mv (tv 0)),
 o 65 (.mv (tv 3)),
 oa 66 (.call (kf 223) [(true, (tv 64)), (false, (tv 65))] []) 4480,
 on (.store 11 (tv 2) (tv 66) [])] [] [2])
 .ret)
 .skip)))))))
 (.seq (.region [] [o 67 (.mv (tv 0)),
 oa 68 (.call (kf 224) [(true, (tv 67))] []) 4672,
 oa 8 (.new [zi, zi, zs, zi, .nil, .nil, zi, zs, zi, zi, .nil] []) 4736,
 on (.store 11 (tv 8) (tv 68) [])] [] [0, 2, 8])
 (.seq (.block 1 (.loop l169_0))
 (.seq (.region [] [o 107 (.load true 11 (tv 8)),
 on (.store 11 (tv 2) (tv 107) [])] [] [2])
 .ret)))))),
 [.cell 2 true 11], false⟩

def l232_0 : VCode := (.seq (.seq (.region [] [o 5 (.mv (tv 4)),
 o 6 (.fld 4 (tv 1)),
 o 7 (.load false 1 (tv 6)),
 o 8 (.len false (tv 7)),
 o 9 (.bin .lss 0 (tv 5) (tv 8))] [] [1, 3, 4, 9])
 (.cond (tv 9) .skip
 (.exit 0)))
 (.seq (.block 1 (.region [] [o 12 (.mv (tv 3)),
 o 13 (.fld 4 (tv 1)),
 o 14 (.load false 1 (tv 13)),
 o 15 (.mv (tv 4)),
 o 16 (.idxA 5 (tv 14) (tv 15)),
 o 17 (.load true 5 (tv 16)),
 oa 18 (.call (kf 232) [(false, (tv 17))] []) 1024,
 o 19 (.bin .add 0 (ki 1) (tv 18)),
 o 20 (.mx (tv 12) (tv 19)),
 o 3 (.mv (tv 20))] [] [1, 3, 4]))
 (.region [] [o 10 (.mv (tv 4)),
 o 11 (.bin .add 0 (tv 10) (ki 1)),
 o 4 (.mv (tv 11))] [] [1, 3, 4])))

def v232 : VFun := ⟨1,
 (.seq (.region [] [oa 1 (.box (tv 0)) 64,
 o 2 (.mv (ki 0))] [] [1])
 (.seq (.region [] [o 3 (.mv (ki 0))] [] [1, 3])
 (.seq (.seq (.region [] [o 4 (.mv (ki 0))] [] [1, 3, 4])
 (.block 0 (.loop l232_0)))
 (.seq (.region [] [o 21 (.mv (tv 3)),
 o 2 (.mv (tv 21))] [] [2])
 .ret)))),
 [.tmp 2], false⟩

def v171 : VFun := ⟨1,
 (.seq (.region [] [oa 1 (.box (tv 0)) 64,
 o 2 (.mv kF)] [] [1])
 (.seq (.region [] [o 3 (.load true 11 (tv 1)),
 oa 4 (.call (kf 226) [(false, (tv 3))] []) 256,
 o 5 (.bin .gtr 0 (tv 4) (ki 40)),
 o 6 (.mv (tv 5)),
 og 7 (.load true 11 (tv 1)) 6 false,
 ⟨(some 8), (.call (kf 227) [(false, (tv 7))] []), (some (6, false)), 512, []⟩,
 o 9 (.pick (tv 6) kt (tv 8)),
 o 2 (.mv (tv 9))] [] [2])
 .ret)),
 [.tmp 2], false⟩

def l172_0 : VCode := (.seq (.seq (.region [] [o 9 (.mv (tv 4)),
 o 10 (.fld 5 (tv 1)),
 o 11 (.load false 1 (tv 10)),
 o 12 (.len false (tv 11)),
 o 13 (.bin .lss 0 (tv 9) (tv 12))] [] [1, 4, 13])
 (.cond (tv 13) .skip
 (.exit 0)))
 (.seq (.block 1 (.seq (.region [] [o 16 (.fld 5 (tv 1)),
 o 17 (.load false 1 (tv 16)),
 o 18 (.mv (tv 4)),
 o 19 (.idxA 14 (tv 17) (tv 18)),
 o 20 (.fld 2 (tv 19)),
 o 21 (.load false 1 (tv 20)),
 o 22 (.len false (tv 21)),
 o 23 (.bin .gtr 0 (tv 22) (ki 4))] [] [1, 4, 23])
 (.cond (tv 23) (.seq (.region [] [o 24 (.fld 5 (tv 1)),
 o 25 (.load false 1 (tv 24)),
 o 26 (.mv (tv 4)),
 o 27 (.idxA 14 (tv 25) (tv 26)),
 o 28 (.fld 0 (tv 27)),
 o 29 (.load false 1 (tv 28)),
 o 2 (.mv (tv 29)),
 o 3 (.mv kt)] [] [2, 3])
 .ret)
 .skip)))
 (.region [] [o 14 (.mv (tv 4)),
 o 15 (.bin .add 0 (tv 14) (ki 1)),
 o 4 (.mv (tv 15))] [] [1, 4])))

def l172_1 : VCode := (.seq (.seq (.region [] [o 32 (.mv (tv 6)),
 o 33 (.mv (tv 5)),
 o 34 (.len false (tv 33)),
 o 35 (.bin .lss 0 (tv 32) (tv 34))] [] [5, 6, 35])
 (.cond (tv 35) .skip
 (.exit 2)))
 (.seq (.block 3 (.seq (.region [] [o 39 (.mv (tv 5)),
 o 40 (.mv (tv 6)),
 o 41 (.idxA 11 (tv 39) (tv 40)),
 o 42 (.load true 11 (tv 41)),
 oa 43 (.call (kf 172) [(false, (tv 42))] []) 2624,
 o 38 (.mv (tv 43)),
 o 44 (.ext 0 (tv 38)),
 o 45 (.ext 1 (tv 38)),
 o 7 (.mv (tv 44)),
 o 8 (.mv (tv 45))] [] [5, 6, 7, 8])
 (.seq (.region [] [o 46 (.mv (tv 8))] [] [5, 6, 7, 46])
 (.cond (tv 46) (.seq (.region [] [o 47 (.mv (tv 7)),
 o 2 (.mv (tv 47)),
 o 3 (.mv kt)] [] [2, 3])
 .ret)
 .skip))))
 (.region [] [o 36 (.mv (tv 6)),
 o 37 (.bin .add 0 (tv 36) (ki 1)),
 o 6 (.mv (tv 37))] [] [5, 6])))

def v172 : VFun := ⟨1,
 (.seq (.region [] [oa 1 (.box (tv 0)) 64,
 o 2 (.mv (ki 0)),
 o 3 (.mv kF)] [] [1])
 (.seq (.seq (.region [] [o 4 (.mv (ki 0))] [] [1, 4])
 (.block 0 (.loop l172_0)))
 (.seq (.region [] [o 30 (.load true 11 (tv 1)),
 oa 31 (.call (kf 69) [(false, (tv 30))] []) 1920,
 o 5 (.mv (tv 31))] [] [5])
 (.seq (.seq (.region [64] [o 6 (.mv (ki 0))] [] [5, 6])
 (.block 2 (.loop l172_1)))
 (.seq (.region [] [o 2 (.mv (ki 0)),
 o 3 (.mv kF)] [] [2, 3])
 .ret))))),
 [.tmp 2, .tmp 3], false⟩

def v84 : VFun := ⟨2,
 (.seq (.region [] [oa 2 (.box (tv 0)) 64,
 oa 3 (.box (tv 1)) 128,
 o 4 (.mv kF)] [] [2, 3])
 (.seq (.seq (.region [] [o 5 (.fld 0 (tv 2)),
 o 6 (.load false 1 (tv 5)),
 o 7 (.fld 0 (tv 3)),
 o 8 (.load false 1 (tv 7)),
 o 9 (.bin .neq 0 (tv 6) (tv 8)),
 o 10 (.mv (tv 9)),
 og 11 (.fld 1 (tv 2)) 10 false,
 og 12 (.load false 1 (tv 11)) 10 false,
 og 13 (.fld 1 (tv 3)) 10 false,
 og 14 (.load false 1 (tv 13)) 10 false,
 og 15 (.bin .neq 0 (tv 12) (tv 14)) 10 false,
 o 16 (.pick (tv 10) kt (tv 15)),
 o 17 (.mv (tv 16)),
 og 18 (.fld 2 (tv 2)) 17 false,
 og 19 (.load false 1 (tv 18)) 17 false,
 og 20 (.fld 2 (tv 3)) 17 false,
 og 21 (.load false 1 (tv 20)) 17 false,
 og 22 (.bin .neq 0 (tv 19) (tv 21)) 17 false,
 o 23 (.pick (tv 17) kt (tv 22)),
 o 24 (.mv (tv 23)),
 og 25 (.fld 3 (tv 2)) 24 false,
 og 26 (.load false 1 (tv 25)) 24 false,
 og 27 (.fld 3 (tv 3)) 24 false,
 og 28 (.load false 1 (tv 27)) 24 false,
 og 29 (.bin .neq 0 (tv 26) (tv 28)) 24 false,
 o 30 (.pick (tv 24) kt (tv 29))] [] [2, 3, 30])
 (.cond (tv 30) (.seq (.region [] [o 4 (.mv kF)] [] [4])
 .ret)
 .skip))
 (.seq (.region [] [o 31 (.fld 4 (tv 2)),
 o 32 (.load false 1 (tv 31)),
 o 33 (.fld 4 (tv 3)),
 o 34 (.load false 1 (tv 33)),
 oa 35 (.call (kf 147) [(false, (tv 32)), (false, (tv 34))] []) 2240,
 o 4 (.mv (tv 35))] [] [4])
 .ret))),
 [.tmp 4], false⟩

def v248 : VFun := ⟨1,
 (.seq (.region [] [o 2 (.mv kF)] [] [0])
 (.seq (.region [] [o 3 (.mv (tv 0)),
 o 4 (.mv (tv 0)),
 o 5 (.bin .neq 0 (tv 3) (tv 4)),
 o 2 (.mv (tv 5))] [] [2])
 .ret)),
 [.tmp 2], false⟩

def v235 : VFun := ⟨1,
 (.seq (.region [] [o 2 (.mv (.k (.sc zs)))] [] [0])
 (.seq (.region [] [o 3 (.mv (tv 0)),
 oa 4 (.call (kf 259) [(false, (tv 3))] []) 192,
 o 2 (.mv (tv 4))] [] [2])
 .ret)),
 [.tmp 2], false⟩

def v234 : VFun := ⟨1,
 (.seq (.region [] [o 2 (.mv (.k (.sc (.c .nilif))))] [] [0])
 (.seq (.region [] [o 3 (.mv (tv 0)),
 o 4 (.build [zs] [(0, 1, (tv 3))]),
 oa 5 (.box (tv 4)) 256,
 o 6 (.ifc 266 (tv 5)),
 o 2 (.mv (tv 6))] [] [2])
 .ret)),
 [.tmp 2], false⟩

def v236 : VFun := ⟨1,
 (.seq (.region [] [o 2 (.mv (ki 0))] [] [0])
 (.seq (.region [] [o 3 (.mv (tv 0)),
 o 4 (.bin .mul 0 (tv 3) (ki 78913)),
 o 5 (.bin .shr 0 (tv 4) (.k (.sc (.c (.int .u64 18))))),
 o 2 (.mv (tv 5))] [] [2])
 .ret)),
 [.tmp 2], false⟩

def v237 : VFun := ⟨1,
 (.seq (.region [] [o 2 (.mv (ki 0))] [] [0])
 (.seq (.seq (.region [] [o 3 (.mv (tv 0))] [] [3])
 (.cond (tv 3) (.seq (.region [] [o 2 (.mv (ki 1))] [] [2])
 .ret)
 .skip))
 (.seq (.region [] [o 2 (.mv (ki 0))] [] [2])
 .ret))),
 [.tmp 2], false⟩

def v238 : VFun := ⟨1,
 (.seq (.region [] [o 2 (.mv kF)] [] [0])
 (.seq (.region [] [o 3 (.mv (tv 0)),
 o 4 (.mv (tv 0)),
 o 5 (.bin .sub 0 (tv 4) (ki 1)),
 o 6 (.bin .and 0 (tv 3) (tv 5)),
 o 7 (.bin .eql 0 (tv 6) (ki 0)),
 o 2 (.mv (tv 7))] [] [2])
 .ret)),
 [.tmp 2], false⟩

def v239 : VFun := ⟨1,
 (.seq (.region [] [o 2 (.mv (ki 0))] [] [0])
 (.seq (.cond kF (.seq (.region [] [o 3 (.mv (tv 0)),
 o 4 (.cvI .u32 (tv 3)),
 oa 5 (.call (kf 260) [(false, (tv 4))] []) 256,
 o 2 (.mv (tv 5))] [] [2])
 .ret)
 .skip)
 (.seq (.region [] [o 6 (.mv (tv 0)),
 oa 7 (.call (kf 261) [(false, (tv 6))] []) 448,
 o 2 (.mv (tv 7))] [] [2])
 .ret))),
 [.tmp 2], false⟩

def l240_0 : VCode := (.block 1 (.seq (.region [] [o 11 (.mv (tv 8)),
 o 12 (.bin .mul 0 (ki 2) (tv 11)),
 o 13 (.bin .add 0 (tv 12) (ki 1)),
 o 9 (.mv (tv 13))] [] [0, 2, 3, 8, 9])
 (.seq (.seq (.region [] [o 14 (.mv (tv 9)),
 o 15 (.mv (tv 2)),
 o 16 (.bin .geq 0 (tv 14) (tv 15))] [] [0, 2, 3, 8, 9, 16])
 (.cond (tv 16) (.exit 0)
 .skip))
 (.seq (.seq (.region [] [o 17 (.mv (tv 9)),
 o 18 (.bin .add 0 (tv 17) (ki 1)),
 o 19 (.mv (tv 2)),
 o 20 (.bin .lss 0 (tv 18) (tv 19)),
 o 21 (.mv (tv 20)),
 og 22 (.mv (tv 0)) 21 true,
 og 23 (.mv (tv 3)) 21 true,
 og 24 (.mv (tv 9)) 21 true,
 og 25 (.bin .add 0 (tv 23) (tv 24)) 21 true,
 og 26 (.idxA 1 (tv 22) (tv 25)) 21 true,
 og 27 (.load false 1 (tv 26)) 21 true,
 og 28 (.mv (tv 0)) 21 true,
 og 29 (.mv (tv 3)) 21 true,
 og 30 (.mv (tv 9)) 21 true,
 og 31 (.bin .add 0 (tv 29) (tv 30)) 21 true,
 og 32 (.bin .add 0 (tv 31) (ki 1)) 21 true,
 og 33 (.idxA 1 (tv 28) (tv 32)) 21 true,
 og 34 (.load false 1 (tv 33)) 21 true,
 ⟨(some 35), (.call (kf 198) [(false, (tv 27)), (false, (tv 34))] []), (some (21, true)), 1792, []⟩,
 o 36 (.pick (tv 21) (tv 35) kF)] [(9, 16), (10, 16), (9, 17), (10, 17)] [0, 2, 3, 8, 9, 36])
 (.cond (tv 36) (.region [] [o 37 (.mv (tv 9)),
 o 38 (.bin .add 0 (tv 37) (ki 1)),
 o 9 (.mv (tv 38))] [] [0, 2, 3, 8, 9])
 .skip))
 (.seq (.seq (.region [] [o 39 (.mv (tv 0)),
 o 40 (.mv (tv 3)),
 o 41 (.mv (tv 8)),
 o 42 (.bin .add 0 (tv 40) (tv 41)),
 o 43 (.idxA 1 (tv 39) (tv 42)),
 o 44 (.load false 1 (tv 43)),
 o 45 (.mv (tv 0)),
 o 46 (.mv (tv 3)),
 o 47 (.mv (tv 9)),
 o 48 (.bin .add 0 (tv 46) (tv 47)),
 o 49 (.idxA 1 (tv 45) (tv 48)),
 o 50 (.load false 1 (tv 49)),
 oa 51 (.call (kf 198) [(false, (tv 44)), (false, (tv 50))] []) 2880,
 o 52 (.un .not (tv 51))] [(4, 10), (5, 10), (4, 11), (5, 11)] [0, 2, 3, 8, 9, 52])
 (.cond (tv 52) .ret
 .skip))
 (.seq (.region [] [o 53 (.mv (tv 0)),
 o 54 (.mv (tv 3)),
 o 55 (.mv (tv 8)),
 o 56 (.bin .add 0 (tv 54) (tv 55)),
 o 57 (.mv (tv 0)),
 o 58 (.mv (tv 3)),
 o 59 (.mv (tv 9)),
 o 60 (.bin .add 0 (tv 58) (tv 59)),
 o 61 (.mv (tv 0)),
 o 62 (.mv (tv 3)),
 o 63 (.mv (tv 9)),
 o 64 (.bin .add 0 (tv 62) (tv 63)),
 o 65 (.idxA 1 (tv 61) (tv 64)),
 o 66 (.load false 1 (tv 65)),
 o 67 (.mv (tv 0)),
 o 68 (.mv (tv 3)),
 o 69 (.mv (tv 8)),
 o 70 (.bin .add 0 (tv 68) (tv 69)),
 o 71 (.idxA 1 (tv 67) (tv 70)),
 o 72 (.load false 1 (tv 71)),
 o 73 (.idxA 1 (tv 53) (tv 56)),
 on (.store 1 (tv 73) (tv 66) []),
 o 74 (.idxA 1 (tv 57) (tv 60)),
 on (.store 1 (tv 74) (tv 72) [])] [(12, 18), (13, 18), (12, 19), (13, 19)] [0, 2, 3, 9])
 (.region [] [o 75 (.mv (tv 9)),
 o 8 (.mv (tv 75))] [] [0, 2, 3, 8])))))))

def v240 : VFun := ⟨4,
 (.seq (.region [] [o 10 (.mv (tv 1)),
 o 8 (.mv (tv 10))] [] [0, 2, 3, 8])
 (.block 0 (.loop l240_0))),
 [], false⟩

def v241 : VFun := ⟨1,
 (.seq (.region [] [o 2 (.mv (.k (.sc (.c (.int .u64 0)))))] [] [0])
 (.seq (.region [] [o 3 (.mv (tv 0)),
 o 4 (.cvI .u64 (tv 3)),
 oa 5 (.call (kf 139) [(false, (tv 4))] []) 256,
 o 6 (.bin .shl 0 (.k (.sc (.c (.int .u64 1)))) (tv 5)),
 o 2 (.mv (tv 6))] [] [2])
 .ret)),
 [.tmp 2], false⟩

def v242 : VFun := ⟨1,
 (.seq (.region [] [o 2 (.mv (.k (.sc (.c (.int .u64 0)))))] [] [0])
 (.seq (.region [] [o 3 (.mv (tv 0)),
 o 4 (.nn (tv 3)),
 o 5 (.load false 1 (tv 4)),
 o 6 (.mv (tv 0)),
 o 7 (.nn (tv 6)),
 o 8 (.load false 1 (tv 7)),
 o 9 (.bin .shl 0 (tv 8) (.k (.sc (.c (.int .u64 13))))),
 o 10 (.bin .xor 0 (tv 5) (tv 9)),
 o 11 (.nn (tv 3)),
 on (.store 1 (tv 11) (tv 10) [])] [(1, 4), (2, 4), (1, 5), (2, 5)] [0])
 (.seq (.region [] [o 12 (.mv (tv 0)),
 o 13 (.nn (tv 12)),
 o 14 (.load false 1 (tv 13)),
 o 15 (.mv (tv 0)),
 o 16 (.nn (tv 15)),
 o 17 (.load false 1 (tv 16)),
 o 18 (.bin .shr 0 (tv 17) (.k (.sc (.c (.int .u64 7))))),
 o 19 (.bin .xor 0 (tv 14) (tv 18)),
 o 20 (.nn (tv 12)),
 on (.store 1 (tv 20) (tv 19) [])] [(1, 4), (2, 4), (1, 5), (2, 5)] [0])
 (.seq (.region [] [o 21 (.mv (tv 0)),
 o 22 (.nn (tv 21)),
 o 23 (.load false 1 (tv 22)),
 o 24 (.mv (tv 0)),
 o 25 (.nn (tv 24)),
 o 26 (.load false 1 (tv 25)),
 o 27 (.bin .shl 0 (tv 26) (.k (.sc (.c (.int .u64 17))))),
 o 28 (.bin .xor 0 (tv 23) (tv 27)),
 o 29 (.nn (tv 21)),
 on (.store 1 (tv 29) (tv 28) [])] [(1, 4), (2, 4), (1, 5), (2, 5)] [0])
 (.seq (.region [] [o 30 (.mv (tv 0)),
 o 31 (.nn (tv 30)),
 o 32 (.load false 1 (tv 31)),
 o 2 (.mv (tv 32))] [] [2])
 .ret))))),
 [.tmp 2], false⟩

def v243 : VFun := ⟨3,
 (.seq (.region [] [o 6 (.mv (ki 0))] [] [0, 1, 2])
 (.seq (.region [] [o 7 (.mv (tv 0)),
 o 8 (.mv (tv 1)),
 o 9 (.bin .sub 0 (tv 8) (ki 1)),
 o 10 (.mv (tv 1)),
 o 11 (.mv (tv 1)),
 o 12 (.bin .add 0 (tv 11) (ki 1)),
 o 13 (.mv (tv 2)),
 oa 14 (.call (kf 244) [(false, (tv 7)), (false, (tv 9)), (false, (tv 10)), (false, (tv 12)), (true, (tv 13))] []) 576,
 o 6 (.mv (tv 14))] [] [6])
 .ret)),
 [.tmp 6], false⟩

def v244 : VFun := ⟨5,
 (.seq (.region [] [o 10 (.mv (ki 0))] [] [0, 1, 2, 3, 4])
 (.seq (.region [] [o 12 (.mv (tv 0)),
 o 13 (.mv (tv 1)),
 o 14 (.mv (tv 2)),
 o 15 (.mv (tv 4)),
 oa 16 (.call (kf 262) [(false, (tv 12)), (false, (tv 13)), (false, (tv 14)), (true, (tv 15))] []) 384,
 o 11 (.mv (tv 16)),
 o 17 (.ext 0 (tv 11)),
 o 18 (.ext 1 (tv 11)),
 o 1 (.mv (tv 17)),
 o 2 (.mv (tv 18))] [] [0, 1, 2, 3, 4])
 (.seq (.region [] [o 20 (.mv (tv 0)),
 o 21 (.mv (tv 2)),
 o 22 (.mv (tv 3)),
 o 23 (.mv (tv 4)),
 oa 24 (.call (kf 262) [(false, (tv 20)), (false, (tv 21)), (false, (tv 22)), (true, (tv 23))] []) 1024,
 o 19 (.mv (tv 24)),
 o 25 (.ext 0 (tv 19)),
 o 26 (.ext 1 (tv 19)),
 o 2 (.mv (tv 25)),
 o 3 (.mv (tv 26))] [] [0, 1, 2, 4])
 (.seq (.region [] [o 28 (.mv (tv 0)),
 o 29 (.mv (tv 1)),
 o 30 (.mv (tv 2)),
 o 31 (.mv (tv 4)),
 oa 32 (.call (kf 262) [(false, (tv 28)), (false, (tv 29)), (false, (tv 30)), (true, (tv 31))] []) 1664,
 o 27 (.mv (tv 32)),
 o 33 (.ext 0 (tv 27)),
 o 34 (.ext 1 (tv 27)),
 o 1 (.mv (tv 33)),
 o 2 (.mv (tv 34))] [] [2])
 (.seq (.region [] [o 35 (.mv (tv 2)),
 o 10 (.mv (tv 35))] [] [10])
 .ret))))),
 [.tmp 10], false⟩

def v245 : VFun := ⟨1,
 (.seq (.region [] [o 2 (.mv kF)] [] [0])
 (.seq (.region [] [o 3 (.mv (tv 0)),
 o 4 (.mv (tv 0)),
 o 5 (.bin .neq 0 (tv 3) (tv 4)),
 o 2 (.mv (tv 5))] [] [2])
 .ret)),
 [.tmp 2], false⟩

def v249 : VFun := ⟨1,
 (.seq (.region [] [o 2 (.mv kF)] [] [0])
 (.seq (.region [] [o 3 (.mv (tv 0)),
 o 4 (.bin .geq 0 (tv 3) (.k (.sc (.c (.int .u8 97))))),
 o 5 (.mv (tv 4)),
 og 6 (.mv (tv 0)) 5 true,
 og 7 (.bin .leq 0 (tv 6) (.k (.sc (.c (.int .u8 122))))) 5 true,
 o 8 (.pick (tv 5) (tv 7) kF),
 o 2 (.mv (tv 8))] [] [2])
 .ret)),
 [.tmp 2], false⟩

def v250 : VFun := ⟨1,
 (.seq (.region [] [o 2 (.mv kF)] [] [0])
 (.seq (.region [] [o 3 (.mv (tv 0)),
 o 4 (.bin .geq 0 (tv 3) (.k (.sc (.c (.int .u8 65))))),
 o 5 (.mv (tv 4)),
 og 6 (.mv (tv 0)) 5 true,
 og 7 (.bin .leq 0 (tv 6) (.k (.sc (.c (.int .u8 90))))) 5 true,
 o 8 (.pick (tv 5) (tv 7) kF),
 o 2 (.mv (tv 8))] [] [2])
 .ret)),
 [.tmp 2], false⟩

def v251 : VFun := ⟨1,
 (.seq (.region [] [o 2 (.mv kF)] [] [0])
 (.seq (.region [] [o 3 (.mv (tv 0)),
 o 4 (.bin .geq 0 (tv 3) (.k (.sc (.c (.int .u8 48))))),
 o 5 (.mv (tv 4)),
 og 6 (.mv (tv 0)) 5 true,
 og 7 (.bin .leq 0 (tv 6) (.k (.sc (.c (.int .u8 57))))) 5 true,
 o 8 (.pick (tv 5) (tv 7) kF),
 o 2 (.mv (tv 8))] [] [2])
 .ret)),
 [.tmp 2], false⟩

def l252_0 : VCode := (.seq (.seq (.region [] [o 6 (.mv (tv 4)),
 o 7 (.mv (tv 3)),
 o 8 (.len false (tv 7)),
 o 9 (.bin .lss 0 (tv 6) (tv 8))] [] [0, 3, 4, 9])
 (.cond (tv 9) .skip
 (.exit 0)))
 (.seq (.block 1 (.seq (.region [] [o 12 (.mv (tv 3)),
 o 13 (.mv (tv 4)),
 o 14 (.idxA 1 (tv 12) (tv 13)),
 o 15 (.load false 1 (tv 14)),
 o 16 (.mv (tv 0)),
 o 17 (.bin .eql 0 (tv 15) (tv 16))] [] [0, 3, 4, 17])
 (.cond (tv 17) (.seq (.region [] [o 2 (.mv kt)] [] [2])
 .ret)
 .skip)))
 (.region [] [o 10 (.mv (tv 4)),
 o 11 (.bin .add 0 (tv 10) (ki 1)),
 o 4 (.mv (tv 11))] [] [0, 3, 4])))

def v252 : VFun := ⟨1,
 (.seq (.region [] [o 2 (.mv kF)] [] [0])
 (.seq (.region [] [oa 5 (.mkSl 1 [(.k (.sc (.c (.str [100, 97, 116, 97])))), (.k (.sc (.c (.str [108, 101, 116])))), (.k (.sc (.c (.str [114, 101, 99])))), (.k (.sc (.c (.str [105, 110])))), (.k (.sc (.c (.str [99, 97, 115, 101])))), (.k (.sc (.c (.str [111, 102])))), (.k (.sc (.c (.str [101, 110, 100]))))]) 128,
 o 3 (.mv (tv 5))] [] [0, 3])
 (.seq (.seq (.region [] [o 4 (.mv (ki 0))] [] [0, 3, 4])
 (.block 0 (.loop l252_0)))
 (.seq (.region [] [o 2 (.mv kF)] [] [2])
 .ret)))),
 [.tmp 2], false⟩

def v253 : VFun := ⟨1,
 (.seq (.region [] [o 2 (.mv kF)] [] [0])
 (.seq (.region [] [o 3 (.mv (tv 0)),
 oa 4 (.call (kf 263) [(false, (tv 3))] []) 192,
 o 5 (.mv (tv 4)),
 og 6 (.mv (tv 0)) 5 true,
 og 7 (.idxS (tv 6) (ki 0)) 5 true,
 ⟨(some 8), (.call (kf 249) [(false, (tv 7))] []), (some (5, true)), 448, []⟩,
 o 9 (.pick (tv 5) (tv 8) kF),
 o 10 (.mv (tv 9)),
 og 11 (.mv (tv 0)) 10 true,
 og 12 (.len true (tv 11)) 10 true,
 og 13 (.bin .leq 0 (tv 12) (ki 12)) 10 true,
 o 14 (.pick (tv 10) (tv 13) kF),
 o 15 (.mv (tv 14)),
 og 16 (.mv (tv 0)) 15 true,
 ⟨(some 17), (.call (kf 252) [(false, (tv 16))] []), (some (15, true)), 1024, []⟩,
 og 18 (.un .not (tv 17)) 15 true,
 o 19 (.pick (tv 15) (tv 18) kF),
 o 2 (.mv (tv 19))] [] [2])
 .ret)),
 [.tmp 2], false⟩

def v254 : VFun := ⟨1,
 (.seq (.region [] [o 2 (.mv kF)] [] [0])
 (.seq (.region [] [o 3 (.mv (tv 0)),
 oa 4 (.call (kf 263) [(false, (tv 3))] []) 192,
 o 5 (.mv (tv 4)),
 og 6 (.mv (tv 0)) 5 true,
 og 7 (.idxS (tv 6) (ki 0)) 5 true,
 ⟨(some 8), (.call (kf 250) [(false, (tv 7))] []), (some (5, true)), 448, []⟩,
 o 9 (.pick (tv 5) (tv 8) kF),
 o 10 (.mv (tv 9)),
 og 11 (.mv (tv 0)) 10 true,
 og 12 (.len true (tv 11)) 10 true,
 og 13 (.bin .leq 0 (tv 12) (ki 12)) 10 true,
 o 14 (.pick (tv 10) (tv 13) kF),
 o 2 (.mv (tv 14))] [] [2])
 .ret)),
 [.tmp 2], false⟩

def l255_0 : VCode := (.seq (.seq (.region [] [o 21 (.mv (tv 3)),
 o 22 (.mv (tv 0)),
 o 23 (.len true (tv 22)),
 o 24 (.bin .lss 0 (tv 21) (tv 23))] [] [0, 3, 24])
 (.cond (tv 24) .skip
 (.exit 0)))
 (.seq (.block 1 (.seq (.region [] [o 27 (.mv (tv 0)),
 o 28 (.mv (tv 3)),
 o 29 (.idxS (tv 27) (tv 28)),
 oa 30 (.call (kf 251) [(false, (tv 29))] []) 1792,
 o 31 (.un .not (tv 30))] [] [0, 3, 31])
 (.cond (tv 31) (.seq (.region [] [o 2 (.mv kF)] [] [2])
 .ret)
 .skip)))
 (.region [] [o 25 (.mv (tv 3)),
 o 26 (.bin .add 0 (tv 25) (ki 1)),
 o 3 (.mv (tv 26))] [] [0, 3])))

def v255 : VFun := ⟨1,
 (.seq (.region [] [o 2 (.mv kF)] [] [0])
 (.seq (.seq (.region [] [o 4 (.mv (tv 0)),
 o 5 (.bin .eql 0 (tv 4) (.k (.sc zs))),
 o 6 (.mv (tv 5)),
 og 7 (.mv (tv 0)) 6 false,
 og 8 (.len true (tv 7)) 6 false,
 og 9 (.bin .gtr 0 (tv 8) (ki 9)) 6 false,
 o 10 (.pick (tv 6) kt (tv 9)),
 o 11 (.mv (tv 10)),
 og 12 (.mv (tv 0)) 11 false,
 og 13 (.idxS (tv 12) (ki 0)) 11 false,
 og 14 (.bin .eql 0 (tv 13) (.k (.sc (.c (.int .u8 48))))) 11 false,
 og 15 (.mv (tv 14)) 11 false,
 og 16 (.mv (tv 0)) 15 true,
 og 17 (.len true (tv 16)) 15 true,
 og 18 (.bin .gtr 0 (tv 17) (ki 1)) 15 true,
 og 19 (.pick (tv 15) (tv 18) kF) 11 false,
 o 20 (.pick (tv 11) kt (tv 19))] [] [0, 20])
 (.cond (tv 20) (.seq (.region [] [o 2 (.mv kF)] [] [2])
 .ret)
 .skip))
 (.seq (.seq (.region [] [o 3 (.mv (ki 0))] [] [0, 3])
 (.block 0 (.loop l255_0)))
 (.seq (.region [] [o 2 (.mv kt)] [] [2])
 .ret)))),
 [.tmp 2], false⟩

set_option maxRecDepth 100000 in
theorem m136 : mFun Go.Proofs.Tryz.prog 136 v136 = true := by kernel_rfl
set_option maxRecDepth 100000 in
theorem m137 : mFun Go.Proofs.Tryz.prog 137 v137 = true := by kernel_rfl
set_option maxRecDepth 100000 in
theorem m139 : mFun Go.Proofs.Tryz.prog 139 v139 = true := by kernel_rfl
set_option maxRecDepth 100000 in
theorem m138 : mFun Go.Proofs.Tryz.prog 138 v138 = true := by kernel_rfl
set_option maxRecDepth 100000 in
theorem m167 : mFun Go.Proofs.Tryz.prog 167 v167 = true := by kernel_rfl
set_option maxRecDepth 100000 in
theorem m168 : mFun Go.Proofs.Tryz.prog 168 v168 = true := by kernel_rfl
set_option maxRecDepth 100000 in
theorem m173 : mFun Go.Proofs.Tryz.prog 173 v173 = true := by kernel_rfl
set_option maxRecDepth 100000 in
theorem m174 : mFun Go.Proofs.Tryz.prog 174 v174 = true := by kernel_rfl
set_option maxRecDepth 100000 in
theorem m175 : mFun Go.Proofs.Tryz.prog 175 v175 = true := by kernel_rfl
set_option maxRecDepth 100000 in
theorem m176 : mFun Go.Proofs.Tryz.prog 176 v176 = true := by kernel_rfl
set_option maxRecDepth 100000 in
theorem m213 : mFun Go.Proofs.Tryz.prog 213 v213 = true := by kernel_rfl
set_option maxRecDepth 100000 in
theorem m156 : mFun Go.Proofs.Tryz.prog 156 v156 = true := by kernel_rfl
set_option maxRecDepth 100000 in
theorem m214 : mFun Go.Proofs.Tryz.prog 214 v214 = true := by kernel_rfl
set_option maxRecDepth 100000 in
theorem m215 : mFun Go.Proofs.Tryz.prog 215 v215 = true := by kernel_rfl
set_option maxRecDepth 100000 in
theorem m216 : mFun Go.Proofs.Tryz.prog 216 v216 = true := by kernel_rfl
set_option maxRecDepth 100000 in
theorem m124 : mFun Go.Proofs.Tryz.prog 124 v124 = true := by kernel_rfl
set_option maxRecDepth 100000 in
theorem m247 : mFun Go.Proofs.Tryz.prog 247 v247 = true := by kernel_rfl
set_option maxRecDepth 100000 in
theorem m181 : mFun Go.Proofs.Tryz.prog 181 v181 = true := by kernel_rfl
set_option maxRecDepth 100000 in
theorem m182 : mFun Go.Proofs.Tryz.prog 182 v182 = true := by kernel_rfl
set_option maxRecDepth 100000 in
theorem m183 : mFun Go.Proofs.Tryz.prog 183 v183 = true := by kernel_rfl
set_option maxRecDepth 100000 in
theorem m184 : mFun Go.Proofs.Tryz.prog 184 v184 = true := by kernel_rfl
set_option maxRecDepth 100000 in
theorem m185 : mFun Go.Proofs.Tryz.prog 185 v185 = true := by kernel_rfl
set_option maxRecDepth 100000 in
theorem m186 : mFun Go.Proofs.Tryz.prog 186 v186 = true := by kernel_rfl
set_option maxRecDepth 100000 in
theorem m187 : mFun Go.Proofs.Tryz.prog 187 v187 = true := by kernel_rfl
set_option maxRecDepth 100000 in
theorem m188 : mFun Go.Proofs.Tryz.prog 188 v188 = true := by kernel_rfl
set_option maxRecDepth 100000 in
theorem m189 : mFun Go.Proofs.Tryz.prog 189 v189 = true := by kernel_rfl
set_option maxRecDepth 100000 in
theorem m190 : mFun Go.Proofs.Tryz.prog 190 v190 = true := by kernel_rfl
set_option maxRecDepth 100000 in
theorem m191 : mFun Go.Proofs.Tryz.prog 191 v191 = true := by kernel_rfl
set_option maxRecDepth 100000 in
theorem m201 : mFun Go.Proofs.Tryz.prog 201 v201 = true := by kernel_rfl
set_option maxRecDepth 100000 in
theorem m202 : mFun Go.Proofs.Tryz.prog 202 v202 = true := by kernel_rfl
set_option maxRecDepth 100000 in
theorem m192 : mFun Go.Proofs.Tryz.prog 192 v192 = true := by kernel_rfl
set_option maxRecDepth 100000 in
theorem m193 : mFun Go.Proofs.Tryz.prog 193 v193 = true := by kernel_rfl
set_option maxRecDepth 100000 in
theorem m194 : mFun Go.Proofs.Tryz.prog 194 v194 = true := by kernel_rfl
set_option maxRecDepth 100000 in
theorem m195 : mFun Go.Proofs.Tryz.prog 195 v195 = true := by kernel_rfl
set_option maxRecDepth 100000 in
theorem m196 : mFun Go.Proofs.Tryz.prog 196 v196 = true := by kernel_rfl
set_option maxRecDepth 100000 in
theorem m197 : mFun Go.Proofs.Tryz.prog 197 v197 = true := by kernel_rfl
set_option maxRecDepth 100000 in
theorem m198 : mFun Go.Proofs.Tryz.prog 198 v198 = true := by kernel_rfl
set_option maxRecDepth 100000 in
theorem m199 : mFun Go.Proofs.Tryz.prog 199 v199 = true := by kernel_rfl
set_option maxRecDepth 100000 in
theorem m200 : mFun Go.Proofs.Tryz.prog 200 v200 = true := by kernel_rfl
set_option maxRecDepth 100000 in
theorem m217 : mFun Go.Proofs.Tryz.prog 217 v217 = true := by kernel_rfl
set_option maxRecDepth 100000 in
theorem m218 : mFun Go.Proofs.Tryz.prog 218 v218 = true := by kernel_rfl
set_option maxRecDepth 100000 in
theorem m219 : mFun Go.Proofs.Tryz.prog 219 v219 = true := by kernel_rfl
set_option maxRecDepth 100000 in
theorem m222 : mFun Go.Proofs.Tryz.prog 222 v222 = true := by kernel_rfl
set_option maxRecDepth 100000 in
theorem m221 : mFun Go.Proofs.Tryz.prog 221 v221 = true := by kernel_rfl
set_option maxRecDepth 100000 in
theorem m228 : mFun Go.Proofs.Tryz.prog 228 v228 = true := by kernel_rfl
set_option maxRecDepth 100000 in
theorem m229 : mFun Go.Proofs.Tryz.prog 229 v229 = true := by kernel_rfl
set_option maxRecDepth 100000 in
theorem m230 : mFun Go.Proofs.Tryz.prog 230 v230 = true := by kernel_rfl
set_option maxRecDepth 100000 in
theorem m220 : mFun Go.Proofs.Tryz.prog 220 v220 = true := by kernel_rfl
set_option maxRecDepth 100000 in
theorem m231 : mFun Go.Proofs.Tryz.prog 231 v231 = true := by kernel_rfl
set_option maxRecDepth 100000 in
theorem m169 : mFun Go.Proofs.Tryz.prog 169 v169 = true := by kernel_rfl
set_option maxRecDepth 100000 in
theorem m232 : mFun Go.Proofs.Tryz.prog 232 v232 = true := by kernel_rfl
set_option maxRecDepth 100000 in
theorem m171 : mFun Go.Proofs.Tryz.prog 171 v171 = true := by kernel_rfl
set_option maxRecDepth 100000 in
theorem m172 : mFun Go.Proofs.Tryz.prog 172 v172 = true := by kernel_rfl
set_option maxRecDepth 100000 in
theorem m84 : mFun Go.Proofs.Tryz.prog 84 v84 = true := by kernel_rfl
set_option maxRecDepth 100000 in
theorem m248 : mFun Go.Proofs.Tryz.prog 248 v248 = true := by kernel_rfl
set_option maxRecDepth 100000 in
theorem m235 : mFun Go.Proofs.Tryz.prog 235 v235 = true := by kernel_rfl
set_option maxRecDepth 100000 in
theorem m234 : mFun Go.Proofs.Tryz.prog 234 v234 = true := by kernel_rfl
set_option maxRecDepth 100000 in
theorem m236 : mFun Go.Proofs.Tryz.prog 236 v236 = true := by kernel_rfl
set_option maxRecDepth 100000 in
theorem m237 : mFun Go.Proofs.Tryz.prog 237 v237 = true := by kernel_rfl
set_option maxRecDepth 100000 in
theorem m238 : mFun Go.Proofs.Tryz.prog 238 v238 = true := by kernel_rfl
set_option maxRecDepth 100000 in
theorem m239 : mFun Go.Proofs.Tryz.prog 239 v239 = true := by kernel_rfl
set_option maxRecDepth 100000 in
theorem m240 : mFun Go.Proofs.Tryz.prog 240 v240 = true := by kernel_rfl
set_option maxRecDepth 100000 in
theorem m241 : mFun Go.Proofs.Tryz.prog 241 v241 = true := by kernel_rfl
set_option maxRecDepth 100000 in
theorem m242 : mFun Go.Proofs.Tryz.prog 242 v242 = true := by kernel_rfl
set_option maxRecDepth 100000 in
theorem m243 : mFun Go.Proofs.Tryz.prog 243 v243 = true := by kernel_rfl
set_option maxRecDepth 100000 in
theorem m244 : mFun Go.Proofs.Tryz.prog 244 v244 = true := by kernel_rfl
set_option maxRecDepth 100000 in
theorem m245 : mFun Go.Proofs.Tryz.prog 245 v245 = true := by kernel_rfl
set_option maxRecDepth 100000 in
theorem m249 : mFun Go.Proofs.Tryz.prog 249 v249 = true := by kernel_rfl
set_option maxRecDepth 100000 in
theorem m250 : mFun Go.Proofs.Tryz.prog 250 v250 = true := by kernel_rfl
set_option maxRecDepth 100000 in
theorem m251 : mFun Go.Proofs.Tryz.prog 251 v251 = true := by kernel_rfl
set_option maxRecDepth 100000 in
theorem m252 : mFun Go.Proofs.Tryz.prog 252 v252 = true := by kernel_rfl
set_option maxRecDepth 100000 in
theorem m253 : mFun Go.Proofs.Tryz.prog 253 v253 = true := by kernel_rfl
set_option maxRecDepth 100000 in
theorem m254 : mFun Go.Proofs.Tryz.prog 254 v254 = true := by kernel_rfl
set_option maxRecDepth 100000 in
theorem m255 : mFun Go.Proofs.Tryz.prog 255 v255 = true := by kernel_rfl

end Go.Vs.Tryz
