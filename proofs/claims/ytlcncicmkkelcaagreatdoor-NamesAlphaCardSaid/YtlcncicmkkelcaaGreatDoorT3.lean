/- Functions of the program in the language of the value semantics, part 3 (printed by a program of mine), and that they match. (Parts of one proof, put together.) -/
import Derived.Test.YtlcncicmkkelcaaGreatDoorM3
import Derived.Test.YtlcncicmkkelcaaGreatDoorProg
import Derived.KernelRfl
set_option linter.unusedSimpArgs false
set_option linter.unusedVariables false
set_option linter.deprecated false

/- Functions of the program in the language of the value semantics, part 3 (printed by a program of mine), and that they match. -/
namespace Go.Vs.Tryz
open Go Go.Vs

def v136 : VFun := ⟨5,
 (.seq (.region [] [o 10 (.mv (.k (.sc (.c .nilif))))] [] [0, 1, 2, 3, 4])
 (.seq (.seq (.region [] [o 11 (.mv (tv 4))] [] [0, 1, 2, 3, 4, 11])
 (.block 0 (.seq (.region [] [o 13 (.ifc 209 (ki 2)),
 o 14 (.bin .eql 215 (tv 11) (tv 13)),
 o 12 (.mv (tv 14))] [] [0, 1, 2, 3, 4, 11, 12])
 (.cond (tv 12) (.seq (.region [] [o 15 (.mv (tv 0)),
 o 16 (.mv (tv 1)),
 oa 17 (.call (kf 184) [(false, (tv 15)), (false, (tv 16))] []) 512,
 o 18 (.ifc 212 (tv 17)),
 o 10 (.mv (tv 18))] [] [10])
 .ret)
 (.seq (.region [] [o 20 (.ifc 209 (ki 1)),
 o 21 (.bin .eql 215 (tv 11) (tv 20)),
 o 19 (.mv (tv 21))] [] [0, 1, 2, 3, 4, 11, 19])
 (.cond (tv 19) (.seq (.region [] [o 22 (.mv (tv 0)),
 o 23 (.mv (tv 1)),
 oa 24 (.call (kf 185) [(false, (tv 22)), (false, (tv 23))] []) 1024,
 o 25 (.ifc 212 (tv 24)),
 o 10 (.mv (tv 25))] [] [10])
 .ret)
 (.seq (.region [] [o 27 (.ifc 209 (ki 3)),
 o 28 (.bin .eql 215 (tv 11) (tv 27)),
 o 26 (.mv (tv 28))] [] [0, 1, 2, 3, 4, 11, 26])
 (.cond (tv 26) (.seq (.region [] [o 29 (.mv (tv 0)),
 o 30 (.mv (tv 1)),
 o 31 (.mv (tv 2)),
 oa 32 (.call (kf 186) [(false, (tv 29)), (false, (tv 30)), (false, (tv 31))] []) 1600,
 o 33 (.ifc 212 (tv 32)),
 o 10 (.mv (tv 33))] [] [10])
 .ret)
 (.seq (.region [] [o 35 (.ifc 209 (ki 4)),
 o 36 (.bin .eql 215 (tv 11) (tv 35)),
 o 34 (.mv (tv 36))] [] [0, 1, 3, 4, 34])
 (.cond (tv 34) (.seq (.region [] [o 37 (.mv (tv 0)),
 o 38 (.mv (tv 1)),
 o 39 (.mv (tv 3)),
 oa 40 (.call (kf 187) [(false, (tv 37)), (false, (tv 38)), (false, (tv 39))] []) 2176,
 o 41 (.ifc 212 (tv 40)),
 o 10 (.mv (tv 41))] [] [10])
 .ret)
 .skip))))))))))
 (.seq (.region [] [o 42 (.mv (tv 4)),
 o 10 (.mv (tv 42))] [] [10])
 .ret))),
 [.tmp 10], true⟩

def v137 : VFun := ⟨2,
 (.seq (.region [] [o 4 (.mv (.k (.sc zs)))] [] [0, 1])
 (.seq (.seq (.region [] [o 9 (.mv (tv 1)),
 o 10 (.bin .eql 0 (tv 9) (ki 10))] [] [0, 1, 10])
 (.cond (tv 10) (.seq (.seq (.region [] [o 11 (.mv (tv 0)),
 o 12 (.bin .lss 0 (tv 11) (.k (.sc (.c (.int .u64 100)))))] [] [0, 12])
 (.cond (tv 12) (.seq (.region [] [o 13 (.mv (tv 0)),
 o 14 (.cvI .i64 (tv 13)),
 oa 15 (.call (kf 188) [(false, (tv 14))] []) 512,
 o 4 (.mv (tv 15))] [] [4])
 .ret)
 .skip))
 (.seq (.region [] [oa 5 (.new [(.c (.int .u8 0)), (.c (.int .u8 0)), (.c (.int .u8 0)), (.c (.int .u8 0)), (.c (.int .u8 0)), (.c (.int .u8 0)), (.c (.int .u8 0)), (.c (.int .u8 0)), (.c (.int .u8 0)), (.c (.int .u8 0)), (.c (.int .u8 0)), (.c (.int .u8 0)), (.c (.int .u8 0)), (.c (.int .u8 0)), (.c (.int .u8 0)), (.c (.int .u8 0)), (.c (.int .u8 0)), (.c (.int .u8 0)), (.c (.int .u8 0)), (.c (.int .u8 0)), (.c (.int .u8 0)), (.c (.int .u8 0)), (.c (.int .u8 0)), (.c (.int .u8 0))] []) 640] [] [0])
 (.seq (.region [640] [o 16 (.mv (tv 0)),
 oa 17 (.call (kf 189) [(false, (tv 16))] []) 768,
 o 6 (.mv (tv 17))] [] [0, 6])
 (.seq (.region [] [o 18 (.mv (tv 6)),
 o 19 .bad,
 o 20 (.mv (tv 0)),
 oa 21 (.call (kf 190) [(false, (tv 19)), (false, (tv 20))] []) 1088] [] [6])
 (.seq (.region [] [o 22 (.mv (tv 6)),
 o 23 .bad,
 o 24 .bad,
 o 4 (.mv (tv 24))] [] [4])
 .ret)))))
 .skip))
 (.seq (.region [] [o 26 (.mv (tv 0)),
 o 27 (.mv (tv 1)),
 oa 28 (.call (kf 191) [(false, kn), (false, (tv 26)), (false, (tv 27)), (false, kF), (false, kF)] []) 1536,
 o 25 (.mv (tv 28)),
 o 29 (.ext 0 (tv 25)),
 o 30 (.ext 1 (tv 25)),
 o 7 (.mv (tv 29)),
 o 8 (.mv (tv 30))] [] [8])
 (.seq (.region [] [o 31 (.mv (tv 8)),
 o 4 (.mv (tv 31))] [] [4])
 .ret)))),
 [.tmp 4], false⟩

def v139 : VFun := ⟨1,
 (.seq (.region [] [o 2 (.mv (ki 0))] [] [0])
 (.seq (.cond kF (.seq (.region [] [o 3 (.mv (tv 0)),
 o 4 (.cvI .u32 (tv 3)),
 oa 5 (.call (kf 201) [(false, (tv 4))] []) 256,
 o 2 (.mv (tv 5))] [] [2])
 .ret)
 .skip)
 (.seq (.region [] [o 6 (.mv (tv 0)),
 oa 7 (.call (kf 202) [(false, (tv 6))] []) 448,
 o 2 (.mv (tv 7))] [] [2])
 .ret))),
 [.tmp 2], false⟩

def l138_0 : VCode := (.block 1 (.seq (.region [] [o 19 (.mv (tv 2)),
 o 20 (.mv (tv 1)),
 o 21 (.bin .sub 0 (tv 19) (tv 20)),
 o 10 (.mv (tv 21))] [] [0, 1, 2, 3, 8, 9, 10])
 (.seq (.seq (.region [] [o 22 (.mv (tv 10)),
 o 23 (.bin .leq 0 (tv 22) (ki 12))] [] [0, 1, 2, 3, 8, 9, 10, 23])
 (.cond (tv 23) (.seq (.region [] [o 24 (.mv (tv 0)),
 o 25 (.mv (tv 1)),
 o 26 (.mv (tv 2)),
 oa 27 (.call (kf 192) [(false, (tv 24)), (false, (tv 25)), (false, (tv 26))] []) 768] [] [1000000])
 .ret)
 .skip))
 (.seq (.seq (.region [] [o 28 (.mv (tv 3)),
 o 29 (.bin .eql 0 (tv 28) (ki 0))] [] [0, 1, 2, 3, 8, 9, 10, 29])
 (.cond (tv 29) (.seq (.region [] [o 30 (.mv (tv 0)),
 o 31 (.mv (tv 1)),
 o 32 (.mv (tv 2)),
 oa 33 (.call (kf 193) [(false, (tv 30)), (false, (tv 31)), (false, (tv 32))] []) 1152] [] [1000000])
 .ret)
 .skip))
 (.seq (.seq (.region [] [o 34 (.mv (tv 8)),
 o 35 (.un .not (tv 34))] [] [0, 1, 2, 3, 8, 9, 10, 35])
 (.cond (tv 35) (.seq (.region [] [o 36 (.mv (tv 0)),
 o 37 (.mv (tv 1)),
 o 38 (.mv (tv 2)),
 oa 39 (.call (kf 194) [(false, (tv 36)), (false, (tv 37)), (false, (tv 38))] []) 1536] [] [0, 1, 2, 3, 8, 9, 10])
 (.region [] [o 40 (.mv (tv 3)),
 o 41 (.bin .sub 0 (tv 40) (ki 1)),
 o 3 (.mv (tv 41))] [] [0, 1, 2, 3, 8, 9, 10]))
 .skip))
 (.seq (.region [] [o 43 (.mv (tv 0)),
 o 44 (.mv (tv 1)),
 o 45 (.mv (tv 2)),
 oa 46 (.call (kf 195) [(false, (tv 43)), (false, (tv 44)), (false, (tv 45))] []) 1984,
 o 42 (.mv (tv 46)),
 o 47 (.ext 0 (tv 42)),
 o 48 (.ext 1 (tv 42)),
 o 11 (.mv (tv 47)),
 o 12 (.mv (tv 48))] [] [0, 1, 2, 3, 8, 9, 10, 11, 12])
 (.seq (.seq (.region [] [o 49 (.mv (tv 12)),
 o 50 (.bin .eql 0 (tv 49) (ki 2))] [] [0, 1, 2, 3, 8, 9, 10, 11, 12, 50])
 (.cond (tv 50) (.seq (.region [] [o 51 (.mv (tv 0)),
 o 52 (.mv (tv 1)),
 o 53 (.mv (tv 2)),
 oa 54 (.call (kf 196) [(false, (tv 51)), (false, (tv 52)), (false, (tv 53))] []) 2688] [] [0, 1, 2, 3, 8, 9, 10, 11])
 (.seq (.region [] [o 55 (.mv (tv 2)),
 o 56 (.bin .sub 0 (tv 55) (ki 1)),
 o 57 (.mv (tv 11)),
 o 58 (.mv (tv 1)),
 o 59 (.bin .sub 0 (tv 57) (tv 58)),
 o 60 (.bin .sub 0 (tv 56) (tv 59)),
 o 11 (.mv (tv 60))] [] [0, 1, 2, 3, 8, 9, 10, 11])
 (.region [] [o 12 (.mv (ki 1))] [] [0, 1, 2, 3, 8, 9, 10, 11, 12])))
 .skip))
 (.seq (.seq (.region [] [o 61 (.mv (tv 8)),
 o 62 (.mv (tv 61)),
 og 63 (.mv (tv 9)) 62 true,
 o 64 (.pick (tv 62) (tv 63) kF),
 o 65 (.mv (tv 64)),
 og 66 (.mv (tv 12)) 65 true,
 og 67 (.bin .eql 0 (tv 66) (ki 1)) 65 true,
 o 68 (.pick (tv 65) (tv 67) kF)] [] [0, 1, 2, 3, 8, 9, 10, 11, 68])
 (.cond (tv 68) (.seq (.region [] [o 69 (.mv (tv 0)),
 o 70 (.mv (tv 1)),
 o 71 (.mv (tv 2)),
 oa 72 (.call (kf 197) [(false, (tv 69)), (false, (tv 70)), (false, (tv 71))] []) 3968] [] [0, 1, 2, 3, 8, 9, 10, 11, 72])
 (.cond (tv 72) .ret
 .skip))
 .skip))
 (.seq (.seq (.region [] [o 73 (.mv (tv 1)),
 o 74 (.bin .gtr 0 (tv 73) (ki 0)),
 o 75 (.mv (tv 74)),
 og 76 (.mv (tv 0)) 75 true,
 og 77 (.mv (tv 1)) 75 true,
 og 78 (.bin .sub 0 (tv 77) (ki 1)) 75 true,
 og 79 (.idxA 1 (tv 76) (tv 78)) 75 true,
 og 80 (.load false 1 (tv 79)) 75 true,
 og 81 (.mv (tv 0)) 75 true,
 og 82 (.mv (tv 11)) 75 true,
 og 83 (.idxA 1 (tv 81) (tv 82)) 75 true,
 og 84 (.load false 1 (tv 83)) 75 true,
 ⟨(some 85), (.call (kf 198) [(false, (tv 80)), (false, (tv 84))] []), (some (75, true)), 4800, []⟩,
 og 86 (.un .not (tv 85)) 75 true,
 o 87 (.pick (tv 75) (tv 86) kF)] [(6, 10), (7, 10), (6, 11), (7, 11)] [0, 1, 2, 3, 8, 9, 10, 11, 87])
 (.cond (tv 87) (.seq (.region [] [o 88 (.mv (tv 0)),
 o 89 (.mv (tv 1)),
 o 90 (.mv (tv 2)),
 o 91 (.mv (tv 11)),
 oa 92 (.call (kf 199) [(false, (tv 88)), (false, (tv 89)), (false, (tv 90)), (false, (tv 91))] []) 5248,
 o 13 (.mv (tv 92))] [] [0, 2, 3, 8, 9, 13])
 (.seq (.region [] [o 93 (.mv (tv 13)),
 o 1 (.mv (tv 93))] [] [0, 1, 2, 3, 8, 9])
 (.exit 1)))
 .skip))
 (.seq (.region [] [o 95 (.mv (tv 0)),
 o 96 (.mv (tv 1)),
 o 97 (.mv (tv 2)),
 o 98 (.mv (tv 11)),
 oa 99 (.call (kf 200) [(false, (tv 95)), (false, (tv 96)), (false, (tv 97)), (false, (tv 98))] []) 5760,
 o 94 (.mv (tv 99)),
 o 100 (.ext 0 (tv 94)),
 o 101 (.ext 1 (tv 94)),
 o 14 (.mv (tv 100)),
 o 15 (.mv (tv 101))] [] [0, 1, 2, 3, 10, 14, 15])
 (.seq (.region [] [o 102 (.mv (tv 15)),
 o 9 (.mv (tv 102))] [] [0, 1, 2, 3, 9, 10, 14])
 (.seq (.region [] [o 103 (.mv (tv 14)),
 o 104 (.mv (tv 1)),
 o 105 (.bin .sub 0 (tv 103) (tv 104)),
 o 106 (.mv (tv 2)),
 o 107 (.mv (tv 14)),
 o 108 (.bin .sub 0 (tv 106) (tv 107)),
 o 16 (.mv (tv 105)),
 o 17 (.mv (tv 108))] [] [0, 1, 2, 3, 9, 10, 14, 16, 17])
 (.seq (.region [] [o 109 (.mv (tv 10)),
 o 110 (.bin .quo 0 (tv 109) (ki 8)),
 o 18 (.mv (tv 110))] [] [0, 1, 2, 3, 9, 14, 16, 17, 18])
 (.seq (.region [] [o 111 (.mv (tv 16)),
 o 112 (.mv (tv 17)),
 o 113 (.bin .lss 0 (tv 111) (tv 112))] [] [0, 1, 2, 3, 9, 14, 16, 17, 18, 113])
 (.cond (tv 113) (.seq (.region [] [o 114 (.mv (tv 16)),
 o 115 (.mv (tv 18)),
 o 116 (.bin .geq 0 (tv 114) (tv 115)),
 o 8 (.mv (tv 116))] [] [0, 1, 2, 3, 8, 9, 14])
 (.seq (.region [] [o 117 (.mv (tv 0)),
 o 118 (.mv (tv 1)),
 o 119 (.mv (tv 14)),
 o 120 (.mv (tv 3)),
 oa 121 (.call (kf 138) [(false, (tv 117)), (false, (tv 118)), (false, (tv 119)), (false, (tv 120))] []) 7680] [] [0, 2, 3, 8, 9, 14])
 (.region [] [o 122 (.mv (tv 14)),
 o 123 (.bin .add 0 (tv 122) (ki 1)),
 o 1 (.mv (tv 123))] [] [0, 1, 2, 3, 8, 9])))
 (.seq (.region [] [o 124 (.mv (tv 17)),
 o 125 (.mv (tv 18)),
 o 126 (.bin .geq 0 (tv 124) (tv 125)),
 o 8 (.mv (tv 126))] [] [0, 1, 2, 3, 8, 9, 14])
 (.seq (.region [] [o 127 (.mv (tv 0)),
 o 128 (.mv (tv 14)),
 o 129 (.bin .add 0 (tv 128) (ki 1)),
 o 130 (.mv (tv 2)),
 o 131 (.mv (tv 3)),
 oa 132 (.call (kf 138) [(false, (tv 127)), (false, (tv 129)), (false, (tv 130)), (false, (tv 131))] []) 8512] [] [0, 1, 3, 8, 9, 14])
 (.region [] [o 133 (.mv (tv 14)),
 o 2 (.mv (tv 133))] [] [0, 1, 2, 3, 8, 9]))))))))))))))))))

def v138 : VFun := ⟨4,
 (.seq (.region [] [o 8 (.mv kt)] [] [0, 1, 2, 3, 8])
 (.seq (.region [] [o 9 (.mv kt)] [] [0, 1, 2, 3, 8, 9])
 (.block 0 (.loop l138_0)))),
 [], false⟩

def v181 : VFun := ⟨2,
 (.seq (.region [] [o 4 (.mv kF)] [] [0, 1])
 (.seq (.region [] [o 5 (.mv (tv 0)),
 o 6 (.len true (tv 5)),
 o 7 (.mv (tv 1)),
 o 8 (.len true (tv 7)),
 o 9 (.bin .geq 0 (tv 6) (tv 8)),
 o 10 (.mv (tv 9)),
 og 11 (.mv (tv 0)) 10 true,
 og 12 (.mv (tv 1)) 10 true,
 og 13 (.len true (tv 12)) 10 true,
 og 14 (.slS (tv 11) none (some (tv 13))) 10 true,
 og 15 (.mv (tv 1)) 10 true,
 og 16 (.bin .eql 0 (tv 14) (tv 15)) 10 true,
 o 17 (.pick (tv 10) (tv 16) kF),
 o 4 (.mv (tv 17))] [] [4])
 .ret)),
 [.tmp 4], false⟩

def v182 : VFun := ⟨1,
 (.seq (.region [] [o 2 (.mv (.k (.sc (.c (.int .u8 0)))))] [] [0])
 (.seq (.region [] [o 3 (.mv (tv 0)),
 o 4 (.bin .or 0 (tv 3) (.k (.sc (.c (.int .u8 32))))),
 o 2 (.mv (tv 4))] [] [2])
 .ret)),
 [.tmp 2], false⟩

def v184 : VFun := ⟨2,
 (.seq (.region [] [o 4 (.mv (.k (.sc (.c .nilptr))))] [] [0, 1])
 (.seq (.region [] [o 5 (.mv (tv 0)),
 o 6 (.mv (tv 1)),
 oa 7 (.call (kf 233) [(false, (tv 6))] []) 256,
 o 8 (.load false 1 (.g 0)),
 o 9 (.build [zs, zs, (.c .nilif)] [(0, 1, (tv 5)), (1, 1, (tv 7)), (2, 1, (tv 8))]),
 oa 10 (.box (tv 9)) 448,
 o 4 (.mv (tv 10))] [(2, 3)] [4])
 .ret)),
 [.tmp 4], true⟩

def v188 : VFun := ⟨1,
 (.seq (.region [] [o 2 (.mv (.k (.sc zs)))] [] [0])
 (.seq (.seq (.region [] [o 3 (.mv (tv 0)),
 o 4 (.bin .lss 0 (tv 3) (ki 10))] [] [0, 4])
 (.cond (tv 4) (.seq (.region [] [o 5 (.mv (tv 0)),
 o 6 (.mv (tv 0)),
 o 7 (.bin .add 0 (tv 6) (ki 1)),
 o 8 (.slS (.k (.sc (.c (.str [48, 49, 50, 51, 52, 53, 54, 55, 56, 57, 97, 98, 99, 100, 101, 102, 103, 104, 105, 106, 107, 108, 109, 110, 111, 112, 113, 114, 115, 116, 117, 118, 119, 120, 121, 122])))) (some (tv 5)) (some (tv 7))),
 o 2 (.mv (tv 8))] [] [2])
 .ret)
 .skip))
 (.seq (.region [] [o 9 (.mv (tv 0)),
 o 10 (.bin .mul 0 (tv 9) (ki 2)),
 o 11 (.mv (tv 0)),
 o 12 (.bin .mul 0 (tv 11) (ki 2)),
 o 13 (.bin .add 0 (tv 12) (ki 2)),
 o 14 (.slS (.k (.sc (.c (.str [48, 48, 48, 49, 48, 50, 48, 51, 48, 52, 48, 53, 48, 54, 48, 55, 48, 56, 48, 57, 49, 48, 49, 49, 49, 50, 49, 51, 49, 52, 49, 53, 49, 54, 49, 55, 49, 56, 49, 57, 50, 48, 50, 49, 50, 50, 50, 51, 50, 52, 50, 53, 50, 54, 50, 55, 50, 56, 50, 57, 51, 48, 51, 49, 51, 50, 51, 51, 51, 52, 51, 53, 51, 54, 51, 55, 51, 56, 51, 57, 52, 48, 52, 49, 52, 50, 52, 51, 52, 52, 52, 53, 52, 54, 52, 55, 52, 56, 52, 57, 53, 48, 53, 49, 53, 50, 53, 51, 53, 52, 53, 53, 53, 54, 53, 55, 53, 56, 53, 57, 54, 48, 54, 49, 54, 50, 54, 51, 54, 52, 54, 53, 54, 54, 54, 55, 54, 56, 54, 57, 55, 48, 55, 49, 55, 50, 55, 51, 55, 52, 55, 53, 55, 54, 55, 55, 55, 56, 55, 57, 56, 48, 56, 49, 56, 50, 56, 51, 56, 52, 56, 53, 56, 54, 56, 55, 56, 56, 56, 57, 57, 48, 57, 49, 57, 50, 57, 51, 57, 52, 57, 53, 57, 54, 57, 55, 57, 56, 57, 57])))) (some (tv 10)) (some (tv 13))),
 o 2 (.mv (tv 14))] [] [2])
 .ret))),
 [.tmp 2], false⟩

def v202 : VFun := ⟨1,
 (.seq (.region [] [o 2 (.mv (ki 0))] [] [0, 2])
 (.seq (.seq (.region [] [o 3 (.mv (tv 0)),
 o 4 (.bin .geq 0 (tv 3) (.k (.sc (.c (.int .u64 4294967296)))))] [] [0, 2, 4])
 (.cond (tv 4) (.seq (.region [] [o 5 (.mv (tv 0)),
 o 6 (.bin .shr 0 (tv 5) (.k (.sc (.c (.int .u64 32))))),
 o 0 (.mv (tv 6))] [] [0])
 (.region [] [o 2 (.mv (ki 32))] [] [0, 2]))
 .skip))
 (.seq (.seq (.region [] [o 7 (.mv (tv 0)),
 o 8 (.bin .geq 0 (tv 7) (.k (.sc (.c (.int .u64 65536)))))] [] [0, 2, 8])
 (.cond (tv 8) (.seq (.region [] [o 9 (.mv (tv 0)),
 o 10 (.bin .shr 0 (tv 9) (.k (.sc (.c (.int .u64 16))))),
 o 0 (.mv (tv 10))] [] [0, 2])
 (.region [] [o 11 (.mv (tv 2)),
 o 12 (.bin .add 0 (tv 11) (ki 16)),
 o 2 (.mv (tv 12))] [] [0, 2]))
 .skip))
 (.seq (.seq (.region [] [o 13 (.mv (tv 0)),
 o 14 (.bin .geq 0 (tv 13) (.k (.sc (.c (.int .u64 256)))))] [] [0, 2, 14])
 (.cond (tv 14) (.seq (.region [] [o 15 (.mv (tv 0)),
 o 16 (.bin .shr 0 (tv 15) (.k (.sc (.c (.int .u64 8))))),
 o 0 (.mv (tv 16))] [] [0, 2])
 (.region [] [o 17 (.mv (tv 2)),
 o 18 (.bin .add 0 (tv 17) (ki 8)),
 o 2 (.mv (tv 18))] [] [0, 2]))
 .skip))
 (.seq (.region [] [o 19 (.mv (tv 2)),
 o 20 (.mv (tv 0)),
 o 21 (.cvI .u8 (tv 20)),
 o 22 (.idxS (.k (.sc (.c (.str [0, 1, 2, 2, 3, 3, 3, 3, 4, 4, 4, 4, 4, 4, 4, 4, 5, 5, 5, 5, 5, 5, 5, 5, 5, 5, 5, 5, 5, 5, 5, 5, 6, 6, 6, 6, 6, 6, 6, 6, 6, 6, 6, 6, 6, 6, 6, 6, 6, 6, 6, 6, 6, 6, 6, 6, 6, 6, 6, 6, 6, 6, 6, 6, 7, 7, 7, 7, 7, 7, 7, 7, 7, 7, 7, 7, 7, 7, 7, 7, 7, 7, 7, 7, 7, 7, 7, 7, 7, 7, 7, 7, 7, 7, 7, 7, 7, 7, 7, 7, 7, 7, 7, 7, 7, 7, 7, 7, 7, 7, 7, 7, 7, 7, 7, 7, 7, 7, 7, 7, 7, 7, 7, 7, 7, 7, 7, 7, 8, 8, 8, 8, 8, 8, 8, 8, 8, 8, 8, 8, 8, 8, 8, 8, 8, 8, 8, 8, 8, 8, 8, 8, 8, 8, 8, 8, 8, 8, 8, 8, 8, 8, 8, 8, 8, 8, 8, 8, 8, 8, 8, 8, 8, 8, 8, 8, 8, 8, 8, 8, 8, 8, 8, 8, 8, 8, 8, 8, 8, 8, 8, 8, 8, 8, 8, 8, 8, 8, 8, 8, 8, 8, 8, 8, 8, 8, 8, 8, 8, 8, 8, 8, 8, 8, 8, 8, 8, 8, 8, 8, 8, 8, 8, 8, 8, 8, 8, 8, 8, 8, 8, 8, 8, 8, 8, 8, 8, 8, 8, 8, 8, 8, 8, 8, 8, 8, 8, 8, 8, 8, 8, 8, 8, 8, 8, 8])))) (tv 21)),
 o 23 (.cvI .i64 (tv 22)),
 o 24 (.bin .add 0 (tv 19) (tv 23)),
 o 2 (.mv (tv 24))] [] [2])
 .ret))))),
 [.tmp 2], false⟩

def l192_0 : VCode := (.seq (.seq (.region [] [o 16 (.mv (tv 7)),
 o 17 (.mv (tv 1)),
 o 18 (.bin .gtr 0 (tv 16) (tv 17)),
 o 19 (.mv (tv 18)),
 og 20 (.mv (tv 0)) 19 true,
 og 21 (.mv (tv 7)) 19 true,
 og 22 (.idxA 1 (tv 20) (tv 21)) 19 true,
 og 23 (.load false 1 (tv 22)) 19 true,
 og 24 (.mv (tv 0)) 19 true,
 og 25 (.mv (tv 7)) 19 true,
 og 26 (.bin .sub 0 (tv 25) (ki 1)) 19 true,
 og 27 (.idxA 1 (tv 24) (tv 26)) 19 true,
 og 28 (.load false 1 (tv 27)) 19 true,
 ⟨(some 29), (.call (kf 198) [(false, (tv 23)), (false, (tv 28))] []), (some (19, true)), 1408, []⟩,
 o 30 (.pick (tv 19) (tv 29) kF)] [(6, 11), (7, 11), (6, 12), (7, 12)] [0, 1, 2, 6, 7, 30])
 (.cond (tv 30) .skip
 (.exit 2)))
 (.seq (.block 3 (.region [] [o 33 (.mv (tv 0)),
 o 34 (.mv (tv 7)),
 o 35 (.mv (tv 0)),
 o 36 (.mv (tv 7)),
 o 37 (.bin .sub 0 (tv 36) (ki 1)),
 o 38 (.mv (tv 0)),
 o 39 (.mv (tv 7)),
 o 40 (.bin .sub 0 (tv 39) (ki 1)),
 o 41 (.idxA 1 (tv 38) (tv 40)),
 o 42 (.load false 1 (tv 41)),
 o 43 (.mv (tv 0)),
 o 44 (.mv (tv 7)),
 o 45 (.idxA 1 (tv 43) (tv 44)),
 o 46 (.load false 1 (tv 45)),
 o 47 (.idxA 1 (tv 33) (tv 34)),
 on (.store 1 (tv 47) (tv 42) []),
 o 48 (.idxA 1 (tv 35) (tv 37)),
 on (.store 1 (tv 48) (tv 46) [])] [(8, 12), (9, 12), (8, 13), (9, 13)] [0, 1, 2, 6, 7]))
 (.region [] [o 31 (.mv (tv 7)),
 o 32 (.bin .sub 0 (tv 31) (ki 1)),
 o 7 (.mv (tv 32))] [] [0, 1, 2, 6, 7])))

def l192_1 : VCode := (.seq (.seq (.region [] [o 10 (.mv (tv 6)),
 o 11 (.mv (tv 2)),
 o 12 (.bin .lss 0 (tv 10) (tv 11))] [] [0, 1, 2, 6, 12])
 (.cond (tv 12) .skip
 (.exit 0)))
 (.seq (.block 1 (.seq (.region [] [o 15 (.mv (tv 6)),
 o 7 (.mv (tv 15))] [] [0, 1, 2, 6, 7])
 (.block 2 (.loop l192_0))))
 (.region [] [o 13 (.mv (tv 6)),
 o 14 (.bin .add 0 (tv 13) (ki 1)),
 o 6 (.mv (tv 14))] [] [0, 1, 2, 6])))

def v192 : VFun := ⟨3,
 (.seq (.region [] [o 8 (.mv (tv 1)),
 o 9 (.bin .add 0 (tv 8) (ki 1)),
 o 6 (.mv (tv 9))] [] [0, 1, 2, 6])
 (.block 0 (.loop l192_1))),
 [], false⟩

set_option maxRecDepth 100000 in
theorem m136 : mFun Go.Proofs.Tryz.prog 136 v136 = true := by kernel_rfl
set_option maxRecDepth 100000 in
theorem m137 : mFun Go.Proofs.Tryz.prog 137 v137 = true := by kernel_rfl
set_option maxRecDepth 100000 in
theorem m139 : mFun Go.Proofs.Tryz.prog 139 v139 = true := by kernel_rfl
set_option maxRecDepth 100000 in
theorem m138 : mFun Go.Proofs.Tryz.prog 138 v138 = true := by kernel_rfl
set_option maxRecDepth 100000 in
theorem m181 : mFun Go.Proofs.Tryz.prog 181 v181 = true := by kernel_rfl
set_option maxRecDepth 100000 in
theorem m182 : mFun Go.Proofs.Tryz.prog 182 v182 = true := by kernel_rfl
set_option maxRecDepth 100000 in
theorem m184 : mFun Go.Proofs.Tryz.prog 184 v184 = true := by kernel_rfl
set_option maxRecDepth 100000 in
theorem m188 : mFun Go.Proofs.Tryz.prog 188 v188 = true := by kernel_rfl
set_option maxRecDepth 100000 in
theorem m202 : mFun Go.Proofs.Tryz.prog 202 v202 = true := by kernel_rfl
set_option maxRecDepth 100000 in
theorem m192 : mFun Go.Proofs.Tryz.prog 192 v192 = true := by kernel_rfl

end Go.Vs.Tryz
