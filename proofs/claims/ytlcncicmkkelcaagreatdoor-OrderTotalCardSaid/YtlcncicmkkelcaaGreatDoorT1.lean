/- Functions of the program in the language of the value semantics, part 1 (printed by a program of mine), and that they match. (Parts of one proof, put together.) -/
import Derived.Test.YtlcncicmkkelcaaGreatDoorM3
import Derived.Test.YtlcncicmkkelcaaGreatDoorProg
import Derived.KernelRfl
set_option linter.unusedSimpArgs false
set_option linter.unusedVariables false
set_option linter.deprecated false

/- Functions of the program in the language of the value semantics, part 1 (printed by a program of mine), and that they match. -/
namespace Go.Vs.Tryz
open Go Go.Vs

def l4_0 : VCode := (.seq (.seq (.region [] [o 83 (.mv (tv 11)),
 o 84 (.mv (tv 7)),
 o 85 (.len false (tv 84)),
 o 86 (.bin .lss 0 (tv 83) (tv 85))] [] [5, 6, 7, 8, 9, 10, 11, 86])
 (.cond (tv 86) .skip
 (.exit 4)))
 (.seq (.block 5 (.seq (.region [] [o 89 (.mv (tv 10)),
 o 90 (.bin .lss 0 (tv 89) (ki 0)),
 o 91 (.mv (tv 90)),
 og 92 (.mv (tv 5)) 91 true,
 og 93 (.mv (tv 6)) 91 true,
 og 94 (.mv (tv 7)) 91 true,
 og 95 (.mv (tv 9)) 91 true,
 og 96 (.idxA 11 (tv 94) (tv 95)) 91 true,
 og 97 (.load true 11 (tv 96)) 91 true,
 og 98 (.mv (tv 7)) 91 true,
 og 99 (.mv (tv 11)) 91 true,
 og 100 (.idxA 11 (tv 98) (tv 99)) 91 true,
 og 101 (.load true 11 (tv 100)) 91 true,
 ⟨(some 102), (.call (kf 15) [(false, (tv 92)), (false, (tv 93)), (false, (tv 97)), (false, (tv 101))] []), (some (91, true)), 6208, []⟩,
 og 103 (.bin .lss 0 (tv 102) (ki 0)) 91 true,
 o 104 (.pick (tv 91) (tv 103) kF),
 o 105 (.mv (tv 104)),
 og 106 (.mv (tv 5)) 105 true,
 og 107 (.mv (tv 6)) 105 true,
 og 108 (.mv (tv 7)) 105 true,
 og 109 (.mv (tv 8)) 105 true,
 og 110 (.idxA 11 (tv 108) (tv 109)) 105 true,
 og 111 (.load true 11 (tv 110)) 105 true,
 og 112 (.mv (tv 7)) 105 true,
 og 113 (.mv (tv 11)) 105 true,
 og 114 (.idxA 11 (tv 112) (tv 113)) 105 true,
 og 115 (.load true 11 (tv 114)) 105 true,
 ⟨(some 116), (.call (kf 15) [(false, (tv 106)), (false, (tv 107)), (false, (tv 111)), (false, (tv 115))] []), (some (105, true)), 7104, []⟩,
 og 117 (.bin .geq 0 (tv 116) (ki 0)) 105 true,
 o 118 (.pick (tv 105) (tv 117) kF)] [(7, 11), (8, 11), (7, 12), (8, 12), (21, 25), (22, 25), (21, 26), (22, 26)] [5, 6, 7, 8, 9, 10, 11, 118])
 (.cond (tv 118) (.seq (.region [] [o 4 (.mv kF)] [] [4])
 .ret)
 .skip)))
 (.region [] [o 87 (.mv (tv 11)),
 o 88 (.bin .add 0 (tv 87) (ki 1)),
 o 11 (.mv (tv 88))] [] [5, 6, 7, 8, 9, 10, 11])))

def l4_1 : VCode := (.seq (.seq (.region [] [o 38 (.mv (tv 9)),
 o 39 (.mv (tv 7)),
 o 40 (.len false (tv 39)),
 o 41 (.bin .lss 0 (tv 38) (tv 40))] [] [5, 6, 7, 8, 9, 41])
 (.cond (tv 41) .skip
 (.exit 2)))
 (.seq (.block 3 (.seq (.region [] [o 44 (.mv (tv 5)),
 o 45 (.mv (tv 6)),
 o 46 (.mv (tv 7)),
 o 47 (.mv (tv 8)),
 o 48 (.idxA 11 (tv 46) (tv 47)),
 o 49 (.load true 11 (tv 48)),
 o 50 (.mv (tv 7)),
 o 51 (.mv (tv 9)),
 o 52 (.idxA 11 (tv 50) (tv 51)),
 o 53 (.load true 11 (tv 52)),
 oa 54 (.call (kf 15) [(false, (tv 44)), (false, (tv 45)), (false, (tv 49)), (false, (tv 53))] []) 3072,
 o 10 (.mv (tv 54))] [(4, 8), (5, 8), (4, 9), (5, 9)] [5, 6, 7, 8, 9, 10])
 (.seq (.seq (.region [] [o 55 (.mv (tv 10)),
 o 56 (.mv (tv 5)),
 o 57 (.mv (tv 6)),
 o 58 (.mv (tv 7)),
 o 59 (.mv (tv 9)),
 o 60 (.idxA 11 (tv 58) (tv 59)),
 o 61 (.load true 11 (tv 60)),
 o 62 (.mv (tv 7)),
 o 63 (.mv (tv 8)),
 o 64 (.idxA 11 (tv 62) (tv 63)),
 o 65 (.load true 11 (tv 64)),
 oa 66 (.call (kf 15) [(false, (tv 56)), (false, (tv 57)), (false, (tv 61)), (false, (tv 65))] []) 3904,
 o 67 (.un .neg (tv 66)),
 o 68 (.bin .neq 0 (tv 55) (tv 67)),
 o 69 (.mv (tv 68)),
 og 70 (.mv (tv 10)) 69 false,
 og 71 (.bin .eql 0 (tv 70) (ki 0)) 69 false,
 og 72 (.mv (tv 7)) 69 false,
 og 73 (.mv (tv 8)) 69 false,
 og 74 (.idxA 11 (tv 72) (tv 73)) 69 false,
 og 75 (.load true 11 (tv 74)) 69 false,
 og 76 (.mv (tv 7)) 69 false,
 og 77 (.mv (tv 9)) 69 false,
 og 78 (.idxA 11 (tv 76) (tv 77)) 69 false,
 og 79 (.load true 11 (tv 78)) 69 false,
 ⟨(some 80), (.call (kf 18) [(false, (tv 75)), (false, (tv 79))] []), (some (69, false)), 4800, []⟩,
 og 81 (.bin .neq 1 (tv 71) (tv 80)) 69 false,
 o 82 (.pick (tv 69) kt (tv 81))] [(5, 9), (6, 9), (5, 10), (6, 10), (19, 23), (20, 23), (19, 24), (20, 24)] [5, 6, 7, 8, 9, 10, 82])
 (.cond (tv 82) (.seq (.region [] [o 4 (.mv kF)] [] [4])
 .ret)
 .skip))
 (.seq (.region [] [o 11 (.mv (ki 0))] [] [5, 6, 7, 8, 9, 10, 11])
 (.block 4 (.loop l4_0))))))
 (.region [] [o 42 (.mv (tv 9)),
 o 43 (.bin .add 0 (tv 42) (ki 1)),
 o 9 (.mv (tv 43))] [] [5, 6, 7, 8, 9])))

def l4_2 : VCode := (.seq (.seq (.region [] [o 32 (.mv (tv 8)),
 o 33 (.mv (tv 7)),
 o 34 (.len false (tv 33)),
 o 35 (.bin .lss 0 (tv 32) (tv 34))] [] [5, 6, 7, 8, 35])
 (.cond (tv 35) .skip
 (.exit 0)))
 (.seq (.block 1 (.seq (.region [] [o 9 (.mv (ki 0))] [] [5, 6, 7, 8, 9])
 (.block 2 (.loop l4_1))))
 (.region [] [o 36 (.mv (tv 8)),
 o 37 (.bin .add 0 (tv 36) (ki 1)),
 o 8 (.mv (tv 37))] [] [5, 6, 7, 8])))

def v4 : VFun := ⟨2,
 (.seq (.region [] [o 4 (.mv kF)] [] [0, 1])
 (.seq (.seq (.region [] [oa 12 (.call (kf 12) [] []) 128,
 o 13 (.un .not (tv 12))] [] [0, 1, 13])
 (.cond (tv 13) (.seq (.region [] [o 4 (.mv kF)] [] [4])
 .ret)
 .skip))
 (.seq (.seq (.region [] [o 14 (.mv (tv 1)),
 oa 15 (.call (kf 13) [(false, (tv 14))] []) 384,
 o 16 (.un .not (tv 15))] [] [0, 1, 16])
 (.cond (tv 16) (.seq (.region [] [o 4 (.mv kt)] [] [4])
 .ret)
 .skip))
 (.seq (.region [] [o 18 (.mv (tv 0)),
 o 19 (.mv (tv 1)),
 oa 20 (.call (kf 14) [(false, (tv 18)), (false, (tv 19)), (false, (ki 4))] []) 704,
 o 17 (.mv (tv 20)),
 o 21 (.ext 0 (tv 17)),
 o 22 (.ext 1 (tv 17)),
 o 23 (.ext 2 (tv 17)),
 o 5 (.mv (tv 21)),
 o 6 (.mv (tv 22)),
 o 7 (.mv (tv 23))] [] [5, 6, 7])
 (.seq (.region [] [o 24 (.mv (tv 7)),
 o 25 (.mv (tv 6)),
 o 26 (.mv (tv 7)),
 o 27 (.idxA 11 (tv 26) (ki 0)),
 o 28 (.load true 11 (tv 27)),
 oa 29 (.call (kf 17) [(false, (tv 25)), (false, (tv 28))] []) 1536,
 oa 30 (.mkSl 11 [(tv 29)]) 1600,
 o 31 (.app 11 152 false (tv 24) (tv 30)),
 o 7 (.mv (tv 31))] [] [5, 6, 7])
 (.seq (.seq (.region [1600] [o 8 (.mv (ki 0))] [] [5, 6, 7, 8])
 (.block 0 (.loop l4_2)))
 (.seq (.region [] [o 4 (.mv kt)] [] [4])
 .ret))))))),
 [.tmp 4], false⟩

def v133 : VFun := ⟨1,
 (.seq (.region [] [o 2 (.mv kn)] [] [0])
 (.seq (.seq (.region [] [o 3 (.mv (tv 0)),
 o 4 (.bin .eql 2 (tv 3) kn)] [] [0, 4])
 (.cond (tv 4) (.seq (.region [] [o 2 (.mv kn)] [] [2])
 .ret)
 .skip))
 (.seq (.region [] [o 5 .mkE,
 o 6 (.mv (tv 0)),
 oa 7 (.appF 2 32 (tv 5) (tv 6)) 448,
 o 2 (.mv (tv 7))] [] [2])
 .ret))),
 [.tmp 2], true⟩

def v144 : VFun := ⟨1,
 (.seq (.region [] [o 2 (.mv kn)] [] [0])
 (.seq (.seq (.region [] [o 3 (.mv (tv 0)),
 o 4 (.bin .eql 2 (tv 3) kn)] [] [0, 4])
 (.cond (tv 4) (.seq (.region [] [o 2 (.mv kn)] [] [2])
 .ret)
 .skip))
 (.seq (.region [] [o 5 .mkE,
 o 6 (.mv (tv 0)),
 oa 7 (.appF 14 200 (tv 5) (tv 6)) 448,
 o 2 (.mv (tv 7))] [] [2])
 .ret))),
 [.tmp 2], false⟩

def v95 : VFun := ⟨1,
 (.seq (.region [] [o 2 (.mv kn)] [] [0])
 (.seq (.seq (.region [] [o 3 (.mv (tv 0)),
 o 4 (.bin .eql 2 (tv 3) kn)] [] [0, 4])
 (.cond (tv 4) (.seq (.region [] [o 2 (.mv kn)] [] [2])
 .ret)
 .skip))
 (.seq (.region [] [o 5 .mkE,
 o 6 (.mv (tv 0)),
 oa 7 (.appF 1 16 (tv 5) (tv 6)) 448,
 o 2 (.mv (tv 7))] [] [2])
 .ret))),
 [.tmp 2], false⟩

def v140 : VFun := ⟨1,
 (.seq (.region [] [o 2 (.mv kn)] [] [0])
 (.seq (.seq (.region [] [o 3 (.mv (tv 0)),
 o 4 (.bin .eql 2 (tv 3) kn)] [] [0, 4])
 (.cond (tv 4) (.seq (.region [] [o 2 (.mv kn)] [] [2])
 .ret)
 .skip))
 (.seq (.region [] [o 5 .mkE,
 o 6 (.mv (tv 0)),
 oa 7 (.appF 11 152 (tv 5) (tv 6)) 448,
 o 2 (.mv (tv 7))] [] [2])
 .ret))),
 [.tmp 2], true⟩

def v12 : VFun := ⟨0,
 (.seq (.region [] [o 0 (.mv kF)] [] [1000000])
 (.seq (.region [] [oa 5 (.call (kf 47) [] []) 128,
 oa 6 (.call (kf 46) [(false, (tv 5))] []) 192,
 o 7 (.build [zs, zi, zi, zs, zi, zi, .nil] [(0, 1, (.k (.sc (.c (.str [120]))))), (1, 6, (tv 6))]),
 oa 8 (.mkSl 7 [(tv 7)]) 320,
 o 1 (.mv (tv 8))] [] [1])
 (.seq (.region [] [oa 9 (.call (kf 48) [(false, (.k (.sc (.c (.str [120])))))] []) 448,
 oa 10 (.call (kf 48) [(false, (.k (.sc (.c (.str [120])))))] []) 512,
 oa 11 (.call (kf 49) [(false, (.k (.sc (.c (.str [121]))))), (false, (tv 10))] []) 576,
 oa 12 (.call (kf 48) [(false, (.k (.sc (.c (.str [121])))))] []) 640,
 oa 13 (.call (kf 49) [(false, (.k (.sc (.c (.str [121]))))), (false, (tv 12))] []) 704,
 oa 2 (.new [zi, zi, zs, zi, .nil, .nil, zi, zs, zi, zi, .nil] []) 768,
 oa 3 (.new [zi, zi, zs, zi, .nil, .nil, zi, zs, zi, zi, .nil] []) 832,
 oa 4 (.new [zi, zi, zs, zi, .nil, .nil, zi, zs, zi, zi, .nil] []) 896,
 on (.store 11 (tv 2) (tv 9) []),
 on (.store 11 (tv 3) (tv 11) []),
 on (.store 11 (tv 4) (tv 13) [])] [] [1, 2, 3, 4])
 (.seq (.region [] [o 14 (.mv (tv 1)),
 o 15 (.load true 11 (tv 2)),
 o 16 (.load true 11 (tv 3)),
 oa 17 (.call (kf 15) [(false, kn), (false, (tv 14)), (false, (tv 15)), (false, (tv 16))] []) 1344,
 o 18 (.bin .eql 0 (tv 17) (ki (-1))),
 o 19 (.mv (tv 18)),
 og 20 (.mv (tv 1)) 19 true,
 og 21 (.load true 11 (tv 3)) 19 true,
 og 22 (.load true 11 (tv 4)) 19 true,
 ⟨(some 23), (.call (kf 15) [(false, kn), (false, (tv 20)), (false, (tv 21)), (false, (tv 22))] []), (some (19, true)), 1728, []⟩,
 og 24 (.bin .eql 0 (tv 23) (ki (-1))) 19 true,
 o 25 (.pick (tv 19) (tv 24) kF),
 o 26 (.mv (tv 25)),
 og 27 (.mv (tv 1)) 26 true,
 og 28 (.load true 11 (tv 4)) 26 true,
 ⟨(some 29), (.call (kf 48) [(false, (.k (.sc (.c (.str [122])))))] []), (some (26, true)), 2112, []⟩,
 ⟨(some 30), (.call (kf 49) [(false, (.k (.sc (.c (.str [122]))))), (false, (tv 29))] []), (some (26, true)), 2176, []⟩,
 ⟨(some 31), (.call (kf 15) [(false, kn), (false, (tv 27)), (false, (tv 28)), (false, (tv 30))] []), (some (26, true)), 2240, []⟩,
 og 32 (.bin .eql 0 (tv 31) (ki 0)) 26 true,
 o 33 (.pick (tv 26) (tv 32) kF),
 o 34 (.mv (tv 33)),
 og 35 (.load true 11 (tv 3)) 34 true,
 ⟨(some 36), (.call (kf 41) [(false, (tv 35))] []), (some (34, true)), 2560, []⟩,
 og 37 (.bin .eql 0 (tv 36) (ki 2)) 34 true,
 o 38 (.pick (tv 34) (tv 37) kF),
 o 39 (.mv (tv 38)),
 og 40 (.mv (tv 1)) 39 true,
 ⟨(some 41), (.call (kf 44) [(false, (tv 40)), (false, (ki 0))] []), (some (39, true)), 2880, []⟩,
 og 42 (.bin .eql 0 (tv 41) (.k (.sc (.c (.str [118, 49]))))) 39 true,
 o 43 (.pick (tv 39) (tv 42) kF),
 o 0 (.mv (tv 43))] [(1, 2), (7, 8), (14, 15), (14, 16)] [0])
 .ret)))),
 [.tmp 0], false⟩

def v13 : VFun := ⟨1,
 (.seq (.region [] [o 2 (.mv kF)] [] [0])
 (.seq (.region [] [o 3 (.mv (tv 0)),
 o 4 (.len false (tv 3)),
 o 5 (.bin .leq 0 (tv 4) (ki 60)),
 o 2 (.mv (tv 5))] [] [2])
 .ret)),
 [.tmp 2], false⟩

def l14_0 : VCode := (.seq (.seq (.region [] [o 32 (.mv (tv 14)),
 o 33 (.mv (tv 2)),
 o 34 (.bin .lss 0 (tv 32) (tv 33))] [] [2, 9, 10, 11, 13, 14, 34])
 (.cond (tv 34) .skip
 (.exit 0)))
 (.seq (.block 1 (.region [] [o 37 (.mv (tv 13)),
 o 38 (.mv (tv 9)),
 o 39 (.mv (tv 10)),
 o 40 (.mv (tv 11)),
 oa 41 (.call (kf 52) [(false, (tv 40))] []) 2304,
 o 42 (.mv (tv 9)),
 oa 43 (.call (kf 53) [(true, (tv 42)), (false, (ki 4))] []) 2432,
 oa 44 (.call (kf 51) [(true, (tv 38)), (false, (tv 39)), (false, (tv 41)), (false, (tv 43))] []) 2496,
 oa 45 (.mkSl 11 [(tv 44)]) 2560,
 o 46 (.app 11 152 false (tv 37) (tv 45)),
 o 13 (.mv (tv 46))] [] [2, 9, 10, 11, 13, 14]))
 (.region [2560] [o 35 (.mv (tv 14)),
 o 36 (.bin .add 0 (tv 35) (ki 1)),
 o 14 (.mv (tv 36))] [] [2, 9, 10, 11, 13, 14])))

def v14 : VFun := ⟨3,
 (.seq (.region [] [o 6 (.mv kn),
 o 7 (.mv kn),
 o 8 (.mv kn)] [] [0, 1, 2])
 (.seq (.region [] [o 15 (.mv (tv 1)),
 o 16 (.build [.nil, zi] [(0, 1, (tv 15))]),
 oa 17 (.box (tv 16)) 384,
 o 9 (.mv (tv 17))] [] [0, 2, 9])
 (.seq (.region [] [o 18 (.mv (tv 0)),
 oa 19 (.call (kf 23) [(false, (tv 18))] []) 576,
 o 10 (.mv (tv 19))] [] [2, 9, 10])
 (.seq (.region [] [o 21 (.mv (tv 9)),
 o 22 (.mv (tv 10)),
 oa 23 (.call (kf 50) [(true, (tv 21)), (false, (tv 22))] []) 832,
 o 20 (.mv (tv 23)),
 o 24 (.ext 0 (tv 20)),
 o 25 (.ext 1 (tv 20)),
 oa 12 (.new [zi, zs, zi, zi, .nil] []) 1088,
 o 11 (.mv (tv 24)),
 on (.store 5 (tv 12) (tv 25) [])] [] [2, 9, 10, 11])
 (.seq (.region [1088] [oa 26 (.call (kf 47) [] []) 1280,
 oa 27 (.call (kf 46) [(false, (tv 26))] []) 1344,
 o 28 (.build [zs, zi, zi, zs, zi, zi, .nil] [(0, 1, (.k (.sc (.c (.str [120]))))), (1, 6, (tv 27))]),
 oa 29 (.mkSl 7 [(tv 28)]) 1472,
 o 30 (.mv (tv 11)),
 o 31 (.app 7 88 false (tv 29) (tv 30)),
 o 11 (.mv (tv 31))] [] [2, 9, 10, 11])
 (.seq (.region [] [⟨(some 13), (.mv kn), none, 1728, [(0, 11)]⟩] [] [2, 9, 10, 11, 13])
 (.seq (.seq (.region [] [o 14 (.mv (ki 0))] [] [2, 9, 10, 11, 13, 14])
 (.block 0 (.loop l14_0)))
 (.seq (.region [] [o 47 (.mv (tv 10)),
 o 48 (.mv (tv 11)),
 o 49 (.mv (tv 13)),
 o 6 (.mv (tv 47)),
 o 7 (.mv (tv 48)),
 o 8 (.mv (tv 49))] [] [6, 7, 8])
 .ret)))))))),
 [.tmp 6, .tmp 7, .tmp 8], true⟩

def v17 : VFun := ⟨2,
 (.seq (.region [] [oa 3 (.box (tv 1)) 64,
 oa 4 (.new [zi, zi, zs, zi, .nil, .nil, zi, zs, zi, zi, .nil] []) 128] [] [0, 3, 4])
 (.seq (.region [] [o 5 (.load true 11 (tv 3)),
 o 6 (.mv (tv 0)),
 oa 7 (.call (kf 65) [(false, (tv 6))] []) 320,
 oa 8 (.call (kf 52) [(false, (tv 7))] []) 384,
 oa 9 (.call (kf 40) [(false, (tv 5)), (false, (tv 8))] []) 448,
 on (.store 11 (tv 4) (tv 9) [])] [(0, 2), (0, 3)] [4])
 .ret)),
 [.cell 4 true 11], false⟩

def v15 : VFun := ⟨4,
 (.seq (.region [] [oa 4 (.box (tv 0)) 64,
 oa 5 (.box (tv 1)) 128,
 oa 6 (.box (tv 2)) 192,
 oa 7 (.box (tv 3)) 256,
 o 8 (.mv (ki 0))] [] [4, 5, 6, 7])
 (.seq (.region [] [o 12 (.fn 54 [(tv 4), (tv 5)]),
 oa 9 (.new [(.c .nilfn)] []) 448,
 on (.store 1 (tv 9) (tv 12) [])] [] [6, 7, 9])
 (.seq (.region [] [oa 10 (.new [(.c .nilfn)] []) 576] [] [6, 7, 9, 10])
 (.seq (.region [] [o 13 (.fn 57 [(tv 10)]),
 oa 11 (.new [(.c .nilfn)] []) 704,
 on (.store 1 (tv 11) (tv 13) [])] [] [6, 7, 9, 10, 11])
 (.seq (.region [] [o 14 (.fn 58 [(tv 10), (tv 9), (tv 11)]),
 on (.store 1 (tv 10) (tv 14) [])] [] [6, 7, 10])
 (.seq (.seq (.region [] [o 15 (.load true 11 (tv 6)),
 oa 16 (.call (kf 63) [(false, (tv 15))] []) 1024,
 o 17 (.un .not (tv 16)),
 o 18 (.mv (tv 17)),
 og 19 (.load true 11 (tv 7)) 18 false,
 ⟨(some 20), (.call (kf 63) [(false, (tv 19))] []), (some (18, false)), 1280, []⟩,
 og 21 (.un .not (tv 20)) 18 false,
 o 22 (.pick (tv 18) kt (tv 21))] [] [6, 7, 10, 22])
 (.cond (tv 22) (.seq (.region [] [o 8 (.mv (ki 0))] [] [8])
 .ret)
 .skip))
 (.seq (.region [] [o 23 (.load false 1 (tv 10)),
 o 24 (.load true 11 (tv 6)),
 o 25 (.load true 11 (tv 7)),
 oa 26 (.call (tv 23) [(false, kn), (false, kn), (false, (tv 24)), (false, (tv 25))] []) 1728,
 o 8 (.mv (tv 26))] [] [8])
 .ret))))))),
 [.tmp 8], false⟩

def v18 : VFun := ⟨2,
 (.seq (.region [] [oa 2 (.box (tv 0)) 64,
 oa 3 (.box (tv 1)) 128,
 o 4 (.mv kF)] [] [2, 3])
 (.seq (.region [] [o 5 (.load true 11 (tv 2)),
 o 6 (.load true 11 (tv 3)),
 oa 7 (.call (kf 66) [(false, (tv 5)), (false, (tv 6)), (false, kn), (false, kn)] []) 384,
 o 4 (.mv (tv 7))] [] [4])
 .ret)),
 [.tmp 4], false⟩

def v47 : VFun := ⟨0,
 (.seq (.region [] [oa 0 (.new [zi, zs, zi, zi, .nil] []) 64] [] [0])
 (.seq (.region [] [oa 1 (.call (kf 100) [(false, (.k (.sc (.c (.str [73, 110, 116]))))), (false, kn)] []) 128,
 on (.store 5 (tv 0) (tv 1) [])] [] [0])
 .ret)),
 [.cell 0 true 5], false⟩

def v46 : VFun := ⟨1,
 (.seq (.region [] [oa 1 (.box (tv 0)) 64,
 oa 2 (.new [zi, zi, zs, zi, zi, .nil] []) 128] [] [1, 2])
 (.seq (.region [] [o 3 (.load true 5 (tv 1)),
 o 4 (.build [zi, zi, zs, zi, zi, .nil] [(1, 5, (tv 3))]),
 on (.store 6 (tv 2) (tv 4) [])] [] [2])
 .ret)),
 [.cell 2 true 6], false⟩

def v48 : VFun := ⟨1,
 (.seq (.region [] [oa 2 (.new [zi, zi, zs, zi, .nil, .nil, zi, zs, zi, zi, .nil] []) 64] [] [0, 2])
 (.seq (.region [] [o 3 (.mv (tv 0)),
 o 4 (.build [zi, zi, zs, zi, .nil, .nil, zi, zs, zi, zi, .nil] [(0, 1, (ki 1)), (2, 1, (tv 3))]),
 on (.store 11 (tv 2) (tv 4) [])] [] [2])
 .ret)),
 [.cell 2 true 11], false⟩

def v49 : VFun := ⟨2,
 (.seq (.region [] [oa 3 (.box (tv 1)) 64,
 oa 4 (.new [zi, zi, zs, zi, .nil, .nil, zi, zs, zi, zi, .nil] []) 128] [] [0, 3, 4])
 (.seq (.region [] [o 5 (.mv (tv 0)),
 o 6 (.load true 11 (tv 3)),
 oa 7 (.mkSl 11 [(tv 6)]) 320,
 o 8 (.build [zi, zi, zs, zi, .nil, .nil, zi, zs, zi, zi, .nil] [(0, 1, (ki 4)), (2, 1, (tv 5)), (4, 1, (tv 7))]),
 on (.store 11 (tv 4) (tv 8) [])] [] [4])
 .ret)),
 [.cell 4 true 11], false⟩

def l41_0 : VCode := (.seq (.region [] [o 20 (.bin .lss 0 (tv 19) (tv 18))] [] [3, 17, 18, 19, 20])
 (.seq (.cond (tv 20) .skip
 (.exit 1))
 (.seq (.block 2 (.seq (.region [] [o 21 (.idxA 11 (tv 17) (tv 19)),
 o 22 (.load true 11 (tv 21)),
 oa 5 (.new [zi, zi, zs, zi, .nil, .nil, zi, zs, zi, zi, .nil] []) 960,
 on (.store 11 (tv 5) (tv 22) [])] [] [3, 5, 17, 18, 19])
 (.region [] [o 23 (.mv (tv 3)),
 o 24 (.load true 11 (tv 5)),
 oa 25 (.call (kf 41) [(false, (tv 24))] []) 1216,
 o 26 (.bin .add 0 (tv 23) (tv 25)),
 o 3 (.mv (tv 26))] [] [3, 17, 18, 19])))
 (.region [960] [o 27 (.bin .add 0 (tv 19) (ki 1)),
 o 19 (.mv (tv 27))] [] [3, 17, 18, 19]))))

def l41_1 : VCode := (.seq (.region [] [o 34 (.bin .lss 0 (tv 33) (tv 32))] [] [3, 31, 32, 33, 34])
 (.seq (.cond (tv 34) .skip
 (.exit 3))
 (.seq (.block 4 (.seq (.region [] [o 35 (.idxA 14 (tv 31) (tv 33)),
 o 36 (.load true 14 (tv 35)),
 oa 7 (.new [zi, zs, .nil, zi, zi, zs, zi, .nil, .nil, zi, zs, zi, zi, .nil] []) 2112,
 on (.store 14 (tv 7) (tv 36) [])] [] [3, 7, 31, 32, 33])
 (.region [] [o 37 (.mv (tv 3)),
 o 38 (.fld 3 (tv 7)),
 o 39 (.load true 11 (tv 38)),
 oa 40 (.call (kf 41) [(false, (tv 39))] []) 2432,
 o 41 (.bin .add 0 (tv 37) (tv 40)),
 o 3 (.mv (tv 41))] [] [3, 31, 32, 33])))
 (.region [2112] [o 42 (.bin .add 0 (tv 33) (ki 1)),
 o 33 (.mv (tv 42))] [] [3, 31, 32, 33]))))

def l41_2 : VCode := (.seq (.region [] [o 53 (.bin .lss 0 (tv 52) (tv 51))] [] [3, 50, 51, 52, 53])
 (.seq (.cond (tv 53) .skip
 (.exit 5))
 (.seq (.block 6 (.seq (.region [] [o 54 (.idxA 11 (tv 50) (tv 52)),
 o 55 (.load true 11 (tv 54)),
 oa 11 (.new [zi, zi, zs, zi, .nil, .nil, zi, zs, zi, zi, .nil] []) 3776,
 on (.store 11 (tv 11) (tv 55) [])] [] [3, 11, 50, 51, 52])
 (.region [] [o 56 (.mv (tv 3)),
 o 57 (.load true 11 (tv 11)),
 oa 58 (.call (kf 41) [(false, (tv 57))] []) 4032,
 o 59 (.bin .add 0 (tv 56) (tv 58)),
 o 3 (.mv (tv 59))] [] [3, 50, 51, 52])))
 (.region [3776] [o 60 (.bin .add 0 (tv 52) (ki 1)),
 o 52 (.mv (tv 60))] [] [3, 50, 51, 52]))))

def v41 : VFun := ⟨1,
 (.seq (.region [] [oa 1 (.box (tv 0)) 64,
 o 2 (.mv (ki 0))] [] [1])
 (.seq (.region [] [o 3 (.mv (ki 1))] [] [1, 3])
 (.seq (.seq (.region [] [o 12 (.fld 0 (tv 1)),
 o 13 (.load false 1 (tv 12))] [] [1, 3, 13])
 (.block 0 (.seq (.region [] [o 15 (.bin .eql 0 (tv 13) (ki 4)),
 o 14 (.mv (tv 15))] [] [1, 3, 13, 14])
 (.cond (tv 14) (.seq (.region [] [o 16 (.fld 4 (tv 1)),
 o 17 (.load false 1 (tv 16)),
 o 18 (.len false (tv 17)),
 o 19 (.mv (ki 0))] [] [3, 17, 18, 19])
 (.block 1 (.loop l41_0)))
 (.seq (.region [] [o 29 (.bin .eql 0 (tv 13) (ki 8)),
 o 28 (.mv (tv 29))] [] [1, 3, 13, 28])
 (.cond (tv 28) (.seq (.region [] [o 30 (.fld 5 (tv 1)),
 o 31 (.load false 1 (tv 30)),
 o 32 (.len false (tv 31)),
 o 33 (.mv (ki 0))] [] [3, 31, 32, 33])
 (.block 3 (.loop l41_1)))
 (.seq (.region [] [o 44 (.bin .eql 0 (tv 13) (ki 5)),
 o 43 (.mv (tv 44))] [] [1, 3, 43])
 (.cond (tv 43) (.seq (.region [] [o 46 (.load true 11 (tv 1)),
 oa 47 (.call (kf 62) [(false, (tv 46))] []) 2944,
 o 45 (.mv (tv 47)),
 o 48 (.ext 0 (tv 45)),
 o 49 (.ext 1 (tv 45)),
 oa 8 (.new [zi, zi, zs, zi, .nil, .nil, zi, zs, zi, zi, .nil] []) 3200,
 on (.store 11 (tv 8) (tv 48) []),
 o 9 (.mv (tv 49))] [] [3, 9])
 (.seq (.region [64, 3200] [o 50 (.mv (tv 9)),
 o 51 (.len false (tv 50)),
 o 52 (.mv (ki 0))] [] [3, 50, 51, 52])
 (.block 5 (.loop l41_2))))
 .skip))))))))
 (.seq (.region [] [o 61 (.mv (tv 3)),
 o 2 (.mv (tv 61))] [] [2])
 .ret)))),
 [.tmp 2], false⟩

def v44 : VFun := ⟨2,
 (.seq (.region [] [o 4 (.mv (.k (.sc zs)))] [] [0, 1])
 (.seq (.region [] [o 5 (.mv (tv 1)),
 o 6 (.mv (tv 0)),
 oa 7 (.call (kf 99) [(false, (tv 6))] []) 256,
 oa 8 (.call (kf 28) [(false, (tv 5)), (false, (tv 7))] []) 320,
 o 4 (.mv (tv 8))] [] [4])
 .ret)),
 [.tmp 4], false⟩

def l23_0 : VCode := (.seq (.seq (.region [] [o 21 (.mv (tv 5)),
 o 22 (.mv (tv 3)),
 o 23 (.len false (tv 22)),
 o 24 (.bin .lss 0 (tv 21) (tv 23))] [] [0, 3, 4, 5, 24])
 (.cond (tv 24) .skip
 (.exit 0)))
 (.seq (.block 1 (.seq (.region [] [o 27 (.mv (tv 5)),
 o 28 (.bin .neq 0 (tv 27) (ki 1)),
 o 29 (.mv (tv 28)),
 og 30 (.mv (tv 0)) 29 true,
 og 31 (.mv (tv 5)) 29 true,
 og 32 (.cvI .u64 (tv 31)) 29 true,
 og 33 (.bin .shr 0 (tv 30) (tv 32)) 29 true,
 og 34 (.bin .and 0 (tv 33) (ki 1)) 29 true,
 og 35 (.bin .eql 0 (tv 34) (ki 1)) 29 true,
 o 36 (.pick (tv 29) (tv 35) kF)] [] [0, 3, 4, 5, 36])
 (.cond (tv 36) (.region [] [o 37 (.mv (tv 4)),
 o 38 (.mv (tv 3)),
 o 39 (.mv (tv 5)),
 o 40 (.idxA 4 (tv 38) (tv 39)),
 o 41 (.load true 4 (tv 40)),
 oa 42 (.mkSl 4 [(tv 41)]) 2560,
 o 43 (.app 4 72 false (tv 37) (tv 42)),
 o 4 (.mv (tv 43))] [] [0, 3, 4, 5])
 .skip)))
 (.region [2560] [o 25 (.mv (tv 5)),
 o 26 (.bin .add 0 (tv 25) (ki 1)),
 o 5 (.mv (tv 26))] [] [0, 3, 4, 5])))

def v23 : VFun := ⟨1,
 (.seq (.region [] [o 2 (.mv kn)] [] [0])
 (.seq (.region [] [oa 6 (.call (kf 71) [] []) 128,
 o 3 (.mv (tv 6))] [] [0, 3])
 (.seq (.region [] [⟨(some 4), (.mv kn), none, 256, [(0, 4)]⟩] [] [0, 3, 4])
 (.seq (.seq (.region [] [o 7 (.mv (tv 0)),
 o 8 (.bin .and 0 (tv 7) (ki 2)),
 o 9 (.bin .neq 0 (tv 8) (ki 0)),
 o 10 (.mv (tv 9)),
 og 11 (.mv (tv 0)) 10 false,
 og 12 (.bin .and 0 (tv 11) (ki 64)) 10 false,
 og 13 (.bin .neq 0 (tv 12) (ki 0)) 10 false,
 o 14 (.pick (tv 10) kt (tv 13))] [] [0, 3, 4, 14])
 (.cond (tv 14) (.region [] [o 15 (.mv (tv 4)),
 o 16 (.mv (tv 3)),
 o 17 (.idxA 4 (tv 16) (ki 1)),
 o 18 (.load true 4 (tv 17)),
 oa 19 (.mkSl 4 [(tv 18)]) 1088,
 o 20 (.app 4 72 false (tv 15) (tv 19)),
 o 4 (.mv (tv 20))] [] [0, 3, 4])
 .skip))
 (.seq (.seq (.region [1088] [o 5 (.mv (ki 0))] [] [0, 3, 4, 5])
 (.block 0 (.loop l23_0)))
 (.seq (.region [] [o 44 (.mv (tv 4)),
 o 2 (.mv (tv 44))] [] [2])
 .ret)))))),
 [.tmp 2], false⟩

def l50_0 : VCode := (.seq (.seq (.region [] [o 17 (.mv (tv 9)),
 o 18 (.mv (tv 8)),
 o 19 (.bin .lss 0 (tv 17) (tv 18))] [] [0, 1, 5, 6, 7, 8, 9, 19])
 (.cond (tv 19) .skip
 (.exit 0)))
 (.seq (.block 1 (.seq (.region [] [o 22 (.mv (tv 0)),
 oa 23 (.call (kf 34) [(true, (tv 22))] []) 1024,
 o 10 (.mv (tv 23))] [] [0, 1, 5, 6, 7, 8, 9, 10])
 (.seq (.region [] [o 24 (.mv (tv 0)),
 oa 25 (.call (kf 53) [(true, (tv 24)), (false, (ki 4))] []) 1216] [] [0, 1, 5, 6, 7, 8, 9, 10, 25])
 (.block 2 (.seq (.region [] [o 35 (.bin .eql 0 (tv 25) (ki 0)),
 o 34 (.mv (tv 35))] [] [0, 1, 5, 6, 7, 8, 9, 10, 34])
 (.cond (tv 34) (.seq (.region [] [o 36 (.mv (tv 0)),
 o 37 (.mv (tv 1)),
 oa 38 (.call (kf 103) [(false, (ki 2))] []) 1536,
 oa 39 (.call (kf 70) [(true, (tv 36)), (false, (tv 37)), (false, (tv 38)), (false, (ki 2))] []) 1600,
 oa 40 (.mkSl 1 [(ki 0), (ki 1)]) 1664,
 oa 41 (.call (kf 102) [(false, (tv 39)), (false, (tv 40))] []) 1728,
 oa 11 (.new [zi, zi, zs, zi, zi, .nil] []) 1792,
 on (.store 6 (tv 11) (tv 41) [])] [] [0, 1, 5, 6, 7, 8, 9, 10, 11])
 (.region [1664] [o 42 (.mv (tv 7)),
 o 43 (.mv (tv 10)),
 o 44 (.load true 6 (tv 11)),
 oa 45 (.call (kf 104) [(false, (tv 42)), (false, (tv 43)), (false, (tv 44))] []) 2112,
 o 7 (.mv (tv 45))] [] [0, 1, 5, 6, 7, 8, 9]))
 (.region [] [o 26 (.mv (tv 7)),
 o 27 (.mv (tv 10)),
 o 28 (.mv (tv 0)),
 o 29 (.mv (tv 1)),
 o 30 (.mv (tv 6)),
 oa 31 (.call (kf 70) [(true, (tv 28)), (false, (tv 29)), (false, (tv 30)), (false, (ki 2))] []) 2560,
 oa 32 (.call (kf 46) [(false, (tv 31))] []) 2624,
 oa 33 (.call (kf 104) [(false, (tv 26)), (false, (tv 27)), (false, (tv 32))] []) 2688,
 o 7 (.mv (tv 33))] [] [0, 1, 5, 6, 7, 8, 9])))))))
 (.region [1664, 1792] [o 20 (.mv (tv 9)),
 o 21 (.bin .add 0 (tv 20) (ki 1)),
 o 9 (.mv (tv 21))] [] [0, 1, 5, 6, 7, 8, 9])))

def v50 : VFun := ⟨2,
 (.seq (.region [] [o 4 (.mv kn),
 oa 5 (.new [zi, zs, zi, zi, .nil] []) 128] [] [0, 1, 5])
 (.seq (.region [] [oa 12 (.call (kf 101) [(false, (ki 0)), (false, (ki 0))] []) 192,
 oa 13 (.call (kf 101) [(false, (ki 3)), (false, (ki 1))] []) 256,
 oa 14 (.mkSl 5 [(tv 12), (tv 13)]) 320,
 o 6 (.mv (tv 14))] [] [0, 1, 5, 6])
 (.seq (.region [] [o 7 (.mv kn)] [] [0, 1, 5, 6, 7])
 (.seq (.region [] [o 15 (.mv (tv 0)),
 oa 16 (.call (kf 53) [(true, (tv 15)), (false, (ki 4))] []) 576,
 o 8 (.mv (tv 16))] [] [0, 1, 5, 6, 7, 8])
 (.seq (.seq (.region [] [o 9 (.mv (ki 0))] [] [0, 1, 5, 6, 7, 8, 9])
 (.block 0 (.loop l50_0)))
 (.seq (.region [] [o 46 (.mv (tv 7)),
 o 47 (.mv (tv 0)),
 o 48 (.mv (tv 1)),
 o 49 (.mv (tv 6)),
 oa 50 (.call (kf 70) [(true, (tv 47)), (false, (tv 48)), (false, (tv 49)), (false, (ki 2))] []) 3264,
 o 4 (.mv (tv 46)),
 on (.store 5 (tv 5) (tv 50) [])] [] [4, 5])
 .ret)))))),
 [.tmp 4, .cell 5 true 5], false⟩

def l52_0 : VCode := (.seq (.seq (.region [] [o 5 (.mv (tv 4)),
 o 6 (.mv (tv 0)),
 o 7 (.len false (tv 6)),
 o 8 (.bin .lss 0 (tv 5) (tv 7))] [] [0, 3, 4, 8])
 (.cond (tv 8) .skip
 (.exit 0)))
 (.seq (.block 1 (.region [] [o 11 (.mv (tv 3)),
 o 12 (.mv (tv 0)),
 o 13 (.mv (tv 4)),
 o 14 (.idxA 7 (tv 12) (tv 13)),
 o 15 (.fld 0 (tv 14)),
 o 16 (.load false 1 (tv 15)),
 oa 17 (.mkSl 1 [(tv 16)]) 896,
 o 18 (.app 1 16 false (tv 11) (tv 17)),
 o 3 (.mv (tv 18))] [] [0, 3, 4]))
 (.region [896] [o 9 (.mv (tv 4)),
 o 10 (.bin .add 0 (tv 9) (ki 1)),
 o 4 (.mv (tv 10))] [] [0, 3, 4])))

def v52 : VFun := ⟨1,
 (.seq (.region [] [o 2 (.mv kn)] [] [0])
 (.seq (.region [] [⟨(some 3), (.mv kn), none, 128, [(0, 1)]⟩] [] [0, 3])
 (.seq (.seq (.region [] [o 4 (.mv (ki 0))] [] [0, 3, 4])
 (.block 0 (.loop l52_0)))
 (.seq (.region [] [o 19 (.mv (tv 3)),
 o 2 (.mv (tv 19))] [] [2])
 .ret)))),
 [.tmp 2], false⟩

def v53 : VFun := ⟨2,
 (.seq (.region [] [o 4 (.mv (ki 0))] [] [0, 1])
 (.seq (.seq (.region [] [o 5 (.mv (tv 0)),
 o 6 (.nn (tv 5)),
 o 7 (.fld 1 (tv 6)),
 o 8 (.load false 1 (tv 7)),
 o 9 (.mv (tv 0)),
 o 10 (.nn (tv 9)),
 o 11 (.fld 0 (tv 10)),
 o 12 (.load false 1 (tv 11)),
 o 13 (.len false (tv 12)),
 o 14 (.bin .geq 0 (tv 8) (tv 13))] [(1, 5), (2, 5), (3, 5), (1, 6), (2, 6), (3, 6), (1, 7), (2, 7), (3, 7), (1, 8), (2, 8), (3, 8)] [0, 1, 14])
 (.cond (tv 14) (.seq (.region [] [o 4 (.mv (ki 0))] [] [4])
 .ret)
 .skip))
 (.seq (.region [] [o 15 (.mv (tv 0)),
 o 16 (.nn (tv 15)),
 o 17 (.fld 1 (tv 16)),
 o 18 (.load false 1 (tv 17)),
 o 19 (.bin .add 0 (tv 18) (ki 1)),
 o 20 (.nn (tv 15)),
 o 21 (.fld 1 (tv 20)),
 on (.store 1 (tv 21) (tv 19) [])] [] [0, 1])
 (.seq (.region [] [o 22 (.mv (tv 0)),
 o 23 (.nn (tv 22)),
 o 24 (.fld 0 (tv 23)),
 o 25 (.load false 1 (tv 24)),
 o 26 (.mv (tv 0)),
 o 27 (.nn (tv 26)),
 o 28 (.fld 1 (tv 27)),
 o 29 (.load false 1 (tv 28)),
 o 30 (.bin .sub 0 (tv 29) (ki 1)),
 o 31 (.idxA 1 (tv 25) (tv 30)),
 o 32 (.load false 1 (tv 31)),
 o 33 (.mv (tv 1)),
 oa 34 (.call (kf 27) [(false, (tv 32)), (false, (tv 33))] []) 2112,
 o 4 (.mv (tv 34))] [(1, 5), (2, 5), (3, 5), (1, 6), (2, 6), (3, 6), (1, 7), (2, 7), (3, 7)] [4])
 .ret)))),
 [.tmp 4], false⟩

def l51_0 : VCode := (.seq (.seq (.region [] [o 84 (.mv (tv 15)),
 o 85 (.fld 3 (tv 11)),
 o 86 (.load false 1 (tv 85)),
 o 87 (.mv (tv 13)),
 o 88 (.idxA 3 (tv 86) (tv 87)),
 o 89 (.fld 2 (tv 88)),
 o 90 (.load false 1 (tv 89)),
 o 91 (.len false (tv 90)),
 o 92 (.bin .lss 0 (tv 84) (tv 91))] [] [0, 1, 2, 3, 8, 11, 12, 13, 14, 15, 92])
 (.cond (tv 92) .skip
 (.exit 3)))
 (.seq (.block 4 (.region [] [o 95 (.fld 2 (tv 14)),
 o 96 (.load false 1 (tv 95)),
 oa 97 (.mkSl 1 [(.k (.sc (.c (.str [120])))), (.k (.sc (.c (.str [116])))), (.k (.sc (.c (.str [102])))), (.k (.sc (.c (.str [118]))))]) 5632,
 o 98 (.mv (tv 15)),
 o 99 (.bin .rem 0 (tv 98) (ki 4)),
 o 100 (.idxA 1 (tv 97) (tv 99)),
 o 101 (.load false 1 (tv 100)),
 oa 102 (.mkSl 1 [(tv 101)]) 5952,
 o 103 (.app 1 16 false (tv 96) (tv 102)),
 o 104 (.fld 2 (tv 14)),
 on (.store 1 (tv 104) (tv 103) [])] [(0, 2), (1, 2), (0, 5), (1, 5), (0, 6), (1, 6), (0, 7), (1, 7)] [0, 1, 2, 3, 8, 11, 12, 13, 14, 15]))
 (.region [5632, 5952] [o 93 (.mv (tv 15)),
 o 94 (.bin .add 0 (tv 93) (ki 1)),
 o 15 (.mv (tv 94))] [] [0, 1, 2, 3, 8, 11, 12, 13, 14, 15])))

def l51_1 : VCode := (.seq (.seq (.region [] [o 70 (.mv (tv 13)),
 o 71 (.fld 3 (tv 11)),
 o 72 (.load false 1 (tv 71)),
 o 73 (.len false (tv 72)),
 o 74 (.bin .lss 0 (tv 70) (tv 73))] [] [0, 1, 2, 3, 8, 11, 12, 13, 74])
 (.cond (tv 74) .skip
 (.exit 1)))
 (.seq (.block 2 (.seq (.region [] [o 77 (.fld 3 (tv 11)),
 o 78 (.load false 1 (tv 77)),
 o 79 (.mv (tv 13)),
 o 80 (.idxA 3 (tv 78) (tv 79)),
 o 81 (.fld 1 (tv 80)),
 o 82 (.load false 1 (tv 81)),
 o 83 (.build [zi, zs, .nil, zi, zi, zs, zi, .nil, .nil, zi, zs, zi, zi, .nil] [(1, 1, (tv 82))]),
 oa 14 (.new [zi, zs, .nil, zi, zi, zs, zi, .nil, .nil, zi, zs, zi, zi, .nil] []) 4736,
 ⟨none, (.store 14 (tv 14) (tv 83) [(2, 1)]), none, 4800, []⟩] [] [0, 1, 2, 3, 8, 11, 12, 13, 14])
 (.seq (.seq (.region [] [o 15 (.mv (ki 0))] [] [0, 1, 2, 3, 8, 11, 12, 13, 14, 15])
 (.block 3 (.loop l51_0)))
 (.seq (.region [] [o 105 (.mv (tv 0)),
 o 106 (.mv (tv 1)),
 o 107 (.mv (tv 2)),
 oa 108 (.app 1 16 true kn (tv 107)) 6592,
 o 109 (.fld 2 (tv 14)),
 o 110 (.load false 1 (tv 109)),
 o 111 (.app 1 16 false (tv 108) (tv 110)),
 o 112 (.mv (tv 3)),
 o 113 (.bin .sub 0 (tv 112) (ki 1)),
 oa 114 (.call (kf 51) [(true, (tv 105)), (false, (tv 106)), (false, (tv 111)), (false, (tv 113))] []) 6976,
 o 115 (.fld 3 (tv 14)),
 on (.store 11 (tv 115) (tv 114) [])] [(3, 4), (3, 5)] [0, 1, 2, 3, 8, 11, 12, 13, 14])
 (.region [] [o 116 (.fld 5 (tv 12)),
 o 117 (.load false 1 (tv 116)),
 o 118 (.ldD true 14 (tv 14)),
 oa 119 (.mkSl 14 [(tv 118)]) 7360,
 o 120 (.app 14 200 false (tv 117) (tv 119)),
 o 121 (.fld 5 (tv 12)),
 on (.store 1 (tv 121) (tv 120) [])] [] [0, 1, 2, 3, 8, 11, 12, 13])))))
 (.region [4736, 4800, 4803, 6592, 7360] [o 75 (.mv (tv 13)),
 o 76 (.bin .add 0 (tv 75) (ki 1)),
 o 13 (.mv (tv 76))] [] [0, 1, 2, 3, 8, 11, 12, 13])))

def l51_2 : VCode := (.seq (.seq (.region [] [o 159 (.mv (tv 18)),
 o 160 (.bin .gtr 0 (tv 159) (ki 0)),
 o 161 (.mv (tv 160)),
 og 162 (.mv (tv 3)) 161 true,
 og 163 (.bin .gtr 0 (tv 162) (ki 0)) 161 true,
 o 164 (.pick (tv 161) (tv 163) kF)] [] [0, 1, 2, 3, 8, 16, 18, 164])
 (.cond (tv 164) .skip
 (.exit 5)))
 (.seq (.block 6 (.region [] [o 167 (.load true 11 (tv 16)),
 o 168 (.mv (tv 0)),
 o 169 (.mv (tv 1)),
 o 170 (.mv (tv 2)),
 o 171 (.mv (tv 3)),
 o 172 (.bin .sub 0 (tv 171) (ki 1)),
 oa 173 (.call (kf 51) [(true, (tv 168)), (false, (tv 169)), (false, (tv 170)), (false, (tv 172))] []) 11392,
 oa 174 (.mkSl 11 [(tv 167), (tv 173)]) 11456,
 o 175 (.bldD [zi, zi, zs, zi, .nil, .nil, zi, zs, zi, zi, .nil] [(0, 1, (ki 5)), (4, 1, (tv 174))]),
 on (.store 11 (tv 16) (tv 175) [])] [(0, 6)] [0, 1, 2, 3, 8, 16, 18]))
 (.region [11456] [o 165 (.mv (tv 18)),
 o 166 (.bin .sub 0 (tv 165) (ki 1)),
 o 18 (.mv (tv 166))] [] [0, 1, 2, 3, 8, 16, 18])))

def v51 : VFun := ⟨4,
 (.seq (.region [] [oa 8 (.new [zi, zi, zs, zi, .nil, .nil, zi, zs, zi, zi, .nil] []) 64] [] [0, 1, 2, 3, 8])
 (.seq (.region [] [o 19 (.mv (tv 0)),
 oa 20 (.call (kf 53) [(true, (tv 19)), (false, (ki 8))] []) 192,
 o 9 (.mv (tv 20))] [] [0, 1, 2, 3, 8, 9])
 (.seq (.seq (.region [] [o 21 (.mv (tv 3)),
 o 22 (.bin .lss 0 (tv 21) (ki 1))] [] [0, 1, 2, 3, 8, 9, 22])
 (.cond (tv 22) (.region [] [o 9 (.mv (ki 7))] [] [0, 1, 2, 3, 8, 9])
 .skip))
 (.seq (.block 0 (.seq (.region [] [o 24 (.mv (tv 9)),
 o 25 (.bin .lss 0 (tv 24) (ki 2)),
 o 23 (.mv (tv 25))] [] [0, 1, 2, 3, 8, 9, 23])
 (.cond (tv 23) (.seq (.region [] [o 26 (.mv (tv 0)),
 oa 27 (.call (kf 34) [(true, (tv 26))] []) 768,
 o 10 (.mv (tv 27))] [] [0, 1, 2, 3, 8, 10])
 (.seq (.region [] [o 28 (.mv (tv 10)),
 o 29 (.mv (tv 0)),
 o 30 (.mv (tv 1)),
 o 31 (.mv (tv 2)),
 oa 32 (.app 1 16 true kn (tv 31)) 1152,
 o 33 (.mv (tv 10)),
 oa 34 (.mkSl 1 [(tv 33)]) 1280,
 o 35 (.app 1 16 false (tv 32) (tv 34)),
 o 36 (.mv (tv 3)),
 o 37 (.bin .sub 0 (tv 36) (ki 1)),
 oa 38 (.call (kf 51) [(true, (tv 29)), (false, (tv 30)), (false, (tv 35)), (false, (tv 37))] []) 1536,
 oa 39 (.call (kf 49) [(false, (tv 28)), (false, (tv 38))] []) 1600,
 on (.store 11 (tv 8) (tv 39) [])] [] [8])
 .ret))
 (.seq (.region [] [o 41 (.mv (tv 9)),
 o 42 (.bin .eql 0 (tv 41) (ki 2)),
 o 43 (.mv (tv 42)),
 og 44 (.mv (tv 1)) 43 true,
 og 45 (.len false (tv 44)) 43 true,
 og 46 (.bin .gtr 0 (tv 45) (ki 0)) 43 true,
 o 47 (.pick (tv 43) (tv 46) kF),
 o 48 (.mv (tv 47)),
 og 49 (.mv (tv 2)) 48 true,
 og 50 (.len false (tv 49)) 48 true,
 og 51 (.bin .gtr 0 (tv 50) (ki 0)) 48 true,
 o 52 (.pick (tv 48) (tv 51) kF),
 o 40 (.mv (tv 52))] [] [0, 1, 2, 3, 8, 40])
 (.cond (tv 40) (.seq (.region [] [o 53 (.mv (tv 1)),
 o 54 (.mv (tv 0)),
 o 55 (.mv (tv 1)),
 o 56 (.len false (tv 55)),
 oa 57 (.call (kf 53) [(true, (tv 54)), (false, (tv 56))] []) 2816,
 o 58 (.idxA 4 (tv 53) (tv 57)),
 o 59 (.load true 4 (tv 58)),
 oa 11 (.new [zi, zs, .nil, .nil] []) 3008,
 on (.store 4 (tv 11) (tv 59) [])] [] [0, 1, 2, 3, 8, 11])
 (.seq (.region [] [o 60 (.mv (tv 2)),
 o 61 (.mv (tv 0)),
 o 62 (.mv (tv 2)),
 o 63 (.len false (tv 62)),
 oa 64 (.call (kf 53) [(true, (tv 61)), (false, (tv 63))] []) 3392,
 o 65 (.idxA 1 (tv 60) (tv 64)),
 o 66 (.load false 1 (tv 65)),
 oa 67 (.call (kf 48) [(false, (tv 66))] []) 3584,
 oa 68 (.mkSl 11 [(tv 67)]) 3648,
 o 69 (.build [zi, zi, zs, zi, .nil, .nil, zi, zs, zi, zi, .nil] [(0, 1, (ki 8)), (4, 1, (tv 68))]),
 oa 12 (.new [zi, zi, zs, zi, .nil, .nil, zi, zs, zi, zi, .nil] []) 3776,
 ⟨none, (.store 11 (tv 12) (tv 69) [(5, 14)]), none, 3840, []⟩] [] [0, 1, 2, 3, 8, 11, 12])
 (.seq (.seq (.region [] [o 13 (.mv (ki 0))] [] [0, 1, 2, 3, 8, 11, 12, 13])
 (.block 1 (.loop l51_1)))
 (.seq (.region [] [o 122 (.ldD true 11 (tv 12)),
 on (.store 11 (tv 8) (tv 122) [])] [] [8])
 .ret))))
 .skip)))))
 (.seq (.region [] [o 123 (.mv (tv 2)),
 o 124 (.mv (tv 0)),
 o 125 (.mv (tv 2)),
 o 126 (.len false (tv 125)),
 oa 127 (.call (kf 53) [(true, (tv 124)), (false, (tv 126))] []) 8192,
 o 128 (.idxA 1 (tv 123) (tv 127)),
 o 129 (.load false 1 (tv 128)),
 oa 130 (.call (kf 48) [(false, (tv 129))] []) 8384,
 oa 16 (.new [zi, zi, zs, zi, .nil, .nil, zi, zs, zi, zi, .nil] []) 8448,
 on (.store 11 (tv 16) (tv 130) [])] [] [0, 1, 2, 3, 8, 16])
 (.seq (.seq (.region [] [o 131 (.mv (tv 1)),
 o 132 (.len false (tv 131)),
 o 133 (.bin .gtr 0 (tv 132) (ki 0)),
 o 134 (.mv (tv 133)),
 og 135 (.mv (tv 0)) 134 true,
 ⟨(some 136), (.call (kf 53) [(true, (tv 135)), (false, (ki 3))] []), (some (134, true)), 8896, []⟩,
 og 137 (.bin .eql 0 (tv 136) (ki 0)) 134 true,
 o 138 (.pick (tv 134) (tv 137) kF)] [] [0, 1, 2, 3, 8, 16, 138])
 (.cond (tv 138) (.seq (.region [] [o 139 (.mv (tv 1)),
 o 140 (.mv (tv 0)),
 o 141 (.mv (tv 1)),
 o 142 (.len false (tv 141)),
 oa 143 (.call (kf 53) [(true, (tv 140)), (false, (tv 142))] []) 9344,
 o 144 (.idxA 4 (tv 139) (tv 143)),
 o 145 (.load true 4 (tv 144)),
 oa 17 (.new [zi, zs, .nil, .nil] []) 9536,
 on (.store 4 (tv 17) (tv 145) [])] [] [0, 1, 2, 3, 8, 16, 17])
 (.region [] [o 146 (.fld 3 (tv 17)),
 o 147 (.load false 1 (tv 146)),
 o 148 (.mv (tv 0)),
 o 149 (.fld 3 (tv 17)),
 o 150 (.load false 1 (tv 149)),
 o 151 (.len false (tv 150)),
 oa 152 (.call (kf 53) [(true, (tv 148)), (false, (tv 151))] []) 10048,
 o 153 (.idxA 3 (tv 147) (tv 152)),
 o 154 (.fld 1 (tv 153)),
 o 155 (.load false 1 (tv 154)),
 o 156 (.build [zi, zi, zs, zi, .nil, .nil, zi, zs, zi, zi, .nil] [(0, 1, (ki 2)), (2, 1, (tv 155))]),
 on (.store 11 (tv 16) (tv 156) [])] [(0, 3), (1, 3), (0, 4), (1, 4), (0, 5), (1, 5), (0, 6), (1, 6)] [0, 1, 2, 3, 8, 16]))
 .skip))
 (.seq (.seq (.region [9536] [o 157 (.mv (tv 0)),
 oa 158 (.call (kf 53) [(true, (tv 157)), (false, (ki 3))] []) 10496,
 o 18 (.mv (tv 158))] [] [0, 1, 2, 3, 8, 16, 18])
 (.block 5 (.loop l51_2)))
 (.seq (.region [] [o 176 (.load true 11 (tv 16)),
 on (.store 11 (tv 8) (tv 176) [])] [] [8])
 .ret)))))))),
 [.cell 8 true 11], false⟩

def l65_0 : VCode := (.seq (.seq (.region [] [o 7 (.mv (tv 4)),
 o 8 (.mv (tv 0)),
 o 9 (.len false (tv 8)),
 o 10 (.bin .lss 0 (tv 7) (tv 9))] [] [0, 3, 4, 10])
 (.cond (tv 10) .skip
 (.exit 0)))
 (.seq (.block 1 (.seq (.region [] [o 14 (.mv (tv 0)),
 o 15 (.mv (tv 4)),
 o 16 (.bin .add 0 (tv 15) (ki 1)),
 o 17 (.sl 7 (tv 14) (some (tv 16)) none none),
 o 18 (.mv (tv 0)),
 o 19 (.mv (tv 4)),
 o 20 (.idxA 7 (tv 18) (tv 19)),
 o 21 (.fld 0 (tv 20)),
 o 22 (.load false 1 (tv 21)),
 oa 23 (.call (kf 124) [(false, (tv 17)), (false, (tv 22))] []) 1088,
 o 13 (.mv (tv 23)),
 o 24 (.ext 0 (tv 13)),
 o 25 (.ext 1 (tv 13)),
 oa 5 (.new [zi, zi, zs, zi, zi, .nil] []) 1344,
 on (.store 6 (tv 5) (tv 24) []),
 o 6 (.mv (tv 25))] [(3, 6), (3, 7), (3, 8), (3, 13), (6, 13), (7, 13), (8, 13), (9, 13)] [0, 3, 4, 6])
 (.seq (.region [1344] [o 26 (.mv (tv 6)),
 o 27 (.un .not (tv 26))] [] [0, 3, 4, 27])
 (.cond (tv 27) (.region [] [o 28 (.mv (tv 3)),
 o 29 (.mv (tv 0)),
 o 30 (.mv (tv 4)),
 o 31 (.idxA 7 (tv 29) (tv 30)),
 o 32 (.load true 7 (tv 31)),
 oa 33 (.mkSl 7 [(tv 32)]) 1984,
 o 34 (.app 7 88 false (tv 28) (tv 33)),
 o 3 (.mv (tv 34))] [] [0, 3, 4])
 .skip))))
 (.region [1344, 1984] [o 11 (.mv (tv 4)),
 o 12 (.bin .add 0 (tv 11) (ki 1)),
 o 4 (.mv (tv 12))] [] [0, 3, 4])))

def v65 : VFun := ⟨1,
 (.seq (.region [] [o 2 (.mv kn)] [] [0])
 (.seq (.region [] [⟨(some 3), (.mv kn), none, 128, [(0, 7)]⟩] [] [0, 3])
 (.seq (.seq (.region [] [o 4 (.mv (ki 0))] [] [0, 3, 4])
 (.block 0 (.loop l65_0)))
 (.seq (.region [] [o 35 (.mv (tv 3)),
 o 2 (.mv (tv 35))] [] [2])
 .ret)))),
 [.tmp 2], false⟩

def v40 : VFun := ⟨2,
 (.seq (.region [] [oa 2 (.box (tv 0)) 64,
 oa 4 (.new [zi, zi, zs, zi, .nil, .nil, zi, zs, zi, zi, .nil] []) 128] [] [1, 2, 4])
 (.seq (.region [] [o 5 (.load true 11 (tv 2)),
 oa 6 (.call (kf 97) [(false, (tv 5))] []) 256,
 o 7 (.mv (tv 1)),
 oa 8 (.app 1 16 true kn (tv 7)) 384,
 o 9 (.load true 11 (tv 2)),
 oa 10 (.call (kf 32) [(false, (tv 9))] []) 512,
 o 11 (.app 1 16 false (tv 8) (tv 10)),
 oa 12 (.call (kf 96) [(false, (tv 6)), (false, (tv 11)), (false, kn), (false, kn)] []) 640,
 on (.store 11 (tv 4) (tv 12) [])] [(0, 4), (1, 4), (3, 4)] [4])
 .ret)),
 [.cell 4 true 11], false⟩

def v54 : VFun := ⟨6,
 (.seq (.region [] [oa 7 (.box (tv 1)) 64,
 oa 8 (.box (tv 2)) 128,
 o 10 (.mv (ki 0))] [] [0, 3, 4, 5, 7, 8])
 (.seq (.region [] [o 11 (.load false 1 (tv 4)),
 o 12 (.load false 1 (tv 5)),
 o 13 (.mv (tv 0)),
 o 14 (.load true 11 (tv 7)),
 oa 15 (.call (kf 56) [(false, (tv 11)), (false, (tv 12)), (false, (tv 13)), (false, (tv 14))] []) 512,
 o 16 (.load false 1 (tv 4)),
 o 17 (.load false 1 (tv 5)),
 o 18 (.mv (tv 3)),
 o 19 (.load true 11 (tv 8)),
 oa 20 (.call (kf 56) [(false, (tv 16)), (false, (tv 17)), (false, (tv 18)), (false, (tv 19))] []) 832,
 oa 21 (.call (kf 55) [(false, (tv 15)), (false, (tv 20))] []) 896,
 o 10 (.mv (tv 21))] [(0, 1), (0, 3), (1, 3), (0, 5), (1, 5), (3, 5), (4, 5), (0, 6), (1, 6), (3, 6), (4, 6), (5, 6), (0, 8), (1, 8), (3, 8), (4, 8), (5, 8), (6, 8)] [10])
 .ret)),
 [.tmp 10], false⟩

def l57_0 : VCode := (.seq (.region [] [o 18 (.bin .lss 0 (tv 17) (tv 16))] [] [0, 1, 2, 3, 4, 16, 17, 18])
 (.seq (.cond (tv 18) .skip
 (.exit 0))
 (.seq (.block 1 (.seq (.region [] [o 19 (.mv (tv 17)),
 o 10 (.mv (tv 19))] [] [0, 1, 2, 3, 4, 10, 16, 17])
 (.seq (.region [] [o 20 (.load false 1 (tv 4)),
 o 21 (.mv (tv 0)),
 o 22 (.mv (tv 1)),
 o 23 (.mv (tv 2)),
 o 24 (.mv (tv 10)),
 o 25 (.idxA 11 (tv 23) (tv 24)),
 o 26 (.load true 11 (tv 25)),
 o 27 (.mv (tv 3)),
 o 28 (.mv (tv 10)),
 o 29 (.idxA 11 (tv 27) (tv 28)),
 o 30 (.load true 11 (tv 29)),
 oa 31 (.call (tv 20) [(false, (tv 21)), (false, (tv 22)), (false, (tv 26)), (false, (tv 30))] []) 1408,
 o 11 (.mv (tv 31))] [(0, 5), (0, 6), (0, 9), (5, 9), (6, 9), (0, 10), (5, 10), (6, 10)] [0, 1, 2, 3, 4, 11, 16, 17])
 (.seq (.region [] [o 32 (.mv (tv 11)),
 o 33 (.bin .neq 0 (tv 32) (ki 0))] [] [0, 1, 2, 3, 4, 11, 16, 17, 33])
 (.cond (tv 33) (.seq (.region [] [o 34 (.mv (tv 11)),
 o 9 (.mv (tv 34))] [] [9])
 .ret)
 .skip)))))
 (.region [1440, 1441, 1442] [o 35 (.bin .add 0 (tv 17) (ki 1)),
 o 17 (.mv (tv 35))] [] [0, 1, 2, 3, 4, 16, 17]))))

def v57 : VFun := ⟨5,
 (.seq (.region [] [o 9 (.mv (ki 0))] [] [0, 1, 2, 3, 4])
 (.seq (.seq (.region [] [o 12 (.mv (tv 2)),
 o 13 (.len false (tv 12)),
 o 14 (.mv (tv 3)),
 o 15 (.len false (tv 14)),
 o 16 (.mn (tv 13) (tv 15)),
 o 17 (.mv (ki 0))] [] [0, 1, 2, 3, 4, 16, 17])
 (.block 0 (.loop l57_0)))
 (.seq (.region [] [o 9 (.mv (ki 0))] [] [9])
 .ret))),
 [.tmp 9], false⟩

def l58_0 : VCode := (.seq (.region [] [o 117 (.bin .lss 0 (tv 116) (tv 115))] [] [0, 1, 4, 5, 9, 10, 115, 116, 117])
 (.seq (.cond (tv 117) .skip
 (.exit 1))
 (.seq (.block 2 (.seq (.region [] [o 118 (.mv (tv 116)),
 o 18 (.mv (tv 118))] [] [0, 1, 4, 5, 9, 10, 18, 115, 116])
 (.seq (.region [] [o 119 (.fld 5 (tv 9)),
 o 120 (.load false 1 (tv 119)),
 o 121 (.mv (tv 18)),
 o 122 (.idxA 14 (tv 120) (tv 121)),
 o 123 (.load true 14 (tv 122)),
 o 124 (.fld 5 (tv 10)),
 o 125 (.load false 1 (tv 124)),
 o 126 (.mv (tv 18)),
 o 127 (.idxA 14 (tv 125) (tv 126)),
 o 128 (.load true 14 (tv 127)),
 oa 19 (.new [zi, zs, .nil, zi, zi, zs, zi, .nil, .nil, zi, zs, zi, zi, .nil] []) 7936,
 oa 20 (.new [zi, zs, .nil, zi, zi, zs, zi, .nil, .nil, zi, zs, zi, zi, .nil] []) 8000,
 on (.store 14 (tv 19) (tv 123) []),
 on (.store 14 (tv 20) (tv 128) [])] [(0, 5), (1, 5), (3, 5), (4, 5), (0, 6), (1, 6), (3, 6), (4, 6), (0, 8), (1, 8), (3, 8), (4, 8), (0, 9), (1, 9), (3, 9), (4, 9), (0, 10), (1, 10), (3, 10), (4, 10), (5, 10), (6, 10), (8, 10), (9, 10), (0, 11), (1, 11), (3, 11), (4, 11), (5, 11), (6, 11), (8, 11), (9, 11), (10, 11), (5, 12), (6, 12), (8, 12), (9, 12)] [0, 1, 4, 5, 9, 10, 18, 19, 20, 115, 116])
 (.seq (.region [] [o 21 (.mv (ki 0))] [] [0, 1, 4, 5, 9, 10, 18, 19, 20, 21, 115, 116])
 (.seq (.seq (.region [] [o 129 (.mv (tv 18)),
 o 130 (.bin .eql 0 (tv 129) (ki 0))] [] [0, 1, 4, 5, 9, 10, 19, 20, 21, 115, 116, 130])
 (.cond (tv 130) (.region [] [o 131 (.load false 1 (tv 5)),
 o 132 (.mv (tv 0)),
 o 133 (.fld 1 (tv 19)),
 o 134 (.load false 1 (tv 133)),
 o 135 (.build [zi, zi, zs, zi, .nil, .nil, zi, zs, zi, zi, .nil] [(0, 1, (ki 2)), (2, 1, (tv 134))]),
 o 136 (.fld 1 (tv 20)),
 o 137 (.load false 1 (tv 136)),
 o 138 (.build [zi, zi, zs, zi, .nil, .nil, zi, zs, zi, zi, .nil] [(0, 1, (ki 2)), (2, 1, (tv 137))]),
 o 139 (.mv (tv 1)),
 oa 140 (.call (tv 131) [(false, (tv 132)), (false, (tv 135)), (false, (tv 138)), (false, (tv 139))] []) 8960,
 o 21 (.mv (tv 140))] [] [0, 1, 4, 5, 9, 10, 19, 20, 21, 115, 116])
 .skip))
 (.seq (.seq (.region [] [o 141 (.mv (tv 21)),
 o 142 (.bin .eql 0 (tv 141) (ki 0))] [] [0, 1, 4, 5, 9, 10, 19, 20, 21, 115, 116, 142])
 (.cond (tv 142) (.region [] [o 143 (.load false 1 (tv 4)),
 o 144 (.mv (tv 0)),
 oa 145 (.call (kf 61) [(false, (tv 144))] []) 9344,
 o 146 (.fld 2 (tv 19)),
 o 147 (.load false 1 (tv 146)),
 oa 148 (.appF 1 16 (tv 145) (tv 147)) 9536,
 o 149 (.mv (tv 1)),
 oa 150 (.call (kf 61) [(false, (tv 149))] []) 9664,
 o 151 (.fld 2 (tv 20)),
 o 152 (.load false 1 (tv 151)),
 oa 153 (.appF 1 16 (tv 150) (tv 152)) 9856,
 o 154 (.fld 3 (tv 19)),
 o 155 (.load true 11 (tv 154)),
 o 156 (.fld 3 (tv 20)),
 o 157 (.load true 11 (tv 156)),
 oa 158 (.call (tv 143) [(false, (tv 148)), (false, (tv 153)), (false, (tv 155)), (false, (tv 157))] []) 10176,
 o 21 (.mv (tv 158))] [(0, 2), (0, 3), (2, 3), (0, 4), (2, 4), (0, 5), (0, 7), (0, 8), (2, 8), (3, 8), (4, 8), (5, 8), (7, 8), (0, 9), (2, 9), (3, 9), (4, 9), (5, 9), (7, 9), (0, 10), (0, 11), (2, 11), (3, 11), (4, 11), (5, 11), (7, 11), (8, 11), (9, 11), (10, 11), (0, 12), (2, 12), (3, 12), (4, 12), (5, 12), (7, 12), (8, 12), (9, 12), (10, 12), (0, 13), (2, 13), (3, 13), (4, 13), (5, 13), (7, 13), (8, 13), (9, 13), (10, 13), (11, 13), (12, 13), (0, 14), (2, 14), (3, 14), (4, 14), (5, 14), (7, 14), (8, 14), (9, 14), (10, 14), (11, 14), (12, 14)] [0, 1, 4, 5, 9, 10, 21, 115, 116])
 .skip))
 (.seq (.region [7936, 8000] [o 159 (.mv (tv 21)),
 o 160 (.bin .neq 0 (tv 159) (ki 0))] [] [0, 1, 4, 5, 9, 10, 21, 115, 116, 160])
 (.cond (tv 160) (.seq (.region [] [o 161 (.mv (tv 21)),
 o 11 (.mv (tv 161))] [] [11])
 .ret)
 .skip))))))))
 (.region [7936, 8000, 8992, 8993, 8994, 9536, 9856, 10208, 10209, 10210] [o 162 (.bin .add 0 (tv 116) (ki 1)),
 o 116 (.mv (tv 162))] [] [0, 1, 4, 5, 9, 10, 115, 116]))))

def v58 : VFun := ⟨7,
 (.seq (.region [] [oa 9 (.box (tv 2)) 64,
 oa 10 (.box (tv 3)) 128,
 o 11 (.mv (ki 0))] [] [0, 1, 4, 5, 6, 9, 10])
 (.seq (.seq (.region [] [o 22 (.load true 11 (tv 9)),
 oa 23 (.call (kf 41) [(false, (tv 22))] []) 320,
 o 24 (.load true 11 (tv 10)),
 oa 25 (.call (kf 41) [(false, (tv 24))] []) 448,
 oa 26 (.call (kf 55) [(false, (tv 23)), (false, (tv 25))] []) 512,
 o 27 (.load true 11 (tv 9)),
 oa 28 (.call (kf 60) [(false, (tv 27))] []) 640,
 o 29 (.load true 11 (tv 10)),
 oa 30 (.call (kf 60) [(false, (tv 29))] []) 768,
 oa 31 (.call (kf 55) [(false, (tv 28)), (false, (tv 30))] []) 832,
 oa 32 (.mkSl 1 [(tv 26), (tv 31)]) 896,
 oa 33 (.call (kf 59) [(false, (tv 32))] []) 960,
 o 12 (.mv (tv 33))] [(0, 2), (1, 2), (0, 5), (1, 5), (2, 5), (3, 5), (4, 5), (0, 7), (1, 7), (2, 7), (3, 7), (4, 7), (5, 7), (6, 7)] [0, 1, 4, 5, 6, 9, 10, 12])
 (.seq (.region [896] [o 34 (.mv (tv 12)),
 o 35 (.bin .neq 0 (tv 34) (ki 0))] [] [0, 1, 4, 5, 6, 9, 10, 12, 35])
 (.cond (tv 35) (.seq (.region [] [o 36 (.mv (tv 12)),
 o 11 (.mv (tv 36))] [] [11])
 .ret)
 .skip)))
 (.seq (.seq (.region [] [o 37 (.load true 11 (tv 9)),
 oa 38 (.call (kf 60) [(false, (tv 37))] []) 1408] [] [0, 1, 4, 5, 6, 9, 10, 38])
 (.block 0 (.seq (.region [] [o 40 (.bin .eql 0 (tv 38) (ki 0)),
 o 39 (.mv (tv 40))] [] [0, 1, 4, 5, 6, 9, 10, 38, 39])
 (.cond (tv 39) (.seq (.region [] [o 41 (.load false 1 (tv 4)),
 o 42 (.mv (tv 0)),
 oa 43 (.call (kf 61) [(false, (tv 42))] []) 1728,
 o 44 (.fld 2 (tv 9)),
 o 45 (.load false 1 (tv 44)),
 oa 46 (.mkSl 1 [(tv 45)]) 1920,
 oa 47 (.app 1 16 true (tv 43) (tv 46)) 1984,
 o 48 (.mv (tv 1)),
 oa 49 (.call (kf 61) [(false, (tv 48))] []) 2112,
 o 50 (.fld 2 (tv 10)),
 o 51 (.load false 1 (tv 50)),
 oa 52 (.mkSl 1 [(tv 51)]) 2304,
 oa 53 (.app 1 16 true (tv 49) (tv 52)) 2368,
 o 54 (.fld 4 (tv 9)),
 o 55 (.load false 1 (tv 54)),
 o 56 (.idxA 11 (tv 55) (ki 0)),
 o 57 (.load true 11 (tv 56)),
 o 58 (.fld 4 (tv 10)),
 o 59 (.load false 1 (tv 58)),
 o 60 (.idxA 11 (tv 59) (ki 0)),
 o 61 (.load true 11 (tv 60)),
 oa 62 (.call (tv 41) [(false, (tv 47)), (false, (tv 53)), (false, (tv 57)), (false, (tv 61))] []) 2944,
 o 11 (.mv (tv 62))] [(0, 2), (0, 3), (2, 3), (0, 4), (2, 4), (0, 5), (2, 5), (0, 6), (0, 8), (0, 9), (2, 9), (3, 9), (4, 9), (5, 9), (6, 9), (8, 9), (0, 10), (2, 10), (3, 10), (4, 10), (5, 10), (6, 10), (8, 10), (0, 11), (2, 11), (3, 11), (4, 11), (5, 11), (6, 11), (8, 11), (0, 12), (0, 13), (2, 13), (3, 13), (4, 13), (5, 13), (6, 13), (8, 13), (9, 13), (10, 13), (11, 13), (12, 13), (0, 14), (2, 14), (3, 14), (4, 14), (5, 14), (6, 14), (8, 14), (9, 14), (10, 14), (11, 14), (12, 14), (0, 15), (2, 15), (3, 15), (4, 15), (5, 15), (6, 15), (8, 15), (9, 15), (10, 15), (11, 15), (12, 15), (0, 16), (2, 16), (3, 16), (4, 16), (5, 16), (6, 16), (8, 16), (9, 16), (10, 16), (11, 16), (12, 16), (0, 17), (2, 17), (3, 17), (4, 17), (5, 17), (6, 17), (8, 17), (9, 17), (10, 17), (11, 17), (12, 17), (13, 17), (14, 17), (15, 17), (16, 17), (0, 18), (2, 18), (3, 18), (4, 18), (5, 18), (6, 18), (8, 18), (9, 18), (10, 18), (11, 18), (12, 18), (13, 18), (14, 18), (15, 18), (16, 18), (0, 19), (2, 19), (3, 19), (4, 19), (5, 19), (6, 19), (8, 19), (9, 19), (10, 19), (11, 19), (12, 19), (13, 19), (14, 19), (15, 19), (16, 19), (0, 20), (2, 20), (3, 20), (4, 20), (5, 20), (6, 20), (8, 20), (9, 20), (10, 20), (11, 20), (12, 20), (13, 20), (14, 20), (15, 20), (16, 20)] [11])
 .ret)
 (.seq (.region [] [o 64 (.bin .eql 0 (tv 38) (ki 1)),
 o 63 (.mv (tv 64))] [] [0, 1, 4, 5, 6, 9, 10, 63])
 (.cond (tv 63) (.seq (.region [] [o 66 (.load true 11 (tv 9)),
 oa 67 (.call (kf 62) [(false, (tv 66))] []) 3264,
 o 65 (.mv (tv 67)),
 o 68 (.ext 0 (tv 65)),
 o 69 (.ext 1 (tv 65)),
 oa 13 (.new [zi, zi, zs, zi, .nil, .nil, zi, zs, zi, zi, .nil] []) 3520,
 on (.store 11 (tv 13) (tv 68) []),
 o 14 (.mv (tv 69))] [] [0, 1, 5, 6, 10, 13, 14])
 (.seq (.region [64] [o 71 (.load true 11 (tv 10)),
 oa 72 (.call (kf 62) [(false, (tv 71))] []) 3776,
 o 70 (.mv (tv 72)),
 o 73 (.ext 0 (tv 70)),
 o 74 (.ext 1 (tv 70)),
 oa 15 (.new [zi, zi, zs, zi, .nil, .nil, zi, zs, zi, zi, .nil] []) 4032,
 on (.store 11 (tv 15) (tv 73) []),
 o 16 (.mv (tv 74))] [] [0, 1, 5, 6, 13, 14, 15, 16])
 (.seq (.region [128] [o 75 (.load false 1 (tv 5)),
 o 76 (.mv (tv 0)),
 o 77 (.load true 11 (tv 13)),
 o 78 (.load true 11 (tv 15)),
 o 79 (.mv (tv 1)),
 oa 80 (.call (tv 75) [(false, (tv 76)), (false, (tv 77)), (false, (tv 78)), (false, (tv 79))] []) 4544,
 o 81 (.mv (tv 14)),
 o 82 (.len false (tv 81)),
 o 83 (.mv (tv 16)),
 o 84 (.len false (tv 83)),
 oa 85 (.call (kf 55) [(false, (tv 82)), (false, (tv 84))] []) 4864,
 o 86 (.load false 1 (tv 6)),
 o 87 (.mv (tv 0)),
 o 88 (.mv (tv 1)),
 o 89 (.mv (tv 14)),
 o 90 (.mv (tv 16)),
 oa 91 (.call (tv 86) [(false, (tv 87)), (false, (tv 88)), (false, (tv 89)), (false, (tv 90))] []) 5248,
 oa 92 (.mkSl 1 [(tv 80), (tv 85), (tv 91)]) 5312,
 oa 93 (.call (kf 59) [(false, (tv 92))] []) 5376,
 o 11 (.mv (tv 93))] [(0, 2), (0, 3), (2, 3), (0, 7), (2, 7), (3, 7), (5, 7), (0, 9), (2, 9), (3, 9), (5, 9), (7, 9), (0, 11), (2, 11), (3, 11), (5, 11), (7, 11), (9, 11), (10, 11)] [11])
 .ret)))
 .skip))))))
 (.seq (.seq (.region [] [o 94 (.load false 1 (tv 5)),
 o 95 (.mv (tv 0)),
 o 96 (.fld 4 (tv 9)),
 o 97 (.load false 1 (tv 96)),
 o 98 (.idxA 11 (tv 97) (ki 0)),
 o 99 (.load true 11 (tv 98)),
 o 100 (.fld 4 (tv 10)),
 o 101 (.load false 1 (tv 100)),
 o 102 (.idxA 11 (tv 101) (ki 0)),
 o 103 (.load true 11 (tv 102)),
 o 104 (.mv (tv 1)),
 oa 105 (.call (tv 94) [(false, (tv 95)), (false, (tv 99)), (false, (tv 103)), (false, (tv 104))] []) 6208,
 o 17 (.mv (tv 105))] [(0, 2), (0, 3), (0, 4), (0, 5), (0, 6), (2, 6), (3, 6), (4, 6), (5, 6), (0, 7), (2, 7), (3, 7), (4, 7), (5, 7), (0, 8), (2, 8), (3, 8), (4, 8), (5, 8), (0, 9), (2, 9), (3, 9), (4, 9), (5, 9)] [0, 1, 4, 5, 9, 10, 17])
 (.seq (.region [] [o 106 (.mv (tv 17)),
 o 107 (.bin .neq 0 (tv 106) (ki 0))] [] [0, 1, 4, 5, 9, 10, 17, 107])
 (.cond (tv 107) (.seq (.region [] [o 108 (.mv (tv 17)),
 o 11 (.mv (tv 108))] [] [11])
 .ret)
 .skip)))
 (.seq (.seq (.region [] [o 109 (.fld 5 (tv 9)),
 o 110 (.load false 1 (tv 109)),
 o 111 (.len false (tv 110)),
 o 112 (.fld 5 (tv 10)),
 o 113 (.load false 1 (tv 112)),
 o 114 (.len false (tv 113)),
 o 115 (.mn (tv 111) (tv 114)),
 o 116 (.mv (ki 0))] [] [0, 1, 4, 5, 9, 10, 115, 116])
 (.block 1 (.loop l58_0)))
 (.seq (.region [] [o 163 (.fld 5 (tv 9)),
 o 164 (.load false 1 (tv 163)),
 o 165 (.len false (tv 164)),
 o 166 (.fld 5 (tv 10)),
 o 167 (.load false 1 (tv 166)),
 o 168 (.len false (tv 167)),
 oa 169 (.call (kf 55) [(false, (tv 165)), (false, (tv 168))] []) 11072,
 o 11 (.mv (tv 169))] [] [11])
 .ret)))))),
 [.tmp 11], false⟩

def l63_0 : VCode := (.seq (.region [] [o 130 (.bin .lss 0 (tv 129) (tv 128))] [] [1, 127, 128, 129, 130])
 (.seq (.cond (tv 130) .skip
 (.exit 2))
 (.seq (.block 3 (.seq (.region [] [o 131 (.idxA 14 (tv 127) (tv 129)),
 o 132 (.load true 14 (tv 131)),
 oa 6 (.new [zi, zs, .nil, zi, zi, zs, zi, .nil, .nil, zi, zs, zi, zi, .nil] []) 9536,
 on (.store 14 (tv 6) (tv 132) [])] [] [1, 6, 127, 128, 129])
 (.seq (.region [] [o 133 (.fld 0 (tv 6)),
 o 134 (.load false 1 (tv 133)),
 o 135 (.bin .lss 0 (tv 134) (ki 0)),
 o 136 (.mv (tv 135)),
 og 137 (.fld 1 (tv 6)) 136 false,
 og 138 (.load false 1 (tv 137)) 136 false,
 ⟨(some 139), (.call (kf 110) [(false, (tv 138))] []), (some (136, false)), 10048, []⟩,
 og 140 (.un .not (tv 139)) 136 false,
 o 141 (.pick (tv 136) kt (tv 140)),
 o 142 (.mv (tv 141)),
 og 143 (.fld 2 (tv 6)) 142 false,
 og 144 (.load false 1 (tv 143)) 142 false,
 og 145 (.len false (tv 144)) 142 false,
 og 146 (.bin .gtr 0 (tv 145) (ki 4)) 142 false,
 o 147 (.pick (tv 142) kt (tv 146)),
 o 148 (.mv (tv 147)),
 og 149 (.fld 2 (tv 6)) 148 false,
 og 150 (.load false 1 (tv 149)) 148 false,
 ⟨(some 151), (.call (kf 115) [(false, (tv 150)), (true, (kf 116))] []), (some (148, false)), 10816, []⟩,
 o 152 (.pick (tv 148) kt (tv 151))] [] [1, 127, 128, 129, 152])
 (.cond (tv 152) (.seq (.region [9536] [o 2 (.mv kF)] [] [2])
 .ret)
 .skip))))
 (.region [9536] [o 153 (.bin .add 0 (tv 129) (ki 1)),
 o 129 (.mv (tv 153))] [] [1, 127, 128, 129]))))

def v63 : VFun := ⟨1,
 (.seq (.region [] [oa 1 (.box (tv 0)) 64,
 o 2 (.mv kF)] [] [1])
 (.seq (.region [] [o 3 (.mv kF),
 o 4 (.mv (ki 0))] [] [1, 3, 4])
 (.seq (.seq (.region [] [o 7 (.fld 0 (tv 1)),
 o 8 (.load false 1 (tv 7))] [] [1, 3, 4, 8])
 (.block 0 (.seq (.seq (.region [] [o 10 (.bin .eql 0 (tv 8) (ki 1)),
 o 9 (.mv (tv 10))] [] [1, 3, 4, 8, 9])
 (.cond (tv 9) .skip
 (.region [] [o 11 (.bin .eql 0 (tv 8) (ki 2)),
 o 9 (.mv (tv 11))] [] [1, 3, 4, 8, 9])))
 (.cond (tv 9) (.region [] [o 3 (.mv kt)] [] [1, 3, 4])
 (.seq (.seq (.region [] [o 13 (.bin .eql 0 (tv 8) (ki 3)),
 o 12 (.mv (tv 13))] [] [1, 3, 4, 8, 12])
 (.cond (tv 12) .skip
 (.region [] [o 14 (.bin .eql 0 (tv 8) (ki 10)),
 o 12 (.mv (tv 14))] [] [1, 3, 4, 8, 12])))
 (.cond (tv 12) .skip
 (.seq (.region [] [o 16 (.bin .eql 0 (tv 8) (ki 4)),
 o 15 (.mv (tv 16))] [] [1, 3, 8, 15])
 (.cond (tv 15) (.region [] [o 3 (.mv kt),
 o 4 (.mv (ki 1))] [] [1, 3, 4])
 (.seq (.region [] [o 18 (.bin .eql 0 (tv 8) (ki 5)),
 o 17 (.mv (tv 18))] [] [1, 3, 8, 17])
 (.cond (tv 17) (.region [] [o 4 (.mv (ki 2))] [] [1, 3, 4])
 (.seq (.seq (.region [] [o 20 (.bin .eql 0 (tv 8) (ki 6)),
 o 19 (.mv (tv 20))] [] [1, 3, 8, 19])
 (.cond (tv 19) .skip
 (.region [] [o 21 (.bin .eql 0 (tv 8) (ki 7)),
 o 19 (.mv (tv 21))] [] [1, 3, 8, 19])))
 (.cond (tv 19) (.region [] [o 3 (.mv kt),
 o 4 (.mv (ki 2))] [] [1, 3, 4])
 (.seq (.seq (.region [] [o 23 (.bin .eql 0 (tv 8) (ki 8)),
 o 22 (.mv (tv 23))] [] [1, 3, 8, 22])
 (.cond (tv 22) .skip
 (.seq (.region [] [o 24 (.bin .eql 0 (tv 8) (ki 9)),
 o 22 (.mv (tv 24))] [] [1, 3, 8, 22])
 (.cond (tv 22) .skip
 (.region [] [o 25 (.bin .eql 0 (tv 8) (ki 11)),
 o 22 (.mv (tv 25))] [] [1, 3, 22])))))
 (.cond (tv 22) (.region [] [o 4 (.mv (ki 1))] [] [1, 3, 4])
 (.seq (.region [] [o 2 (.mv kF)] [] [2])
 .ret)))))))))))))))
 (.seq (.block 1 (.seq (.region [] [o 27 (.fld 1 (tv 1)),
 o 28 (.load false 1 (tv 27)),
 o 29 (.bin .lss 0 (tv 28) (ki 0)),
 o 30 (.mv (tv 29)),
 og 31 (.fld 4 (tv 1)) 30 false,
 og 32 (.load false 1 (tv 31)) 30 false,
 og 33 (.len false (tv 32)) 30 false,
 og 34 (.mv (tv 4)) 30 false,
 og 35 (.bin .neq 0 (tv 33) (tv 34)) 30 false,
 o 36 (.pick (tv 30) kt (tv 35)),
 o 37 (.mv (tv 36)),
 og 38 (.fld 5 (tv 1)) 37 false,
 og 39 (.load false 1 (tv 38)) 37 false,
 og 40 (.len false (tv 39)) 37 false,
 og 41 (.bin .gtr 0 (tv 40) (ki 0)) 37 false,
 og 42 (.fld 0 (tv 1)) 37 false,
 og 43 (.load false 1 (tv 42)) 37 false,
 og 44 (.bin .eql 0 (tv 43) (ki 8)) 37 false,
 og 45 (.bin .neq 1 (tv 41) (tv 44)) 37 false,
 o 46 (.pick (tv 37) kt (tv 45)),
 o 26 (.mv (tv 46))] [] [1, 3, 26])
 (.cond (tv 26) (.seq (.region [] [o 2 (.mv kF)] [] [2])
 .ret)
 (.seq (.region [] [o 48 (.fld 3 (tv 1)),
 o 49 (.load false 1 (tv 48)),
 o 50 (.bin .lss 0 (tv 49) (ki 0)),
 o 51 (.mv (tv 50)),
 og 52 (.fld 3 (tv 1)) 51 false,
 og 53 (.load false 1 (tv 52)) 51 false,
 og 54 (.bin .gtr 0 (tv 53) (ki 999999999)) 51 false,
 o 55 (.pick (tv 51) kt (tv 54)),
 o 56 (.mv (tv 55)),
 og 57 (.fld 3 (tv 1)) 56 false,
 og 58 (.load false 1 (tv 57)) 56 false,
 og 59 (.bin .neq 0 (tv 58) (ki 0)) 56 false,
 og 60 (.mv (tv 59)) 56 false,
 og 61 (.fld 0 (tv 1)) 60 true,
 og 62 (.load false 1 (tv 61)) 60 true,
 og 63 (.bin .neq 0 (tv 62) (ki 3)) 60 true,
 og 64 (.pick (tv 60) (tv 63) kF) 56 false,
 o 65 (.pick (tv 56) kt (tv 64)),
 o 47 (.mv (tv 65))] [] [1, 3, 47])
 (.cond (tv 47) (.seq (.region [] [o 2 (.mv kF)] [] [2])
 .ret)
 (.seq (.region [] [o 67 (.mv (tv 3)),
 o 68 (.un .not (tv 67)),
 o 69 (.mv (tv 68)),
 og 70 (.fld 2 (tv 1)) 69 true,
 og 71 (.load false 1 (tv 70)) 69 true,
 og 72 (.bin .neq 0 (tv 71) (.k (.sc zs))) 69 true,
 o 73 (.pick (tv 69) (tv 72) kF),
 o 74 (.mv (tv 73)),
 og 75 (.fld 0 (tv 1)) 74 false,
 og 76 (.load false 1 (tv 75)) 74 false,
 og 77 (.bin .eql 0 (tv 76) (ki 2)) 74 false,
 og 78 (.mv (tv 77)) 74 false,
 og 79 (.fld 2 (tv 1)) 78 true,
 og 80 (.load false 1 (tv 79)) 78 true,
 ⟨(some 81), (.call (kf 110) [(false, (tv 80))] []), (some (78, true)), 5952, []⟩,
 og 82 (.un .not (tv 81)) 78 true,
 og 83 (.pick (tv 78) (tv 82) kF) 74 false,
 o 84 (.pick (tv 74) kt (tv 83)),
 o 85 (.mv (tv 84)),
 og 86 (.mv (tv 3)) 85 false,
 og 87 (.mv (tv 86)) 85 false,
 og 88 (.fld 0 (tv 1)) 87 true,
 og 89 (.load false 1 (tv 88)) 87 true,
 og 90 (.bin .neq 0 (tv 89) (ki 2)) 87 true,
 og 91 (.pick (tv 87) (tv 90) kF) 85 false,
 og 92 (.mv (tv 91)) 85 false,
 og 93 (.fld 2 (tv 1)) 92 true,
 og 94 (.load false 1 (tv 93)) 92 true,
 ⟨(some 95), (.call (kf 111) [(false, (tv 94))] []), (some (92, true)), 6848, []⟩,
 og 96 (.un .not (tv 95)) 92 true,
 og 97 (.pick (tv 92) (tv 96) kF) 85 false,
 o 98 (.pick (tv 85) kt (tv 97)),
 o 66 (.mv (tv 98))] [] [1, 66])
 (.cond (tv 66) (.seq (.region [] [o 2 (.mv kF)] [] [2])
 .ret)
 (.seq (.region [] [o 100 (.fld 0 (tv 1)),
 o 101 (.load false 1 (tv 100)),
 o 102 (.bin .eql 0 (tv 101) (ki 9)),
 o 103 (.mv (tv 102)),
 og 104 (.fld 6 (tv 1)) 103 true,
 og 105 (.load true 5 (tv 104)) 103 true,
 ⟨(some 106), (.call (kf 112) [(false, (tv 105))] []), (some (103, true)), 7616, []⟩,
 og 107 (.un .not (tv 106)) 103 true,
 og 108 (.mv (tv 107)) 103 true,
 og 109 (.fld 6 (tv 1)) 108 false,
 og 110 (.load true 5 (tv 109)) 108 false,
 ⟨(some 111), (.call (kf 113) [(false, (tv 110))] []), (some (108, false)), 7936, []⟩,
 og 112 (.un .not (tv 111)) 108 false,
 og 113 (.pick (tv 108) kt (tv 112)) 103 true,
 o 114 (.pick (tv 103) (tv 113) kF),
 o 99 (.mv (tv 114))] [] [1, 99])
 (.cond (tv 99) (.seq (.region [] [o 2 (.mv kF)] [] [2])
 .ret)
 (.seq (.region [] [o 116 (.fld 0 (tv 1)),
 o 117 (.load false 1 (tv 116)),
 o 118 (.bin .neq 0 (tv 117) (ki 9)),
 o 119 (.mv (tv 118)),
 og 120 (.fld 6 (tv 1)) 119 true,
 og 121 (.load true 5 (tv 120)) 119 true,
 og 122 (.build [zi, zs, zi, zi, .nil] []) 119 true,
 ⟨(some 123), (.call (kf 114) [(false, (tv 121)), (false, (tv 122))] []), (some (119, true)), 8768, []⟩,
 og 124 (.un .not (tv 123)) 119 true,
 o 125 (.pick (tv 119) (tv 124) kF),
 o 115 (.mv (tv 125))] [] [1, 115])
 (.cond (tv 115) (.seq (.region [] [o 2 (.mv kF)] [] [2])
 .ret)
 .skip)))))))))))
 (.seq (.seq (.region [] [o 126 (.fld 5 (tv 1)),
 o 127 (.load false 1 (tv 126)),
 o 128 (.len false (tv 127)),
 o 129 (.mv (ki 0))] [] [1, 127, 128, 129])
 (.block 2 (.loop l63_0)))
 (.seq (.region [] [o 154 (.load true 11 (tv 1)),
 oa 155 (.call (kf 79) [(false, (tv 154))] []) 11200,
 oa 156 (.call (kf 117) [(false, (tv 155)), (true, (kf 118))] []) 11264,
 o 157 (.un .not (tv 156)),
 o 2 (.mv (tv 157))] [] [2])
 .ret)))))),
 [.tmp 2], false⟩

def l66_0 : VCode := (.seq (.seq (.region [] [o 88 (.mv (tv 11)),
 o 89 (.fld 5 (tv 4)),
 o 90 (.load false 1 (tv 89)),
 o 91 (.len false (tv 90)),
 o 92 (.bin .lss 0 (tv 88) (tv 91))] [] [2, 3, 4, 5, 11, 92])
 (.cond (tv 92) .skip
 (.exit 1)))
 (.seq (.block 2 (.seq (.region [] [o 95 (.fld 5 (tv 4)),
 o 96 (.load false 1 (tv 95)),
 o 97 (.mv (tv 11)),
 o 98 (.idxA 14 (tv 96) (tv 97)),
 o 99 (.fld 1 (tv 98)),
 o 100 (.load false 1 (tv 99)),
 o 101 (.fld 5 (tv 5)),
 o 102 (.load false 1 (tv 101)),
 o 103 (.mv (tv 11)),
 o 104 (.idxA 14 (tv 102) (tv 103)),
 o 105 (.fld 1 (tv 104)),
 o 106 (.load false 1 (tv 105)),
 o 107 (.bin .neq 0 (tv 100) (tv 106)),
 o 108 (.mv (tv 107)),
 og 109 (.fld 5 (tv 4)) 108 false,
 og 110 (.load false 1 (tv 109)) 108 false,
 og 111 (.mv (tv 11)) 108 false,
 og 112 (.idxA 14 (tv 110) (tv 111)) 108 false,
 og 113 (.fld 2 (tv 112)) 108 false,
 og 114 (.load false 1 (tv 113)) 108 false,
 og 115 (.len false (tv 114)) 108 false,
 og 116 (.fld 5 (tv 5)) 108 false,
 og 117 (.load false 1 (tv 116)) 108 false,
 og 118 (.mv (tv 11)) 108 false,
 og 119 (.idxA 14 (tv 117) (tv 118)) 108 false,
 og 120 (.fld 2 (tv 119)) 108 false,
 og 121 (.load false 1 (tv 120)) 108 false,
 og 122 (.len false (tv 121)) 108 false,
 og 123 (.bin .neq 0 (tv 115) (tv 122)) 108 false,
 o 124 (.pick (tv 108) kt (tv 123))] [(0, 6), (1, 6), (3, 6), (4, 6), (5, 6), (0, 7), (1, 7), (3, 7), (4, 7), (5, 7), (0, 9), (1, 9), (3, 9), (4, 9), (5, 9), (0, 10), (1, 10), (3, 10), (4, 10), (5, 10), (0, 11), (1, 11), (3, 11), (4, 11), (5, 11), (14, 21), (15, 21), (17, 21), (18, 21), (19, 21), (20, 21), (14, 22), (15, 22), (17, 22), (18, 22), (19, 22), (20, 22), (14, 24), (15, 24), (17, 24), (18, 24), (19, 24), (20, 24), (14, 25), (15, 25), (17, 25), (18, 25), (19, 25), (20, 25), (14, 26), (15, 26), (17, 26), (18, 26), (19, 26), (20, 26), (14, 27), (15, 27), (17, 27), (18, 27), (19, 27), (20, 27)] [2, 3, 4, 5, 11, 124])
 (.cond (tv 124) (.seq (.region [] [o 8 (.mv kF)] [] [8])
 .ret)
 .skip)))
 (.region [] [o 93 (.mv (tv 11)),
 o 94 (.bin .add 0 (tv 93) (ki 1)),
 o 11 (.mv (tv 94))] [] [2, 3, 4, 5, 11])))

def l66_1 : VCode := (.seq (.seq (.region [] [o 129 (.mv (tv 14)),
 o 130 (.mv (tv 12)),
 o 131 (.len false (tv 130)),
 o 132 (.bin .lss 0 (tv 129) (tv 131))] [] [2, 3, 4, 5, 12, 13, 14, 132])
 (.cond (tv 132) .skip
 (.exit 3)))
 (.seq (.block 4 (.seq (.region [] [o 135 (.mv (tv 2)),
 oa 136 (.app 1 16 true kn (tv 135)) 8448,
 o 137 (.load true 11 (tv 4)),
 o 138 (.mv (tv 14)),
 oa 139 (.call (kf 126) [(false, (tv 137)), (false, (tv 138))] []) 8640,
 o 140 (.app 1 16 false (tv 136) (tv 139)),
 o 15 (.mv (tv 140))] [(1, 2)] [2, 3, 4, 5, 12, 13, 14, 15])
 (.seq (.region [] [o 141 (.mv (tv 3)),
 oa 142 (.app 1 16 true kn (tv 141)) 8896,
 o 143 (.load true 11 (tv 5)),
 o 144 (.mv (tv 14)),
 oa 145 (.call (kf 126) [(false, (tv 143)), (false, (tv 144))] []) 9088,
 o 146 (.app 1 16 false (tv 142) (tv 145)),
 o 16 (.mv (tv 146))] [(1, 2)] [2, 3, 4, 5, 12, 13, 14, 15, 16])
 (.seq (.region [] [o 147 (.mv (tv 12)),
 o 148 (.mv (tv 14)),
 o 149 (.idxA 11 (tv 147) (tv 148)),
 o 150 (.load true 11 (tv 149)),
 o 151 (.mv (tv 13)),
 o 152 (.mv (tv 14)),
 o 153 (.idxA 11 (tv 151) (tv 152)),
 o 154 (.load true 11 (tv 153)),
 o 155 (.mv (tv 15)),
 o 156 (.mv (tv 16)),
 oa 157 (.call (kf 66) [(false, (tv 150)), (false, (tv 154)), (false, (tv 155)), (false, (tv 156))] []) 9920,
 o 158 (.un .not (tv 157))] [(2, 6), (3, 6), (2, 7), (3, 7)] [2, 3, 4, 5, 12, 13, 14, 158])
 (.cond (tv 158) (.seq (.region [] [o 8 (.mv kF)] [] [8])
 .ret)
 .skip)))))
 (.region [8448, 8896] [o 133 (.mv (tv 14)),
 o 134 (.bin .add 0 (tv 133) (ki 1)),
 o 14 (.mv (tv 134))] [] [2, 3, 4, 5, 12, 13, 14])))

def v66 : VFun := ⟨4,
 (.seq (.region [] [oa 4 (.box (tv 0)) 64,
 oa 5 (.box (tv 1)) 128,
 o 8 (.mv kF)] [] [2, 3, 4, 5])
 (.seq (.seq (.region [] [o 17 (.fld 0 (tv 4)),
 o 18 (.load false 1 (tv 17)),
 o 19 (.fld 0 (tv 5)),
 o 20 (.load false 1 (tv 19)),
 o 21 (.bin .neq 0 (tv 18) (tv 20)),
 o 22 (.mv (tv 21)),
 og 23 (.fld 3 (tv 4)) 22 false,
 og 24 (.load false 1 (tv 23)) 22 false,
 og 25 (.fld 3 (tv 5)) 22 false,
 og 26 (.load false 1 (tv 25)) 22 false,
 og 27 (.bin .neq 0 (tv 24) (tv 26)) 22 false,
 o 28 (.pick (tv 22) kt (tv 27)),
 o 29 (.mv (tv 28)),
 og 30 (.fld 6 (tv 4)) 29 false,
 og 31 (.load true 5 (tv 30)) 29 false,
 og 32 (.fld 6 (tv 5)) 29 false,
 og 33 (.load true 5 (tv 32)) 29 false,
 ⟨(some 34), (.call (kf 84) [(false, (tv 31)), (false, (tv 33))] []), (some (29, false)), 1344, []⟩,
 og 35 (.un .not (tv 34)) 29 false,
 o 36 (.pick (tv 29) kt (tv 35)),
 o 37 (.mv (tv 36)),
 og 38 (.fld 4 (tv 4)) 37 false,
 og 39 (.load false 1 (tv 38)) 37 false,
 og 40 (.len false (tv 39)) 37 false,
 og 41 (.fld 4 (tv 5)) 37 false,
 og 42 (.load false 1 (tv 41)) 37 false,
 og 43 (.len false (tv 42)) 37 false,
 og 44 (.bin .neq 0 (tv 40) (tv 43)) 37 false,
 o 45 (.pick (tv 37) kt (tv 44)),
 o 46 (.mv (tv 45)),
 og 47 (.fld 5 (tv 4)) 46 false,
 og 48 (.load false 1 (tv 47)) 46 false,
 og 49 (.len false (tv 48)) 46 false,
 og 50 (.fld 5 (tv 5)) 46 false,
 og 51 (.load false 1 (tv 50)) 46 false,
 og 52 (.len false (tv 51)) 46 false,
 og 53 (.bin .neq 0 (tv 49) (tv 52)) 46 false,
 o 54 (.pick (tv 46) kt (tv 53))] [] [2, 3, 4, 5, 54])
 (.cond (tv 54) (.seq (.region [] [o 8 (.mv kF)] [] [8])
 .ret)
 .skip))
 (.seq (.seq (.region [] [o 55 (.fld 0 (tv 4)),
 o 56 (.load false 1 (tv 55))] [] [2, 3, 4, 5, 56])
 (.block 0 (.seq (.region [] [o 58 (.bin .eql 0 (tv 56) (ki 1)),
 o 57 (.mv (tv 58))] [] [2, 3, 4, 5, 56, 57])
 (.cond (tv 57) (.seq (.region [] [o 59 (.mv (tv 2)),
 o 60 (.fld 2 (tv 4)),
 o 61 (.load false 1 (tv 60)),
 oa 62 (.call (kf 125) [(false, (tv 59)), (false, (tv 61))] []) 3200,
 o 63 (.mv (tv 3)),
 o 64 (.fld 2 (tv 5)),
 o 65 (.load false 1 (tv 64)),
 oa 66 (.call (kf 125) [(false, (tv 63)), (false, (tv 65))] []) 3456,
 o 9 (.mv (tv 62)),
 o 10 (.mv (tv 66))] [(1, 5), (2, 5), (3, 5), (1, 6), (2, 6), (3, 6)] [4, 5, 9, 10])
 (.seq (.region [] [o 67 (.mv (tv 9)),
 o 68 (.mv (tv 10)),
 o 69 (.bin .eql 0 (tv 67) (tv 68)),
 o 70 (.mv (tv 69)),
 og 71 (.mv (tv 9)) 70 true,
 og 72 (.bin .geq 0 (tv 71) (ki 0)) 70 true,
 og 73 (.mv (tv 72)) 70 true,
 og 74 (.fld 2 (tv 4)) 73 false,
 og 75 (.load false 1 (tv 74)) 73 false,
 og 76 (.fld 2 (tv 5)) 73 false,
 og 77 (.load false 1 (tv 76)) 73 false,
 og 78 (.bin .eql 0 (tv 75) (tv 77)) 73 false,
 og 79 (.pick (tv 73) kt (tv 78)) 70 true,
 o 80 (.pick (tv 70) (tv 79) kF),
 o 8 (.mv (tv 80))] [] [8])
 .ret))
 (.seq (.region [] [o 82 (.bin .eql 0 (tv 56) (ki 2)),
 o 81 (.mv (tv 82))] [] [2, 3, 4, 5, 81])
 (.cond (tv 81) (.seq (.region [] [o 83 (.fld 2 (tv 4)),
 o 84 (.load false 1 (tv 83)),
 o 85 (.fld 2 (tv 5)),
 o 86 (.load false 1 (tv 85)),
 o 87 (.bin .eql 0 (tv 84) (tv 86)),
 o 8 (.mv (tv 87))] [] [8])
 .ret)
 .skip))))))
 (.seq (.seq (.region [] [o 11 (.mv (ki 0))] [] [2, 3, 4, 5, 11])
 (.block 1 (.loop l66_0)))
 (.seq (.region [] [o 125 (.load true 11 (tv 4)),
 oa 126 (.call (kf 69) [(false, (tv 125))] []) 7744,
 o 127 (.load true 11 (tv 5)),
 oa 128 (.call (kf 69) [(false, (tv 127))] []) 7872,
 o 12 (.mv (tv 126)),
 o 13 (.mv (tv 128))] [(0, 2), (1, 2)] [2, 3, 4, 5, 12, 13])
 (.seq (.seq (.region [] [o 14 (.mv (ki 0))] [] [2, 3, 4, 5, 12, 13, 14])
 (.block 3 (.loop l66_1)))
 (.seq (.region [] [o 8 (.mv kt)] [] [8])
 .ret))))))),
 [.tmp 8], false⟩

def v100 : VFun := ⟨2,
 (.seq (.region [] [oa 4 (.new [zi, zs, zi, zi, .nil] []) 64] [] [0, 1, 4])
 (.seq (.region [] [o 5 (.mv (tv 0)),
 o 6 (.mv (tv 1)),
 oa 7 (.appN 5 64 (tv 6)) 256,
 o 8 (.build [zi, zs, zi, zi, .nil] [(0, 1, (ki 4)), (1, 1, (tv 5)), (4, 1, (tv 7))]),
 on (.store 5 (tv 4) (tv 8) [])] [] [4])
 .ret)),
 [.cell 4 true 5], false⟩

def l62_0 : VCode := (.seq (.seq (.region [] [o 5 (.fld 0 (tv 1)),
 o 6 (.load false 1 (tv 5)),
 o 7 (.bin .eql 0 (tv 6) (ki 5)),
 o 8 (.mv (tv 7)),
 og 9 (.fld 4 (tv 1)) 8 true,
 og 10 (.load false 1 (tv 9)) 8 true,
 og 11 (.len false (tv 10)) 8 true,
 og 12 (.bin .eql 0 (tv 11) (ki 2)) 8 true,
 o 13 (.pick (tv 8) (tv 12) kF)] [] [1, 2, 4, 13])
 (.cond (tv 13) .skip
 (.exit 0)))
 (.block 1 (.seq (.region [1216] [o 14 (.mv (tv 4)),
 o 15 (.fld 4 (tv 1)),
 o 16 (.load false 1 (tv 15)),
 o 17 (.idxA 11 (tv 16) (ki 1)),
 o 18 (.load true 11 (tv 17)),
 oa 19 (.mkSl 11 [(tv 18)]) 1216,
 o 20 (.app 11 152 false (tv 14) (tv 19)),
 o 4 (.mv (tv 20))] [] [1, 2, 4])
 (.region [1216] [o 21 (.fld 4 (tv 1)),
 o 22 (.load false 1 (tv 21)),
 o 23 (.idxA 11 (tv 22) (ki 0)),
 o 24 (.load true 11 (tv 23)),
 on (.store 11 (tv 1) (tv 24) [])] [] [1, 2, 4]))))

def v62 : VFun := ⟨1,
 (.seq (.region [] [oa 1 (.box (tv 0)) 64,
 oa 2 (.new [zi, zi, zs, zi, .nil, .nil, zi, zs, zi, zi, .nil] []) 128,
 o 3 (.mv kn)] [] [1, 2])
 (.seq (.region [] [⟨(some 4), (.mv kn), none, 256, [(0, 11)]⟩] [] [1, 2, 4])
 (.seq (.block 0 (.loop l62_0))
 (.seq (.region [] [o 25 (.mv (tv 4)),
 oa 26 (.call (kf 109) [(true, (tv 25))] []) 1792] [] [1, 2, 4])
 (.seq (.region [] [o 27 (.load true 11 (tv 1)),
 o 28 (.mv (tv 4)),
 on (.store 11 (tv 2) (tv 27) []),
 o 3 (.mv (tv 28))] [] [2, 3])
 .ret))))),
 [.cell 2 true 11, .tmp 3], false⟩

def l99_0 : VCode := (.seq (.region [] [o 10 (.bin .lss 0 (tv 9) (tv 8))] [] [3, 7, 8, 9, 10])
 (.seq (.cond (tv 10) .skip
 (.exit 0))
 (.seq (.block 1 (.seq (.region [] [o 11 (.idxA 7 (tv 7) (tv 9)),
 o 12 (.load true 7 (tv 11)),
 oa 5 (.new [zs, zi, zi, zs, zi, zi, .nil] []) 640,
 on (.store 7 (tv 5) (tv 12) [])] [] [3, 5, 7, 8, 9])
 (.region [] [o 13 (.mv (tv 3)),
 o 14 (.fld 0 (tv 5)),
 o 15 (.load false 1 (tv 14)),
 oa 16 (.mkSl 1 [(tv 15)]) 960,
 o 17 (.app 1 16 false (tv 13) (tv 16)),
 o 3 (.mv (tv 17))] [] [3, 7, 8, 9])))
 (.region [640, 960] [o 18 (.bin .add 0 (tv 9) (ki 1)),
 o 9 (.mv (tv 18))] [] [3, 7, 8, 9]))))

def v99 : VFun := ⟨1,
 (.seq (.region [] [o 2 (.mv kn)] [] [0])
 (.seq (.region [] [⟨(some 3), (.mv kn), none, 128, [(0, 1)]⟩] [] [0, 3])
 (.seq (.seq (.region [] [o 6 (.mv (tv 0)),
 oa 7 (.call (kf 150) [(false, (tv 6))] []) 256,
 o 8 (.len false (tv 7)),
 o 9 (.mv (ki 0))] [] [3, 7, 8, 9])
 (.block 0 (.loop l99_0)))
 (.seq (.region [] [o 19 (.mv (tv 3)),
 o 2 (.mv (tv 19))] [] [2])
 .ret)))),
 [.tmp 2], false⟩

def l28_0 : VCode := (.seq (.region [] [o 18 (.bin .lss 0 (tv 17) (tv 16))] [] [0, 5, 15, 16, 17, 18])
 (.seq (.cond (tv 18) .skip
 (.exit 0))
 (.seq (.block 1 (.seq (.region [] [o 19 (.idxA 1 (tv 15) (tv 17)),
 o 20 (.load false 1 (tv 19)),
 o 7 (.mv (tv 20))] [] [0, 5, 7, 15, 16, 17])
 (.seq (.region [] [o 22 (.mv (tv 7)),
 oa 23 (.call (kf 73) [(false, (tv 22)), (false, (.k (.sc (.c (.str [118])))))] []) 704,
 o 21 (.mv (tv 23)),
 o 24 (.ext 0 (tv 21)),
 o 25 (.ext 1 (tv 21)),
 o 8 (.mv (tv 24)),
 o 9 (.mv (tv 25))] [] [0, 5, 8, 9, 15, 16, 17])
 (.seq (.region [] [o 27 (.mv (tv 8)),
 oa 28 (.call (kf 74) [(false, (tv 27)), (false, (ki 10)), (false, (ki 64))] []) 1152,
 o 26 (.mv (tv 28)),
 o 29 (.ext 0 (tv 26)),
 o 30 (.ext 1 (tv 26)),
 o 10 (.mv (tv 29)),
 o 11 (.mv (tv 30))] [] [0, 5, 8, 9, 10, 11, 15, 16, 17])
 (.seq (.region [] [o 31 (.mv (tv 9)),
 o 32 (.mv (tv 31)),
 og 33 (.mv (tv 11)) 32 true,
 og 34 (.bin .eql 5 (tv 33) (.k (.sc (.c .nilif)))) 32 true,
 o 35 (.pick (tv 32) (tv 34) kF),
 o 36 (.mv (tv 35)),
 og 37 (.mv (tv 10)) 36 true,
 og 38 (.bin .gtr 0 (tv 37) (.k (.sc (.c (.int .u64 0))))) 36 true,
 o 39 (.pick (tv 36) (tv 38) kF),
 o 40 (.mv (tv 39)),
 og 41 (.mv (tv 10)) 40 true,
 ⟨(some 42), (.call (kf 75) [(false, (tv 41)), (false, (ki 10))] []), (some (40, true)), 2240, []⟩,
 og 43 (.mv (tv 8)) 40 true,
 og 44 (.bin .eql 0 (tv 42) (tv 43)) 40 true,
 o 45 (.pick (tv 40) (tv 44) kF)] [] [0, 5, 10, 15, 16, 17, 45])
 (.cond (tv 45) (.region [] [o 46 (.mv (tv 5)),
 o 47 (.mv (tv 10)),
 oa 48 (.mkSl 1 [(tv 47)]) 2624,
 o 49 (.app 1 8 false (tv 46) (tv 48)),
 o 5 (.mv (tv 49))] [] [0, 5, 15, 16, 17])
 .skip))))))
 (.region [1184, 1185, 1186, 2624] [o 50 (.bin .add 0 (tv 17) (ki 1)),
 o 17 (.mv (tv 50))] [] [0, 5, 15, 16, 17]))))

def l28_1 : VCode := (.seq (.region [] [o 61 (.bin .lss 0 (tv 60) (tv 59))] [] [12, 58, 59, 60, 61])
 (.seq (.cond (tv 61) .skip
 (.exit 2))
 (.seq (.block 3 (.seq (.region [] [o 62 (.idxA 1 (tv 58) (tv 60)),
 o 63 (.load false 1 (tv 62)),
 o 14 (.mv (tv 63))] [] [12, 14, 58, 59, 60])
 (.seq (.region [] [o 64 (.mv (tv 14)),
 o 65 (.mv (tv 12)),
 o 66 (.bin .leq 0 (tv 64) (tv 65))] [] [12, 58, 59, 60, 66])
 (.cond (tv 66) (.region [] [o 67 (.mv (tv 12)),
 o 68 (.bin .add 0 (tv 67) (.k (.sc (.c (.int .u64 1))))),
 o 12 (.mv (tv 68))] [] [12, 58, 59, 60])
 .skip))))
 (.region [] [o 69 (.bin .add 0 (tv 60) (ki 1)),
 o 60 (.mv (tv 69))] [] [12, 58, 59, 60]))))

def v28 : VFun := ⟨2,
 (.seq (.region [] [o 4 (.mv (.k (.sc zs)))] [] [0, 1])
 (.seq (.region [] [⟨(some 5), (.mv kn), none, 128, [(0, 1)]⟩] [] [0, 1, 5])
 (.seq (.seq (.region [] [o 15 (.mv (tv 1)),
 o 16 (.len false (tv 15)),
 o 17 (.mv (ki 0))] [] [0, 5, 15, 16, 17])
 (.block 0 (.loop l28_0)))
 (.seq (.region [] [o 51 (.mv (tv 5)),
 oa 52 (.call (kf 76) [(false, (tv 51))] []) 3008] [] [0, 5])
 (.seq (.region [] [o 53 (.mv (tv 0)),
 o 54 (.mx (tv 53) (ki 0)),
 o 55 (.cvI .u64 (tv 54)),
 o 56 (.bin .add 0 (tv 55) (.k (.sc (.c (.int .u64 1))))),
 o 12 (.mv (tv 56))] [] [5, 12])
 (.seq (.seq (.region [] [o 57 (.mv (tv 5)),
 oa 58 (.call (kf 77) [(false, (tv 57))] []) 3456,
 o 59 (.len false (tv 58)),
 o 60 (.mv (ki 0))] [] [12, 58, 59, 60])
 (.block 2 (.loop l28_1)))
 (.seq (.region [] [o 70 (.mv (tv 12)),
 oa 71 (.call (kf 75) [(false, (tv 70)), (false, (ki 10))] []) 4480,
 o 72 (.bin .add 0 (.k (.sc (.c (.str [118])))) (tv 71)),
 o 4 (.mv (tv 72))] [] [4])
 .ret))))))),
 [.tmp 4], false⟩

def v71 : VFun := ⟨0,
 (.seq (.region [] [o 0 (.mv kn)] [] [1000000])
 (.seq (.region [] [oa 4 (.call (kf 129) [(false, (.k (.sc (.c (.str [100, 97, 116, 97, 32, 66, 111, 111, 108, 32, 61, 32, 84, 114, 117, 101, 32, 124, 32, 70, 97, 108, 115, 101, 59, 32, 100, 97, 116, 97, 32, 79, 112, 116, 105, 111, 110, 32, 97, 32, 61, 32, 78, 111, 110, 101, 32, 124, 32, 83, 111, 109, 101, 32, 97, 59, 32, 100, 97, 116, 97, 32, 76, 105, 115, 116, 32, 97, 32, 61, 32, 78, 105, 108, 32, 124, 32, 67, 111, 110, 115, 32, 97, 32, 40, 76, 105, 115, 116, 32, 97, 41, 59, 100, 97, 116, 97, 32, 80, 97, 105, 114, 32, 97, 32, 98, 32, 61, 32, 80, 97, 105, 114, 32, 97, 32, 98, 59, 32, 100, 97, 116, 97, 32, 78, 97, 116, 32, 61, 32, 90, 101, 114, 111, 32, 124, 32, 83, 117, 99, 99, 32, 78, 97, 116, 59, 32, 100, 97, 116, 97, 32, 70, 117, 110, 32, 97, 32, 98, 32, 61, 32, 70, 117, 110, 32, 40, 97, 32, 45, 62, 32, 98, 41, 59, 32, 100, 97, 116, 97, 32, 84, 119, 111, 32, 97, 32, 61, 32, 66, 111, 116, 104, 32, 97, 32, 97, 32, 124, 32, 79, 110, 101, 32, 40, 79, 112, 116, 105, 111, 110, 32, 97, 41, 59])))))] []) 128,
 o 3 (.mv (tv 4)),
 o 5 (.ext 0 (tv 3)),
 o 6 (.ext 1 (tv 3)),
 oa 1 (.new [.nil, .nil] []) 384,
 oa 2 (.new [zi, zi] []) 448,
 on (.store 2 (tv 1) (tv 5) []),
 on (.store 2 (tv 2) (tv 6) [])] [] [1])
 (.seq (.region [448] [o 7 (.fld 0 (tv 1)),
 o 8 (.load false 1 (tv 7)),
 o 0 (.mv (tv 8))] [] [0])
 .ret))),
 [.tmp 0], false⟩

def v101 : VFun := ⟨2,
 (.seq (.region [] [oa 4 (.new [zi, zs, zi, zi, .nil] []) 64] [] [0, 1, 4])
 (.seq (.region [] [o 5 (.mv (tv 0)),
 o 6 (.mv (tv 1)),
 o 7 (.build [zi, zs, zi, zi, .nil] [(0, 1, (ki 3)), (3, 1, (tv 5)), (2, 1, (tv 6))]),
 on (.store 5 (tv 4) (tv 7) [])] [] [4])
 .ret)),
 [.cell 4 true 5], false⟩

def v34 : VFun := ⟨1,
 (.seq (.region [] [o 2 (.mv (.k (.sc zs)))] [] [0])
 (.seq (.region [] [oa 3 (.mkSl 1 [(.k (.sc (.c (.str [120])))), (.k (.sc (.c (.str [121])))), (.k (.sc (.c (.str [122])))), (.k (.sc (.c (.str [102])))), (.k (.sc (.c (.str [103])))), (.k (.sc (.c (.str [118, 49])))), (.k (.sc (.c (.str [118, 50])))), (.k (.sc (.c (.str [105, 100]))))]) 128,
 o 4 (.mv (tv 0)),
 oa 5 (.call (kf 53) [(true, (tv 4)), (false, (ki 8))] []) 256,
 o 6 (.idxA 1 (tv 3) (tv 5)),
 o 7 (.load false 1 (tv 6)),
 o 2 (.mv (tv 7))] [] [2])
 .ret)),
 [.tmp 2], false⟩

def l103_0 : VCode := (.seq (.seq (.region [] [o 5 (.mv (tv 4)),
 o 6 (.mv (tv 0)),
 o 7 (.bin .lss 0 (tv 5) (tv 6))] [] [0, 3, 4, 7])
 (.cond (tv 7) .skip
 (.exit 0)))
 (.seq (.block 1 (.region [] [o 10 (.mv (tv 3)),
 o 11 (.mv (tv 4)),
 oa 12 (.call (kf 155) [(false, (tv 11))] []) 576,
 oa 13 (.mkSl 5 [(tv 12)]) 640,
 o 14 (.app 5 64 false (tv 10) (tv 13)),
 o 3 (.mv (tv 14))] [] [0, 3, 4]))
 (.region [640] [o 8 (.mv (tv 4)),
 o 9 (.bin .add 0 (tv 8) (ki 1)),
 o 4 (.mv (tv 9))] [] [0, 3, 4])))

def v103 : VFun := ⟨1,
 (.seq (.region [] [o 2 (.mv kn)] [] [0])
 (.seq (.region [] [⟨(some 3), (.mv kn), none, 128, [(0, 5)]⟩] [] [0, 3])
 (.seq (.seq (.region [] [o 4 (.mv (ki 0))] [] [0, 3, 4])
 (.block 0 (.loop l103_0)))
 (.seq (.region [] [o 15 (.mv (tv 3)),
 o 2 (.mv (tv 15))] [] [2])
 .ret)))),
 [.tmp 2], false⟩

def l70_0 : VCode := (.seq (.seq (.region [] [o 61 (.mv (tv 12)),
 o 62 (.fld 2 (tv 10)),
 o 63 (.load false 1 (tv 62)),
 o 64 (.len false (tv 63)),
 o 65 (.bin .lss 0 (tv 61) (tv 64))] [] [0, 1, 2, 3, 8, 10, 11, 12, 65])
 (.cond (tv 65) .skip
 (.exit 1)))
 (.seq (.block 2 (.region [] [o 68 (.mv (tv 11)),
 o 69 (.mv (tv 0)),
 o 70 (.mv (tv 1)),
 o 71 (.mv (tv 2)),
 o 72 (.mv (tv 3)),
 o 73 (.bin .sub 0 (tv 72) (ki 1)),
 oa 74 (.call (kf 70) [(true, (tv 69)), (false, (tv 70)), (false, (tv 71)), (false, (tv 73))] []) 4352,
 oa 75 (.mkSl 5 [(tv 74)]) 4416,
 o 76 (.app 5 64 false (tv 68) (tv 75)),
 o 11 (.mv (tv 76))] [] [0, 1, 2, 3, 8, 10, 11, 12]))
 (.region [4416] [o 66 (.mv (tv 12)),
 o 67 (.bin .add 0 (tv 66) (ki 1)),
 o 12 (.mv (tv 67))] [] [0, 1, 2, 3, 8, 10, 11, 12])))

def v70 : VFun := ⟨4,
 (.seq (.region [] [oa 8 (.new [zi, zs, zi, zi, .nil] []) 64] [] [0, 1, 2, 3, 8])
 (.seq (.region [] [o 14 (.mv (tv 0)),
 oa 15 (.call (kf 53) [(true, (tv 14)), (false, (ki 7))] []) 192,
 o 9 (.mv (tv 15))] [] [0, 1, 2, 3, 8, 9])
 (.seq (.block 0 (.seq (.region [] [o 17 (.mv (tv 9)),
 o 18 (.bin .lss 0 (tv 17) (ki 3)),
 o 19 (.mv (tv 18)),
 og 20 (.mv (tv 2)) 19 true,
 og 21 (.len false (tv 20)) 19 true,
 og 22 (.bin .gtr 0 (tv 21) (ki 0)) 19 true,
 o 23 (.pick (tv 19) (tv 22) kF),
 o 16 (.mv (tv 23))] [] [0, 1, 2, 3, 8, 9, 16])
 (.cond (tv 16) (.seq (.region [] [o 24 (.mv (tv 2)),
 o 25 (.mv (tv 0)),
 o 26 (.mv (tv 2)),
 o 27 (.len false (tv 26)),
 oa 28 (.call (kf 53) [(true, (tv 25)), (false, (tv 27))] []) 1088,
 o 29 (.idxA 5 (tv 24) (tv 28)),
 o 30 (.load true 5 (tv 29)),
 on (.store 5 (tv 8) (tv 30) [])] [] [8])
 .ret)
 (.seq (.region [] [o 32 (.mv (tv 9)),
 o 33 (.bin .lss 0 (tv 32) (ki 4)),
 o 34 (.mv (tv 33)),
 og 35 (.mv (tv 3)) 34 false,
 og 36 (.bin .lss 0 (tv 35) (ki 1)) 34 false,
 o 37 (.pick (tv 34) kt (tv 36)),
 o 31 (.mv (tv 37))] [] [0, 1, 2, 3, 8, 9, 31])
 (.cond (tv 31) (.seq (.region [] [oa 38 (.call (kf 47) [] []) 1792,
 on (.store 5 (tv 8) (tv 38) [])] [] [8])
 .ret)
 (.seq (.seq (.region [] [o 40 (.mv (tv 9)),
 o 41 (.bin .eql 0 (tv 40) (ki 4)),
 o 42 (.mv (tv 41)),
 og 43 (.mv (tv 1)) 42 true,
 og 44 (.len false (tv 43)) 42 true,
 og 45 (.bin .gtr 0 (tv 44) (ki 0)) 42 true,
 o 46 (.pick (tv 42) (tv 45) kF),
 o 39 (.mv (tv 46))] [] [0, 1, 2, 3, 8, 9, 39])
 (.cond (tv 39) .skip
 (.region [] [o 47 (.mv (tv 9)),
 o 48 (.bin .eql 0 (tv 47) (ki 5)),
 o 49 (.mv (tv 48)),
 og 50 (.mv (tv 1)) 49 true,
 og 51 (.len false (tv 50)) 49 true,
 og 52 (.bin .gtr 0 (tv 51) (ki 0)) 49 true,
 o 53 (.pick (tv 49) (tv 52) kF),
 o 39 (.mv (tv 53))] [] [0, 1, 2, 3, 8, 39])))
 (.cond (tv 39) (.seq (.region [] [o 54 (.mv (tv 1)),
 o 55 (.mv (tv 0)),
 o 56 (.mv (tv 1)),
 o 57 (.len false (tv 56)),
 oa 58 (.call (kf 53) [(true, (tv 55)), (false, (tv 57))] []) 3200,
 o 59 (.idxA 4 (tv 54) (tv 58)),
 o 60 (.load true 4 (tv 59)),
 oa 10 (.new [zi, zs, .nil, .nil] []) 3392,
 on (.store 4 (tv 10) (tv 60) [])] [] [0, 1, 2, 3, 8, 10])
 (.seq (.region [] [⟨(some 11), (.mv kn), none, 3520, [(0, 5)]⟩] [] [0, 1, 2, 3, 8, 10, 11])
 (.seq (.seq (.region [] [o 12 (.mv (ki 0))] [] [0, 1, 2, 3, 8, 10, 11, 12])
 (.block 1 (.loop l70_0)))
 (.seq (.region [] [o 77 (.fld 1 (tv 10)),
 o 78 (.load false 1 (tv 77)),
 o 79 (.mv (tv 11)),
 oa 80 (.call (kf 100) [(false, (tv 78)), (false, (tv 79))] []) 4992,
 on (.store 5 (tv 8) (tv 80) [])] [] [8])
 .ret))))
 .skip)))))))
 (.seq (.region [] [o 81 (.mv (tv 0)),
 o 82 (.mv (tv 1)),
 o 83 (.mv (tv 2)),
 o 84 (.mv (tv 3)),
 o 85 (.bin .sub 0 (tv 84) (ki 1)),
 oa 86 (.call (kf 70) [(true, (tv 81)), (false, (tv 82)), (false, (tv 83)), (false, (tv 85))] []) 5440,
 oa 13 (.new [zi, zs, zi, zi, .nil] []) 5504,
 on (.store 5 (tv 13) (tv 86) [])] [] [0, 1, 2, 3, 8, 13])
 (.seq (.region [] [o 87 (.load true 5 (tv 13)),
 o 88 (.mv (tv 0)),
 o 89 (.mv (tv 1)),
 o 90 (.mv (tv 2)),
 o 91 (.mv (tv 3)),
 o 92 (.bin .sub 0 (tv 91) (ki 1)),
 oa 93 (.call (kf 70) [(true, (tv 88)), (false, (tv 89)), (false, (tv 90)), (false, (tv 92))] []) 6016,
 oa 94 (.call (kf 128) [(false, (tv 87)), (false, (tv 93))] []) 6080,
 on (.store 5 (tv 8) (tv 94) [])] [(0, 6)] [8])
 .ret))))),
 [.cell 8 true 5], false⟩

def l102_0 : VCode := (.seq (.seq (.region [] [o 11 (.mv (tv 7)),
 o 12 (.mv (tv 5)),
 o 13 (.len false (tv 12)),
 o 14 (.bin .lss 0 (tv 11) (tv 13))] [] [1, 2, 4, 5, 6, 7, 14])
 (.cond (tv 14) .skip
 (.exit 0)))
 (.seq (.block 1 (.seq (.region [] [o 17 (.mv (tv 1)),
 o 18 (.mv (tv 5)),
 o 19 (.mv (tv 7)),
 o 20 (.idxA 1 (tv 18) (tv 19)),
 o 21 (.load false 1 (tv 20)),
 oa 22 (.call (kf 152) [(false, (tv 17)), (false, (tv 21))] []) 1152] [] [1, 2, 4, 5, 6, 7, 22])
 (.cond (tv 22) (.region [] [o 23 (.mv (tv 6)),
 o 24 (.mv (tv 5)),
 o 25 (.mv (tv 7)),
 o 26 (.idxA 1 (tv 24) (tv 25)),
 o 27 (.load false 1 (tv 26)),
 o 28 (.mv (tv 6)),
 o 29 (.len false (tv 28)),
 oa 30 (.call (kf 153) [(false, (tv 29))] []) 1664,
 o 31 (.build [zi, zi, zs, zi, zi, .nil] [(0, 1, (tv 27)), (1, 5, (tv 30))]),
 oa 32 (.mkSl 6 [(tv 31)]) 1792,
 o 33 (.app 6 72 false (tv 23) (tv 32)),
 o 6 (.mv (tv 33))] [(3, 6), (4, 6), (3, 7), (4, 7)] [1, 2, 4, 5, 6, 7])
 .skip)))
 (.region [1792] [o 15 (.mv (tv 7)),
 o 16 (.bin .add 0 (tv 15) (ki 1)),
 o 7 (.mv (tv 16))] [] [1, 2, 4, 5, 6, 7])))

def v102 : VFun := ⟨2,
 (.seq (.region [] [oa 2 (.box (tv 0)) 64,
 oa 4 (.new [zi, zi, zs, zi, zi, .nil] []) 128] [] [1, 2, 4])
 (.seq (.region [] [o 8 (.load true 5 (tv 2)),
 oa 9 (.mkSl 5 [(tv 8)]) 256,
 oa 10 (.call (kf 151) [(false, (tv 9))] []) 320,
 o 5 (.mv (tv 10))] [] [1, 2, 4, 5])
 (.seq (.region [256] [⟨(some 6), (.mv kn), none, 448, [(0, 6)]⟩] [] [1, 2, 4, 5, 6])
 (.seq (.seq (.region [] [o 7 (.mv (ki 0))] [] [1, 2, 4, 5, 6, 7])
 (.block 0 (.loop l102_0)))
 (.seq (.region [] [o 34 (.mv (tv 6)),
 o 35 (.len false (tv 34)),
 o 36 (.load true 5 (tv 2)),
 o 37 (.mv (tv 6)),
 oa 38 (.call (kf 154) [(false, (tv 36)), (false, (tv 37))] []) 2432,
 o 39 (.build [zi, zi, zs, zi, zi, .nil] [(0, 1, (tv 35)), (1, 5, (tv 38))]),
 on (.store 6 (tv 4) (tv 39) [])] [] [4])
 .ret))))),
 [.cell 4 true 6], false⟩

def v104 : VFun := ⟨3,
 (.seq (.region [] [oa 5 (.box (tv 2)) 64,
 o 6 (.mv kn)] [] [0, 1, 5])
 (.seq (.region [] [o 7 (.mv (tv 0)),
 oa 8 (.app 7 88 true kn (tv 7)) 256,
 o 9 (.mv (tv 1)),
 o 10 (.load true 6 (tv 5)),
 o 11 (.build [zs, zi, zi, zs, zi, zi, .nil] [(0, 1, (tv 9)), (1, 6, (tv 10))]),
 oa 12 (.mkSl 7 [(tv 11)]) 512,
 o 13 (.app 7 88 false (tv 8) (tv 12)),
 o 6 (.mv (tv 13))] [(1, 3), (1, 5)] [6])
 .ret)),
 [.tmp 6], false⟩

def v27 : VFun := ⟨2,
 (.seq (.region [] [o 4 (.mv (ki 0))] [] [0, 1])
 (.seq (.seq (.region [] [o 5 (.mv (tv 1)),
 o 6 (.bin .lss 0 (tv 5) (ki 1))] [] [0, 1, 6])
 (.cond (tv 6) (.seq (.region [] [o 4 (.mv (ki 0))] [] [4])
 .ret)
 .skip))
 (.seq (.region [] [o 7 (.mv (tv 0)),
 o 8 (.mv (tv 1)),
 o 9 (.bin .rem 0 (tv 7) (tv 8)),
 o 0 (.mv (tv 9))] [] [0, 1])
 (.seq (.seq (.region [] [o 10 (.mv (tv 0)),
 o 11 (.bin .lss 0 (tv 10) (ki 0))] [] [0, 1, 11])
 (.cond (tv 11) (.region [] [o 12 (.mv (tv 0)),
 o 13 (.mv (tv 1)),
 o 14 (.bin .add 0 (tv 12) (tv 13)),
 o 0 (.mv (tv 14))] [] [0])
 .skip))
 (.seq (.region [] [o 15 (.mv (tv 0)),
 o 4 (.mv (tv 15))] [] [4])
 .ret))))),
 [.tmp 4], false⟩

def l124_0 : VCode := (.seq (.seq (.region [] [o 10 (.mv (tv 6)),
 o 11 (.bin .geq 0 (tv 10) (ki 0))] [] [0, 1, 4, 6, 11])
 (.cond (tv 11) .skip
 (.exit 0)))
 (.seq (.block 1 (.seq (.region [] [o 14 (.mv (tv 0)),
 o 15 (.mv (tv 6)),
 o 16 (.idxA 7 (tv 14) (tv 15)),
 o 17 (.fld 0 (tv 16)),
 o 18 (.load false 1 (tv 17)),
 o 19 (.mv (tv 1)),
 o 20 (.bin .eql 0 (tv 18) (tv 19))] [] [0, 1, 4, 6, 20])
 (.cond (tv 20) (.seq (.region [] [o 21 (.mv (tv 0)),
 o 22 (.mv (tv 6)),
 o 23 (.idxA 7 (tv 21) (tv 22)),
 o 24 (.fld 1 (tv 23)),
 o 25 (.load true 6 (tv 24)),
 on (.store 6 (tv 4) (tv 25) []),
 o 5 (.mv kt)] [] [4, 5])
 .ret)
 .skip)))
 (.region [] [o 12 (.mv (tv 6)),
 o 13 (.bin .sub 0 (tv 12) (ki 1)),
 o 6 (.mv (tv 13))] [] [0, 1, 4, 6])))

def v124 : VFun := ⟨2,
 (.seq (.region [] [oa 4 (.new [zi, zi, zs, zi, zi, .nil] []) 64,
 o 5 (.mv kF)] [] [0, 1, 4])
 (.seq (.seq (.region [] [o 7 (.mv (tv 0)),
 o 8 (.len false (tv 7)),
 o 9 (.bin .sub 0 (tv 8) (ki 1)),
 o 6 (.mv (tv 9))] [] [0, 1, 4, 6])
 (.block 0 (.loop l124_0)))
 (.seq (.region [] [o 26 (.build [zi, zi, zs, zi, zi, .nil] []),
 on (.store 6 (tv 4) (tv 26) []),
 o 5 (.mv kF)] [] [4, 5])
 .ret))),
 [.cell 4 true 6, .tmp 5], false⟩

def l97_0 : VCode := (.seq (.seq (.region [] [o 9 (.mv (tv 4)),
 o 10 (.mv (tv 3)),
 o 11 (.len false (tv 10)),
 o 12 (.bin .lss 0 (tv 9) (tv 11))] [] [1, 2, 3, 4, 12])
 (.cond (tv 12) .skip
 (.exit 0)))
 (.seq (.block 1 (.region [] [o 15 (.mv (tv 3)),
 o 16 (.mv (tv 4)),
 o 17 (.mv (tv 3)),
 o 18 (.mv (tv 4)),
 o 19 (.idxA 11 (tv 17) (tv 18)),
 o 20 (.load true 11 (tv 19)),
 oa 21 (.call (kf 97) [(false, (tv 20))] []) 1088,
 o 22 (.idxA 11 (tv 15) (tv 16)),
 on (.store 11 (tv 22) (tv 21) [])] [] [1, 2, 3, 4]))
 (.region [] [o 13 (.mv (tv 4)),
 o 14 (.bin .add 0 (tv 13) (ki 1)),
 o 4 (.mv (tv 14))] [] [1, 2, 3, 4])))

def l97_1 : VCode := (.seq (.seq (.region [] [o 27 (.mv (tv 6)),
 o 28 (.fld 5 (tv 5)),
 o 29 (.load false 1 (tv 28)),
 o 30 (.len false (tv 29)),
 o 31 (.bin .lss 0 (tv 27) (tv 30))] [] [2, 5, 6, 31])
 (.cond (tv 31) .skip
 (.exit 2)))
 (.seq (.block 3 (.region [] [o 34 (.fld 5 (tv 5)),
 o 35 (.load false 1 (tv 34)),
 o 36 (.mv (tv 6)),
 o 37 (.idxA 14 (tv 35) (tv 36)),
 o 38 (.fld 0 (tv 37)),
 on (.store 1 (tv 38) (ki 0) [])] [] [2, 5, 6]))
 (.region [] [o 32 (.mv (tv 6)),
 o 33 (.bin .add 0 (tv 32) (ki 1)),
 o 6 (.mv (tv 33))] [] [2, 5, 6])))

def v97 : VFun := ⟨1,
 (.seq (.region [] [oa 1 (.box (tv 0)) 64,
 oa 2 (.new [zi, zi, zs, zi, .nil, .nil, zi, zs, zi, zi, .nil] []) 128] [] [1, 2])
 (.seq (.region [] [o 7 (.load true 11 (tv 1)),
 oa 8 (.call (kf 69) [(false, (tv 7))] []) 256,
 o 3 (.mv (tv 8))] [] [1, 2, 3])
 (.seq (.seq (.region [] [o 4 (.mv (ki 0))] [] [1, 2, 3, 4])
 (.block 0 (.loop l97_0)))
 (.seq (.region [] [o 23 (.load true 11 (tv 1)),
 o 24 (.mv (tv 3)),
 oa 25 (.call (kf 92) [(false, (tv 23)), (false, (tv 24))] []) 1600,
 oa 5 (.new [zi, zi, zs, zi, .nil, .nil, zi, zs, zi, zi, .nil] []) 1664,
 on (.store 11 (tv 5) (tv 25) [])] [] [2, 5])
 (.seq (.region [64] [o 26 (.fld 1 (tv 5)),
 on (.store 1 (tv 26) (ki 0) [])] [] [2, 5])
 (.seq (.seq (.region [] [o 6 (.mv (ki 0))] [] [2, 5, 6])
 (.block 2 (.loop l97_1)))
 (.seq (.region [] [o 39 (.load true 11 (tv 5)),
 on (.store 11 (tv 2) (tv 39) [])] [] [2])
 .ret))))))),
 [.cell 2 true 11], false⟩

def v32 : VFun := ⟨1,
 (.seq (.region [] [oa 1 (.box (tv 0)) 64,
 o 2 (.mv kn)] [] [1])
 (.seq (.region [] [o 3 (.load true 11 (tv 1)),
 oa 4 (.call (kf 83) [(false, kn), (false, kn), (false, (tv 3))] [(0, 1)]) 256,
 o 2 (.mv (tv 4))] [] [2])
 .ret)),
 [.tmp 2], false⟩

def l96_0 : VCode := (.seq (.seq (.region [] [o 51 (.mv (tv 16)),
 o 52 (.mv (tv 15)),
 o 53 (.len false (tv 52)),
 o 54 (.bin .lss 0 (tv 51) (tv 53))] [] [1, 2, 3, 4, 8, 10, 11, 12, 13, 14, 15, 16, 54])
 (.cond (tv 54) .skip
 (.exit 2)))
 (.seq (.block 3 (.seq (.region [] [o 57 (.mv (tv 14)),
 o 58 (.mv (tv 13)),
 o 59 (.len false (tv 58)),
 o 60 (.mv (tv 1)),
 oa 61 (.call (kf 29) [(false, (tv 59)), (false, (tv 60))] []) 3136,
 oa 62 (.mkSl 1 [(tv 61)]) 3200,
 o 63 (.app 1 16 false (tv 57) (tv 62)),
 o 14 (.mv (tv 63))] [] [1, 2, 3, 4, 8, 10, 11, 12, 13, 14, 15, 16])
 (.region [3200] [o 64 (.mv (tv 13)),
 o 65 (.mv (tv 15)),
 o 66 (.mv (tv 16)),
 o 67 (.idxA 1 (tv 65) (tv 66)),
 o 68 (.load false 1 (tv 67)),
 oa 69 (.mkSl 1 [(tv 68)]) 3712,
 o 70 (.app 1 16 false (tv 64) (tv 69)),
 o 13 (.mv (tv 70))] [] [1, 2, 3, 4, 8, 10, 11, 12, 13, 14, 15, 16])))
 (.region [3200, 3712] [o 55 (.mv (tv 16)),
 o 56 (.bin .add 0 (tv 55) (ki 1)),
 o 16 (.mv (tv 56))] [] [1, 2, 3, 4, 8, 10, 11, 12, 13, 14, 15, 16])))

def l96_1 : VCode := (.seq (.seq (.region [] [o 38 (.mv (tv 12)),
 o 39 (.mv (tv 10)),
 o 40 (.len false (tv 39)),
 o 41 (.bin .lss 0 (tv 38) (tv 40))] [] [1, 2, 3, 4, 8, 10, 11, 12, 41])
 (.cond (tv 41) .skip
 (.exit 0)))
 (.seq (.block 1 (.seq (.region [] [o 44 (.mv (tv 2)),
 oa 45 (.app 1 16 true kn (tv 44)) 1984,
 o 46 (.mv (tv 3)),
 oa 47 (.app 1 16 true kn (tv 46)) 2112,
 o 13 (.mv (tv 45)),
 o 14 (.mv (tv 47))] [] [1, 2, 3, 4, 8, 10, 11, 12, 13, 14])
 (.seq (.region [] [o 48 (.load true 11 (tv 4)),
 o 49 (.mv (tv 12)),
 oa 50 (.call (kf 126) [(false, (tv 48)), (false, (tv 49))] []) 2432,
 o 15 (.mv (tv 50))] [] [1, 2, 3, 4, 8, 10, 11, 12, 13, 14, 15])
 (.seq (.seq (.region [] [o 16 (.mv (ki 0))] [] [1, 2, 3, 4, 8, 10, 11, 12, 13, 14, 15, 16])
 (.block 2 (.loop l96_0)))
 (.region [] [o 71 (.mv (tv 11)),
 o 72 (.mv (tv 10)),
 o 73 (.mv (tv 12)),
 o 74 (.idxA 11 (tv 72) (tv 73)),
 o 75 (.load true 11 (tv 74)),
 o 76 (.mv (tv 1)),
 o 77 (.mv (tv 13)),
 o 78 (.mv (tv 14)),
 oa 79 (.call (kf 96) [(false, (tv 75)), (false, (tv 76)), (false, (tv 77)), (false, (tv 78))] []) 4608,
 oa 80 (.mkSl 11 [(tv 79)]) 4672,
 o 81 (.app 11 152 false (tv 71) (tv 80)),
 o 11 (.mv (tv 81))] [] [1, 2, 3, 4, 8, 10, 11, 12])))))
 (.region [1984, 2112, 4672] [o 42 (.mv (tv 12)),
 o 43 (.bin .add 0 (tv 42) (ki 1)),
 o 12 (.mv (tv 43))] [] [1, 2, 3, 4, 8, 10, 11, 12])))

def l96_2 : VCode := (.seq (.seq (.region [] [o 118 (.mv (tv 20)),
 o 119 (.mv (tv 19)),
 o 120 (.len false (tv 119)),
 o 121 (.bin .lss 0 (tv 118) (tv 120))] [] [1, 2, 8, 17, 18, 19, 20, 121])
 (.cond (tv 121) .skip
 (.exit 6)))
 (.seq (.block 7 (.region [] [o 124 (.mv (tv 19)),
 o 125 (.mv (tv 20)),
 o 126 (.mv (tv 2)),
 o 127 (.len false (tv 126)),
 o 128 (.mv (tv 20)),
 o 129 (.bin .add 0 (tv 127) (tv 128)),
 o 130 (.mv (tv 1)),
 oa 131 (.call (kf 29) [(false, (tv 129)), (false, (tv 130))] []) 8320,
 o 132 (.idxA 1 (tv 124) (tv 125)),
 on (.store 1 (tv 132) (tv 131) [])] [] [1, 2, 8, 17, 18, 19, 20]))
 (.region [] [o 122 (.mv (tv 20)),
 o 123 (.bin .add 0 (tv 122) (ki 1)),
 o 20 (.mv (tv 123))] [] [1, 2, 8, 17, 18, 19, 20])))

def l96_3 : VCode := (.seq (.seq (.region [] [o 103 (.mv (tv 18)),
 o 104 (.fld 5 (tv 17)),
 o 105 (.load false 1 (tv 104)),
 o 106 (.len false (tv 105)),
 o 107 (.bin .lss 0 (tv 103) (tv 106))] [] [1, 2, 8, 17, 18, 107])
 (.cond (tv 107) .skip
 (.exit 4)))
 (.seq (.block 5 (.seq (.region [] [o 110 (.fld 5 (tv 17)),
 o 111 (.load false 1 (tv 110)),
 o 112 (.mv (tv 18)),
 o 113 (.idxA 14 (tv 111) (tv 112)),
 o 114 (.fld 2 (tv 113)),
 o 115 (.load false 1 (tv 114)),
 o 116 (.len false (tv 115)),
 oa 117 (.mkS 1 16 [zs] (tv 116)) 7424,
 o 19 (.mv (tv 117))] [] [1, 2, 8, 17, 18, 19])
 (.seq (.seq (.region [] [o 20 (.mv (ki 0))] [] [1, 2, 8, 17, 18, 19, 20])
 (.block 6 (.loop l96_2)))
 (.region [] [o 133 (.fld 5 (tv 17)),
 o 134 (.load false 1 (tv 133)),
 o 135 (.mv (tv 18)),
 o 136 (.mvD (tv 19)),
 o 137 (.idxA 14 (tv 134) (tv 135)),
 o 138 (.fld 2 (tv 137)),
 on (.store 1 (tv 138) (tv 136) [])] [] [1, 2, 8, 17, 18]))))
 (.region [7424] [o 108 (.mv (tv 18)),
 o 109 (.bin .add 0 (tv 108) (ki 1)),
 o 18 (.mv (tv 109))] [] [1, 2, 8, 17, 18])))

def v96 : VFun := ⟨4,
 (.seq (.region [] [oa 4 (.box (tv 0)) 64,
 oa 8 (.new [zi, zi, zs, zi, .nil, .nil, zi, zs, zi, zi, .nil] []) 128] [] [1, 2, 3, 4, 8])
 (.seq (.seq (.region [] [o 21 (.fld 0 (tv 4)),
 o 22 (.load false 1 (tv 21)),
 o 23 (.bin .eql 0 (tv 22) (ki 1))] [] [1, 2, 3, 4, 8, 23])
 (.cond (tv 23) (.seq (.seq (.region [] [o 24 (.mv (tv 2)),
 o 25 (.fld 2 (tv 4)),
 o 26 (.load false 1 (tv 25)),
 oa 27 (.call (kf 125) [(false, (tv 24)), (false, (tv 26))] []) 576,
 o 9 (.mv (tv 27))] [] [3, 4, 8, 9])
 (.seq (.region [] [o 28 (.mv (tv 9)),
 o 29 (.bin .geq 0 (tv 28) (ki 0))] [] [3, 4, 8, 9, 29])
 (.cond (tv 29) (.region [] [o 30 (.mv (tv 3)),
 o 31 (.mv (tv 9)),
 o 32 (.idxA 1 (tv 30) (tv 31)),
 o 33 (.load false 1 (tv 32)),
 o 34 (.fld 2 (tv 4)),
 on (.store 1 (tv 34) (tv 33) [])] [] [4, 8])
 .skip)))
 (.seq (.region [] [o 35 (.load true 11 (tv 4)),
 on (.store 11 (tv 8) (tv 35) [])] [] [8])
 .ret))
 .skip))
 (.seq (.region [] [o 36 (.load true 11 (tv 4)),
 oa 37 (.call (kf 69) [(false, (tv 36))] []) 1408,
 o 10 (.mv (tv 37))] [] [1, 2, 3, 4, 8, 10])
 (.seq (.region [] [⟨(some 11), (.mv kn), none, 1536, [(0, 11)]⟩] [] [1, 2, 3, 4, 8, 10, 11])
 (.seq (.seq (.region [] [o 12 (.mv (ki 0))] [] [1, 2, 3, 4, 8, 10, 11, 12])
 (.block 0 (.loop l96_1)))
 (.seq (.region [] [o 82 (.load true 11 (tv 4)),
 o 83 (.mv (tv 11)),
 oa 84 (.call (kf 92) [(false, (tv 82)), (false, (tv 83))] []) 5184,
 oa 17 (.new [zi, zi, zs, zi, .nil, .nil, zi, zs, zi, zi, .nil] []) 5248,
 on (.store 11 (tv 17) (tv 84) [])] [] [1, 2, 4, 8, 17])
 (.seq (.seq (.region [] [o 85 (.fld 0 (tv 4)),
 o 86 (.load false 1 (tv 85)),
 o 87 (.bin .eql 0 (tv 86) (ki 4)),
 o 88 (.mv (tv 87)),
 og 89 (.fld 0 (tv 4)) 88 false,
 og 90 (.load false 1 (tv 89)) 88 false,
 og 91 (.bin .eql 0 (tv 90) (ki 6)) 88 false,
 o 92 (.pick (tv 88) kt (tv 91)),
 o 93 (.mv (tv 92)),
 og 94 (.fld 0 (tv 4)) 93 false,
 og 95 (.load false 1 (tv 94)) 93 false,
 og 96 (.bin .eql 0 (tv 95) (ki 7)) 93 false,
 o 97 (.pick (tv 93) kt (tv 96))] [] [1, 2, 8, 17, 97])
 (.cond (tv 97) (.region [64] [o 98 (.mv (tv 2)),
 o 99 (.len false (tv 98)),
 o 100 (.mv (tv 1)),
 oa 101 (.call (kf 29) [(false, (tv 99)), (false, (tv 100))] []) 6400,
 o 102 (.fld 2 (tv 17)),
 on (.store 1 (tv 102) (tv 101) [])] [] [1, 2, 8, 17])
 .skip))
 (.seq (.seq (.region [64] [o 18 (.mv (ki 0))] [] [1, 2, 8, 17, 18])
 (.block 4 (.loop l96_3)))
 (.seq (.region [] [o 139 (.load true 11 (tv 17)),
 on (.store 11 (tv 8) (tv 139) [])] [] [8])
 .ret))))))))),
 [.cell 8 true 11], false⟩

def l56_0 : VCode := (.block 2 (.seq (.region [] [o 27 (.mv (tv 11)),
 o 28 (.fld 2 (tv 7)),
 o 29 (.load false 1 (tv 28)),
 o 30 (.bin .eql 0 (tv 27) (tv 29))] [] [7, 8, 9, 10, 30])
 (.cond (tv 30) (.seq (.region [] [o 31 (.load false 1 (tv 9)),
 o 32 (.len false (tv 31)),
 o 33 (.mv (tv 10)),
 o 34 (.bin .add 0 (tv 32) (tv 33)),
 on (.store 1 (tv 8) (tv 34) [])] [] [8])
 .ret)
 .skip)))

def l56_1 : VCode := (.seq (.region [] [o 56 (.bin .lss 0 (tv 55) (tv 54))] [] [2, 8, 9, 13, 53, 54, 55, 56])
 (.seq (.cond (tv 56) .skip
 (.exit 3))
 (.seq (.block 4 (.seq (.region [] [o 57 (.idxA 4 (tv 53) (tv 55)),
 o 58 (.load true 4 (tv 57)),
 oa 16 (.new [zi, zs, .nil, .nil] []) 3392,
 on (.store 4 (tv 16) (tv 58) [])] [] [2, 8, 9, 13, 16, 53, 54, 55])
 (.region [] [o 59 (.mv (tv 13)),
 o 60 (.fld 3 (tv 16)),
 o 61 (.load false 1 (tv 60)),
 o 62 (.len false (tv 61)),
 o 63 (.bin .add 0 (tv 59) (tv 62)),
 o 13 (.mv (tv 63))] [] [2, 8, 9, 13, 53, 54, 55])))
 (.region [3392] [o 64 (.bin .add 0 (tv 55) (ki 1)),
 o 55 (.mv (tv 64))] [] [2, 8, 9, 13, 53, 54, 55]))))

def v56 : VFun := ⟨4,
 (.seq (.region [] [oa 7 (.box (tv 3)) 64,
 oa 8 (.new [zi] []) 128] [] [0, 1, 2, 7, 8])
 (.seq (.region [] [o 17 (.mv (tv 1)),
 oa 18 (.call (kf 99) [(false, (tv 17))] []) 256,
 oa 9 (.new [.nil] []) 320,
 on (.store 1 (tv 9) (tv 18) [])] [] [0, 2, 7, 8, 9])
 (.seq (.seq (.region [] [o 19 (.fld 0 (tv 7)),
 o 20 (.load false 1 (tv 19))] [] [0, 2, 7, 8, 9, 20])
 (.block 0 (.seq (.region [] [o 22 (.bin .eql 0 (tv 20) (ki 1)),
 o 21 (.mv (tv 22))] [] [0, 2, 7, 8, 9, 20, 21])
 (.cond (tv 21) (.seq (.seq (.region [] [o 23 (.mv (tv 2)),
 oa 24 (.call (kf 106) [(false, (tv 23))] []) 768] [] [7, 8, 9, 24])
 (.block 1 (.rangeB (tv 24) 156 1 false 25 26 (.seq (.region [] [o 10 (.mv (tv 25))] [] [7, 8, 9, 10, 26])
 (.region [] [o 11 (.mv (tv 26))] [] [7, 8, 9, 10, 11]))
 l56_0)))
 (.seq (.region [] [o 35 (.load false 1 (tv 9)),
 o 36 (.fld 2 (tv 7)),
 o 37 (.load false 1 (tv 36)),
 oa 38 (.call (kf 107) [(false, (tv 35)), (false, (tv 37))] []) 1728,
 on (.store 1 (tv 8) (tv 38) [])] [] [8])
 .ret))
 (.seq (.region [] [o 40 (.bin .eql 0 (tv 20) (ki 2)),
 o 39 (.mv (tv 40))] [] [0, 2, 7, 8, 9, 39])
 (.cond (tv 39) (.seq (.region [] [o 42 (.mv (tv 0)),
 o 43 (.fld 2 (tv 7)),
 o 44 (.load false 1 (tv 43)),
 oa 45 (.call (kf 108) [(false, (tv 42)), (false, (tv 44))] []) 2176,
 o 41 (.mv (tv 45)),
 o 46 (.ext 0 (tv 41)),
 o 47 (.ext 1 (tv 41)),
 o 48 (.ext 2 (tv 41)),
 o 12 (.mv (tv 46)),
 o 13 (.mv (tv 47)),
 o 14 (.mv (tv 48))] [] [0, 2, 8, 9, 12, 13, 14])
 (.seq (.seq (.region [64] [o 49 (.mv (tv 14)),
 o 50 (.un .not (tv 49))] [] [0, 2, 8, 9, 12, 13, 50])
 (.cond (tv 50) (.seq (.region [] [on (.store 1 (tv 8) (ki (-1)) [])] [] [8])
 .ret)
 .skip))
 (.seq (.seq (.region [] [o 51 (.mv (tv 0)),
 o 52 (.mv (tv 12)),
 o 53 (.sl 4 (tv 51) none (some (tv 52)) none),
 o 54 (.len false (tv 53)),
 o 55 (.mv (ki 0))] [] [2, 8, 9, 13, 53, 54, 55])
 (.block 3 (.loop l56_1)))
 (.seq (.region [] [o 65 (.load false 1 (tv 9)),
 o 66 (.len false (tv 65)),
 o 67 (.mv (tv 2)),
 o 68 (.len false (tv 67)),
 o 69 (.bin .add 0 (tv 66) (tv 68)),
 o 70 (.mv (tv 13)),
 o 71 (.bin .add 0 (tv 69) (tv 70)),
 on (.store 1 (tv 8) (tv 71) [])] [] [8])
 .ret))))
 .skip))))))
 (.seq (.region [] [on (.store 1 (tv 8) (ki (-1)) [])] [] [8])
 .ret)))),
 [.cell 8 false 1], false⟩

def v55 : VFun := ⟨2,
 (.seq (.region [] [o 4 (.mv (ki 0))] [] [0, 1])
 (.seq (.region [] [o 7 (.mv (tv 0)),
 oa 8 (.call (kf 105) [(false, (tv 7))] []) 192,
 o 5 (.mv (tv 8))] [] [0, 1, 5])
 (.seq (.region [] [o 9 (.mv (tv 1)),
 oa 10 (.call (kf 105) [(false, (tv 9))] []) 384,
 o 6 (.mv (tv 10))] [] [0, 1, 5, 6])
 (.seq (.seq (.region [] [o 11 (.mv (tv 5))] [] [0, 1, 6, 11])
 (.cond (tv 11) (.seq (.seq (.region [] [o 12 (.mv (tv 6))] [] [12])
 (.cond (tv 12) (.seq (.region [] [o 4 (.mv (ki 0))] [] [4])
 .ret)
 .skip))
 (.seq (.region [] [o 4 (.mv (ki (-1)))] [] [4])
 .ret))
 .skip))
 (.seq (.seq (.region [] [o 13 (.mv (tv 6))] [] [0, 1, 13])
 (.cond (tv 13) (.seq (.region [] [o 4 (.mv (ki 1))] [] [4])
 .ret)
 .skip))
 (.seq (.seq (.region [] [o 14 (.mv (tv 0)),
 o 15 (.mv (tv 1)),
 o 16 (.bin .lss 0 (tv 14) (tv 15))] [] [0, 1, 16])
 (.cond (tv 16) (.seq (.region [] [o 4 (.mv (ki (-1)))] [] [4])
 .ret)
 .skip))
 (.seq (.seq (.region [] [o 17 (.mv (tv 0)),
 o 18 (.mv (tv 1)),
 o 19 (.bin .gtr 0 (tv 17) (tv 18))] [] [19])
 (.cond (tv 19) (.seq (.region [] [o 4 (.mv (ki 1))] [] [4])
 .ret)
 .skip))
 (.seq (.region [] [o 4 (.mv (ki 0))] [] [4])
 .ret)))))))),
 [.tmp 4], false⟩

def v60 : VFun := ⟨1,
 (.seq (.region [] [oa 1 (.box (tv 0)) 64,
 o 2 (.mv (ki 0))] [] [1])
 (.seq (.seq (.region [] [o 3 (.fld 0 (tv 1)),
 o 4 (.load false 1 (tv 3))] [] [4])
 (.block 0 (.seq (.region [64] [o 6 (.bin .eql 0 (tv 4) (ki 4)),
 o 5 (.mv (tv 6))] [] [4, 5])
 (.cond (tv 5) (.seq (.region [] [o 2 (.mv (ki 0))] [] [2])
 .ret)
 (.seq (.region [] [o 8 (.bin .eql 0 (tv 4) (ki 8)),
 o 7 (.mv (tv 8))] [] [7])
 (.cond (tv 7) (.seq (.region [] [o 2 (.mv (ki 2))] [] [2])
 .ret)
 .skip))))))
 (.seq (.region [] [o 2 (.mv (ki 1))] [] [2])
 .ret))),
 [.tmp 2], false⟩

def l59_0 : VCode := (.seq (.region [] [o 9 (.bin .lss 0 (tv 8) (tv 7))] [] [3, 6, 7, 8, 9])
 (.seq (.cond (tv 9) .skip
 (.exit 0))
 (.seq (.block 1 (.seq (.region [] [o 10 (.idxA 1 (tv 6) (tv 8)),
 o 11 (.load false 1 (tv 10)),
 o 5 (.mv (tv 11))] [] [3, 5, 6, 7, 8])
 (.seq (.region [] [o 12 (.mv (tv 5)),
 o 13 (.mv (tv 3)),
 o 14 (.bin .neq 0 (tv 12) (tv 13))] [] [3, 5, 6, 7, 8, 14])
 (.cond (tv 14) (.seq (.region [] [o 15 (.mv (tv 5)),
 o 2 (.mv (tv 15))] [] [2])
 .ret)
 .skip))))
 (.region [] [o 16 (.bin .add 0 (tv 8) (ki 1)),
 o 8 (.mv (tv 16))] [] [3, 6, 7, 8]))))

def v59 : VFun := ⟨1,
 (.seq (.region [] [o 2 (.mv (ki 0))] [] [0])
 (.seq (.region [] [o 3 (.mv (ki 0))] [] [0, 3])
 (.seq (.seq (.region [] [o 6 (.mv (tv 0)),
 o 7 (.len false (tv 6)),
 o 8 (.mv (ki 0))] [] [3, 6, 7, 8])
 (.block 0 (.loop l59_0)))
 (.seq (.region [] [o 17 (.mv (tv 3)),
 o 2 (.mv (tv 17))] [] [2])
 .ret)))),
 [.tmp 2], false⟩

def v61 : VFun := ⟨1,
 (.seq (.region [] [o 2 (.mv kn)] [] [0])
 (.seq (.region [] [o 3 (.mv (tv 0)),
 o 4 (.mv (tv 0)),
 o 5 (.len false (tv 4)),
 o 6 (.mv (tv 0)),
 o 7 (.len false (tv 6)),
 o 8 (.sl 1 (tv 3) none (some (tv 5)) (some (tv 7))),
 o 2 (.mv (tv 8))] [] [2])
 .ret)),
 [.tmp 2], false⟩

def v110 : VFun := ⟨1,
 (.seq (.region [] [o 2 (.mv kF)] [] [0])
 (.seq (.region [] [o 3 (.mv (tv 0)),
 o 4 (.build [zi, zs, zi, zi, .nil] [(0, 1, (ki 4)), (1, 1, (tv 3))]),
 oa 5 (.call (kf 112) [(false, (tv 4))] []) 256,
 o 2 (.mv (tv 5))] [] [2])
 .ret)),
 [.tmp 2], false⟩

def v111 : VFun := ⟨1,
 (.seq (.region [] [o 2 (.mv kF)] [] [0])
 (.seq (.region [] [o 3 (.mv (tv 0)),
 o 4 (.build [zi, zs, zi, zi, .nil] [(0, 1, (ki 5)), (1, 1, (tv 3))]),
 oa 5 (.call (kf 112) [(false, (tv 4))] []) 256,
 o 2 (.mv (tv 5))] [] [2])
 .ret)),
 [.tmp 2], false⟩

def v112 : VFun := ⟨1,
 (.seq (.region [] [oa 1 (.box (tv 0)) 64,
 o 2 (.mv kF)] [] [1])
 (.seq (.region [] [o 4 (.fld 1 (tv 1)),
 o 5 (.load false 1 (tv 4)),
 o 6 (.bin .eql 0 (tv 5) (.k (.sc zs))),
 o 7 (.mv (tv 6)),
 og 8 (.fld 4 (tv 1)) 7 true,
 og 9 (.load false 1 (tv 8)) 7 true,
 og 10 (.len false (tv 9)) 7 true,
 og 11 (.bin .eql 0 (tv 10) (ki 0)) 7 true,
 o 12 (.pick (tv 7) (tv 11) kF),
 o 13 (.mv (tv 12)),
 og 14 (.fld 2 (tv 1)) 13 true,
 og 15 (.load false 1 (tv 14)) 13 true,
 og 16 (.bin .geq 0 (tv 15) (ki 0)) 13 true,
 o 17 (.pick (tv 13) (tv 16) kF),
 o 18 (.mv (tv 17)),
 og 19 (.fld 2 (tv 1)) 18 true,
 og 20 (.load false 1 (tv 19)) 18 true,
 og 21 (.bin .leq 0 (tv 20) (ki 1000000)) 18 true,
 o 22 (.pick (tv 18) (tv 21) kF),
 o 3 (.mv (tv 22))] [] [1, 3])
 (.seq (.seq (.region [] [o 23 (.fld 0 (tv 1)),
 o 24 (.load false 1 (tv 23))] [] [1, 3, 24])
 (.block 0 (.seq (.seq (.region [] [o 26 (.bin .eql 0 (tv 24) (ki 1)),
 o 25 (.mv (tv 26))] [] [1, 3, 24, 25])
 (.cond (tv 25) .skip
 (.region [] [o 27 (.bin .eql 0 (tv 24) (ki 2)),
 o 25 (.mv (tv 27))] [] [1, 3, 24, 25])))
 (.cond (tv 25) (.seq (.region [] [o 28 (.mv (tv 3)),
 o 29 (.mv (tv 28)),
 og 30 (.fld 3 (tv 1)) 29 true,
 og 31 (.load false 1 (tv 30)) 29 true,
 og 32 (.bin .eql 0 (tv 31) (ki 0)) 29 true,
 o 33 (.pick (tv 29) (tv 32) kF),
 o 2 (.mv (tv 33))] [] [2])
 .ret)
 (.seq (.region [] [o 35 (.bin .eql 0 (tv 24) (ki 3)),
 o 34 (.mv (tv 35))] [] [1, 3, 24, 34])
 (.cond (tv 34) (.seq (.region [] [o 36 (.mv (tv 3)),
 o 37 (.mv (tv 36)),
 og 38 (.fld 3 (tv 1)) 37 true,
 og 39 (.load false 1 (tv 38)) 37 true,
 og 40 (.bin .geq 0 (tv 39) (ki (-1))) 37 true,
 o 41 (.pick (tv 37) (tv 40) kF),
 o 42 (.mv (tv 41)),
 og 43 (.fld 3 (tv 1)) 42 true,
 og 44 (.load false 1 (tv 43)) 42 true,
 og 45 (.bin .leq 0 (tv 44) (ki 1000000)) 42 true,
 o 46 (.pick (tv 42) (tv 45) kF),
 o 2 (.mv (tv 46))] [] [2])
 .ret)
 (.seq (.region [] [o 48 (.bin .eql 0 (tv 24) (ki 5)),
 o 47 (.mv (tv 48))] [] [1, 24, 47])
 (.cond (tv 47) (.seq (.region [] [o 49 (.fld 4 (tv 1)),
 o 50 (.load false 1 (tv 49)),
 o 51 (.len false (tv 50)),
 o 52 (.bin .eql 0 (tv 51) (ki 0)),
 o 53 (.mv (tv 52)),
 og 54 (.fld 2 (tv 1)) 53 true,
 og 55 (.load false 1 (tv 54)) 53 true,
 og 56 (.bin .eql 0 (tv 55) (ki 0)) 53 true,
 o 57 (.pick (tv 53) (tv 56) kF),
 o 58 (.mv (tv 57)),
 og 59 (.fld 3 (tv 1)) 58 true,
 og 60 (.load false 1 (tv 59)) 58 true,
 og 61 (.bin .eql 0 (tv 60) (ki 0)) 58 true,
 o 62 (.pick (tv 58) (tv 61) kF),
 o 63 (.mv (tv 62)),
 og 64 (.fld 1 (tv 1)) 63 true,
 og 65 (.load false 1 (tv 64)) 63 true,
 ⟨(some 66), (.call (kf 157) [(false, (tv 65)), (false, (.k (.sc (.c (.int .u8 97))))), (false, (.k (.sc (.c (.int .u8 122)))))] []), (some (63, true)), 4416, []⟩,
 o 67 (.pick (tv 63) (tv 66) kF),
 o 2 (.mv (tv 67))] [] [2])
 .ret)
 (.seq (.region [] [o 69 (.bin .eql 0 (tv 24) (ki 4)),
 o 68 (.mv (tv 69))] [] [1, 68])
 (.cond (tv 68) (.seq (.region [] [o 70 (.fld 2 (tv 1)),
 o 71 (.load false 1 (tv 70)),
 o 72 (.bin .eql 0 (tv 71) (ki 0)),
 o 73 (.mv (tv 72)),
 og 74 (.fld 3 (tv 1)) 73 true,
 og 75 (.load false 1 (tv 74)) 73 true,
 og 76 (.bin .eql 0 (tv 75) (ki 0)) 73 true,
 o 77 (.pick (tv 73) (tv 76) kF),
 o 78 (.mv (tv 77)),
 og 79 (.fld 1 (tv 1)) 78 true,
 og 80 (.load false 1 (tv 79)) 78 true,
 og 81 (.fld 4 (tv 1)) 78 true,
 og 82 (.load false 1 (tv 81)) 78 true,
 og 83 (.len false (tv 82)) 78 true,
 ⟨(some 84), (.call (kf 158) [(false, (tv 80)), (false, (tv 83))] []), (some (78, true)), 5632, []⟩,
 o 85 (.pick (tv 78) (tv 84) kF),
 o 86 (.mv (tv 85)),
 og 87 (.fld 4 (tv 1)) 86 true,
 og 88 (.load false 1 (tv 87)) 86 true,
 ⟨(some 89), (.call (kf 159) [(false, (tv 88)), (true, (kf 160))] []), (some (86, true)), 5952, []⟩,
 og 90 (.un .not (tv 89)) 86 true,
 o 91 (.pick (tv 86) (tv 90) kF),
 o 2 (.mv (tv 91))] [] [2])
 .ret)
 .skip))))))))))
 (.seq (.region [] [o 2 (.mv kF)] [] [2])
 .ret)))),
 [.tmp 2], false⟩

def v113 : VFun := ⟨1,
 (.seq (.region [] [oa 1 (.box (tv 0)) 64,
 o 2 (.mv kF)] [] [1])
 (.seq (.seq (.region [] [o 3 (.fld 0 (tv 1)),
 o 4 (.load false 1 (tv 3)),
 o 5 (.bin .neq 0 (tv 4) (ki 4)),
 o 6 (.mv (tv 5)),
 og 7 (.fld 0 (tv 1)) 6 true,
 og 8 (.load false 1 (tv 7)) 6 true,
 og 9 (.bin .neq 0 (tv 8) (ki 5)) 6 true,
 o 10 (.pick (tv 6) (tv 9) kF)] [] [1, 10])
 (.cond (tv 10) (.seq (.region [] [o 2 (.mv kF)] [] [2])
 .ret)
 .skip))
 (.seq (.region [] [o 11 (.fld 4 (tv 1)),
 o 12 (.load false 1 (tv 11)),
 oa 13 (.call (kf 159) [(false, (tv 12)), (true, (kf 161))] []) 896,
 o 14 (.un .not (tv 13)),
 o 2 (.mv (tv 14))] [] [2])
 .ret))),
 [.tmp 2], false⟩

def v114 : VFun := ⟨2,
 (.seq (.region [] [oa 2 (.box (tv 0)) 64,
 oa 3 (.box (tv 1)) 128,
 o 4 (.mv kF)] [] [2, 3])
 (.seq (.region [] [o 5 (.load true 5 (tv 2)),
 o 6 (.load true 5 (tv 3)),
 oa 7 (.call (kf 162) [(false, (tv 5)), (false, (tv 6))] []) 384,
 o 8 (.bin .eql 0 (tv 7) (ki 0)),
 o 4 (.mv (tv 8))] [] [4])
 .ret)),
 [.tmp 4], false⟩

def v115 : VFun := ⟨2,
 (.seq (.region [] [o 4 (.mv kF)] [] [0, 1])
 (.seq (.region [] [o 5 (.mv (tv 0)),
 o 6 (.mv (tv 1)),
 oa 7 (.call (kf 163) [(false, (tv 5)), (true, (tv 6))] []) 256,
 o 8 (.bin .geq 0 (tv 7) (ki 0)),
 o 4 (.mv (tv 8))] [] [4])
 .ret)),
 [.tmp 4], false⟩

set_option maxRecDepth 100000 in
theorem m4 : mFun Go.Proofs.Tryz.prog 4 v4 = true := by kernel_rfl
set_option maxRecDepth 100000 in
theorem m133 : mFun Go.Proofs.Tryz.prog 133 v133 = true := by kernel_rfl
set_option maxRecDepth 100000 in
theorem m144 : mFun Go.Proofs.Tryz.prog 144 v144 = true := by kernel_rfl
set_option maxRecDepth 100000 in
theorem m95 : mFun Go.Proofs.Tryz.prog 95 v95 = true := by kernel_rfl
set_option maxRecDepth 100000 in
theorem m140 : mFun Go.Proofs.Tryz.prog 140 v140 = true := by kernel_rfl
set_option maxRecDepth 100000 in
theorem m12 : mFun Go.Proofs.Tryz.prog 12 v12 = true := by kernel_rfl
set_option maxRecDepth 100000 in
theorem m13 : mFun Go.Proofs.Tryz.prog 13 v13 = true := by kernel_rfl
set_option maxRecDepth 100000 in
theorem m14 : mFun Go.Proofs.Tryz.prog 14 v14 = true := by kernel_rfl
set_option maxRecDepth 100000 in
theorem m17 : mFun Go.Proofs.Tryz.prog 17 v17 = true := by kernel_rfl
set_option maxRecDepth 100000 in
theorem m15 : mFun Go.Proofs.Tryz.prog 15 v15 = true := by kernel_rfl
set_option maxRecDepth 100000 in
theorem m18 : mFun Go.Proofs.Tryz.prog 18 v18 = true := by kernel_rfl
set_option maxRecDepth 100000 in
theorem m47 : mFun Go.Proofs.Tryz.prog 47 v47 = true := by kernel_rfl
set_option maxRecDepth 100000 in
theorem m46 : mFun Go.Proofs.Tryz.prog 46 v46 = true := by kernel_rfl
set_option maxRecDepth 100000 in
theorem m48 : mFun Go.Proofs.Tryz.prog 48 v48 = true := by kernel_rfl
set_option maxRecDepth 100000 in
theorem m49 : mFun Go.Proofs.Tryz.prog 49 v49 = true := by kernel_rfl
set_option maxRecDepth 100000 in
theorem m41 : mFun Go.Proofs.Tryz.prog 41 v41 = true := by kernel_rfl
set_option maxRecDepth 100000 in
theorem m44 : mFun Go.Proofs.Tryz.prog 44 v44 = true := by kernel_rfl
set_option maxRecDepth 100000 in
theorem m23 : mFun Go.Proofs.Tryz.prog 23 v23 = true := by kernel_rfl
set_option maxRecDepth 100000 in
theorem m50 : mFun Go.Proofs.Tryz.prog 50 v50 = true := by kernel_rfl
set_option maxRecDepth 100000 in
theorem m52 : mFun Go.Proofs.Tryz.prog 52 v52 = true := by kernel_rfl
set_option maxRecDepth 100000 in
theorem m53 : mFun Go.Proofs.Tryz.prog 53 v53 = true := by kernel_rfl
set_option maxRecDepth 100000 in
theorem m51 : mFun Go.Proofs.Tryz.prog 51 v51 = true := by kernel_rfl
set_option maxRecDepth 100000 in
theorem m65 : mFun Go.Proofs.Tryz.prog 65 v65 = true := by kernel_rfl
set_option maxRecDepth 100000 in
theorem m40 : mFun Go.Proofs.Tryz.prog 40 v40 = true := by kernel_rfl
set_option maxRecDepth 100000 in
theorem m54 : mFun Go.Proofs.Tryz.prog 54 v54 = true := by kernel_rfl
set_option maxRecDepth 100000 in
theorem m57 : mFun Go.Proofs.Tryz.prog 57 v57 = true := by kernel_rfl
set_option maxRecDepth 100000 in
theorem m58 : mFun Go.Proofs.Tryz.prog 58 v58 = true := by kernel_rfl
set_option maxRecDepth 100000 in
theorem m63 : mFun Go.Proofs.Tryz.prog 63 v63 = true := by kernel_rfl
set_option maxRecDepth 100000 in
theorem m66 : mFun Go.Proofs.Tryz.prog 66 v66 = true := by kernel_rfl
set_option maxRecDepth 100000 in
theorem m100 : mFun Go.Proofs.Tryz.prog 100 v100 = true := by kernel_rfl
set_option maxRecDepth 100000 in
theorem m62 : mFun Go.Proofs.Tryz.prog 62 v62 = true := by kernel_rfl
set_option maxRecDepth 100000 in
theorem m99 : mFun Go.Proofs.Tryz.prog 99 v99 = true := by kernel_rfl
set_option maxRecDepth 100000 in
theorem m28 : mFun Go.Proofs.Tryz.prog 28 v28 = true := by kernel_rfl
set_option maxRecDepth 100000 in
theorem m71 : mFun Go.Proofs.Tryz.prog 71 v71 = true := by kernel_rfl
set_option maxRecDepth 100000 in
theorem m101 : mFun Go.Proofs.Tryz.prog 101 v101 = true := by kernel_rfl
set_option maxRecDepth 100000 in
theorem m34 : mFun Go.Proofs.Tryz.prog 34 v34 = true := by kernel_rfl
set_option maxRecDepth 100000 in
theorem m103 : mFun Go.Proofs.Tryz.prog 103 v103 = true := by kernel_rfl
set_option maxRecDepth 100000 in
theorem m70 : mFun Go.Proofs.Tryz.prog 70 v70 = true := by kernel_rfl
set_option maxRecDepth 100000 in
theorem m102 : mFun Go.Proofs.Tryz.prog 102 v102 = true := by kernel_rfl
set_option maxRecDepth 100000 in
theorem m104 : mFun Go.Proofs.Tryz.prog 104 v104 = true := by kernel_rfl
set_option maxRecDepth 100000 in
theorem m27 : mFun Go.Proofs.Tryz.prog 27 v27 = true := by kernel_rfl
set_option maxRecDepth 100000 in
theorem m124 : mFun Go.Proofs.Tryz.prog 124 v124 = true := by kernel_rfl
set_option maxRecDepth 100000 in
theorem m97 : mFun Go.Proofs.Tryz.prog 97 v97 = true := by kernel_rfl
set_option maxRecDepth 100000 in
theorem m32 : mFun Go.Proofs.Tryz.prog 32 v32 = true := by kernel_rfl
set_option maxRecDepth 100000 in
theorem m96 : mFun Go.Proofs.Tryz.prog 96 v96 = true := by kernel_rfl
set_option maxRecDepth 100000 in
theorem m56 : mFun Go.Proofs.Tryz.prog 56 v56 = true := by kernel_rfl
set_option maxRecDepth 100000 in
theorem m55 : mFun Go.Proofs.Tryz.prog 55 v55 = true := by kernel_rfl
set_option maxRecDepth 100000 in
theorem m60 : mFun Go.Proofs.Tryz.prog 60 v60 = true := by kernel_rfl
set_option maxRecDepth 100000 in
theorem m59 : mFun Go.Proofs.Tryz.prog 59 v59 = true := by kernel_rfl
set_option maxRecDepth 100000 in
theorem m61 : mFun Go.Proofs.Tryz.prog 61 v61 = true := by kernel_rfl
set_option maxRecDepth 100000 in
theorem m110 : mFun Go.Proofs.Tryz.prog 110 v110 = true := by kernel_rfl
set_option maxRecDepth 100000 in
theorem m111 : mFun Go.Proofs.Tryz.prog 111 v111 = true := by kernel_rfl
set_option maxRecDepth 100000 in
theorem m112 : mFun Go.Proofs.Tryz.prog 112 v112 = true := by kernel_rfl
set_option maxRecDepth 100000 in
theorem m113 : mFun Go.Proofs.Tryz.prog 113 v113 = true := by kernel_rfl
set_option maxRecDepth 100000 in
theorem m114 : mFun Go.Proofs.Tryz.prog 114 v114 = true := by kernel_rfl
set_option maxRecDepth 100000 in
theorem m115 : mFun Go.Proofs.Tryz.prog 115 v115 = true := by kernel_rfl

end Go.Vs.Tryz
