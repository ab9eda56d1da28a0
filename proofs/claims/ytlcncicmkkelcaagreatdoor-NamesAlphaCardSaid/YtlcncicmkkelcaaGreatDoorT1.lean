/- Functions of the program in the language of the value semantics, part 1 (printed by a program of mine), and that they match. (Parts of one proof, put together.) -/
import Derived.Test.YtlcncicmkkelcaaGreatDoorM3
import Derived.Test.YtlcncicmkkelcaaGreatDoorProg
import Derived.KernelRfl
set_option linter.unusedSimpArgs false
set_option linter.unusedVariables false
set_option linter.deprecated false

/- Functions of the program in the language of the value semantics, part 1 (printed by a program of mine), and that they match. -/
namespace Go.Vs.Tryz
open Go Go.Vs

def v5 : VFun := ⟨3,
 (.seq (.region [] [o 6 (.mv kF)] [] [0, 1, 2])
 (.seq (.seq (.region [] [oa 11 (.call (kf 19) [] []) 128,
 o 12 (.un .not (tv 11))] [] [0, 1, 2, 12])
 (.cond (tv 12) (.seq (.region [] [o 6 (.mv kF)] [] [6])
 .ret)
 .skip))
 (.seq (.seq (.region [] [o 13 (.mv (tv 1)),
 oa 14 (.call (kf 13) [(false, (tv 13))] []) 384,
 o 15 (.un .not (tv 14))] [] [0, 1, 2, 15])
 (.cond (tv 15) (.seq (.region [] [o 6 (.mv kt)] [] [6])
 .ret)
 .skip))
 (.seq (.region [] [o 17 (.mv (tv 0)),
 o 18 (.mv (tv 1)),
 oa 19 (.call (kf 20) [(false, (tv 17)), (false, (tv 18))] []) 704,
 o 16 (.mv (tv 19)),
 o 20 (.ext 0 (tv 16)),
 o 21 (.ext 1 (tv 16)),
 o 22 (.ext 2 (tv 16)),
 oa 7 (.new [zi, zi, zs, zi, .nil, .nil, zi, zs, zi, zi, .nil] []) 1024,
 oa 8 (.new [zi, zi, zs, zi, .nil, .nil, zi, zs, zi, zi, .nil] []) 1088,
 on (.store 11 (tv 7) (tv 20) []),
 on (.store 11 (tv 8) (tv 21) []),
 o 9 (.mv (tv 22))] [] [0, 2, 7, 8, 9])
 (.seq (.seq (.region [] [o 23 (.load true 11 (tv 7)),
 oa 24 (.call (kf 21) [(false, (tv 23))] []) 1408,
 o 25 (.un .not (tv 24)),
 o 26 (.mv (tv 25)),
 og 27 (.load true 11 (tv 8)) 26 false,
 ⟨(some 28), (.call (kf 21) [(false, (tv 27))] []), (some (26, false)), 1664, []⟩,
 og 29 (.un .not (tv 28)) 26 false,
 o 30 (.pick (tv 26) kt (tv 29))] [] [0, 2, 7, 8, 9, 30])
 (.cond (tv 30) (.seq (.region [] [o 6 (.mv kt)] [] [6])
 .ret)
 .skip))
 (.seq (.region [] [o 31 (.mv (tv 9)),
 o 32 (.mv (tv 0)),
 oa 33 (.call (kf 23) [(false, (tv 32))] []) 2048,
 oa 34 (.call (kf 22) [(true, (tv 31)), (false, (tv 33)), (false, (ki 2))] []) 2112,
 oa 10 (.new [zi, zi, zs, zi, .nil, .nil, zi, zs, zi, zi, .nil] []) 2176,
 on (.store 11 (tv 10) (tv 34) [])] [] [2, 7, 8, 10])
 (.seq (.seq (.region [] [o 35 (.load true 11 (tv 10)),
 oa 36 (.call (kf 21) [(false, (tv 35))] []) 2368,
 o 37 (.un .not (tv 36))] [] [2, 7, 8, 10, 37])
 (.cond (tv 37) (.seq (.region [] [o 6 (.mv kt)] [] [6])
 .ret)
 .skip))
 (.seq (.region [] [o 38 (.load true 11 (tv 7)),
 o 39 (.load true 11 (tv 8)),
 oa 40 (.call (kf 24) [(false, (tv 38)), (false, (tv 39))] []) 2688,
 o 41 (.load true 11 (tv 7)),
 o 42 (.load true 11 (tv 8)),
 oa 43 (.call (kf 18) [(false, (tv 41)), (false, (tv 42))] []) 2880,
 o 44 (.bin .eql 1 (tv 40) (tv 43)),
 o 45 (.mv (tv 44)),
 og 46 (.load true 11 (tv 8)) 45 true,
 og 47 (.load true 11 (tv 10)) 45 true,
 ⟨(some 48), (.call (kf 24) [(false, (tv 46)), (false, (tv 47))] []), (some (45, true)), 3200, []⟩,
 og 49 (.load true 11 (tv 8)) 45 true,
 og 50 (.load true 11 (tv 10)) 45 true,
 ⟨(some 51), (.call (kf 18) [(false, (tv 49)), (false, (tv 50))] []), (some (45, true)), 3392, []⟩,
 og 52 (.bin .eql 1 (tv 48) (tv 51)) 45 true,
 o 53 (.pick (tv 45) (tv 52) kF),
 o 54 (.mv (tv 53)),
 og 55 (.load true 11 (tv 7)) 54 true,
 og 56 (.load true 11 (tv 7)) 54 true,
 og 57 (.mv (tv 2)) 54 true,
 ⟨(some 58), (.call (kf 25) [(false, (tv 56)), (false, (tv 57))] []), (some (54, true)), 3840, []⟩,
 ⟨(some 59), (.call (kf 24) [(false, (tv 55)), (false, (tv 58))] []), (some (54, true)), 3904, []⟩,
 o 60 (.pick (tv 54) (tv 59) kF),
 o 61 (.mv (tv 60)),
 og 62 (.load true 11 (tv 8)) 61 true,
 og 63 (.mv (tv 2)) 61 true,
 ⟨(some 64), (.call (kf 25) [(false, (tv 62)), (false, (tv 63))] []), (some (61, true)), 4224, []⟩,
 og 65 (.load true 11 (tv 8)) 61 true,
 ⟨(some 66), (.call (kf 24) [(false, (tv 64)), (false, (tv 65))] []), (some (61, true)), 4352, []⟩,
 o 67 (.pick (tv 61) (tv 66) kF),
 o 68 (.mv (tv 67)),
 og 69 (.load true 11 (tv 10)) 68 true,
 og 70 (.load true 11 (tv 10)) 68 true,
 ⟨(some 71), (.call (kf 24) [(false, (tv 69)), (false, (tv 70))] []), (some (68, true)), 4672, []⟩,
 o 72 (.pick (tv 68) (tv 71) kF),
 o 6 (.mv (tv 72))] [(0, 1), (0, 3), (1, 3), (2, 3), (0, 4), (1, 4), (2, 4), (3, 4), (8, 9), (8, 11), (9, 11), (10, 11), (8, 12), (9, 12), (10, 12), (11, 12), (17, 18), (17, 20), (24, 27), (26, 27), (31, 32)] [6])
 .ret)))))))),
 [.tmp 6], false⟩

def v133 : VFun := ⟨1,
 (.seq (.region [] [o 2 (.mv kn)] [] [0])
 (.seq (.seq (.region [] [o 3 (.mv (tv 0)),
 o 4 (.bin .eql 2 (tv 3) kn)] [] [0, 4])
 (.cond (tv 4) (.seq (.region [] [o 2 (.mv kn)] [] [2])
 .ret)
 .skip))
 (.seq (.region [] [o 5 .mkE,
 o 6 (.mv (tv 0)),
 oa 7 (.appF 2 32 (tv 5) (tv 6)) 448,
 o 2 (.mv (tv 7))] [] [2])
 .ret))),
 [.tmp 2], true⟩

def v144 : VFun := ⟨1,
 (.seq (.region [] [o 2 (.mv kn)] [] [0])
 (.seq (.seq (.region [] [o 3 (.mv (tv 0)),
 o 4 (.bin .eql 2 (tv 3) kn)] [] [0, 4])
 (.cond (tv 4) (.seq (.region [] [o 2 (.mv kn)] [] [2])
 .ret)
 .skip))
 (.seq (.region [] [o 5 .mkE,
 o 6 (.mv (tv 0)),
 oa 7 (.appF 14 200 (tv 5) (tv 6)) 448,
 o 2 (.mv (tv 7))] [] [2])
 .ret))),
 [.tmp 2], true⟩

def v95 : VFun := ⟨1,
 (.seq (.region [] [o 2 (.mv kn)] [] [0])
 (.seq (.seq (.region [] [o 3 (.mv (tv 0)),
 o 4 (.bin .eql 2 (tv 3) kn)] [] [0, 4])
 (.cond (tv 4) (.seq (.region [] [o 2 (.mv kn)] [] [2])
 .ret)
 .skip))
 (.seq (.region [] [o 5 .mkE,
 o 6 (.mv (tv 0)),
 oa 7 (.appF 1 16 (tv 5) (tv 6)) 448,
 o 2 (.mv (tv 7))] [] [2])
 .ret))),
 [.tmp 2], true⟩

def v140 : VFun := ⟨1,
 (.seq (.region [] [o 2 (.mv kn)] [] [0])
 (.seq (.seq (.region [] [o 3 (.mv (tv 0)),
 o 4 (.bin .eql 2 (tv 3) kn)] [] [0, 4])
 (.cond (tv 4) (.seq (.region [] [o 2 (.mv kn)] [] [2])
 .ret)
 .skip))
 (.seq (.region [] [o 5 .mkE,
 o 6 (.mv (tv 0)),
 oa 7 (.appF 11 152 (tv 5) (tv 6)) 448,
 o 2 (.mv (tv 7))] [] [2])
 .ret))),
 [.tmp 2], true⟩

def v19 : VFun := ⟨0,
 (.seq (.region [] [o 0 (.mv kF)] [] [1000000])
 (.seq (.region [] [oa 2 (.call (kf 67) [(false, (.k (.sc (.c (.str [92, 121, 46, 32, 120, 32, 121])))))] []) 128,
 oa 3 (.call (kf 67) [(false, (.k (.sc (.c (.str [121])))))] []) 192,
 oa 4 (.call (kf 31) [(false, (tv 2)), (false, (.k (.sc (.c (.str [120]))))), (false, (tv 3))] []) 256,
 oa 1 (.new [zi, zi, zs, zi, .nil, .nil, zi, zs, zi, zi, .nil] []) 320,
 on (.store 11 (tv 1) (tv 4) [])] [] [1])
 (.seq (.region [] [oa 5 (.call (kf 67) [(false, (.k (.sc (.c (.str [92, 120, 46, 32, 92, 121, 46, 32, 120])))))] []) 448,
 oa 6 (.call (kf 67) [(false, (.k (.sc (.c (.str [92, 97, 46, 32, 92, 98, 46, 32, 97])))))] []) 512,
 oa 7 (.call (kf 24) [(false, (tv 5)), (false, (tv 6))] []) 576,
 o 8 (.mv (tv 7)),
 ⟨(some 9), (.call (kf 67) [(false, (.k (.sc (.c (.str [92, 120, 46, 32, 92, 121, 46, 32, 120])))))] []), (some (8, true)), 704, []⟩,
 ⟨(some 10), (.call (kf 67) [(false, (.k (.sc (.c (.str [92, 97, 46, 32, 92, 98, 46, 32, 98])))))] []), (some (8, true)), 768, []⟩,
 ⟨(some 11), (.call (kf 24) [(false, (tv 9)), (false, (tv 10))] []), (some (8, true)), 832, []⟩,
 og 12 (.un .not (tv 11)) 8 true,
 o 13 (.pick (tv 8) (tv 12) kF),
 o 14 (.mv (tv 13)),
 og 15 (.load true 11 (tv 1)) 14 true,
 ⟨(some 16), (.call (kf 67) [(false, (.k (.sc (.c (.str [92, 118, 49, 46, 32, 121, 32, 118, 49])))))] []), (some (14, true)), 1152, []⟩,
 ⟨(some 17), (.call (kf 35) [(false, (tv 15)), (false, (tv 16))] []), (some (14, true)), 1216, []⟩,
 o 18 (.pick (tv 14) (tv 17) kF),
 o 19 (.mv (tv 18)),
 ⟨(some 20), (.call (kf 67) [(false, (.k (.sc (.c (.str [102, 32, 40, 92, 120, 46, 32, 120, 32, 121, 41])))))] []), (some (19, true)), 1408, []⟩,
 ⟨(some 21), (.call (kf 30) [(false, (tv 20))] []), (some (19, true)), 1472, []⟩,
 ⟨(some 22), (.mkSl 1 [(.k (.sc (.c (.str [102])))), (.k (.sc (.c (.str [121]))))]), (some (19, true)), 1536, []⟩,
 ⟨(some 23), (.call (kf 68) [(false, (tv 21)), (false, (tv 22))] []), (some (19, true)), 1600, []⟩,
 o 24 (.pick (tv 19) (tv 23) kF),
 o 0 (.mv (tv 24))] [(10, 11), (15, 17), (16, 17)] [0])
 .ret))),
 [.tmp 0], false⟩

def v13 : VFun := ⟨1,
 (.seq (.region [] [o 2 (.mv kF)] [] [0])
 (.seq (.region [] [o 3 (.mv (tv 0)),
 o 4 (.len false (tv 3)),
 o 5 (.bin .leq 0 (tv 4) (ki 60)),
 o 2 (.mv (tv 5))] [] [2])
 .ret)),
 [.tmp 2], false⟩

def v20 : VFun := ⟨2,
 (.seq (.region [] [oa 4 (.new [zi, zi, zs, zi, .nil, .nil, zi, zs, zi, zi, .nil] []) 64,
 oa 5 (.new [zi, zi, zs, zi, .nil, .nil, zi, zs, zi, zi, .nil] []) 128,
 o 6 (.mv (.k (.sc (.c .nilptr))))] [] [0, 1, 4, 5])
 (.seq (.region [] [o 9 (.mv (tv 1)),
 o 10 (.build [.nil, zi] [(0, 1, (tv 9))]),
 oa 11 (.box (tv 10)) 384,
 o 7 (.mv (tv 11))] [] [0, 4, 5, 7])
 (.seq (.region [] [o 12 (.mv (tv 7)),
 o 13 (.mv (tv 0)),
 oa 14 (.call (kf 23) [(false, (tv 13))] []) 640,
 oa 15 (.call (kf 22) [(true, (tv 12)), (false, (tv 14)), (false, (ki 4))] []) 704,
 oa 8 (.new [zi, zi, zs, zi, .nil, .nil, zi, zs, zi, zi, .nil] []) 768,
 on (.store 11 (tv 8) (tv 15) [])] [] [0, 4, 5, 7, 8])
 (.seq (.region [] [o 16 (.load true 11 (tv 8)),
 o 17 (.mv (tv 7)),
 o 18 (.mv (tv 0)),
 oa 19 (.call (kf 23) [(false, (tv 18))] []) 1088,
 oa 20 (.call (kf 22) [(true, (tv 17)), (false, (tv 19)), (false, (ki 3))] []) 1152,
 o 21 (.mv (tv 7)),
 on (.store 11 (tv 4) (tv 16) []),
 on (.store 11 (tv 5) (tv 20) []),
 o 6 (.mv (tv 21))] [(0, 3), (0, 4)] [4, 5, 6])
 .ret)))),
 [.cell 4 true 11, .cell 5 true 11, .tmp 6], true⟩

def l21_0 : VCode := (.seq (.seq (.region [] [o 28 (.mv (tv 6)),
 o 29 (.mv (tv 5)),
 o 30 (.bin .lss 0 (tv 28) (tv 29))] [] [1, 3, 4, 5, 6, 30])
 (.cond (tv 30) .skip
 (.exit 4)))
 (.seq (.block 5 (.seq (.region [] [o 33 (.mv (tv 4)),
 o 34 (.mv (tv 6)),
 o 35 (.idxA 1 (tv 33) (tv 34)),
 o 36 (.load false 1 (tv 35)),
 o 37 (.mv (tv 4)),
 o 38 (.mv (tv 5)),
 o 39 (.idxA 1 (tv 37) (tv 38)),
 o 40 (.load false 1 (tv 39)),
 o 41 (.bin .eql 0 (tv 36) (tv 40))] [(2, 6), (3, 6), (2, 7), (3, 7)] [1, 3, 4, 5, 6, 41])
 (.cond (tv 41) (.seq (.region [] [o 2 (.mv kF)] [] [2])
 .ret)
 .skip)))
 (.region [] [o 31 (.mv (tv 6)),
 o 32 (.bin .add 0 (tv 31) (ki 1)),
 o 6 (.mv (tv 32))] [] [1, 3, 4, 5, 6])))

def l21_1 : VCode := (.seq (.seq (.region [] [o 22 (.mv (tv 5)),
 o 23 (.mv (tv 4)),
 o 24 (.len false (tv 23)),
 o 25 (.bin .lss 0 (tv 22) (tv 24))] [] [1, 3, 4, 5, 25])
 (.cond (tv 25) .skip
 (.exit 2)))
 (.seq (.block 3 (.seq (.region [] [o 6 (.mv (ki 0))] [] [1, 3, 4, 5, 6])
 (.block 4 (.loop l21_0))))
 (.region [] [o 26 (.mv (tv 5)),
 o 27 (.bin .add 0 (tv 26) (ki 1)),
 o 5 (.mv (tv 27))] [] [1, 3, 4, 5])))

def l21_2 : VCode := (.seq (.seq (.region [] [o 9 (.mv (tv 3)),
 o 10 (.fld 5 (tv 1)),
 o 11 (.load false 1 (tv 10)),
 o 12 (.len false (tv 11)),
 o 13 (.bin .lss 0 (tv 9) (tv 12))] [] [1, 3, 13])
 (.cond (tv 13) .skip
 (.exit 0)))
 (.seq (.block 1 (.seq (.region [] [o 16 (.fld 5 (tv 1)),
 o 17 (.load false 1 (tv 16)),
 o 18 (.mv (tv 3)),
 o 19 (.idxA 14 (tv 17) (tv 18)),
 o 20 (.fld 2 (tv 19)),
 o 21 (.load false 1 (tv 20)),
 o 4 (.mv (tv 21))] [] [1, 3, 4])
 (.seq (.region [] [o 5 (.mv (ki 0))] [] [1, 3, 4, 5])
 (.block 2 (.loop l21_1)))))
 (.region [] [o 14 (.mv (tv 3)),
 o 15 (.bin .add 0 (tv 14) (ki 1)),
 o 3 (.mv (tv 15))] [] [1, 3])))

def l21_3 : VCode := (.seq (.seq (.region [] [o 44 (.mv (tv 8)),
 o 45 (.mv (tv 7)),
 o 46 (.len false (tv 45)),
 o 47 (.bin .lss 0 (tv 44) (tv 46))] [] [7, 8, 47])
 (.cond (tv 47) .skip
 (.exit 6)))
 (.seq (.block 7 (.seq (.region [] [o 50 (.mv (tv 7)),
 o 51 (.mv (tv 8)),
 o 52 (.idxA 11 (tv 50) (tv 51)),
 o 53 (.load true 11 (tv 52)),
 oa 54 (.call (kf 21) [(false, (tv 53))] []) 3584,
 o 55 (.un .not (tv 54))] [] [7, 8, 55])
 (.cond (tv 55) (.seq (.region [] [o 2 (.mv kF)] [] [2])
 .ret)
 .skip)))
 (.region [] [o 48 (.mv (tv 8)),
 o 49 (.bin .add 0 (tv 48) (ki 1)),
 o 8 (.mv (tv 49))] [] [7, 8])))

def v21 : VFun := ⟨1,
 (.seq (.region [] [oa 1 (.box (tv 0)) 64,
 o 2 (.mv kF)] [] [1])
 (.seq (.seq (.region [] [o 3 (.mv (ki 0))] [] [1, 3])
 (.block 0 (.loop l21_2)))
 (.seq (.region [] [o 42 (.load true 11 (tv 1)),
 oa 43 (.call (kf 69) [(false, (tv 42))] []) 2880,
 o 7 (.mv (tv 43))] [] [7])
 (.seq (.seq (.region [64] [o 8 (.mv (ki 0))] [] [7, 8])
 (.block 6 (.loop l21_3)))
 (.seq (.region [] [o 2 (.mv kt)] [] [2])
 .ret))))),
 [.tmp 2], false⟩

def l23_0 : VCode := (.seq (.seq (.region [] [o 21 (.mv (tv 5)),
 o 22 (.mv (tv 3)),
 o 23 (.len false (tv 22)),
 o 24 (.bin .lss 0 (tv 21) (tv 23))] [] [0, 3, 4, 5, 24])
 (.cond (tv 24) .skip
 (.exit 0)))
 (.seq (.block 1 (.seq (.region [] [o 27 (.mv (tv 5)),
 o 28 (.bin .neq 0 (tv 27) (ki 1)),
 o 29 (.mv (tv 28)),
 og 30 (.mv (tv 0)) 29 true,
 og 31 (.mv (tv 5)) 29 true,
 og 32 (.cvI .u64 (tv 31)) 29 true,
 og 33 (.bin .shr 0 (tv 30) (tv 32)) 29 true,
 og 34 (.bin .and 0 (tv 33) (ki 1)) 29 true,
 og 35 (.bin .eql 0 (tv 34) (ki 1)) 29 true,
 o 36 (.pick (tv 29) (tv 35) kF)] [] [0, 3, 4, 5, 36])
 (.cond (tv 36) (.region [] [o 37 (.mv (tv 4)),
 o 38 (.mv (tv 3)),
 o 39 (.mv (tv 5)),
 o 40 (.idxA 4 (tv 38) (tv 39)),
 o 41 (.load true 4 (tv 40)),
 oa 42 (.mkSl 4 [(tv 41)]) 2560,
 o 43 (.app 4 72 false (tv 37) (tv 42)),
 o 4 (.mv (tv 43))] [] [0, 3, 4, 5])
 .skip)))
 (.region [2560] [o 25 (.mv (tv 5)),
 o 26 (.bin .add 0 (tv 25) (ki 1)),
 o 5 (.mv (tv 26))] [] [0, 3, 4, 5])))

def v23 : VFun := ⟨1,
 (.seq (.region [] [o 2 (.mv kn)] [] [0])
 (.seq (.region [] [oa 6 (.call (kf 71) [] []) 128,
 o 3 (.mv (tv 6))] [] [0, 3])
 (.seq (.region [] [⟨(some 4), (.mv kn), none, 256, [(0, 4)]⟩] [] [0, 3, 4])
 (.seq (.seq (.region [] [o 7 (.mv (tv 0)),
 o 8 (.bin .and 0 (tv 7) (ki 2)),
 o 9 (.bin .neq 0 (tv 8) (ki 0)),
 o 10 (.mv (tv 9)),
 og 11 (.mv (tv 0)) 10 false,
 og 12 (.bin .and 0 (tv 11) (ki 64)) 10 false,
 og 13 (.bin .neq 0 (tv 12) (ki 0)) 10 false,
 o 14 (.pick (tv 10) kt (tv 13))] [] [0, 3, 4, 14])
 (.cond (tv 14) (.region [] [o 15 (.mv (tv 4)),
 o 16 (.mv (tv 3)),
 o 17 (.idxA 4 (tv 16) (ki 1)),
 o 18 (.load true 4 (tv 17)),
 oa 19 (.mkSl 4 [(tv 18)]) 1088,
 o 20 (.app 4 72 false (tv 15) (tv 19)),
 o 4 (.mv (tv 20))] [] [0, 3, 4])
 .skip))
 (.seq (.seq (.region [1088] [o 5 (.mv (ki 0))] [] [0, 3, 4, 5])
 (.block 0 (.loop l23_0)))
 (.seq (.region [] [o 44 (.mv (tv 4)),
 o 2 (.mv (tv 44))] [] [2])
 .ret)))))),
 [.tmp 2], false⟩

def l22_0 : VCode := (.seq (.seq (.region [] [o 171 (.mv (tv 17)),
 o 172 (.fld 3 (tv 13)),
 o 173 (.load false 1 (tv 172)),
 o 174 (.mv (tv 15)),
 o 175 (.idxA 3 (tv 173) (tv 174)),
 o 176 (.fld 2 (tv 175)),
 o 177 (.load false 1 (tv 176)),
 o 178 (.len false (tv 177)),
 o 179 (.bin .lss 0 (tv 171) (tv 178))] [] [0, 1, 2, 6, 13, 14, 15, 16, 17, 179])
 (.cond (tv 179) .skip
 (.exit 3)))
 (.seq (.block 4 (.region [] [o 182 (.fld 2 (tv 16)),
 o 183 (.load false 1 (tv 182)),
 o 184 (.mv (tv 0)),
 oa 185 (.call (kf 34) [(true, (tv 184))] []) 12672,
 oa 186 (.mkSl 1 [(tv 185)]) 12736,
 o 187 (.app 1 16 false (tv 183) (tv 186)),
 o 188 (.fld 2 (tv 16)),
 on (.store 1 (tv 188) (tv 187) [])] [(0, 3), (1, 3), (0, 4), (1, 4)] [0, 1, 2, 6, 13, 14, 15, 16, 17]))
 (.region [12736] [o 180 (.mv (tv 17)),
 o 181 (.bin .add 0 (tv 180) (ki 1)),
 o 17 (.mv (tv 181))] [] [0, 1, 2, 6, 13, 14, 15, 16, 17])))

def l22_1 : VCode := (.seq (.seq (.region [] [o 157 (.mv (tv 15)),
 o 158 (.fld 3 (tv 13)),
 o 159 (.load false 1 (tv 158)),
 o 160 (.len false (tv 159)),
 o 161 (.bin .lss 0 (tv 157) (tv 160))] [] [0, 1, 2, 6, 13, 14, 15, 161])
 (.cond (tv 161) .skip
 (.exit 1)))
 (.seq (.block 2 (.seq (.region [] [o 164 (.fld 3 (tv 13)),
 o 165 (.load false 1 (tv 164)),
 o 166 (.mv (tv 15)),
 o 167 (.idxA 3 (tv 165) (tv 166)),
 o 168 (.fld 1 (tv 167)),
 o 169 (.load false 1 (tv 168)),
 o 170 (.build [zi, zs, .nil, zi, zi, zs, zi, .nil, .nil, zi, zs, zi, zi, .nil] [(1, 1, (tv 169))]),
 oa 16 (.new [zi, zs, .nil, zi, zi, zs, zi, .nil, .nil, zi, zs, zi, zi, .nil] []) 11712,
 ⟨none, (.store 14 (tv 16) (tv 170) [(2, 1)]), none, 11776, []⟩] [] [0, 1, 2, 6, 13, 14, 15, 16])
 (.seq (.seq (.region [] [o 17 (.mv (ki 0))] [] [0, 1, 2, 6, 13, 14, 15, 16, 17])
 (.block 3 (.loop l22_0)))
 (.seq (.region [] [o 189 (.mv (tv 0)),
 o 190 (.mv (tv 1)),
 o 191 (.mv (tv 2)),
 o 192 (.bin .sub 0 (tv 191) (ki 1)),
 oa 193 (.call (kf 22) [(true, (tv 189)), (false, (tv 190)), (false, (tv 192))] []) 13440,
 o 194 (.fld 3 (tv 16)),
 on (.store 11 (tv 194) (tv 193) [])] [] [0, 1, 2, 6, 13, 14, 15, 16])
 (.region [] [o 195 (.fld 5 (tv 14)),
 o 196 (.load false 1 (tv 195)),
 o 197 (.ldD true 14 (tv 16)),
 oa 198 (.mkSl 14 [(tv 197)]) 13824,
 o 199 (.app 14 200 false (tv 196) (tv 198)),
 o 200 (.fld 5 (tv 14)),
 on (.store 1 (tv 200) (tv 199) [])] [] [0, 1, 2, 6, 13, 14, 15])))))
 (.region [11712, 11776, 11779, 13824] [o 162 (.mv (tv 15)),
 o 163 (.bin .add 0 (tv 162) (ki 1)),
 o 15 (.mv (tv 163))] [] [0, 1, 2, 6, 13, 14, 15])))

def v22 : VFun := ⟨3,
 (.seq (.region [] [oa 6 (.new [zi, zi, zs, zi, .nil, .nil, zi, zs, zi, zi, .nil] []) 64] [] [0, 1, 2, 6])
 (.seq (.region [] [o 18 (.mv (tv 0)),
 oa 19 (.call (kf 53) [(true, (tv 18)), (false, (ki 14))] []) 192,
 o 7 (.mv (tv 19))] [] [0, 1, 2, 6, 7])
 (.seq (.seq (.region [] [o 20 (.mv (tv 2)),
 o 21 (.bin .lss 0 (tv 20) (ki 1))] [] [0, 1, 2, 6, 7, 21])
 (.cond (tv 21) (.region [] [o 22 (.mv (tv 7)),
 o 23 (.bin .rem 0 (tv 22) (ki 5)),
 o 7 (.mv (tv 23))] [] [0, 1, 2, 6, 7])
 .skip))
 (.seq (.seq (.region [] [o 24 (.mv (tv 7))] [] [0, 1, 2, 6, 24])
 (.block 0 (.seq (.seq (.region [] [o 26 (.bin .eql 0 (tv 24) (ki 0)),
 o 25 (.mv (tv 26))] [] [0, 1, 2, 6, 24, 25])
 (.cond (tv 25) .skip
 (.region [] [o 27 (.bin .eql 0 (tv 24) (ki 1)),
 o 25 (.mv (tv 27))] [] [0, 1, 2, 6, 24, 25])))
 (.cond (tv 25) (.seq (.region [] [o 28 (.mv (tv 0)),
 oa 29 (.call (kf 34) [(true, (tv 28))] []) 1024,
 o 30 (.build [zi, zi, zs, zi, .nil, .nil, zi, zs, zi, zi, .nil] [(0, 1, (ki 1)), (2, 1, (tv 29))]),
 on (.store 11 (tv 6) (tv 30) [])] [] [6])
 .ret)
 (.seq (.region [] [o 32 (.bin .eql 0 (tv 24) (ki 2)),
 o 31 (.mv (tv 32))] [] [0, 1, 2, 6, 24, 31])
 (.cond (tv 31) (.seq (.region [] [o 33 (.mv (tv 0)),
 oa 34 (.call (kf 53) [(true, (tv 33)), (false, (ki 4))] []) 1408,
 o 35 (.build [zi, zi, zs, zi, .nil, .nil, zi, zs, zi, zi, .nil] [(0, 1, (ki 3)), (3, 1, (tv 34))]),
 on (.store 11 (tv 6) (tv 35) [])] [] [6])
 .ret)
 (.seq (.region [] [o 37 (.bin .eql 0 (tv 24) (ki 3)),
 o 36 (.mv (tv 37))] [] [0, 1, 2, 6, 24, 36])
 (.cond (tv 36) (.seq (.seq (.region [] [o 38 (.mv (tv 1)),
 o 39 (.len false (tv 38)),
 o 40 (.bin .gtr 0 (tv 39) (ki 0))] [] [0, 1, 6, 40])
 (.cond (tv 40) (.seq (.region [] [o 41 (.mv (tv 1)),
 o 42 (.mv (tv 0)),
 o 43 (.mv (tv 1)),
 o 44 (.len false (tv 43)),
 oa 45 (.call (kf 53) [(true, (tv 42)), (false, (tv 44))] []) 2176,
 o 46 (.idxA 4 (tv 41) (tv 45)),
 o 47 (.load true 4 (tv 46)),
 oa 8 (.new [zi, zs, .nil, .nil] []) 2368,
 on (.store 4 (tv 8) (tv 47) [])] [] [0, 6, 8])
 (.seq (.region [] [o 48 (.fld 3 (tv 8)),
 o 49 (.load false 1 (tv 48)),
 o 50 (.mv (tv 0)),
 o 51 (.fld 3 (tv 8)),
 o 52 (.load false 1 (tv 51)),
 o 53 (.len false (tv 52)),
 oa 54 (.call (kf 53) [(true, (tv 50)), (false, (tv 53))] []) 2880,
 o 55 (.idxA 3 (tv 49) (tv 54)),
 o 56 (.fld 1 (tv 55)),
 o 57 (.load false 1 (tv 56)),
 o 58 (.build [zi, zi, zs, zi, .nil, .nil, zi, zs, zi, zi, .nil] [(0, 1, (ki 2)), (2, 1, (tv 57))]),
 on (.store 11 (tv 6) (tv 58) [])] [(0, 3), (1, 3), (0, 4), (1, 4), (0, 5), (1, 5), (0, 6), (1, 6)] [6])
 .ret))
 .skip))
 (.seq (.region [] [o 59 (.build [zi, zi, zs, zi, .nil, .nil, zi, zs, zi, zi, .nil] [(0, 1, (ki 2)), (2, 1, (.k (.sc (.c (.str [71, 111, 110, 101])))))]),
 on (.store 11 (tv 6) (tv 59) [])] [] [6])
 .ret))
 (.seq (.region [] [o 61 (.bin .eql 0 (tv 24) (ki 4)),
 o 60 (.mv (tv 61))] [] [0, 1, 2, 6, 24, 60])
 (.cond (tv 60) (.seq (.region [] [o 62 (.build [zi, zi, zs, zi, .nil, .nil, zi, zs, zi, zi, .nil] [(0, 1, (ki 10))]),
 on (.store 11 (tv 6) (tv 62) [])] [] [6])
 .ret)
 (.seq (.seq (.region [] [o 64 (.bin .eql 0 (tv 24) (ki 5)),
 o 63 (.mv (tv 64))] [] [0, 1, 2, 6, 24, 63])
 (.cond (tv 63) .skip
 (.region [] [o 65 (.bin .eql 0 (tv 24) (ki 6)),
 o 63 (.mv (tv 65))] [] [0, 1, 2, 6, 24, 63])))
 (.cond (tv 63) (.seq (.region [] [o 66 (.mv (tv 0)),
 oa 67 (.call (kf 34) [(true, (tv 66))] []) 3968,
 o 68 (.mv (tv 0)),
 o 69 (.mv (tv 1)),
 o 70 (.mv (tv 2)),
 o 71 (.bin .sub 0 (tv 70) (ki 1)),
 oa 72 (.call (kf 22) [(true, (tv 68)), (false, (tv 69)), (false, (tv 71))] []) 4288,
 oa 73 (.mkSl 11 [(tv 72)]) 4352,
 o 74 (.build [zi, zi, zs, zi, .nil, .nil, zi, zs, zi, zi, .nil] [(0, 1, (ki 4)), (2, 1, (tv 67)), (4, 1, (tv 73))]),
 on (.store 11 (tv 6) (tv 74) [])] [] [6])
 .ret)
 (.seq (.seq (.region [] [o 76 (.bin .eql 0 (tv 24) (ki 7)),
 o 75 (.mv (tv 76))] [] [0, 1, 2, 6, 24, 75])
 (.cond (tv 75) .skip
 (.seq (.region [] [o 77 (.bin .eql 0 (tv 24) (ki 8)),
 o 75 (.mv (tv 77))] [] [0, 1, 2, 6, 24, 75])
 (.cond (tv 75) .skip
 (.region [] [o 78 (.bin .eql 0 (tv 24) (ki 9)),
 o 75 (.mv (tv 78))] [] [0, 1, 2, 6, 24, 75])))))
 (.cond (tv 75) (.seq (.region [] [o 79 (.mv (tv 0)),
 o 80 (.mv (tv 1)),
 o 81 (.mv (tv 2)),
 o 82 (.bin .sub 0 (tv 81) (ki 1)),
 oa 83 (.call (kf 22) [(true, (tv 79)), (false, (tv 80)), (false, (tv 82))] []) 5184,
 oa 9 (.new [zi, zi, zs, zi, .nil, .nil, zi, zs, zi, zi, .nil] []) 5248,
 on (.store 11 (tv 9) (tv 83) [])] [] [0, 1, 2, 6, 9])
 (.seq (.region [] [o 84 (.load true 11 (tv 9)),
 o 85 (.mv (tv 0)),
 o 86 (.mv (tv 1)),
 o 87 (.mv (tv 2)),
 o 88 (.bin .sub 0 (tv 87) (ki 1)),
 oa 89 (.call (kf 22) [(true, (tv 85)), (false, (tv 86)), (false, (tv 88))] []) 5696,
 oa 90 (.mkSl 11 [(tv 84), (tv 89)]) 5760,
 o 91 (.build [zi, zi, zs, zi, .nil, .nil, zi, zs, zi, zi, .nil] [(0, 1, (ki 5)), (4, 1, (tv 90))]),
 on (.store 11 (tv 6) (tv 91) [])] [(0, 5)] [6])
 .ret))
 (.seq (.region [] [o 93 (.bin .eql 0 (tv 24) (ki 10)),
 o 92 (.mv (tv 93))] [] [0, 1, 2, 6, 24, 92])
 (.cond (tv 92) (.seq (.region [] [o 94 (.mv (tv 0)),
 oa 95 (.call (kf 53) [(true, (tv 94)), (false, (ki 2))] []) 6144,
 o 96 (.bin .add 0 (ki 6) (tv 95)),
 o 10 (.mv (tv 96))] [] [0, 1, 2, 6, 10])
 (.seq (.region [] [o 97 (.mv (tv 0)),
 oa 98 (.call (kf 34) [(true, (tv 97))] []) 6400,
 o 11 (.mv (tv 98))] [] [0, 1, 2, 6, 10, 11])
 (.seq (.region [] [o 99 (.mv (tv 0)),
 o 100 (.mv (tv 1)),
 o 101 (.mv (tv 2)),
 o 102 (.bin .sub 0 (tv 101) (ki 1)),
 oa 103 (.call (kf 22) [(true, (tv 99)), (false, (tv 100)), (false, (tv 102))] []) 6784,
 oa 12 (.new [zi, zi, zs, zi, .nil, .nil, zi, zs, zi, zi, .nil] []) 6848,
 on (.store 11 (tv 12) (tv 103) [])] [] [0, 1, 2, 6, 10, 11, 12])
 (.seq (.region [] [o 104 (.mv (tv 10)),
 o 105 (.mv (tv 11)),
 o 106 (.load true 11 (tv 12)),
 o 107 (.mv (tv 0)),
 o 108 (.mv (tv 1)),
 o 109 (.mv (tv 2)),
 o 110 (.bin .sub 0 (tv 109) (ki 1)),
 oa 111 (.call (kf 22) [(true, (tv 107)), (false, (tv 108)), (false, (tv 110))] []) 7424,
 oa 112 (.mkSl 11 [(tv 106), (tv 111)]) 7488,
 o 113 (.build [zi, zi, zs, zi, .nil, .nil, zi, zs, zi, zi, .nil] [(0, 1, (tv 104)), (2, 1, (tv 105)), (4, 1, (tv 112))]),
 on (.store 11 (tv 6) (tv 113) [])] [(2, 7)] [6])
 .ret))))
 (.seq (.region [] [o 115 (.bin .eql 0 (tv 24) (ki 11)),
 o 114 (.mv (tv 115))] [] [0, 1, 2, 6, 24, 114])
 (.cond (tv 114) (.seq (.region [] [o 116 (.mv (tv 0)),
 o 117 (.mv (tv 1)),
 o 118 (.mv (tv 2)),
 o 119 (.bin .sub 0 (tv 118) (ki 1)),
 oa 120 (.call (kf 22) [(true, (tv 116)), (false, (tv 117)), (false, (tv 119))] []) 8064,
 oa 121 (.mkSl 11 [(tv 120)]) 8128,
 o 122 (.mv (tv 0)),
 o 123 (.mv (tv 1)),
 oa 124 (.call (kf 70) [(true, (tv 122)), (false, (tv 123)), (false, kn), (false, (ki 2))] []) 8320,
 o 125 (.build [zi, zi, zs, zi, .nil, .nil, zi, zs, zi, zi, .nil] [(0, 1, (ki 9)), (4, 1, (tv 121)), (6, 5, (tv 124))]),
 on (.store 11 (tv 6) (tv 125) [])] [] [6])
 .ret)
 (.seq (.region [] [o 127 (.bin .eql 0 (tv 24) (ki 12)),
 o 126 (.mv (tv 127))] [] [0, 1, 2, 6, 126])
 (.cond (tv 126) (.seq (.region [] [o 128 (.mv (tv 0)),
 o 129 (.mv (tv 1)),
 o 130 (.mv (tv 2)),
 o 131 (.bin .sub 0 (tv 130) (ki 1)),
 oa 132 (.call (kf 22) [(true, (tv 128)), (false, (tv 129)), (false, (tv 131))] []) 8896,
 oa 133 (.mkSl 11 [(tv 132)]) 8960,
 o 134 (.build [zi, zi, zs, zi, .nil, .nil, zi, zs, zi, zi, .nil] [(0, 1, (ki 11)), (4, 1, (tv 133))]),
 on (.store 11 (tv 6) (tv 134) [])] [] [6])
 .ret)
 .skip))))))))))))))))))))
 (.seq (.seq (.region [] [o 135 (.mv (tv 1)),
 o 136 (.len false (tv 135)),
 o 137 (.bin .eql 0 (tv 136) (ki 0))] [] [0, 1, 2, 6, 137])
 (.cond (tv 137) (.seq (.region [] [o 138 (.mv (tv 0)),
 o 139 (.mv (tv 1)),
 o 140 (.mv (tv 2)),
 o 141 (.bin .sub 0 (tv 140) (ki 1)),
 oa 142 (.call (kf 22) [(true, (tv 138)), (false, (tv 139)), (false, (tv 141))] []) 9600,
 on (.store 11 (tv 6) (tv 142) [])] [] [6])
 .ret)
 .skip))
 (.seq (.region [] [o 143 (.mv (tv 1)),
 o 144 (.mv (tv 0)),
 o 145 (.mv (tv 1)),
 o 146 (.len false (tv 145)),
 oa 147 (.call (kf 53) [(true, (tv 144)), (false, (tv 146))] []) 9984,
 o 148 (.idxA 4 (tv 143) (tv 147)),
 o 149 (.load true 4 (tv 148)),
 oa 13 (.new [zi, zs, .nil, .nil] []) 10176,
 on (.store 4 (tv 13) (tv 149) [])] [] [0, 1, 2, 6, 13])
 (.seq (.region [] [o 150 (.mv (tv 0)),
 o 151 (.mv (tv 1)),
 o 152 (.mv (tv 2)),
 o 153 (.bin .sub 0 (tv 152) (ki 1)),
 oa 154 (.call (kf 22) [(true, (tv 150)), (false, (tv 151)), (false, (tv 153))] []) 10560,
 oa 155 (.mkSl 11 [(tv 154)]) 10624,
 o 156 (.build [zi, zi, zs, zi, .nil, .nil, zi, zs, zi, zi, .nil] [(0, 1, (ki 8)), (4, 1, (tv 155))]),
 oa 14 (.new [zi, zi, zs, zi, .nil, .nil, zi, zs, zi, zi, .nil] []) 10752,
 ⟨none, (.store 11 (tv 14) (tv 156) [(5, 14)]), none, 10816, []⟩] [] [0, 1, 2, 6, 13, 14])
 (.seq (.seq (.region [] [o 15 (.mv (ki 0))] [] [0, 1, 2, 6, 13, 14, 15])
 (.block 1 (.loop l22_1)))
 (.seq (.region [] [o 201 (.ldD true 11 (tv 14)),
 on (.store 11 (tv 6) (tv 201) [])] [] [6])
 .ret))))))))),
 [.cell 6 true 11], false⟩

def v24 : VFun := ⟨2,
 (.seq (.region [] [oa 2 (.box (tv 0)) 64,
 oa 3 (.box (tv 1)) 128,
 o 4 (.mv kF)] [] [2, 3])
 (.seq (.region [] [o 5 (.load true 11 (tv 2)),
 o 6 (.load true 11 (tv 3)),
 oa 7 (.call (kf 72) [(false, kn), (false, (tv 5)), (false, (tv 6)), (false, kF)] []) 384,
 o 4 (.mv (tv 7))] [] [4])
 .ret)),
 [.tmp 4], false⟩

def v18 : VFun := ⟨2,
 (.seq (.region [] [oa 2 (.box (tv 0)) 64,
 oa 3 (.box (tv 1)) 128,
 o 4 (.mv kF)] [] [2, 3])
 (.seq (.region [] [o 5 (.load true 11 (tv 2)),
 o 6 (.load true 11 (tv 3)),
 oa 7 (.call (kf 66) [(false, (tv 5)), (false, (tv 6)), (false, kn), (false, kn)] []) 384,
 o 4 (.mv (tv 7))] [] [4])
 .ret)),
 [.tmp 4], false⟩

def v25 : VFun := ⟨2,
 (.seq (.region [] [oa 2 (.box (tv 0)) 64,
 oa 4 (.new [zi, zi, zs, zi, .nil, .nil, zi, zs, zi, zi, .nil] []) 128] [] [1, 2, 4])
 (.seq (.region [] [o 5 (.load true 11 (tv 2)),
 o 6 (.mv (tv 1)),
 oa 7 (.call (kf 27) [(false, (tv 6)), (false, (ki 5))] []) 320,
 o 8 (.bin .add 0 (tv 7) (ki 2)),
 oa 9 (.call (kf 26) [(false, (tv 8))] []) 448,
 o 10 (.bin .add 0 (.k (.sc (.c (.str [118])))) (tv 9)),
 oa 11 (.mkSl 1 [(.k (.sc (.c (.str [118, 49])))), (tv 10)]) 576,
 oa 12 (.call (kf 40) [(false, (tv 5)), (false, (tv 11))] []) 640,
 on (.store 11 (tv 4) (tv 12) [])] [(0, 2), (0, 4), (0, 6)] [4])
 .ret)),
 [.cell 4 true 11], false⟩

def v67 : VFun := ⟨1,
 (.seq (.region [] [oa 2 (.new [zi, zi, zs, zi, .nil, .nil, zi, zs, zi, zi, .nil] []) 64] [] [0, 2])
 (.seq (.region [] [o 6 (.mv (tv 0)),
 oa 7 (.call (kf 127) [(false, (tv 6))] []) 192,
 o 5 (.mv (tv 7)),
 o 8 (.ext 0 (tv 5)),
 o 9 (.ext 1 (tv 5)),
 oa 3 (.new [zi, zi, zs, zi, .nil, .nil, zi, zs, zi, zi, .nil] []) 448,
 oa 4 (.new [zi, zi] []) 512,
 on (.store 11 (tv 3) (tv 8) []),
 on (.store 2 (tv 4) (tv 9) [])] [] [2, 3])
 (.seq (.region [512] [o 10 (.load true 11 (tv 3)),
 on (.store 11 (tv 2) (tv 10) [])] [] [2])
 .ret))),
 [.cell 2 true 11], false⟩

def v31 : VFun := ⟨3,
 (.seq (.region [] [oa 3 (.box (tv 0)) 64,
 oa 5 (.box (tv 2)) 128,
 oa 6 (.new [zi, zi, zs, zi, .nil, .nil, zi, zs, zi, zi, .nil] []) 192] [] [1, 3, 5, 6])
 (.seq (.region [] [o 7 (.mv (tv 1)),
 o 8 (.load true 11 (tv 5)),
 o 9 (.load true 11 (tv 5)),
 oa 10 (.call (kf 30) [(false, (tv 9))] []) 448,
 o 11 (.build [zs, zi, zi, zs, zi, .nil, .nil, zi, zs, zi, zi, .nil, .nil] [(0, 1, (tv 7)), (1, 11, (tv 8)), (12, 1, (tv 10))]),
 o 12 (.load true 11 (tv 3)),
 oa 13 (.call (kf 82) [(false, (tv 11)), (false, (tv 12))] []) 640,
 on (.store 11 (tv 6) (tv 13) [])] [(1, 2), (1, 3), (1, 5), (2, 5), (3, 5)] [6])
 .ret)),
 [.cell 6 true 11], false⟩

def l35_0 : VCode := (.seq (.seq (.region [] [o 51 (.mv (tv 5)),
 o 52 (.fld 5 (tv 2)),
 o 53 (.load false 1 (tv 52)),
 o 54 (.len false (tv 53)),
 o 55 (.bin .lss 0 (tv 51) (tv 54))] [] [2, 3, 5, 55])
 (.cond (tv 55) .skip
 (.exit 0)))
 (.seq (.block 1 (.seq (.region [] [o 58 (.fld 5 (tv 2)),
 o 59 (.load false 1 (tv 58)),
 o 60 (.mv (tv 5)),
 o 61 (.idxA 14 (tv 59) (tv 60)),
 o 62 (.fld 1 (tv 61)),
 o 63 (.load false 1 (tv 62)),
 o 64 (.fld 5 (tv 3)),
 o 65 (.load false 1 (tv 64)),
 o 66 (.mv (tv 5)),
 o 67 (.idxA 14 (tv 65) (tv 66)),
 o 68 (.fld 1 (tv 67)),
 o 69 (.load false 1 (tv 68)),
 o 70 (.bin .neq 0 (tv 63) (tv 69)),
 o 71 (.mv (tv 70)),
 og 72 (.fld 5 (tv 2)) 71 false,
 og 73 (.load false 1 (tv 72)) 71 false,
 og 74 (.mv (tv 5)) 71 false,
 og 75 (.idxA 14 (tv 73) (tv 74)) 71 false,
 og 76 (.fld 2 (tv 75)) 71 false,
 og 77 (.load false 1 (tv 76)) 71 false,
 og 78 (.fld 5 (tv 3)) 71 false,
 og 79 (.load false 1 (tv 78)) 71 false,
 og 80 (.mv (tv 5)) 71 false,
 og 81 (.idxA 14 (tv 79) (tv 80)) 71 false,
 og 82 (.fld 2 (tv 81)) 71 false,
 og 83 (.load false 1 (tv 82)) 71 false,
 ⟨(some 84), (.call (kf 85) [(false, (tv 77)), (false, (tv 83))] []), (some (71, false)), 5248, []⟩,
 og 85 (.un .not (tv 84)) 71 false,
 o 86 (.pick (tv 71) kt (tv 85))] [(0, 6), (1, 6), (3, 6), (4, 6), (5, 6), (0, 7), (1, 7), (3, 7), (4, 7), (5, 7), (0, 9), (1, 9), (3, 9), (4, 9), (5, 9), (0, 10), (1, 10), (3, 10), (4, 10), (5, 10), (0, 11), (1, 11), (3, 11), (4, 11), (5, 11), (14, 20), (15, 20), (17, 20), (18, 20), (19, 20), (14, 21), (15, 21), (17, 21), (18, 21), (19, 21), (14, 23), (15, 23), (17, 23), (18, 23), (19, 23), (14, 24), (15, 24), (17, 24), (18, 24), (19, 24), (14, 25), (15, 25), (17, 25), (18, 25), (19, 25)] [2, 3, 5, 86])
 (.cond (tv 86) (.seq (.region [] [o 4 (.mv kF)] [] [4])
 .ret)
 .skip)))
 (.region [] [o 56 (.mv (tv 5)),
 o 57 (.bin .add 0 (tv 56) (ki 1)),
 o 5 (.mv (tv 57))] [] [2, 3, 5])))

def v35 : VFun := ⟨2,
 (.seq (.region [] [oa 2 (.box (tv 0)) 64,
 oa 3 (.box (tv 1)) 128,
 o 4 (.mv kF)] [] [2, 3])
 (.seq (.seq (.region [] [o 6 (.fld 0 (tv 2)),
 o 7 (.load false 1 (tv 6)),
 o 8 (.fld 0 (tv 3)),
 o 9 (.load false 1 (tv 8)),
 o 10 (.bin .neq 0 (tv 7) (tv 9)),
 o 11 (.mv (tv 10)),
 og 12 (.fld 2 (tv 2)) 11 false,
 og 13 (.load false 1 (tv 12)) 11 false,
 og 14 (.fld 2 (tv 3)) 11 false,
 og 15 (.load false 1 (tv 14)) 11 false,
 og 16 (.bin .neq 0 (tv 13) (tv 15)) 11 false,
 o 17 (.pick (tv 11) kt (tv 16)),
 o 18 (.mv (tv 17)),
 og 19 (.fld 3 (tv 2)) 18 false,
 og 20 (.load false 1 (tv 19)) 18 false,
 og 21 (.fld 3 (tv 3)) 18 false,
 og 22 (.load false 1 (tv 21)) 18 false,
 og 23 (.bin .neq 0 (tv 20) (tv 22)) 18 false,
 o 24 (.pick (tv 18) kt (tv 23)),
 o 25 (.mv (tv 24)),
 og 26 (.fld 6 (tv 2)) 25 false,
 og 27 (.load true 5 (tv 26)) 25 false,
 og 28 (.fld 6 (tv 3)) 25 false,
 og 29 (.load true 5 (tv 28)) 25 false,
 ⟨(some 30), (.call (kf 84) [(false, (tv 27)), (false, (tv 29))] []), (some (25, false)), 1792, []⟩,
 og 31 (.un .not (tv 30)) 25 false,
 o 32 (.pick (tv 25) kt (tv 31)),
 o 33 (.mv (tv 32)),
 og 34 (.fld 4 (tv 2)) 33 false,
 og 35 (.load false 1 (tv 34)) 33 false,
 og 36 (.len false (tv 35)) 33 false,
 og 37 (.fld 4 (tv 3)) 33 false,
 og 38 (.load false 1 (tv 37)) 33 false,
 og 39 (.len false (tv 38)) 33 false,
 og 40 (.bin .neq 0 (tv 36) (tv 39)) 33 false,
 o 41 (.pick (tv 33) kt (tv 40)),
 o 42 (.mv (tv 41)),
 og 43 (.fld 5 (tv 2)) 42 false,
 og 44 (.load false 1 (tv 43)) 42 false,
 og 45 (.len false (tv 44)) 42 false,
 og 46 (.fld 5 (tv 3)) 42 false,
 og 47 (.load false 1 (tv 46)) 42 false,
 og 48 (.len false (tv 47)) 42 false,
 og 49 (.bin .neq 0 (tv 45) (tv 48)) 42 false,
 o 50 (.pick (tv 42) kt (tv 49))] [] [2, 3, 50])
 (.cond (tv 50) (.seq (.region [] [o 4 (.mv kF)] [] [4])
 .ret)
 .skip))
 (.seq (.seq (.region [] [o 5 (.mv (ki 0))] [] [2, 3, 5])
 (.block 0 (.loop l35_0)))
 (.seq (.region [] [o 87 (.load true 11 (tv 2)),
 oa 88 (.call (kf 69) [(false, (tv 87))] []) 5760,
 o 89 (.load true 11 (tv 3)),
 oa 90 (.call (kf 69) [(false, (tv 89))] []) 5888,
 oa 91 (.call (kf 86) [(false, (tv 88)), (false, (tv 90))] []) 5952,
 o 4 (.mv (tv 91))] [(0, 2), (1, 2)] [4])
 .ret)))),
 [.tmp 4], false⟩

def l30_0 : VCode := (.seq (.region [] [o 30 (.bin .lss 0 (tv 29) (tv 28))] [] [1, 3, 6, 16, 17, 18, 27, 28, 29, 30])
 (.seq (.cond (tv 30) .skip
 (.exit 2))
 (.seq (.block 3 (.seq (.region [] [o 31 (.idxA 1 (tv 27) (tv 29)),
 o 32 (.load false 1 (tv 31)),
 o 8 (.mv (tv 32))] [] [1, 3, 6, 8, 16, 17, 18, 27, 28, 29])
 (.seq (.region [] [o 33 (.mv (tv 6)),
 o 34 (.mv (tv 8)),
 oa 35 (.call (kf 81) [(false, (tv 33)), (false, (tv 34))] []) 2304,
 o 36 (.un .not (tv 35)),
 o 37 (.mv (tv 36)),
 og 38 (.mv (tv 3)) 37 true,
 og 39 (.mv (tv 8)) 37 true,
 ⟨(some 40), (.call (kf 81) [(false, (tv 38)), (false, (tv 39))] []), (some (37, true)), 2624, []⟩,
 og 41 (.un .not (tv 40)) 37 true,
 o 42 (.pick (tv 37) (tv 41) kF)] [] [1, 3, 6, 8, 16, 17, 18, 27, 28, 29, 42])
 (.cond (tv 42) (.region [] [o 43 (.mv (tv 3)),
 o 44 (.mv (tv 8)),
 oa 45 (.mkSl 1 [(tv 44)]) 2944,
 o 46 (.app 1 16 false (tv 43) (tv 45)),
 o 3 (.mv (tv 46))] [] [1, 3, 6, 16, 17, 18, 27, 28, 29])
 .skip))))
 (.region [2944] [o 47 (.bin .add 0 (tv 29) (ki 1)),
 o 29 (.mv (tv 47))] [] [1, 3, 6, 16, 17, 18, 27, 28, 29]))))

def l30_1 : VCode := (.seq (.region [] [o 19 (.bin .lss 0 (tv 18) (tv 17))] [] [1, 3, 16, 17, 18, 19])
 (.seq (.cond (tv 19) .skip
 (.exit 0))
 (.seq (.block 1 (.seq (.region [] [o 20 (.mv (tv 18)),
 o 21 (.idxA 11 (tv 16) (tv 18)),
 o 22 (.load true 11 (tv 21)),
 oa 5 (.new [zi, zi, zs, zi, .nil, .nil, zi, zs, zi, zi, .nil] []) 1216,
 o 4 (.mv (tv 20)),
 on (.store 11 (tv 5) (tv 22) [])] [] [1, 3, 4, 5, 16, 17, 18])
 (.seq (.region [] [o 23 (.load true 11 (tv 1)),
 o 24 (.mv (tv 4)),
 oa 25 (.call (kf 80) [(false, (tv 23)), (false, (tv 24))] []) 1536,
 o 6 (.mv (tv 25))] [] [1, 3, 5, 6, 16, 17, 18])
 (.seq (.region [] [o 26 (.load true 11 (tv 5)),
 oa 27 (.call (kf 30) [(false, (tv 26))] []) 1728,
 o 28 (.len false (tv 27)),
 o 29 (.mv (ki 0))] [] [1, 3, 6, 16, 17, 18, 27, 28, 29])
 (.block 2 (.loop l30_0))))))
 (.region [1216] [o 48 (.bin .add 0 (tv 18) (ki 1)),
 o 18 (.mv (tv 48))] [] [1, 3, 16, 17, 18]))))

def v30 : VFun := ⟨1,
 (.seq (.region [] [oa 1 (.box (tv 0)) 64,
 o 2 (.mv kn)] [] [1])
 (.seq (.seq (.region [] [o 9 (.fld 0 (tv 1)),
 o 10 (.load false 1 (tv 9)),
 o 11 (.bin .eql 0 (tv 10) (ki 1))] [] [1, 11])
 (.cond (tv 11) (.seq (.region [] [o 12 (.fld 2 (tv 1)),
 o 13 (.load false 1 (tv 12)),
 oa 14 (.mkSl 1 [(tv 13)]) 512,
 o 2 (.mv (tv 14))] [] [2])
 .ret)
 .skip))
 (.seq (.region [] [⟨(some 3), (.mv kn), none, 640, [(0, 1)]⟩] [] [1, 3])
 (.seq (.seq (.region [] [o 15 (.load true 11 (tv 1)),
 oa 16 (.call (kf 79) [(false, (tv 15))] []) 768,
 o 17 (.len false (tv 16)),
 o 18 (.mv (ki 0))] [] [1, 3, 16, 17, 18])
 (.block 0 (.loop l30_1)))
 (.seq (.region [] [o 49 (.mv (tv 3)),
 o 2 (.mv (tv 49))] [] [2])
 .ret))))),
 [.tmp 2], false⟩

def l68_0 : VCode := (.seq (.seq (.region [] [o 11 (.mv (tv 5)),
 o 12 (.mv (tv 0)),
 o 13 (.len false (tv 12)),
 o 14 (.bin .lss 0 (tv 11) (tv 13))] [] [0, 1, 5, 14])
 (.cond (tv 14) .skip
 (.exit 0)))
 (.seq (.block 1 (.seq (.region [] [o 17 (.mv (tv 0)),
 o 18 (.mv (tv 5)),
 o 19 (.idxA 1 (tv 17) (tv 18)),
 o 20 (.load false 1 (tv 19)),
 o 21 (.mv (tv 1)),
 o 22 (.mv (tv 5)),
 o 23 (.idxA 1 (tv 21) (tv 22)),
 o 24 (.load false 1 (tv 23)),
 o 25 (.bin .neq 0 (tv 20) (tv 24))] [(2, 6), (3, 6), (2, 7), (3, 7)] [0, 1, 5, 25])
 (.cond (tv 25) (.seq (.region [] [o 4 (.mv kF)] [] [4])
 .ret)
 .skip)))
 (.region [] [o 15 (.mv (tv 5)),
 o 16 (.bin .add 0 (tv 15) (ki 1)),
 o 5 (.mv (tv 16))] [] [0, 1, 5])))

def v68 : VFun := ⟨2,
 (.seq (.region [] [o 4 (.mv kF)] [] [0, 1])
 (.seq (.seq (.region [] [o 6 (.mv (tv 0)),
 o 7 (.len false (tv 6)),
 o 8 (.mv (tv 1)),
 o 9 (.len false (tv 8)),
 o 10 (.bin .neq 0 (tv 7) (tv 9))] [] [0, 1, 10])
 (.cond (tv 10) (.seq (.region [] [o 4 (.mv kF)] [] [4])
 .ret)
 .skip))
 (.seq (.seq (.region [] [o 5 (.mv (ki 0))] [] [0, 1, 5])
 (.block 0 (.loop l68_0)))
 (.seq (.region [] [o 4 (.mv kt)] [] [4])
 .ret)))),
 [.tmp 4], false⟩

def l69_0 : VCode := (.seq (.seq (.region [] [o 8 (.mv (tv 4)),
 o 9 (.fld 5 (tv 1)),
 o 10 (.load false 1 (tv 9)),
 o 11 (.len false (tv 10)),
 o 12 (.bin .lss 0 (tv 8) (tv 11))] [] [1, 3, 4, 12])
 (.cond (tv 12) .skip
 (.exit 0)))
 (.seq (.block 1 (.region [] [o 15 (.mv (tv 3)),
 o 16 (.fld 5 (tv 1)),
 o 17 (.load false 1 (tv 16)),
 o 18 (.mv (tv 4)),
 o 19 (.idxA 14 (tv 17) (tv 18)),
 o 20 (.fld 3 (tv 19)),
 o 21 (.load true 11 (tv 20)),
 oa 22 (.mkSl 11 [(tv 21)]) 1280,
 o 23 (.app 11 152 false (tv 15) (tv 22)),
 o 3 (.mv (tv 23))] [] [1, 3, 4]))
 (.region [1280] [o 13 (.mv (tv 4)),
 o 14 (.bin .add 0 (tv 13) (ki 1)),
 o 4 (.mv (tv 14))] [] [1, 3, 4])))

def v69 : VFun := ⟨1,
 (.seq (.region [] [oa 1 (.box (tv 0)) 64,
 o 2 (.mv kn)] [] [1])
 (.seq (.region [] [o 5 (.fld 4 (tv 1)),
 o 6 (.load false 1 (tv 5)),
 oa 7 (.app 11 152 true kn (tv 6)) 320,
 o 3 (.mv (tv 7))] [] [1, 3])
 (.seq (.seq (.region [] [o 4 (.mv (ki 0))] [] [1, 3, 4])
 (.block 0 (.loop l69_0)))
 (.seq (.region [] [o 24 (.mv (tv 3)),
 o 2 (.mv (tv 24))] [] [2])
 .ret)))),
 [.tmp 2], true⟩

def v71 : VFun := ⟨0,
 (.seq (.region [] [o 0 (.mv kn)] [] [1000000])
 (.seq (.region [] [oa 4 (.call (kf 129) [(false, (.k (.sc (.c (.str [100, 97, 116, 97, 32, 66, 111, 111, 108, 32, 61, 32, 84, 114, 117, 101, 32, 124, 32, 70, 97, 108, 115, 101, 59, 32, 100, 97, 116, 97, 32, 79, 112, 116, 105, 111, 110, 32, 97, 32, 61, 32, 78, 111, 110, 101, 32, 124, 32, 83, 111, 109, 101, 32, 97, 59, 32, 100, 97, 116, 97, 32, 76, 105, 115, 116, 32, 97, 32, 61, 32, 78, 105, 108, 32, 124, 32, 67, 111, 110, 115, 32, 97, 32, 40, 76, 105, 115, 116, 32, 97, 41, 59, 100, 97, 116, 97, 32, 80, 97, 105, 114, 32, 97, 32, 98, 32, 61, 32, 80, 97, 105, 114, 32, 97, 32, 98, 59, 32, 100, 97, 116, 97, 32, 78, 97, 116, 32, 61, 32, 90, 101, 114, 111, 32, 124, 32, 83, 117, 99, 99, 32, 78, 97, 116, 59, 32, 100, 97, 116, 97, 32, 70, 117, 110, 32, 97, 32, 98, 32, 61, 32, 70, 117, 110, 32, 40, 97, 32, 45, 62, 32, 98, 41, 59, 32, 100, 97, 116, 97, 32, 84, 119, 111, 32, 97, 32, 61, 32, 66, 111, 116, 104, 32, 97, 32, 97, 32, 124, 32, 79, 110, 101, 32, 40, 79, 112, 116, 105, 111, 110, 32, 97, 41, 59])))))] []) 128,
 o 3 (.mv (tv 4)),
 o 5 (.ext 0 (tv 3)),
 o 6 (.ext 1 (tv 3)),
 oa 1 (.new [.nil, .nil] []) 384,
 oa 2 (.new [zi, zi] []) 448,
 on (.store 2 (tv 1) (tv 5) []),
 on (.store 2 (tv 2) (tv 6) [])] [] [1])
 (.seq (.region [448] [o 7 (.fld 0 (tv 1)),
 o 8 (.load false 1 (tv 7)),
 o 0 (.mv (tv 8))] [] [0])
 .ret))),
 [.tmp 0], false⟩

def v53 : VFun := ⟨2,
 (.seq (.region [] [o 4 (.mv (ki 0))] [] [0, 1])
 (.seq (.seq (.region [] [o 5 (.mv (tv 0)),
 o 6 (.nn (tv 5)),
 o 7 (.fld 1 (tv 6)),
 o 8 (.load false 1 (tv 7)),
 o 9 (.mv (tv 0)),
 o 10 (.nn (tv 9)),
 o 11 (.fld 0 (tv 10)),
 o 12 (.load false 1 (tv 11)),
 o 13 (.len false (tv 12)),
 o 14 (.bin .geq 0 (tv 8) (tv 13))] [(1, 5), (2, 5), (3, 5), (1, 6), (2, 6), (3, 6), (1, 7), (2, 7), (3, 7), (1, 8), (2, 8), (3, 8)] [0, 1, 14])
 (.cond (tv 14) (.seq (.region [] [o 4 (.mv (ki 0))] [] [4])
 .ret)
 .skip))
 (.seq (.region [] [o 15 (.mv (tv 0)),
 o 16 (.nn (tv 15)),
 o 17 (.fld 1 (tv 16)),
 o 18 (.load false 1 (tv 17)),
 o 19 (.bin .add 0 (tv 18) (ki 1)),
 o 20 (.nn (tv 15)),
 o 21 (.fld 1 (tv 20)),
 on (.store 1 (tv 21) (tv 19) [])] [] [0, 1])
 (.seq (.region [] [o 22 (.mv (tv 0)),
 o 23 (.nn (tv 22)),
 o 24 (.fld 0 (tv 23)),
 o 25 (.load false 1 (tv 24)),
 o 26 (.mv (tv 0)),
 o 27 (.nn (tv 26)),
 o 28 (.fld 1 (tv 27)),
 o 29 (.load false 1 (tv 28)),
 o 30 (.bin .sub 0 (tv 29) (ki 1)),
 o 31 (.idxA 1 (tv 25) (tv 30)),
 o 32 (.load false 1 (tv 31)),
 o 33 (.mv (tv 1)),
 oa 34 (.call (kf 27) [(false, (tv 32)), (false, (tv 33))] []) 2112,
 o 4 (.mv (tv 34))] [(1, 5), (2, 5), (3, 5), (1, 6), (2, 6), (3, 6), (1, 7), (2, 7), (3, 7)] [4])
 .ret)))),
 [.tmp 4], false⟩

def v34 : VFun := ⟨1,
 (.seq (.region [] [o 2 (.mv (.k (.sc zs)))] [] [0])
 (.seq (.region [] [oa 3 (.mkSl 1 [(.k (.sc (.c (.str [120])))), (.k (.sc (.c (.str [121])))), (.k (.sc (.c (.str [122])))), (.k (.sc (.c (.str [102])))), (.k (.sc (.c (.str [103])))), (.k (.sc (.c (.str [118, 49])))), (.k (.sc (.c (.str [118, 50])))), (.k (.sc (.c (.str [105, 100]))))]) 128,
 o 4 (.mv (tv 0)),
 oa 5 (.call (kf 53) [(true, (tv 4)), (false, (ki 8))] []) 256,
 o 6 (.idxA 1 (tv 3) (tv 5)),
 o 7 (.load false 1 (tv 6)),
 o 2 (.mv (tv 7))] [] [2])
 .ret)),
 [.tmp 2], false⟩

def l70_0 : VCode := (.seq (.seq (.region [] [o 61 (.mv (tv 12)),
 o 62 (.fld 2 (tv 10)),
 o 63 (.load false 1 (tv 62)),
 o 64 (.len false (tv 63)),
 o 65 (.bin .lss 0 (tv 61) (tv 64))] [] [0, 1, 2, 3, 8, 10, 11, 12, 65])
 (.cond (tv 65) .skip
 (.exit 1)))
 (.seq (.block 2 (.region [] [o 68 (.mv (tv 11)),
 o 69 (.mv (tv 0)),
 o 70 (.mv (tv 1)),
 o 71 (.mv (tv 2)),
 o 72 (.mv (tv 3)),
 o 73 (.bin .sub 0 (tv 72) (ki 1)),
 oa 74 (.call (kf 70) [(true, (tv 69)), (false, (tv 70)), (false, (tv 71)), (false, (tv 73))] []) 4352,
 oa 75 (.mkSl 5 [(tv 74)]) 4416,
 o 76 (.app 5 64 false (tv 68) (tv 75)),
 o 11 (.mv (tv 76))] [] [0, 1, 2, 3, 8, 10, 11, 12]))
 (.region [4416] [o 66 (.mv (tv 12)),
 o 67 (.bin .add 0 (tv 66) (ki 1)),
 o 12 (.mv (tv 67))] [] [0, 1, 2, 3, 8, 10, 11, 12])))

def v70 : VFun := ⟨4,
 (.seq (.region [] [oa 8 (.new [zi, zs, zi, zi, .nil] []) 64] [] [0, 1, 2, 3, 8])
 (.seq (.region [] [o 14 (.mv (tv 0)),
 oa 15 (.call (kf 53) [(true, (tv 14)), (false, (ki 7))] []) 192,
 o 9 (.mv (tv 15))] [] [0, 1, 2, 3, 8, 9])
 (.seq (.block 0 (.seq (.region [] [o 17 (.mv (tv 9)),
 o 18 (.bin .lss 0 (tv 17) (ki 3)),
 o 19 (.mv (tv 18)),
 og 20 (.mv (tv 2)) 19 true,
 og 21 (.len false (tv 20)) 19 true,
 og 22 (.bin .gtr 0 (tv 21) (ki 0)) 19 true,
 o 23 (.pick (tv 19) (tv 22) kF),
 o 16 (.mv (tv 23))] [] [0, 1, 2, 3, 8, 9, 16])
 (.cond (tv 16) (.seq (.region [] [o 24 (.mv (tv 2)),
 o 25 (.mv (tv 0)),
 o 26 (.mv (tv 2)),
 o 27 (.len false (tv 26)),
 oa 28 (.call (kf 53) [(true, (tv 25)), (false, (tv 27))] []) 1088,
 o 29 (.idxA 5 (tv 24) (tv 28)),
 o 30 (.load true 5 (tv 29)),
 on (.store 5 (tv 8) (tv 30) [])] [] [8])
 .ret)
 (.seq (.region [] [o 32 (.mv (tv 9)),
 o 33 (.bin .lss 0 (tv 32) (ki 4)),
 o 34 (.mv (tv 33)),
 og 35 (.mv (tv 3)) 34 false,
 og 36 (.bin .lss 0 (tv 35) (ki 1)) 34 false,
 o 37 (.pick (tv 34) kt (tv 36)),
 o 31 (.mv (tv 37))] [] [0, 1, 2, 3, 8, 9, 31])
 (.cond (tv 31) (.seq (.region [] [oa 38 (.call (kf 47) [] []) 1792,
 on (.store 5 (tv 8) (tv 38) [])] [] [8])
 .ret)
 (.seq (.seq (.region [] [o 40 (.mv (tv 9)),
 o 41 (.bin .eql 0 (tv 40) (ki 4)),
 o 42 (.mv (tv 41)),
 og 43 (.mv (tv 1)) 42 true,
 og 44 (.len false (tv 43)) 42 true,
 og 45 (.bin .gtr 0 (tv 44) (ki 0)) 42 true,
 o 46 (.pick (tv 42) (tv 45) kF),
 o 39 (.mv (tv 46))] [] [0, 1, 2, 3, 8, 9, 39])
 (.cond (tv 39) .skip
 (.region [] [o 47 (.mv (tv 9)),
 o 48 (.bin .eql 0 (tv 47) (ki 5)),
 o 49 (.mv (tv 48)),
 og 50 (.mv (tv 1)) 49 true,
 og 51 (.len false (tv 50)) 49 true,
 og 52 (.bin .gtr 0 (tv 51) (ki 0)) 49 true,
 o 53 (.pick (tv 49) (tv 52) kF),
 o 39 (.mv (tv 53))] [] [0, 1, 2, 3, 8, 39])))
 (.cond (tv 39) (.seq (.region [] [o 54 (.mv (tv 1)),
 o 55 (.mv (tv 0)),
 o 56 (.mv (tv 1)),
 o 57 (.len false (tv 56)),
 oa 58 (.call (kf 53) [(true, (tv 55)), (false, (tv 57))] []) 3200,
 o 59 (.idxA 4 (tv 54) (tv 58)),
 o 60 (.load true 4 (tv 59)),
 oa 10 (.new [zi, zs, .nil, .nil] []) 3392,
 on (.store 4 (tv 10) (tv 60) [])] [] [0, 1, 2, 3, 8, 10])
 (.seq (.region [] [⟨(some 11), (.mv kn), none, 3520, [(0, 5)]⟩] [] [0, 1, 2, 3, 8, 10, 11])
 (.seq (.seq (.region [] [o 12 (.mv (ki 0))] [] [0, 1, 2, 3, 8, 10, 11, 12])
 (.block 1 (.loop l70_0)))
 (.seq (.region [] [o 77 (.fld 1 (tv 10)),
 o 78 (.load false 1 (tv 77)),
 o 79 (.mv (tv 11)),
 oa 80 (.call (kf 100) [(false, (tv 78)), (false, (tv 79))] []) 4992,
 on (.store 5 (tv 8) (tv 80) [])] [] [8])
 .ret))))
 .skip)))))))
 (.seq (.region [] [o 81 (.mv (tv 0)),
 o 82 (.mv (tv 1)),
 o 83 (.mv (tv 2)),
 o 84 (.mv (tv 3)),
 o 85 (.bin .sub 0 (tv 84) (ki 1)),
 oa 86 (.call (kf 70) [(true, (tv 81)), (false, (tv 82)), (false, (tv 83)), (false, (tv 85))] []) 5440,
 oa 13 (.new [zi, zs, zi, zi, .nil] []) 5504,
 on (.store 5 (tv 13) (tv 86) [])] [] [0, 1, 2, 3, 8, 13])
 (.seq (.region [] [o 87 (.load true 5 (tv 13)),
 o 88 (.mv (tv 0)),
 o 89 (.mv (tv 1)),
 o 90 (.mv (tv 2)),
 o 91 (.mv (tv 3)),
 o 92 (.bin .sub 0 (tv 91) (ki 1)),
 oa 93 (.call (kf 70) [(true, (tv 88)), (false, (tv 89)), (false, (tv 90)), (false, (tv 92))] []) 6016,
 oa 94 (.call (kf 128) [(false, (tv 87)), (false, (tv 93))] []) 6080,
 on (.store 5 (tv 8) (tv 94) [])] [(0, 6)] [8])
 .ret))))),
 [.cell 8 true 5], false⟩

def l72_0 : VCode := (.seq (.region [] [o 62 (.bin .lss 0 (tv 61) (tv 60))] [] [0, 3, 5, 6, 9, 10, 60, 61, 62])
 (.seq (.cond (tv 62) .skip
 (.exit 0))
 (.seq (.block 1 (.seq (.region [] [o 63 (.mv (tv 61)),
 o 11 (.mv (tv 63))] [] [0, 3, 5, 6, 9, 10, 11, 60, 61])
 (.region [] [o 64 (.mv (tv 9)),
 o 65 (.mv (tv 11)),
 o 66 (.bldD [zi, zi, zs, zi, .nil, .nil, zi, zs, zi, zi, .nil] []),
 o 67 (.idxA 11 (tv 64) (tv 65)),
 on (.store 11 (tv 67) (tv 66) [])] [] [0, 3, 5, 6, 9, 10, 60, 61])))
 (.region [] [o 68 (.bin .add 0 (tv 61) (ki 1)),
 o 61 (.mv (tv 68))] [] [0, 3, 5, 6, 9, 10, 60, 61]))))

def l72_1 : VCode := (.seq (.region [] [o 72 (.bin .lss 0 (tv 71) (tv 70))] [] [0, 3, 5, 6, 9, 10, 70, 71, 72])
 (.seq (.cond (tv 72) .skip
 (.exit 2))
 (.seq (.block 3 (.seq (.region [] [o 73 (.mv (tv 71)),
 o 12 (.mv (tv 73))] [] [0, 3, 5, 6, 9, 10, 12, 70, 71])
 (.region [] [o 74 (.mv (tv 10)),
 o 75 (.mv (tv 12)),
 o 76 (.bldD [zi, zi, zs, zi, .nil, .nil, zi, zs, zi, zi, .nil] []),
 o 77 (.idxA 11 (tv 74) (tv 75)),
 on (.store 11 (tv 77) (tv 76) [])] [] [0, 3, 5, 6, 9, 10, 70, 71])))
 (.region [] [o 78 (.bin .add 0 (tv 71) (ki 1)),
 o 71 (.mv (tv 78))] [] [0, 3, 5, 6, 9, 10, 70, 71]))))

def l72_2 : VCode := (.seq (.region [] [o 107 (.bin .lss 0 (tv 106) (tv 105))] [] [0, 3, 5, 6, 9, 10, 13, 14, 15, 16, 92, 93, 105, 106, 107])
 (.seq (.cond (tv 107) .skip
 (.exit 6))
 (.seq (.block 7 (.seq (.region [] [o 108 (.mv (tv 106)),
 o 17 (.mv (tv 108))] [] [0, 3, 5, 6, 9, 10, 13, 14, 15, 16, 17, 92, 93, 105, 106])
 (.region [] [o 109 (.mv (tv 14)),
 o 110 (.mv (tv 15)),
 o 111 (.mv (tv 17)),
 o 112 (.idxA 1 (tv 110) (tv 111)),
 o 113 (.load false 1 (tv 112)),
 o 114 (.mv (tv 16)),
 o 115 (.mv (tv 17)),
 o 116 (.idxA 1 (tv 114) (tv 115)),
 o 117 (.load false 1 (tv 116)),
 o 118 (.build [zs, zs] [(0, 1, (tv 113)), (1, 1, (tv 117))]),
 oa 119 (.mkSl 2 [(tv 118)]) 7936,
 o 120 (.app 2 32 false (tv 109) (tv 119)),
 o 14 (.mv (tv 120))] [(3, 7), (4, 7), (3, 8), (4, 8)] [0, 3, 5, 6, 9, 10, 13, 14, 15, 16, 92, 93, 105, 106])))
 (.region [7936] [o 121 (.bin .add 0 (tv 106) (ki 1)),
 o 106 (.mv (tv 121))] [] [0, 3, 5, 6, 9, 10, 13, 14, 15, 16, 92, 93, 105, 106]))))

def l72_3 : VCode := (.seq (.region [] [o 94 (.bin .lss 0 (tv 93) (tv 92))] [] [0, 3, 5, 6, 9, 10, 92, 93, 94])
 (.seq (.cond (tv 94) .skip
 (.exit 4))
 (.seq (.block 5 (.seq (.region [] [o 95 (.mv (tv 93)),
 o 13 (.mv (tv 95))] [] [0, 3, 5, 6, 9, 10, 13, 92, 93])
 (.seq (.region [] [o 96 (.mv (tv 0)),
 oa 97 (.call (kf 133) [(false, (tv 96))] []) 6272,
 ⟨(some 14), (.mv (tv 97)), none, 6336, [(0, 2)]⟩] [] [0, 3, 5, 6, 9, 10, 13, 14, 92, 93])
 (.seq (.region [] [o 98 (.load true 11 (tv 5)),
 o 99 (.mv (tv 13)),
 oa 100 (.call (kf 80) [(false, (tv 98)), (false, (tv 99))] []) 6528,
 o 101 (.load true 11 (tv 6)),
 o 102 (.mv (tv 13)),
 oa 103 (.call (kf 80) [(false, (tv 101)), (false, (tv 102))] []) 6720,
 o 15 (.mv (tv 100)),
 o 16 (.mv (tv 103))] [(0, 3), (2, 3)] [0, 3, 5, 6, 9, 10, 13, 14, 15, 16, 92, 93])
 (.seq (.seq (.region [] [o 104 (.mv (tv 15)),
 o 105 (.len false (tv 104)),
 o 106 (.mv (ki 0))] [] [0, 3, 5, 6, 9, 10, 13, 14, 15, 16, 92, 93, 105, 106])
 (.block 6 (.loop l72_2)))
 (.seq (.region [] [o 122 (.mv (tv 14)),
 o 123 (.mv (tv 9)),
 o 124 (.mv (tv 13)),
 o 125 (.idxA 11 (tv 123) (tv 124)),
 o 126 (.load true 11 (tv 125)),
 o 127 (.mv (tv 10)),
 o 128 (.mv (tv 13)),
 o 129 (.idxA 11 (tv 127) (tv 128)),
 o 130 (.load true 11 (tv 129)),
 o 131 (.mv (tv 3)),
 oa 132 (.call (kf 72) [(false, (tv 122)), (false, (tv 126)), (false, (tv 130)), (false, (tv 131))] []) 8896,
 o 133 (.un .not (tv 132))] [(3, 7), (4, 7), (3, 8), (4, 8)] [0, 3, 5, 6, 9, 10, 92, 93, 133])
 (.cond (tv 133) (.seq (.region [] [o 8 (.mv kF)] [] [8])
 .ret)
 .skip)))))))
 (.region [6304, 6305, 6306, 6336, 6337] [o 134 (.bin .add 0 (tv 93) (ki 1)),
 o 93 (.mv (tv 134))] [] [0, 3, 5, 6, 9, 10, 92, 93]))))

def v72 : VFun := ⟨4,
 (.seq (.region [] [oa 5 (.box (tv 1)) 64,
 oa 6 (.box (tv 2)) 128,
 o 8 (.mv kF)] [] [0, 3, 5, 6])
 (.seq (.seq (.region [] [o 18 (.mv (tv 3)),
 o 19 (.mv (tv 18)),
 og 20 (.fld 0 (tv 5)) 19 true,
 og 21 (.load false 1 (tv 20)) 19 true,
 og 22 (.bin .eql 0 (tv 21) (ki 10)) 19 true,
 o 23 (.pick (tv 19) (tv 22) kF)] [] [0, 3, 5, 6, 23])
 (.cond (tv 23) (.seq (.region [] [o 8 (.mv kt)] [] [8])
 .ret)
 .skip))
 (.seq (.seq (.region [] [o 24 (.fld 0 (tv 5)),
 o 25 (.load false 1 (tv 24)),
 o 26 (.bin .eql 0 (tv 25) (ki 1)),
 o 27 (.mv (tv 26)),
 og 28 (.fld 0 (tv 6)) 27 true,
 og 29 (.load false 1 (tv 28)) 27 true,
 og 30 (.bin .eql 0 (tv 29) (ki 1)) 27 true,
 o 31 (.pick (tv 27) (tv 30) kF)] [] [0, 3, 5, 6, 31])
 (.cond (tv 31) (.seq (.region [] [o 32 (.mv (tv 0)),
 o 33 (.fld 2 (tv 5)),
 o 34 (.load false 1 (tv 33)),
 o 35 (.fld 2 (tv 6)),
 o 36 (.load false 1 (tv 35)),
 oa 37 (.call (kf 130) [(false, (tv 32)), (false, (tv 34)), (false, (tv 36))] []) 1536,
 o 8 (.mv (tv 37))] [] [8])
 .ret)
 .skip))
 (.seq (.seq (.region [] [o 38 (.fld 0 (tv 5)),
 o 39 (.load false 1 (tv 38)),
 o 40 (.fld 0 (tv 6)),
 o 41 (.load false 1 (tv 40)),
 o 42 (.bin .neq 0 (tv 39) (tv 41)),
 o 43 (.mv (tv 42)),
 og 44 (.fld 0 (tv 5)) 43 false,
 og 45 (.load false 1 (tv 44)) 43 false,
 og 46 (.bin .eql 0 (tv 45) (ki 2)) 43 false,
 og 47 (.mv (tv 46)) 43 false,
 og 48 (.fld 2 (tv 5)) 47 true,
 og 49 (.load false 1 (tv 48)) 47 true,
 og 50 (.fld 2 (tv 6)) 47 true,
 og 51 (.load false 1 (tv 50)) 47 true,
 og 52 (.bin .neq 0 (tv 49) (tv 51)) 47 true,
 og 53 (.pick (tv 47) (tv 52) kF) 43 false,
 o 54 (.pick (tv 43) kt (tv 53))] [] [0, 3, 5, 6, 54])
 (.cond (tv 54) (.seq (.region [] [o 8 (.mv kF)] [] [8])
 .ret)
 .skip))
 (.seq (.region [] [o 55 (.load true 11 (tv 5)),
 oa 56 (.call (kf 79) [(false, (tv 55))] []) 2880,
 o 57 (.load true 11 (tv 6)),
 oa 58 (.call (kf 79) [(false, (tv 57))] []) 3008,
 o 9 (.mv (tv 56)),
 o 10 (.mv (tv 58))] [(0, 2), (1, 2)] [0, 3, 5, 6, 9, 10])
 (.seq (.seq (.region [] [o 59 (.mv (tv 9)),
 o 60 (.len false (tv 59)),
 o 61 (.mv (ki 0))] [] [0, 3, 5, 6, 9, 10, 60, 61])
 (.block 0 (.loop l72_0)))
 (.seq (.seq (.region [] [o 69 (.mv (tv 10)),
 o 70 (.len false (tv 69)),
 o 71 (.mv (ki 0))] [] [0, 3, 5, 6, 9, 10, 70, 71])
 (.block 2 (.loop l72_1)))
 (.seq (.seq (.region [] [o 79 (.load true 11 (tv 5)),
 o 80 (.mv (tv 9)),
 oa 81 (.call (kf 132) [(false, (tv 79)), (false, (tv 80))] []) 4992,
 o 82 (.load true 11 (tv 6)),
 o 83 (.mv (tv 10)),
 oa 84 (.call (kf 132) [(false, (tv 82)), (false, (tv 83))] []) 5184,
 oa 85 (.call (kf 131) [(false, (tv 81)), (false, (tv 84))] []) 5248,
 o 86 (.un .not (tv 85))] [(0, 3), (2, 3)] [0, 3, 5, 6, 86])
 (.cond (tv 86) (.seq (.region [] [o 8 (.mv kF)] [] [8])
 .ret)
 .skip))
 (.seq (.region [] [o 87 (.load true 11 (tv 5)),
 oa 88 (.call (kf 79) [(false, (tv 87))] []) 5504,
 o 89 (.load true 11 (tv 6)),
 oa 90 (.call (kf 79) [(false, (tv 89))] []) 5632,
 o 9 (.mv (tv 88)),
 o 10 (.mv (tv 90))] [(0, 2), (1, 2)] [0, 3, 5, 6, 9, 10])
 (.seq (.seq (.region [] [o 91 (.mv (tv 9)),
 o 92 (.len false (tv 91)),
 o 93 (.mv (ki 0))] [] [0, 3, 5, 6, 9, 10, 92, 93])
 (.block 4 (.loop l72_3)))
 (.seq (.region [] [o 8 (.mv kt)] [] [8])
 .ret))))))))))),
 [.tmp 8], false⟩

def l66_0 : VCode := (.seq (.seq (.region [] [o 88 (.mv (tv 11)),
 o 89 (.fld 5 (tv 4)),
 o 90 (.load false 1 (tv 89)),
 o 91 (.len false (tv 90)),
 o 92 (.bin .lss 0 (tv 88) (tv 91))] [] [2, 3, 4, 5, 11, 92])
 (.cond (tv 92) .skip
 (.exit 1)))
 (.seq (.block 2 (.seq (.region [] [o 95 (.fld 5 (tv 4)),
 o 96 (.load false 1 (tv 95)),
 o 97 (.mv (tv 11)),
 o 98 (.idxA 14 (tv 96) (tv 97)),
 o 99 (.fld 1 (tv 98)),
 o 100 (.load false 1 (tv 99)),
 o 101 (.fld 5 (tv 5)),
 o 102 (.load false 1 (tv 101)),
 o 103 (.mv (tv 11)),
 o 104 (.idxA 14 (tv 102) (tv 103)),
 o 105 (.fld 1 (tv 104)),
 o 106 (.load false 1 (tv 105)),
 o 107 (.bin .neq 0 (tv 100) (tv 106)),
 o 108 (.mv (tv 107)),
 og 109 (.fld 5 (tv 4)) 108 false,
 og 110 (.load false 1 (tv 109)) 108 false,
 og 111 (.mv (tv 11)) 108 false,
 og 112 (.idxA 14 (tv 110) (tv 111)) 108 false,
 og 113 (.fld 2 (tv 112)) 108 false,
 og 114 (.load false 1 (tv 113)) 108 false,
 og 115 (.len false (tv 114)) 108 false,
 og 116 (.fld 5 (tv 5)) 108 false,
 og 117 (.load false 1 (tv 116)) 108 false,
 og 118 (.mv (tv 11)) 108 false,
 og 119 (.idxA 14 (tv 117) (tv 118)) 108 false,
 og 120 (.fld 2 (tv 119)) 108 false,
 og 121 (.load false 1 (tv 120)) 108 false,
 og 122 (.len false (tv 121)) 108 false,
 og 123 (.bin .neq 0 (tv 115) (tv 122)) 108 false,
 o 124 (.pick (tv 108) kt (tv 123))] [(0, 6), (1, 6), (3, 6), (4, 6), (5, 6), (0, 7), (1, 7), (3, 7), (4, 7), (5, 7), (0, 9), (1, 9), (3, 9), (4, 9), (5, 9), (0, 10), (1, 10), (3, 10), (4, 10), (5, 10), (0, 11), (1, 11), (3, 11), (4, 11), (5, 11), (14, 21), (15, 21), (17, 21), (18, 21), (19, 21), (20, 21), (14, 22), (15, 22), (17, 22), (18, 22), (19, 22), (20, 22), (14, 24), (15, 24), (17, 24), (18, 24), (19, 24), (20, 24), (14, 25), (15, 25), (17, 25), (18, 25), (19, 25), (20, 25), (14, 26), (15, 26), (17, 26), (18, 26), (19, 26), (20, 26), (14, 27), (15, 27), (17, 27), (18, 27), (19, 27), (20, 27)] [2, 3, 4, 5, 11, 124])
 (.cond (tv 124) (.seq (.region [] [o 8 (.mv kF)] [] [8])
 .ret)
 .skip)))
 (.region [] [o 93 (.mv (tv 11)),
 o 94 (.bin .add 0 (tv 93) (ki 1)),
 o 11 (.mv (tv 94))] [] [2, 3, 4, 5, 11])))

def l66_1 : VCode := (.seq (.seq (.region [] [o 129 (.mv (tv 14)),
 o 130 (.mv (tv 12)),
 o 131 (.len false (tv 130)),
 o 132 (.bin .lss 0 (tv 129) (tv 131))] [] [2, 3, 4, 5, 12, 13, 14, 132])
 (.cond (tv 132) .skip
 (.exit 3)))
 (.seq (.block 4 (.seq (.region [] [o 135 (.mv (tv 2)),
 oa 136 (.app 1 16 true kn (tv 135)) 8448,
 o 137 (.load true 11 (tv 4)),
 o 138 (.mv (tv 14)),
 oa 139 (.call (kf 126) [(false, (tv 137)), (false, (tv 138))] []) 8640,
 o 140 (.app 1 16 false (tv 136) (tv 139)),
 o 15 (.mv (tv 140))] [(1, 2)] [2, 3, 4, 5, 12, 13, 14, 15])
 (.seq (.region [] [o 141 (.mv (tv 3)),
 oa 142 (.app 1 16 true kn (tv 141)) 8896,
 o 143 (.load true 11 (tv 5)),
 o 144 (.mv (tv 14)),
 oa 145 (.call (kf 126) [(false, (tv 143)), (false, (tv 144))] []) 9088,
 o 146 (.app 1 16 false (tv 142) (tv 145)),
 o 16 (.mv (tv 146))] [(1, 2)] [2, 3, 4, 5, 12, 13, 14, 15, 16])
 (.seq (.region [] [o 147 (.mv (tv 12)),
 o 148 (.mv (tv 14)),
 o 149 (.idxA 11 (tv 147) (tv 148)),
 o 150 (.load true 11 (tv 149)),
 o 151 (.mv (tv 13)),
 o 152 (.mv (tv 14)),
 o 153 (.idxA 11 (tv 151) (tv 152)),
 o 154 (.load true 11 (tv 153)),
 o 155 (.mv (tv 15)),
 o 156 (.mv (tv 16)),
 oa 157 (.call (kf 66) [(false, (tv 150)), (false, (tv 154)), (false, (tv 155)), (false, (tv 156))] []) 9920,
 o 158 (.un .not (tv 157))] [(2, 6), (3, 6), (2, 7), (3, 7)] [2, 3, 4, 5, 12, 13, 14, 158])
 (.cond (tv 158) (.seq (.region [] [o 8 (.mv kF)] [] [8])
 .ret)
 .skip)))))
 (.region [8448, 8896] [o 133 (.mv (tv 14)),
 o 134 (.bin .add 0 (tv 133) (ki 1)),
 o 14 (.mv (tv 134))] [] [2, 3, 4, 5, 12, 13, 14])))

def v66 : VFun := ⟨4,
 (.seq (.region [] [oa 4 (.box (tv 0)) 64,
 oa 5 (.box (tv 1)) 128,
 o 8 (.mv kF)] [] [2, 3, 4, 5])
 (.seq (.seq (.region [] [o 17 (.fld 0 (tv 4)),
 o 18 (.load false 1 (tv 17)),
 o 19 (.fld 0 (tv 5)),
 o 20 (.load false 1 (tv 19)),
 o 21 (.bin .neq 0 (tv 18) (tv 20)),
 o 22 (.mv (tv 21)),
 og 23 (.fld 3 (tv 4)) 22 false,
 og 24 (.load false 1 (tv 23)) 22 false,
 og 25 (.fld 3 (tv 5)) 22 false,
 og 26 (.load false 1 (tv 25)) 22 false,
 og 27 (.bin .neq 0 (tv 24) (tv 26)) 22 false,
 o 28 (.pick (tv 22) kt (tv 27)),
 o 29 (.mv (tv 28)),
 og 30 (.fld 6 (tv 4)) 29 false,
 og 31 (.load true 5 (tv 30)) 29 false,
 og 32 (.fld 6 (tv 5)) 29 false,
 og 33 (.load true 5 (tv 32)) 29 false,
 ⟨(some 34), (.call (kf 84) [(false, (tv 31)), (false, (tv 33))] []), (some (29, false)), 1344, []⟩,
 og 35 (.un .not (tv 34)) 29 false,
 o 36 (.pick (tv 29) kt (tv 35)),
 o 37 (.mv (tv 36)),
 og 38 (.fld 4 (tv 4)) 37 false,
 og 39 (.load false 1 (tv 38)) 37 false,
 og 40 (.len false (tv 39)) 37 false,
 og 41 (.fld 4 (tv 5)) 37 false,
 og 42 (.load false 1 (tv 41)) 37 false,
 og 43 (.len false (tv 42)) 37 false,
 og 44 (.bin .neq 0 (tv 40) (tv 43)) 37 false,
 o 45 (.pick (tv 37) kt (tv 44)),
 o 46 (.mv (tv 45)),
 og 47 (.fld 5 (tv 4)) 46 false,
 og 48 (.load false 1 (tv 47)) 46 false,
 og 49 (.len false (tv 48)) 46 false,
 og 50 (.fld 5 (tv 5)) 46 false,
 og 51 (.load false 1 (tv 50)) 46 false,
 og 52 (.len false (tv 51)) 46 false,
 og 53 (.bin .neq 0 (tv 49) (tv 52)) 46 false,
 o 54 (.pick (tv 46) kt (tv 53))] [] [2, 3, 4, 5, 54])
 (.cond (tv 54) (.seq (.region [] [o 8 (.mv kF)] [] [8])
 .ret)
 .skip))
 (.seq (.seq (.region [] [o 55 (.fld 0 (tv 4)),
 o 56 (.load false 1 (tv 55))] [] [2, 3, 4, 5, 56])
 (.block 0 (.seq (.region [] [o 58 (.bin .eql 0 (tv 56) (ki 1)),
 o 57 (.mv (tv 58))] [] [2, 3, 4, 5, 56, 57])
 (.cond (tv 57) (.seq (.region [] [o 59 (.mv (tv 2)),
 o 60 (.fld 2 (tv 4)),
 o 61 (.load false 1 (tv 60)),
 oa 62 (.call (kf 125) [(false, (tv 59)), (false, (tv 61))] []) 3200,
 o 63 (.mv (tv 3)),
 o 64 (.fld 2 (tv 5)),
 o 65 (.load false 1 (tv 64)),
 oa 66 (.call (kf 125) [(false, (tv 63)), (false, (tv 65))] []) 3456,
 o 9 (.mv (tv 62)),
 o 10 (.mv (tv 66))] [(1, 5), (2, 5), (3, 5), (1, 6), (2, 6), (3, 6)] [4, 5, 9, 10])
 (.seq (.region [] [o 67 (.mv (tv 9)),
 o 68 (.mv (tv 10)),
 o 69 (.bin .eql 0 (tv 67) (tv 68)),
 o 70 (.mv (tv 69)),
 og 71 (.mv (tv 9)) 70 true,
 og 72 (.bin .geq 0 (tv 71) (ki 0)) 70 true,
 og 73 (.mv (tv 72)) 70 true,
 og 74 (.fld 2 (tv 4)) 73 false,
 og 75 (.load false 1 (tv 74)) 73 false,
 og 76 (.fld 2 (tv 5)) 73 false,
 og 77 (.load false 1 (tv 76)) 73 false,
 og 78 (.bin .eql 0 (tv 75) (tv 77)) 73 false,
 og 79 (.pick (tv 73) kt (tv 78)) 70 true,
 o 80 (.pick (tv 70) (tv 79) kF),
 o 8 (.mv (tv 80))] [] [8])
 .ret))
 (.seq (.region [] [o 82 (.bin .eql 0 (tv 56) (ki 2)),
 o 81 (.mv (tv 82))] [] [2, 3, 4, 5, 81])
 (.cond (tv 81) (.seq (.region [] [o 83 (.fld 2 (tv 4)),
 o 84 (.load false 1 (tv 83)),
 o 85 (.fld 2 (tv 5)),
 o 86 (.load false 1 (tv 85)),
 o 87 (.bin .eql 0 (tv 84) (tv 86)),
 o 8 (.mv (tv 87))] [] [8])
 .ret)
 .skip))))))
 (.seq (.seq (.region [] [o 11 (.mv (ki 0))] [] [2, 3, 4, 5, 11])
 (.block 1 (.loop l66_0)))
 (.seq (.region [] [o 125 (.load true 11 (tv 4)),
 oa 126 (.call (kf 69) [(false, (tv 125))] []) 7744,
 o 127 (.load true 11 (tv 5)),
 oa 128 (.call (kf 69) [(false, (tv 127))] []) 7872,
 o 12 (.mv (tv 126)),
 o 13 (.mv (tv 128))] [(0, 2), (1, 2)] [2, 3, 4, 5, 12, 13])
 (.seq (.seq (.region [] [o 14 (.mv (ki 0))] [] [2, 3, 4, 5, 12, 13, 14])
 (.block 3 (.loop l66_1)))
 (.seq (.region [] [o 8 (.mv kt)] [] [8])
 .ret))))))),
 [.tmp 8], false⟩

def v27 : VFun := ⟨2,
 (.seq (.region [] [o 4 (.mv (ki 0))] [] [0, 1])
 (.seq (.seq (.region [] [o 5 (.mv (tv 1)),
 o 6 (.bin .lss 0 (tv 5) (ki 1))] [] [0, 1, 6])
 (.cond (tv 6) (.seq (.region [] [o 4 (.mv (ki 0))] [] [4])
 .ret)
 .skip))
 (.seq (.region [] [o 7 (.mv (tv 0)),
 o 8 (.mv (tv 1)),
 o 9 (.bin .rem 0 (tv 7) (tv 8)),
 o 0 (.mv (tv 9))] [] [0, 1])
 (.seq (.seq (.region [] [o 10 (.mv (tv 0)),
 o 11 (.bin .lss 0 (tv 10) (ki 0))] [] [0, 1, 11])
 (.cond (tv 11) (.region [] [o 12 (.mv (tv 0)),
 o 13 (.mv (tv 1)),
 o 14 (.bin .add 0 (tv 12) (tv 13)),
 o 0 (.mv (tv 14))] [] [0])
 .skip))
 (.seq (.region [] [o 15 (.mv (tv 0)),
 o 4 (.mv (tv 15))] [] [4])
 .ret))))),
 [.tmp 4], false⟩

def l26_0 : VCode := (.seq (.seq (.region [] [o 9 (.mv (tv 4)),
 o 10 (.bin .neq 0 (tv 9) (ki 0))] [] [0, 3, 4, 10])
 (.cond (tv 10) .skip
 (.exit 0)))
 (.seq (.block 1 (.seq (.region [] [o 13 (.mv (tv 4)),
 o 14 (.bin .rem 0 (tv 13) (ki 10)),
 o 5 (.mv (tv 14))] [] [0, 3, 4, 5])
 (.seq (.seq (.region [] [o 15 (.mv (tv 5)),
 o 16 (.bin .lss 0 (tv 15) (ki 0))] [] [0, 3, 4, 5, 16])
 (.cond (tv 16) (.region [] [o 17 (.mv (tv 5)),
 o 18 (.un .neg (tv 17)),
 o 5 (.mv (tv 18))] [] [0, 3, 4, 5])
 .skip))
 (.region [] [o 19 (.mv (tv 5)),
 o 20 (.mv (tv 5)),
 o 21 (.bin .add 0 (tv 20) (ki 1)),
 o 22 (.slS (.k (.sc (.c (.str [48, 49, 50, 51, 52, 53, 54, 55, 56, 57])))) (some (tv 19)) (some (tv 21))),
 o 23 (.mv (tv 3)),
 o 24 (.bin .add 0 (tv 22) (tv 23)),
 o 3 (.mv (tv 24))] [] [0, 3, 4]))))
 (.region [] [o 11 (.mv (tv 4)),
 o 12 (.bin .quo 0 (tv 11) (ki 10)),
 o 4 (.mv (tv 12))] [] [0, 3, 4])))

def v26 : VFun := ⟨1,
 (.seq (.region [] [o 2 (.mv (.k (.sc zs)))] [] [0])
 (.seq (.seq (.region [] [o 6 (.mv (tv 0)),
 o 7 (.bin .eql 0 (tv 6) (ki 0))] [] [0, 7])
 (.cond (tv 7) (.seq (.region [] [o 2 (.mv (.k (.sc (.c (.str [48])))))] [] [2])
 .ret)
 .skip))
 (.seq (.region [] [o 3 (.mv (.k (.sc zs)))] [] [0, 3])
 (.seq (.seq (.region [] [o 8 (.mv (tv 0)),
 o 4 (.mv (tv 8))] [] [0, 3, 4])
 (.block 0 (.loop l26_0)))
 (.seq (.seq (.region [] [o 25 (.mv (tv 0)),
 o 26 (.bin .lss 0 (tv 25) (ki 0))] [] [3, 26])
 (.cond (tv 26) (.region [] [o 27 (.mv (tv 3)),
 o 28 (.bin .add 0 (.k (.sc (.c (.str [45])))) (tv 27)),
 o 3 (.mv (tv 28))] [] [3])
 .skip))
 (.seq (.region [] [o 29 (.mv (tv 3)),
 o 2 (.mv (tv 29))] [] [2])
 .ret)))))),
 [.tmp 2], false⟩

def v40 : VFun := ⟨2,
 (.seq (.region [] [oa 2 (.box (tv 0)) 64,
 oa 4 (.new [zi, zi, zs, zi, .nil, .nil, zi, zs, zi, zi, .nil] []) 128] [] [1, 2, 4])
 (.seq (.region [] [o 5 (.load true 11 (tv 2)),
 oa 6 (.call (kf 97) [(false, (tv 5))] []) 256,
 o 7 (.mv (tv 1)),
 oa 8 (.app 1 16 true kn (tv 7)) 384,
 o 9 (.load true 11 (tv 2)),
 oa 10 (.call (kf 32) [(false, (tv 9))] []) 512,
 o 11 (.app 1 16 false (tv 8) (tv 10)),
 oa 12 (.call (kf 96) [(false, (tv 6)), (false, (tv 11)), (false, kn), (false, kn)] []) 640,
 on (.store 11 (tv 4) (tv 12) [])] [(0, 4), (1, 4), (3, 4)] [4])
 .ret)),
 [.cell 4 true 11], false⟩

def v127 : VFun := ⟨1,
 (.seq (.region [] [oa 2 (.new [zi, zi, zs, zi, .nil, .nil, zi, zs, zi, zi, .nil] []) 64,
 oa 3 (.new [zi, zi] []) 128] [] [0, 2, 3])
 (.seq (.region [] [o 11 (.mv (tv 0)),
 oa 12 (.call (kf 167) [(false, (tv 11))] []) 256,
 o 10 (.mv (tv 12)),
 o 13 (.ext 0 (tv 10)),
 o 14 (.ext 1 (tv 10)),
 oa 5 (.new [zi, zi] []) 512,
 o 4 (.mv (tv 13)),
 on (.store 2 (tv 5) (tv 14) [])] [] [2, 3, 4, 5])
 (.seq (.seq (.region [] [o 15 (.fld 0 (tv 5)),
 o 16 (.load false 1 (tv 15)),
 o 17 (.bin .neq 0 (tv 16) (ki 0))] [] [2, 3, 4, 5, 17])
 (.cond (tv 17) (.seq (.region [] [o 18 (.build [zi, zi, zs, zi, .nil, .nil, zi, zs, zi, zi, .nil] []),
 o 19 (.load true 2 (tv 5)),
 on (.store 11 (tv 2) (tv 18) []),
 on (.store 2 (tv 3) (tv 19) [])] [(1, 2)] [2, 3])
 .ret)
 .skip))
 (.seq (.region [] [o 20 (.mv (tv 4)),
 oa 21 (.call (kf 168) [(false, (tv 20)), (false, (ki 0))] []) 1216,
 o 6 (.mv (tv 21))] [] [2, 3, 4, 5, 6])
 (.seq (.region [] [o 22 (.mv (tv 6)),
 oa 23 (.call (kf 169) [(true, (tv 22))] []) 1408,
 oa 7 (.new [zi, zi, zs, zi, .nil, .nil, zi, zs, zi, zi, .nil] []) 1472,
 on (.store 11 (tv 7) (tv 23) [])] [] [2, 3, 4, 5, 6, 7])
 (.seq (.seq (.region [] [o 24 (.mv (tv 6)),
 o 25 (.nn (tv 24)),
 o 26 (.fld 1 (tv 25)),
 o 27 (.load false 1 (tv 26)),
 o 28 (.mv (tv 4)),
 o 29 (.len false (tv 28)),
 o 30 (.bin .lss 0 (tv 27) (tv 29))] [] [2, 3, 5, 6, 7, 30])
 (.cond (tv 30) (.region [] [o 31 (.mv (tv 6)),
 oa 32 (.call (kf 170) [(true, (tv 31))] []) 2112] [] [2, 3, 5, 6, 7])
 .skip))
 (.seq (.seq (.region [] [o 33 (.mv (tv 6)),
 o 34 (.nn (tv 33)),
 o 35 (.fld 2 (tv 34)),
 o 36 (.load false 1 (tv 35))] [] [2, 3, 5, 6, 7, 36])
 (.cond (tv 36) (.seq (.region [] [o 37 (.build [zi, zi, zs, zi, .nil, .nil, zi, zs, zi, zi, .nil] []),
 o 38 (.mv (tv 6)),
 o 39 (.nn (tv 38)),
 o 40 (.fld 3 (tv 39)),
 o 41 (.load false 1 (tv 40)),
 o 42 (.build [zi, zi] [(0, 1, (ki 3)), (1, 1, (tv 41))]),
 on (.store 11 (tv 2) (tv 37) []),
 on (.store 2 (tv 3) (tv 42) [])] [(2, 6), (3, 6), (4, 6)] [2, 3])
 .ret)
 .skip))
 (.seq (.seq (.region [] [o 43 (.load true 11 (tv 7)),
 oa 44 (.call (kf 171) [(false, (tv 43))] []) 3008] [] [2, 3, 5, 7, 44])
 (.cond (tv 44) (.seq (.region [] [o 45 (.build [zi, zi, zs, zi, .nil, .nil, zi, zs, zi, zi, .nil] []),
 o 46 (.build [zi, zi] [(0, 1, (ki 4))]),
 on (.store 11 (tv 2) (tv 45) []),
 on (.store 2 (tv 3) (tv 46) [])] [] [2, 3])
 .ret)
 .skip))
 (.seq (.seq (.region [] [o 48 (.load true 11 (tv 7)),
 oa 49 (.call (kf 172) [(false, (tv 48))] []) 3392,
 o 47 (.mv (tv 49)),
 o 50 (.ext 0 (tv 47)),
 o 51 (.ext 1 (tv 47)),
 o 8 (.mv (tv 50)),
 o 9 (.mv (tv 51))] [] [2, 3, 5, 7, 8, 9])
 (.seq (.region [] [o 52 (.mv (tv 9))] [] [2, 3, 5, 7, 8, 52])
 (.cond (tv 52) (.seq (.region [] [o 53 (.build [zi, zi, zs, zi, .nil, .nil, zi, zs, zi, zi, .nil] []),
 o 54 (.mv (tv 8)),
 o 55 (.build [zi, zi] [(0, 1, (ki 5)), (1, 1, (tv 54))]),
 on (.store 11 (tv 2) (tv 53) []),
 on (.store 2 (tv 3) (tv 55) [])] [] [2, 3])
 .ret)
 .skip)))
 (.seq (.region [] [o 56 (.load true 11 (tv 7)),
 o 57 (.load true 2 (tv 5)),
 on (.store 11 (tv 2) (tv 56) []),
 on (.store 2 (tv 3) (tv 57) [])] [(0, 1), (1, 2)] [2, 3])
 .ret)))))))))),
 [.cell 2 true 11, .cell 3 true 2], false⟩

def l82_0 : VCode := (.seq (.region [] [o 39 (.bin .lss 0 (tv 38) (tv 37))] [] [2, 3, 4, 36, 37, 38, 39])
 (.seq (.cond (tv 39) .skip
 (.exit 1))
 (.seq (.block 2 (.seq (.region [] [o 40 (.mv (tv 38)),
 o 41 (.idxA 14 (tv 36) (tv 38)),
 o 42 (.load true 14 (tv 41)),
 oa 6 (.new [zi, zs, .nil, zi, zi, zs, zi, .nil, .nil, zi, zs, zi, zi, .nil] []) 2752,
 o 5 (.mv (tv 40)),
 on (.store 14 (tv 6) (tv 42) [])] [] [2, 3, 4, 5, 6, 36, 37, 38])
 (.region [] [o 43 (.fld 5 (tv 3)),
 o 44 (.load false 1 (tv 43)),
 o 45 (.mv (tv 5)),
 o 46 (.load true 13 (tv 2)),
 o 47 (.load true 14 (tv 6)),
 oa 48 (.call (kf 145) [(false, (tv 46)), (false, (tv 47))] []) 3264,
 o 49 (.idxA 14 (tv 44) (tv 45)),
 on (.store 14 (tv 49) (tv 48) [])] [(0, 3), (1, 3), (0, 4), (1, 4), (3, 4), (0, 5), (1, 5)] [2, 3, 4, 36, 37, 38])))
 (.region [2752] [o 50 (.bin .add 0 (tv 38) (ki 1)),
 o 38 (.mv (tv 50))] [] [2, 3, 4, 36, 37, 38]))))

def l82_1 : VCode := (.seq (.region [] [o 56 (.bin .lss 0 (tv 55) (tv 54))] [] [2, 3, 4, 7, 53, 54, 55, 56])
 (.seq (.cond (tv 56) .skip
 (.exit 3))
 (.seq (.block 4 (.seq (.region [] [o 57 (.mv (tv 55)),
 o 58 (.idxA 11 (tv 53) (tv 55)),
 o 59 (.load true 11 (tv 58)),
 oa 9 (.new [zi, zi, zs, zi, .nil, .nil, zi, zs, zi, zi, .nil] []) 4224,
 o 8 (.mv (tv 57)),
 on (.store 11 (tv 9) (tv 59) [])] [] [2, 3, 4, 7, 8, 9, 53, 54, 55])
 (.seq (.region [] [o 60 (.load true 11 (tv 3)),
 o 61 (.mv (tv 8)),
 oa 62 (.call (kf 80) [(false, (tv 60)), (false, (tv 61))] []) 4544,
 o 63 (.fld 0 (tv 2)),
 o 64 (.load false 1 (tv 63)),
 oa 65 (.call (kf 81) [(false, (tv 62)), (false, (tv 64))] []) 4736,
 o 66 (.un .not (tv 65))] [(0, 3), (2, 3), (0, 4), (2, 4)] [2, 3, 4, 7, 8, 9, 53, 54, 55, 66])
 (.cond (tv 66) (.region [] [o 67 (.mv (tv 7)),
 o 68 (.mv (tv 8)),
 o 69 (.load true 13 (tv 2)),
 o 70 (.load true 11 (tv 9)),
 oa 71 (.call (kf 82) [(false, (tv 69)), (false, (tv 70))] []) 5120,
 o 72 (.idxA 11 (tv 67) (tv 68)),
 on (.store 11 (tv 72) (tv 71) [])] [] [2, 3, 4, 7, 53, 54, 55])
 .skip))))
 (.region [4224] [o 73 (.bin .add 0 (tv 55) (ki 1)),
 o 55 (.mv (tv 73))] [] [2, 3, 4, 7, 53, 54, 55]))))

def v82 : VFun := ⟨2,
 (.seq (.region [] [oa 2 (.box (tv 0)) 64,
 oa 3 (.box (tv 1)) 128,
 oa 4 (.new [zi, zi, zs, zi, .nil, .nil, zi, zs, zi, zi, .nil] []) 192] [] [2, 3, 4])
 (.seq (.seq (.region [] [o 10 (.fld 0 (tv 3)),
 o 11 (.load false 1 (tv 10))] [] [2, 3, 4, 11])
 (.block 0 (.seq (.region [] [o 13 (.bin .eql 0 (tv 11) (ki 1)),
 o 12 (.mv (tv 13))] [] [2, 3, 4, 11, 12])
 (.cond (tv 12) (.seq (.seq (.region [] [o 14 (.fld 2 (tv 3)),
 o 15 (.load false 1 (tv 14)),
 o 16 (.fld 0 (tv 2)),
 o 17 (.load false 1 (tv 16)),
 o 18 (.bin .eql 0 (tv 15) (tv 17))] [] [2, 3, 4, 18])
 (.cond (tv 18) (.seq (.region [] [o 19 (.fld 1 (tv 2)),
 o 20 (.load true 11 (tv 19)),
 on (.store 11 (tv 4) (tv 20) [])] [] [4])
 .ret)
 .skip))
 (.seq (.region [] [o 21 (.load true 11 (tv 3)),
 on (.store 11 (tv 4) (tv 21) [])] [] [4])
 .ret))
 (.seq (.seq (.region [] [o 23 (.bin .eql 0 (tv 11) (ki 4)),
 o 22 (.mv (tv 23))] [] [2, 3, 4, 11, 22])
 (.cond (tv 22) .skip
 (.seq (.region [] [o 24 (.bin .eql 0 (tv 11) (ki 6)),
 o 22 (.mv (tv 24))] [] [2, 3, 4, 11, 22])
 (.cond (tv 22) .skip
 (.region [] [o 25 (.bin .eql 0 (tv 11) (ki 7)),
 o 22 (.mv (tv 25))] [] [2, 3, 4, 11, 22])))))
 (.cond (tv 22) (.region [] [o 26 (.load true 13 (tv 2)),
 o 27 (.load true 11 (tv 3)),
 oa 28 (.call (kf 143) [(false, (tv 26)), (false, (tv 27))] []) 1664,
 on (.store 11 (tv 3) (tv 28) [])] [] [2, 3, 4])
 (.seq (.region [] [o 30 (.bin .eql 0 (tv 11) (ki 8)),
 o 29 (.mv (tv 30))] [] [2, 3, 4, 29])
 (.cond (tv 29) (.seq (.region [] [o 31 (.fld 5 (tv 3)),
 o 32 (.load false 1 (tv 31)),
 oa 33 (.call (kf 144) [(false, (tv 32))] []) 2048,
 o 34 (.fld 5 (tv 3)),
 on (.store 1 (tv 34) (tv 33) [])] [] [2, 3, 4])
 (.seq (.region [] [o 35 (.fld 5 (tv 3)),
 o 36 (.load false 1 (tv 35)),
 o 37 (.len false (tv 36)),
 o 38 (.mv (ki 0))] [] [2, 3, 4, 36, 37, 38])
 (.block 1 (.loop l82_0))))
 .skip))))))))
 (.seq (.region [] [o 51 (.load true 11 (tv 3)),
 oa 52 (.call (kf 79) [(false, (tv 51))] []) 3648,
 o 7 (.mv (tv 52))] [] [2, 3, 4, 7])
 (.seq (.seq (.region [] [o 53 (.mv (tv 7)),
 o 54 (.len false (tv 53)),
 o 55 (.mv (ki 0))] [] [2, 3, 4, 7, 53, 54, 55])
 (.block 3 (.loop l82_1)))
 (.seq (.region [] [o 74 (.load true 11 (tv 3)),
 o 75 (.mv (tv 7)),
 oa 76 (.call (kf 146) [(false, (tv 74)), (false, (tv 75))] []) 5568,
 on (.store 11 (tv 4) (tv 76) [])] [] [4])
 .ret))))),
 [.cell 4 true 11], false⟩

def v84 : VFun := ⟨2,
 (.seq (.region [] [oa 2 (.box (tv 0)) 64,
 oa 3 (.box (tv 1)) 128,
 o 4 (.mv kF)] [] [2, 3])
 (.seq (.seq (.region [] [o 5 (.fld 0 (tv 2)),
 o 6 (.load false 1 (tv 5)),
 o 7 (.fld 0 (tv 3)),
 o 8 (.load false 1 (tv 7)),
 o 9 (.bin .neq 0 (tv 6) (tv 8)),
 o 10 (.mv (tv 9)),
 og 11 (.fld 1 (tv 2)) 10 false,
 og 12 (.load false 1 (tv 11)) 10 false,
 og 13 (.fld 1 (tv 3)) 10 false,
 og 14 (.load false 1 (tv 13)) 10 false,
 og 15 (.bin .neq 0 (tv 12) (tv 14)) 10 false,
 o 16 (.pick (tv 10) kt (tv 15)),
 o 17 (.mv (tv 16)),
 og 18 (.fld 2 (tv 2)) 17 false,
 og 19 (.load false 1 (tv 18)) 17 false,
 og 20 (.fld 2 (tv 3)) 17 false,
 og 21 (.load false 1 (tv 20)) 17 false,
 og 22 (.bin .neq 0 (tv 19) (tv 21)) 17 false,
 o 23 (.pick (tv 17) kt (tv 22)),
 o 24 (.mv (tv 23)),
 og 25 (.fld 3 (tv 2)) 24 false,
 og 26 (.load false 1 (tv 25)) 24 false,
 og 27 (.fld 3 (tv 3)) 24 false,
 og 28 (.load false 1 (tv 27)) 24 false,
 og 29 (.bin .neq 0 (tv 26) (tv 28)) 24 false,
 o 30 (.pick (tv 24) kt (tv 29))] [] [2, 3, 30])
 (.cond (tv 30) (.seq (.region [] [o 4 (.mv kF)] [] [4])
 .ret)
 .skip))
 (.seq (.region [] [o 31 (.fld 4 (tv 2)),
 o 32 (.load false 1 (tv 31)),
 o 33 (.fld 4 (tv 3)),
 o 34 (.load false 1 (tv 33)),
 oa 35 (.call (kf 147) [(false, (tv 32)), (false, (tv 34))] []) 2240,
 o 4 (.mv (tv 35))] [] [4])
 .ret))),
 [.tmp 4], false⟩

def l86_0 : VCode := (.seq (.seq (.region [] [o 11 (.mv (tv 5)),
 o 12 (.mv (tv 0)),
 o 13 (.len false (tv 12)),
 o 14 (.bin .lss 0 (tv 11) (tv 13))] [] [0, 1, 5, 14])
 (.cond (tv 14) .skip
 (.exit 0)))
 (.seq (.block 1 (.seq (.region [] [o 17 (.mv (tv 0)),
 o 18 (.mv (tv 5)),
 o 19 (.idxA 11 (tv 17) (tv 18)),
 o 20 (.load true 11 (tv 19)),
 o 21 (.mv (tv 1)),
 o 22 (.mv (tv 5)),
 o 23 (.idxA 11 (tv 21) (tv 22)),
 o 24 (.load true 11 (tv 23)),
 oa 25 (.call (kf 35) [(false, (tv 20)), (false, (tv 24))] []) 1344,
 o 26 (.un .not (tv 25))] [(2, 6), (3, 6), (2, 7), (3, 7)] [0, 1, 5, 26])
 (.cond (tv 26) (.seq (.region [] [o 4 (.mv kF)] [] [4])
 .ret)
 .skip)))
 (.region [] [o 15 (.mv (tv 5)),
 o 16 (.bin .add 0 (tv 15) (ki 1)),
 o 5 (.mv (tv 16))] [] [0, 1, 5])))

def v86 : VFun := ⟨2,
 (.seq (.region [] [o 4 (.mv kF)] [] [0, 1])
 (.seq (.seq (.region [] [o 6 (.mv (tv 0)),
 o 7 (.len false (tv 6)),
 o 8 (.mv (tv 1)),
 o 9 (.len false (tv 8)),
 o 10 (.bin .neq 0 (tv 7) (tv 9))] [] [0, 1, 10])
 (.cond (tv 10) (.seq (.region [] [o 4 (.mv kF)] [] [4])
 .ret)
 .skip))
 (.seq (.seq (.region [] [o 5 (.mv (ki 0))] [] [0, 1, 5])
 (.block 0 (.loop l86_0)))
 (.seq (.region [] [o 4 (.mv kt)] [] [4])
 .ret)))),
 [.tmp 4], false⟩

def l79_0 : VCode := (.seq (.region [] [o 13 (.bin .lss 0 (tv 12) (tv 11))] [] [3, 10, 11, 12, 13])
 (.seq (.cond (tv 13) .skip
 (.exit 0))
 (.seq (.block 1 (.seq (.region [] [o 14 (.idxA 14 (tv 10) (tv 12)),
 o 15 (.load true 14 (tv 14)),
 oa 5 (.new [zi, zs, .nil, zi, zi, zs, zi, .nil, .nil, zi, zs, zi, zi, .nil] []) 896,
 on (.store 14 (tv 5) (tv 15) [])] [] [3, 5, 10, 11, 12])
 (.region [] [o 16 (.mv (tv 3)),
 o 17 (.fld 3 (tv 5)),
 o 18 (.load true 11 (tv 17)),
 oa 19 (.mkSl 11 [(tv 18)]) 1216,
 o 20 (.app 11 152 false (tv 16) (tv 19)),
 o 3 (.mv (tv 20))] [] [3, 10, 11, 12])))
 (.region [896, 1216] [o 21 (.bin .add 0 (tv 12) (ki 1)),
 o 12 (.mv (tv 21))] [] [3, 10, 11, 12]))))

def v79 : VFun := ⟨1,
 (.seq (.region [] [oa 1 (.box (tv 0)) 64,
 o 2 (.mv kn)] [] [1])
 (.seq (.region [] [o 6 (.fld 4 (tv 1)),
 o 7 (.load false 1 (tv 6)),
 oa 8 (.call (kf 140) [(false, (tv 7))] []) 320,
 o 3 (.mv (tv 8))] [] [1, 3])
 (.seq (.seq (.region [] [o 9 (.fld 5 (tv 1)),
 o 10 (.load false 1 (tv 9)),
 o 11 (.len false (tv 10)),
 o 12 (.mv (ki 0))] [] [3, 10, 11, 12])
 (.block 0 (.loop l79_0)))
 (.seq (.region [] [o 22 (.mv (tv 3)),
 o 2 (.mv (tv 22))] [] [2])
 .ret)))),
 [.tmp 2], true⟩

def v80 : VFun := ⟨2,
 (.seq (.region [] [oa 2 (.box (tv 0)) 64,
 o 4 (.mv kn)] [] [1, 2])
 (.seq (.seq (.region [] [o 8 (.load true 11 (tv 2)),
 o 9 (.mv (tv 1)),
 oa 10 (.mkSl 1 [(tv 9)]) 320,
 oa 11 (.call (kf 141) [(false, (tv 8)), (false, (tv 10))] []) 384,
 o 7 (.mv (tv 11)),
 o 12 (.ext 0 (tv 7)),
 o 13 (.ext 1 (tv 7)),
 oa 5 (.new [zi, zi, zs, zi, .nil, .nil, zi, zs, zi, zi, .nil] []) 640,
 on (.store 11 (tv 5) (tv 12) []),
 o 6 (.mv (tv 13))] [] [1, 2, 6])
 (.seq (.region [320, 640] [o 14 (.mv (tv 6)),
 o 15 (.un .not (tv 14))] [] [1, 2, 15])
 (.cond (tv 15) (.seq (.region [] [o 4 (.mv kn)] [] [4])
 .ret)
 .skip)))
 (.seq (.seq (.region [] [o 16 (.fld 0 (tv 2)),
 o 17 (.load false 1 (tv 16)),
 o 18 (.bin .eql 0 (tv 17) (ki 8)),
 o 19 (.mv (tv 18)),
 og 20 (.mv (tv 1)) 19 true,
 og 21 (.fld 4 (tv 2)) 19 true,
 og 22 (.load false 1 (tv 21)) 19 true,
 og 23 (.len false (tv 22)) 19 true,
 og 24 (.bin .geq 0 (tv 20) (tv 23)) 19 true,
 o 25 (.pick (tv 19) (tv 24) kF)] [] [1, 2, 25])
 (.cond (tv 25) (.seq (.region [] [o 26 (.fld 5 (tv 2)),
 o 27 (.load false 1 (tv 26)),
 o 28 (.mv (tv 1)),
 o 29 (.fld 4 (tv 2)),
 o 30 (.load false 1 (tv 29)),
 o 31 (.len false (tv 30)),
 o 32 (.bin .sub 0 (tv 28) (tv 31)),
 o 33 (.idxA 14 (tv 27) (tv 32)),
 o 34 (.fld 2 (tv 33)),
 o 35 (.load false 1 (tv 34)),
 o 4 (.mv (tv 35))] [] [4])
 .ret)
 .skip))
 (.seq (.region [] [o 36 (.load true 11 (tv 2)),
 o 37 (.mv (tv 1)),
 oa 38 (.mkSl 1 [(tv 37)]) 2496,
 oa 39 (.call (kf 142) [(false, (tv 36)), (false, (tv 38))] []) 2560,
 o 4 (.mv (tv 39))] [] [4])
 .ret)))),
 [.tmp 4], false⟩

def v81 : VFun := ⟨2,
 (.seq (.region [] [o 4 (.mv kF)] [] [0, 1])
 (.seq (.region [] [o 5 (.mv (tv 0)),
 o 6 (.mv (tv 1)),
 oa 7 (.call (kf 107) [(false, (tv 5)), (false, (tv 6))] []) 256,
 o 8 (.bin .geq 0 (tv 7) (ki 0)),
 o 4 (.mv (tv 8))] [] [4])
 .ret)),
 [.tmp 4], false⟩

def l129_0 : VCode := (.seq (.seq (.region [] [o 20 (.mv (tv 7)),
 o 21 (.nn (tv 20)),
 o 22 (.fld 2 (tv 21)),
 o 23 (.load false 1 (tv 22)),
 o 24 (.un .not (tv 23)),
 o 25 (.mv (tv 24)),
 og 26 (.mv (tv 7)) 25 true,
 og 27 (.nn (tv 26)) 25 true,
 og 28 (.fld 1 (tv 27)) 25 true,
 og 29 (.load false 1 (tv 28)) 25 true,
 og 30 (.mv (tv 4)) 25 true,
 og 31 (.len false (tv 30)) 25 true,
 og 32 (.bin .lss 0 (tv 29) (tv 31)) 25 true,
 o 33 (.pick (tv 25) (tv 32) kF)] [] [2, 3, 4, 5, 6, 7, 33])
 (.cond (tv 33) .skip
 (.exit 0)))
 (.block 1 (.seq (.region [] [o 34 (.mv (tv 7)),
 oa 35 (.call (kf 173) [(true, (tv 34)), (false, (.k (.sc (.c (.str [100, 97, 116, 97])))))] []) 2368] [] [2, 3, 4, 5, 6, 7, 35])
 (.cond (tv 35) (.region [2688] [o 36 (.fld 0 (tv 6)),
 o 37 (.load false 1 (tv 36)),
 o 38 (.mv (tv 7)),
 oa 39 (.call (kf 174) [(true, (tv 38))] []) 2624,
 oa 40 (.mkSl 4 [(tv 39)]) 2688,
 o 41 (.app 4 72 false (tv 37) (tv 40)),
 o 42 (.fld 0 (tv 6)),
 on (.store 1 (tv 42) (tv 41) [])] [(0, 3), (1, 3), (0, 4), (1, 4)] [2, 3, 4, 5, 6, 7])
 (.region [3200] [o 43 (.fld 1 (tv 6)),
 o 44 (.load false 1 (tv 43)),
 o 45 (.mv (tv 7)),
 oa 46 (.call (kf 175) [(true, (tv 45))] []) 3136,
 oa 47 (.mkSl 20 [(tv 46)]) 3200,
 o 48 (.app 20 256 false (tv 44) (tv 47)),
 o 49 (.fld 1 (tv 6)),
 on (.store 1 (tv 49) (tv 48) [])] [(0, 3), (1, 3), (0, 4), (1, 4)] [2, 3, 4, 5, 6, 7])))))

def v129 : VFun := ⟨1,
 (.seq (.region [] [oa 2 (.new [.nil, .nil] []) 64,
 oa 3 (.new [zi, zi] []) 128] [] [0, 2, 3])
 (.seq (.region [] [o 9 (.mv (tv 0)),
 oa 10 (.call (kf 167) [(false, (tv 9))] []) 256,
 o 8 (.mv (tv 10)),
 o 11 (.ext 0 (tv 8)),
 o 12 (.ext 1 (tv 8)),
 oa 5 (.new [zi, zi] []) 512,
 o 4 (.mv (tv 11)),
 on (.store 2 (tv 5) (tv 12) [])] [] [2, 3, 4, 5])
 (.seq (.seq (.region [] [o 13 (.fld 0 (tv 5)),
 o 14 (.load false 1 (tv 13)),
 o 15 (.bin .neq 0 (tv 14) (ki 0))] [] [2, 3, 4, 5, 15])
 (.cond (tv 15) (.seq (.region [] [o 16 (.build [.nil, .nil] []),
 o 17 (.load true 2 (tv 5)),
 on (.store 2 (tv 2) (tv 16) []),
 on (.store 2 (tv 3) (tv 17) [])] [(1, 2)] [2, 3])
 .ret)
 .skip))
 (.seq (.region [] [oa 6 (.new [.nil, .nil] [(0, 4), (1, 20)]) 1152] [] [2, 3, 4, 5, 6])
 (.seq (.region [] [o 18 (.mv (tv 4)),
 oa 19 (.call (kf 168) [(false, (tv 18)), (false, (ki 0))] []) 1280,
 o 7 (.mv (tv 19))] [] [2, 3, 4, 5, 6, 7])
 (.seq (.block 0 (.loop l129_0))
 (.seq (.seq (.region [] [o 50 (.mv (tv 7)),
 o 51 (.nn (tv 50)),
 o 52 (.fld 2 (tv 51)),
 o 53 (.load false 1 (tv 52))] [] [2, 3, 5, 6, 7, 53])
 (.cond (tv 53) (.seq (.region [] [o 54 (.build [.nil, .nil] []),
 o 55 (.mv (tv 7)),
 o 56 (.nn (tv 55)),
 o 57 (.fld 3 (tv 56)),
 o 58 (.load false 1 (tv 57)),
 o 59 (.build [zi, zi] [(0, 1, (ki 3)), (1, 1, (tv 58))]),
 on (.store 2 (tv 2) (tv 54) []),
 on (.store 2 (tv 3) (tv 59) [])] [(2, 6), (3, 6), (4, 6)] [2, 3])
 .ret)
 .skip))
 (.seq (.seq (.region [] [o 60 (.ldD true 2 (tv 6)),
 oa 61 (.call (kf 176) [(false, (tv 60))] []) 4288,
 on (.store 2 (tv 5) (tv 61) [])] [] [2, 3, 5, 6])
 (.seq (.region [] [o 62 (.fld 0 (tv 5)),
 o 63 (.load false 1 (tv 62)),
 o 64 (.bin .neq 0 (tv 63) (ki 0))] [] [2, 3, 5, 6, 64])
 (.cond (tv 64) (.seq (.region [] [o 65 (.build [.nil, .nil] []),
 o 66 (.load true 2 (tv 5)),
 on (.store 2 (tv 2) (tv 65) []),
 on (.store 2 (tv 3) (tv 66) [])] [(1, 2)] [2, 3])
 .ret)
 .skip)))
 (.seq (.region [] [o 67 (.ldD true 2 (tv 6)),
 o 68 (.load true 2 (tv 5)),
 on (.store 2 (tv 2) (tv 67) []),
 on (.store 2 (tv 3) (tv 68) [])] [(0, 1), (1, 2)] [2, 3])
 .ret))))))))),
 [.cell 2 true 2, .cell 3 true 2], false⟩

def v47 : VFun := ⟨0,
 (.seq (.region [] [oa 0 (.new [zi, zs, zi, zi, .nil] []) 64] [] [0])
 (.seq (.region [] [oa 1 (.call (kf 100) [(false, (.k (.sc (.c (.str [73, 110, 116]))))), (false, kn)] []) 128,
 on (.store 5 (tv 0) (tv 1) [])] [] [0])
 .ret)),
 [.cell 0 true 5], false⟩

def v100 : VFun := ⟨2,
 (.seq (.region [] [oa 4 (.new [zi, zs, zi, zi, .nil] []) 64] [] [0, 1, 4])
 (.seq (.region [] [o 5 (.mv (tv 0)),
 o 6 (.mv (tv 1)),
 oa 7 (.appN 5 64 (tv 6)) 256,
 o 8 (.build [zi, zs, zi, zi, .nil] [(0, 1, (ki 4)), (1, 1, (tv 5)), (4, 1, (tv 7))]),
 on (.store 5 (tv 4) (tv 8) [])] [] [4])
 .ret)),
 [.cell 4 true 5], false⟩

def v128 : VFun := ⟨2,
 (.seq (.region [] [oa 2 (.box (tv 0)) 64,
 oa 3 (.box (tv 1)) 128,
 oa 4 (.new [zi, zs, zi, zi, .nil] []) 192] [] [2, 3, 4])
 (.seq (.region [] [o 5 (.load true 5 (tv 2)),
 o 6 (.load true 5 (tv 3)),
 oa 7 (.mkSl 5 [(tv 5), (tv 6)]) 384,
 oa 8 (.call (kf 100) [(false, (.k (.sc (.c (.str [45, 62]))))), (false, (tv 7))] []) 448,
 on (.store 5 (tv 4) (tv 8) [])] [] [4])
 .ret)),
 [.cell 4 true 5], false⟩

def l130_0 : VCode := (.block 1 (.seq (.region [] [o 13 (.fld 0 (tv 8)),
 o 14 (.load false 1 (tv 13)),
 o 15 (.load false 1 (tv 4)),
 o 16 (.bin .eql 0 (tv 14) (tv 15)),
 o 17 (.mv (tv 16)),
 og 18 (.fld 1 (tv 8)) 17 false,
 og 19 (.load false 1 (tv 18)) 17 false,
 og 20 (.load false 1 (tv 5)) 17 false,
 og 21 (.bin .eql 0 (tv 19) (tv 20)) 17 false,
 o 22 (.pick (tv 17) kt (tv 21))] [] [4, 5, 6, 8, 22])
 (.cond (tv 22) (.seq (.region [] [o 23 (.fld 0 (tv 8)),
 o 24 (.load false 1 (tv 23)),
 o 25 (.load false 1 (tv 4)),
 o 26 (.bin .eql 0 (tv 24) (tv 25)),
 o 27 (.mv (tv 26)),
 og 28 (.fld 1 (tv 8)) 27 true,
 og 29 (.load false 1 (tv 28)) 27 true,
 og 30 (.load false 1 (tv 5)) 27 true,
 og 31 (.bin .eql 0 (tv 29) (tv 30)) 27 true,
 o 32 (.pick (tv 27) (tv 31) kF),
 on (.store 1 (tv 6) (tv 32) [])] [] [6])
 .ret)
 .skip)))

def v130 : VFun := ⟨3,
 (.seq (.region [] [oa 4 (.box (tv 1)) 64,
 oa 5 (.box (tv 2)) 128,
 oa 6 (.new [(.c (.bool false))] []) 192] [] [0, 4, 5, 6])
 (.seq (.seq (.region [] [o 9 (.mv (tv 0)),
 oa 10 (.call (kf 149) [(false, (tv 9))] []) 320] [] [4, 5, 6, 10])
 (.block 0 (.rangeB (tv 10) 210 2 true 11 12 (.region [384] [oa 8 (.new [zs, zs] []) 384,
 on (.store 2 (tv 8) (tv 12) [])] [] [4, 5, 6, 8])
 l130_0)))
 (.seq (.region [] [o 33 (.load false 1 (tv 4)),
 o 34 (.load false 1 (tv 5)),
 o 35 (.bin .eql 0 (tv 33) (tv 34)),
 on (.store 1 (tv 6) (tv 35) [])] [] [6])
 .ret))),
 [.cell 6 false 1], false⟩

def l132_0 : VCode := (.seq (.region [] [o 18 (.bin .lss 0 (tv 17) (tv 16))] [] [2, 4, 15, 16, 17, 18])
 (.seq (.cond (tv 18) .skip
 (.exit 0))
 (.seq (.block 1 (.seq (.region [] [o 19 (.mv (tv 17)),
 o 20 (.idxA 14 (tv 15) (tv 17)),
 o 21 (.load true 14 (tv 20)),
 oa 6 (.new [zi, zs, .nil, zi, zi, zs, zi, .nil, .nil, zi, zs, zi, zi, .nil] []) 1280,
 o 5 (.mv (tv 19)),
 on (.store 14 (tv 6) (tv 21) [])] [] [2, 4, 5, 6, 15, 16, 17])
 (.region [] [o 22 (.fld 5 (tv 2)),
 o 23 (.load false 1 (tv 22)),
 o 24 (.mv (tv 5)),
 o 25 (.fld 2 (tv 6)),
 o 26 (.load false 1 (tv 25)),
 o 27 (.len false (tv 26)),
 oa 28 (.mkS 1 16 [zs] (tv 27)) 1856,
 o 29 (.idxA 14 (tv 23) (tv 24)),
 o 30 (.fld 2 (tv 29)),
 on (.store 1 (tv 30) (tv 28) [])] [(0, 3), (1, 3), (0, 4), (1, 4), (0, 5), (1, 5), (0, 6), (1, 6)] [2, 4, 15, 16, 17])))
 (.melt 1856 (.region [1280, 1856] [o 31 (.bin .add 0 (tv 17) (ki 1)),
 o 17 (.mv (tv 31))] [] [2, 4, 15, 16, 17])))))

def v132 : VFun := ⟨2,
 (.seq (.region [] [oa 2 (.box (tv 0)) 64,
 oa 4 (.new [zi, zi, zs, zi, .nil, .nil, zi, zs, zi, zi, .nil] []) 128] [] [1, 2, 4])
 (.seq (.region [] [o 7 (.load true 11 (tv 2)),
 o 8 (.mv (tv 1)),
 oa 9 (.call (kf 146) [(false, (tv 7)), (false, (tv 8))] []) 320,
 on (.store 11 (tv 2) (tv 9) [])] [] [2, 4])
 (.seq (.seq (.region [] [o 10 (.fld 0 (tv 2)),
 o 11 (.load false 1 (tv 10)),
 o 12 (.bin .neq 0 (tv 11) (ki 2))] [] [2, 4, 12])
 (.cond (tv 12) (.region [] [o 13 (.fld 2 (tv 2)),
 on (.store 1 (tv 13) (.k (.sc zs)) [])] [] [2, 4])
 .skip))
 (.seq (.seq (.region [] [o 14 (.fld 5 (tv 2)),
 o 15 (.load false 1 (tv 14)),
 o 16 (.len false (tv 15)),
 o 17 (.mv (ki 0))] [] [2, 4, 15, 16, 17])
 (.block 0 (.loop l132_0)))
 (.seq (.region [] [o 32 (.load true 11 (tv 2)),
 on (.store 11 (tv 4) (tv 32) [])] [] [4])
 .ret))))),
 [.cell 4 true 11], false⟩

def v131 : VFun := ⟨2,
 (.seq (.region [] [oa 2 (.box (tv 0)) 64,
 oa 3 (.box (tv 1)) 128,
 o 4 (.mv kF)] [] [2, 3])
 (.seq (.seq (.region [] [o 6 (.fld 0 (tv 2)),
 o 7 (.load false 1 (tv 6)),
 o 8 (.fld 0 (tv 3)),
 o 9 (.load false 1 (tv 8)),
 o 10 (.bin .neq 0 (tv 7) (tv 9)),
 o 11 (.mv (tv 10)),
 og 12 (.fld 2 (tv 2)) 11 false,
 og 13 (.load false 1 (tv 12)) 11 false,
 og 14 (.fld 2 (tv 3)) 11 false,
 og 15 (.load false 1 (tv 14)) 11 false,
 og 16 (.bin .neq 0 (tv 13) (tv 15)) 11 false,
 o 17 (.pick (tv 11) kt (tv 16)),
 o 18 (.mv (tv 17)),
 og 19 (.fld 3 (tv 2)) 18 false,
 og 20 (.load false 1 (tv 19)) 18 false,
 og 21 (.fld 3 (tv 3)) 18 false,
 og 22 (.load false 1 (tv 21)) 18 false,
 og 23 (.bin .neq 0 (tv 20) (tv 22)) 18 false,
 o 24 (.pick (tv 18) kt (tv 23)),
 o 25 (.mv (tv 24)),
 og 26 (.fld 6 (tv 2)) 25 false,
 og 27 (.load true 5 (tv 26)) 25 false,
 og 28 (.fld 6 (tv 3)) 25 false,
 og 29 (.load true 5 (tv 28)) 25 false,
 ⟨(some 30), (.call (kf 114) [(false, (tv 27)), (false, (tv 29))] []), (some (25, false)), 1792, []⟩,
 og 31 (.un .not (tv 30)) 25 false,
 o 32 (.pick (tv 25) kt (tv 31))] [] [2, 3, 32])
 (.cond (tv 32) (.seq (.region [] [o 4 (.mv kF)] [] [4])
 .ret)
 .skip))
 (.seq (.region [] [o 33 (.fld 5 (tv 2)),
 o 34 (.load false 1 (tv 33)),
 o 35 (.fld 5 (tv 3)),
 o 36 (.load false 1 (tv 35)),
 oa 37 (.call (kf 177) [(false, (tv 34)), (false, (tv 36)), (true, (kf 178))] []) 2304,
 o 5 (.mv (tv 37))] [] [2, 3, 5])
 (.seq (.region [] [o 38 (.mv (tv 5)),
 o 39 (.mv (tv 38)),
 og 40 (.fld 4 (tv 2)) 39 true,
 og 41 (.load false 1 (tv 40)) 39 true,
 og 42 (.fld 4 (tv 3)) 39 true,
 og 43 (.load false 1 (tv 42)) 39 true,
 ⟨(some 44), (.call (kf 180) [(false, (tv 41)), (false, (tv 43)), (true, (kf 131))] []), (some (39, true)), 2816, []⟩,
 o 45 (.pick (tv 39) (tv 44) kF),
 o 4 (.mv (tv 45))] [] [4])
 .ret)))),
 [.tmp 4], false⟩

def l125_0 : VCode := (.seq (.seq (.region [] [o 9 (.mv (tv 5)),
 o 10 (.bin .geq 0 (tv 9) (ki 0))] [] [0, 1, 5, 10])
 (.cond (tv 10) .skip
 (.exit 0)))
 (.seq (.block 1 (.seq (.region [] [o 13 (.mv (tv 0)),
 o 14 (.mv (tv 5)),
 o 15 (.idxA 1 (tv 13) (tv 14)),
 o 16 (.load false 1 (tv 15)),
 o 17 (.mv (tv 1)),
 o 18 (.bin .eql 0 (tv 16) (tv 17))] [] [0, 1, 5, 18])
 (.cond (tv 18) (.seq (.region [] [o 19 (.mv (tv 5)),
 o 4 (.mv (tv 19))] [] [4])
 .ret)
 .skip)))
 (.region [] [o 11 (.mv (tv 5)),
 o 12 (.bin .sub 0 (tv 11) (ki 1)),
 o 5 (.mv (tv 12))] [] [0, 1, 5])))

def v125 : VFun := ⟨2,
 (.seq (.region [] [o 4 (.mv (ki 0))] [] [0, 1])
 (.seq (.seq (.region [] [o 6 (.mv (tv 0)),
 o 7 (.len false (tv 6)),
 o 8 (.bin .sub 0 (tv 7) (ki 1)),
 o 5 (.mv (tv 8))] [] [0, 1, 5])
 (.block 0 (.loop l125_0)))
 (.seq (.region [] [o 4 (.mv (ki (-1)))] [] [4])
 .ret))),
 [.tmp 4], false⟩

def v126 : VFun := ⟨2,
 (.seq (.region [] [oa 2 (.box (tv 0)) 64,
 o 4 (.mv kn)] [] [1, 2])
 (.seq (.block 0 (.seq (.seq (.region [] [o 6 (.fld 0 (tv 2)),
 o 7 (.load false 1 (tv 6)),
 o 8 (.bin .eql 0 (tv 7) (ki 4)),
 o 5 (.mv (tv 8))] [] [1, 2, 5])
 (.cond (tv 5) .skip
 (.seq (.region [] [o 9 (.fld 0 (tv 2)),
 o 10 (.load false 1 (tv 9)),
 o 11 (.bin .eql 0 (tv 10) (ki 7)),
 o 5 (.mv (tv 11))] [] [1, 2, 5])
 (.cond (tv 5) .skip
 (.region [] [o 12 (.fld 0 (tv 2)),
 o 13 (.load false 1 (tv 12)),
 o 14 (.bin .eql 0 (tv 13) (ki 6)),
 o 15 (.mv (tv 14)),
 og 16 (.mv (tv 1)) 15 true,
 og 17 (.bin .eql 0 (tv 16) (ki 1)) 15 true,
 o 18 (.pick (tv 15) (tv 17) kF),
 o 5 (.mv (tv 18))] [] [1, 2, 5])))))
 (.cond (tv 5) (.seq (.region [] [o 19 (.fld 2 (tv 2)),
 o 20 (.load false 1 (tv 19)),
 oa 21 (.mkSl 1 [(tv 20)]) 1344,
 o 4 (.mv (tv 21))] [] [4])
 .ret)
 (.seq (.region [] [o 23 (.fld 0 (tv 2)),
 o 24 (.load false 1 (tv 23)),
 o 25 (.bin .eql 0 (tv 24) (ki 8)),
 o 26 (.mv (tv 25)),
 og 27 (.mv (tv 1)) 26 true,
 og 28 (.bin .gtr 0 (tv 27) (ki 0)) 26 true,
 o 29 (.pick (tv 26) (tv 28) kF),
 o 22 (.mv (tv 29))] [] [1, 2, 22])
 (.cond (tv 22) (.seq (.region [] [o 30 (.fld 5 (tv 2)),
 o 31 (.load false 1 (tv 30)),
 o 32 (.mv (tv 1)),
 o 33 (.bin .sub 0 (tv 32) (ki 1)),
 o 34 (.idxA 14 (tv 31) (tv 33)),
 o 35 (.fld 2 (tv 34)),
 o 36 (.load false 1 (tv 35)),
 o 4 (.mv (tv 36))] [] [4])
 .ret)
 .skip)))))
 (.seq (.region [] [o 4 (.mv kn)] [] [4])
 .ret))),
 [.tmp 4], false⟩

def l97_0 : VCode := (.seq (.seq (.region [] [o 9 (.mv (tv 4)),
 o 10 (.mv (tv 3)),
 o 11 (.len false (tv 10)),
 o 12 (.bin .lss 0 (tv 9) (tv 11))] [] [1, 2, 3, 4, 12])
 (.cond (tv 12) .skip
 (.exit 0)))
 (.seq (.block 1 (.region [] [o 15 (.mv (tv 3)),
 o 16 (.mv (tv 4)),
 o 17 (.mv (tv 3)),
 o 18 (.mv (tv 4)),
 o 19 (.idxA 11 (tv 17) (tv 18)),
 o 20 (.load true 11 (tv 19)),
 oa 21 (.call (kf 97) [(false, (tv 20))] []) 1088,
 o 22 (.idxA 11 (tv 15) (tv 16)),
 on (.store 11 (tv 22) (tv 21) [])] [] [1, 2, 3, 4]))
 (.region [] [o 13 (.mv (tv 4)),
 o 14 (.bin .add 0 (tv 13) (ki 1)),
 o 4 (.mv (tv 14))] [] [1, 2, 3, 4])))

def l97_1 : VCode := (.seq (.seq (.region [] [o 27 (.mv (tv 6)),
 o 28 (.fld 5 (tv 5)),
 o 29 (.load false 1 (tv 28)),
 o 30 (.len false (tv 29)),
 o 31 (.bin .lss 0 (tv 27) (tv 30))] [] [2, 5, 6, 31])
 (.cond (tv 31) .skip
 (.exit 2)))
 (.seq (.block 3 (.region [] [o 34 (.fld 5 (tv 5)),
 o 35 (.load false 1 (tv 34)),
 o 36 (.mv (tv 6)),
 o 37 (.idxA 14 (tv 35) (tv 36)),
 o 38 (.fld 0 (tv 37)),
 on (.store 1 (tv 38) (ki 0) [])] [] [2, 5, 6]))
 (.region [] [o 32 (.mv (tv 6)),
 o 33 (.bin .add 0 (tv 32) (ki 1)),
 o 6 (.mv (tv 33))] [] [2, 5, 6])))

def v97 : VFun := ⟨1,
 (.seq (.region [] [oa 1 (.box (tv 0)) 64,
 oa 2 (.new [zi, zi, zs, zi, .nil, .nil, zi, zs, zi, zi, .nil] []) 128] [] [1, 2])
 (.seq (.region [] [o 7 (.load true 11 (tv 1)),
 oa 8 (.call (kf 69) [(false, (tv 7))] []) 256,
 o 3 (.mv (tv 8))] [] [1, 2, 3])
 (.seq (.seq (.region [] [o 4 (.mv (ki 0))] [] [1, 2, 3, 4])
 (.block 0 (.loop l97_0)))
 (.seq (.region [] [o 23 (.load true 11 (tv 1)),
 o 24 (.mv (tv 3)),
 oa 25 (.call (kf 92) [(false, (tv 23)), (false, (tv 24))] []) 1600,
 oa 5 (.new [zi, zi, zs, zi, .nil, .nil, zi, zs, zi, zi, .nil] []) 1664,
 on (.store 11 (tv 5) (tv 25) [])] [] [2, 5])
 (.seq (.region [64] [o 26 (.fld 1 (tv 5)),
 on (.store 1 (tv 26) (ki 0) [])] [] [2, 5])
 (.seq (.seq (.region [] [o 6 (.mv (ki 0))] [] [2, 5, 6])
 (.block 2 (.loop l97_1)))
 (.seq (.region [] [o 39 (.load true 11 (tv 5)),
 on (.store 11 (tv 2) (tv 39) [])] [] [2])
 .ret))))))),
 [.cell 2 true 11], false⟩

def v32 : VFun := ⟨1,
 (.seq (.region [] [oa 1 (.box (tv 0)) 64,
 o 2 (.mv kn)] [] [1])
 (.seq (.region [] [o 3 (.load true 11 (tv 1)),
 oa 4 (.call (kf 83) [(false, kn), (false, kn), (false, (tv 3))] [(0, 1)]) 256,
 o 2 (.mv (tv 4))] [] [2])
 .ret)),
 [.tmp 2], false⟩

def l96_0 : VCode := (.seq (.seq (.region [] [o 51 (.mv (tv 16)),
 o 52 (.mv (tv 15)),
 o 53 (.len false (tv 52)),
 o 54 (.bin .lss 0 (tv 51) (tv 53))] [] [1, 2, 3, 4, 8, 10, 11, 12, 13, 14, 15, 16, 54])
 (.cond (tv 54) .skip
 (.exit 2)))
 (.seq (.block 3 (.seq (.region [] [o 57 (.mv (tv 14)),
 o 58 (.mv (tv 13)),
 o 59 (.len false (tv 58)),
 o 60 (.mv (tv 1)),
 oa 61 (.call (kf 29) [(false, (tv 59)), (false, (tv 60))] []) 3136,
 oa 62 (.mkSl 1 [(tv 61)]) 3200,
 o 63 (.app 1 16 false (tv 57) (tv 62)),
 o 14 (.mv (tv 63))] [] [1, 2, 3, 4, 8, 10, 11, 12, 13, 14, 15, 16])
 (.region [3200] [o 64 (.mv (tv 13)),
 o 65 (.mv (tv 15)),
 o 66 (.mv (tv 16)),
 o 67 (.idxA 1 (tv 65) (tv 66)),
 o 68 (.load false 1 (tv 67)),
 oa 69 (.mkSl 1 [(tv 68)]) 3712,
 o 70 (.app 1 16 false (tv 64) (tv 69)),
 o 13 (.mv (tv 70))] [] [1, 2, 3, 4, 8, 10, 11, 12, 13, 14, 15, 16])))
 (.region [3200, 3712] [o 55 (.mv (tv 16)),
 o 56 (.bin .add 0 (tv 55) (ki 1)),
 o 16 (.mv (tv 56))] [] [1, 2, 3, 4, 8, 10, 11, 12, 13, 14, 15, 16])))

def l96_1 : VCode := (.seq (.seq (.region [] [o 38 (.mv (tv 12)),
 o 39 (.mv (tv 10)),
 o 40 (.len false (tv 39)),
 o 41 (.bin .lss 0 (tv 38) (tv 40))] [] [1, 2, 3, 4, 8, 10, 11, 12, 41])
 (.cond (tv 41) .skip
 (.exit 0)))
 (.seq (.block 1 (.seq (.region [] [o 44 (.mv (tv 2)),
 oa 45 (.app 1 16 true kn (tv 44)) 1984,
 o 46 (.mv (tv 3)),
 oa 47 (.app 1 16 true kn (tv 46)) 2112,
 o 13 (.mv (tv 45)),
 o 14 (.mv (tv 47))] [] [1, 2, 3, 4, 8, 10, 11, 12, 13, 14])
 (.seq (.region [] [o 48 (.load true 11 (tv 4)),
 o 49 (.mv (tv 12)),
 oa 50 (.call (kf 126) [(false, (tv 48)), (false, (tv 49))] []) 2432,
 o 15 (.mv (tv 50))] [] [1, 2, 3, 4, 8, 10, 11, 12, 13, 14, 15])
 (.seq (.seq (.region [] [o 16 (.mv (ki 0))] [] [1, 2, 3, 4, 8, 10, 11, 12, 13, 14, 15, 16])
 (.block 2 (.loop l96_0)))
 (.region [] [o 71 (.mv (tv 11)),
 o 72 (.mv (tv 10)),
 o 73 (.mv (tv 12)),
 o 74 (.idxA 11 (tv 72) (tv 73)),
 o 75 (.load true 11 (tv 74)),
 o 76 (.mv (tv 1)),
 o 77 (.mv (tv 13)),
 o 78 (.mv (tv 14)),
 oa 79 (.call (kf 96) [(false, (tv 75)), (false, (tv 76)), (false, (tv 77)), (false, (tv 78))] []) 4608,
 oa 80 (.mkSl 11 [(tv 79)]) 4672,
 o 81 (.app 11 152 false (tv 71) (tv 80)),
 o 11 (.mv (tv 81))] [] [1, 2, 3, 4, 8, 10, 11, 12])))))
 (.region [1984, 2112, 4672] [o 42 (.mv (tv 12)),
 o 43 (.bin .add 0 (tv 42) (ki 1)),
 o 12 (.mv (tv 43))] [] [1, 2, 3, 4, 8, 10, 11, 12])))

def l96_2 : VCode := (.seq (.seq (.region [] [o 118 (.mv (tv 20)),
 o 119 (.mv (tv 19)),
 o 120 (.len false (tv 119)),
 o 121 (.bin .lss 0 (tv 118) (tv 120))] [] [1, 2, 8, 17, 18, 19, 20, 121])
 (.cond (tv 121) .skip
 (.exit 6)))
 (.seq (.block 7 (.region [] [o 124 (.mv (tv 19)),
 o 125 (.mv (tv 20)),
 o 126 (.mv (tv 2)),
 o 127 (.len false (tv 126)),
 o 128 (.mv (tv 20)),
 o 129 (.bin .add 0 (tv 127) (tv 128)),
 o 130 (.mv (tv 1)),
 oa 131 (.call (kf 29) [(false, (tv 129)), (false, (tv 130))] []) 8320,
 o 132 (.idxA 1 (tv 124) (tv 125)),
 on (.store 1 (tv 132) (tv 131) [])] [] [1, 2, 8, 17, 18, 19, 20]))
 (.region [] [o 122 (.mv (tv 20)),
 o 123 (.bin .add 0 (tv 122) (ki 1)),
 o 20 (.mv (tv 123))] [] [1, 2, 8, 17, 18, 19, 20])))

def l96_3 : VCode := (.seq (.seq (.region [] [o 103 (.mv (tv 18)),
 o 104 (.fld 5 (tv 17)),
 o 105 (.load false 1 (tv 104)),
 o 106 (.len false (tv 105)),
 o 107 (.bin .lss 0 (tv 103) (tv 106))] [] [1, 2, 8, 17, 18, 107])
 (.cond (tv 107) .skip
 (.exit 4)))
 (.seq (.block 5 (.seq (.region [] [o 110 (.fld 5 (tv 17)),
 o 111 (.load false 1 (tv 110)),
 o 112 (.mv (tv 18)),
 o 113 (.idxA 14 (tv 111) (tv 112)),
 o 114 (.fld 2 (tv 113)),
 o 115 (.load false 1 (tv 114)),
 o 116 (.len false (tv 115)),
 oa 117 (.mkS 1 16 [zs] (tv 116)) 7424,
 o 19 (.mv (tv 117))] [] [1, 2, 8, 17, 18, 19])
 (.seq (.seq (.region [] [o 20 (.mv (ki 0))] [] [1, 2, 8, 17, 18, 19, 20])
 (.block 6 (.loop l96_2)))
 (.region [] [o 133 (.fld 5 (tv 17)),
 o 134 (.load false 1 (tv 133)),
 o 135 (.mv (tv 18)),
 o 136 (.mvD (tv 19)),
 o 137 (.idxA 14 (tv 134) (tv 135)),
 o 138 (.fld 2 (tv 137)),
 on (.store 1 (tv 138) (tv 136) [])] [] [1, 2, 8, 17, 18]))))
 (.region [7424] [o 108 (.mv (tv 18)),
 o 109 (.bin .add 0 (tv 108) (ki 1)),
 o 18 (.mv (tv 109))] [] [1, 2, 8, 17, 18])))

def v96 : VFun := ⟨4,
 (.seq (.region [] [oa 4 (.box (tv 0)) 64,
 oa 8 (.new [zi, zi, zs, zi, .nil, .nil, zi, zs, zi, zi, .nil] []) 128] [] [1, 2, 3, 4, 8])
 (.seq (.seq (.region [] [o 21 (.fld 0 (tv 4)),
 o 22 (.load false 1 (tv 21)),
 o 23 (.bin .eql 0 (tv 22) (ki 1))] [] [1, 2, 3, 4, 8, 23])
 (.cond (tv 23) (.seq (.seq (.region [] [o 24 (.mv (tv 2)),
 o 25 (.fld 2 (tv 4)),
 o 26 (.load false 1 (tv 25)),
 oa 27 (.call (kf 125) [(false, (tv 24)), (false, (tv 26))] []) 576,
 o 9 (.mv (tv 27))] [] [3, 4, 8, 9])
 (.seq (.region [] [o 28 (.mv (tv 9)),
 o 29 (.bin .geq 0 (tv 28) (ki 0))] [] [3, 4, 8, 9, 29])
 (.cond (tv 29) (.region [] [o 30 (.mv (tv 3)),
 o 31 (.mv (tv 9)),
 o 32 (.idxA 1 (tv 30) (tv 31)),
 o 33 (.load false 1 (tv 32)),
 o 34 (.fld 2 (tv 4)),
 on (.store 1 (tv 34) (tv 33) [])] [] [4, 8])
 .skip)))
 (.seq (.region [] [o 35 (.load true 11 (tv 4)),
 on (.store 11 (tv 8) (tv 35) [])] [] [8])
 .ret))
 .skip))
 (.seq (.region [] [o 36 (.load true 11 (tv 4)),
 oa 37 (.call (kf 69) [(false, (tv 36))] []) 1408,
 o 10 (.mv (tv 37))] [] [1, 2, 3, 4, 8, 10])
 (.seq (.region [] [⟨(some 11), (.mv kn), none, 1536, [(0, 11)]⟩] [] [1, 2, 3, 4, 8, 10, 11])
 (.seq (.seq (.region [] [o 12 (.mv (ki 0))] [] [1, 2, 3, 4, 8, 10, 11, 12])
 (.block 0 (.loop l96_1)))
 (.seq (.region [] [o 82 (.load true 11 (tv 4)),
 o 83 (.mv (tv 11)),
 oa 84 (.call (kf 92) [(false, (tv 82)), (false, (tv 83))] []) 5184,
 oa 17 (.new [zi, zi, zs, zi, .nil, .nil, zi, zs, zi, zi, .nil] []) 5248,
 on (.store 11 (tv 17) (tv 84) [])] [] [1, 2, 4, 8, 17])
 (.seq (.seq (.region [] [o 85 (.fld 0 (tv 4)),
 o 86 (.load false 1 (tv 85)),
 o 87 (.bin .eql 0 (tv 86) (ki 4)),
 o 88 (.mv (tv 87)),
 og 89 (.fld 0 (tv 4)) 88 false,
 og 90 (.load false 1 (tv 89)) 88 false,
 og 91 (.bin .eql 0 (tv 90) (ki 6)) 88 false,
 o 92 (.pick (tv 88) kt (tv 91)),
 o 93 (.mv (tv 92)),
 og 94 (.fld 0 (tv 4)) 93 false,
 og 95 (.load false 1 (tv 94)) 93 false,
 og 96 (.bin .eql 0 (tv 95) (ki 7)) 93 false,
 o 97 (.pick (tv 93) kt (tv 96))] [] [1, 2, 8, 17, 97])
 (.cond (tv 97) (.region [64] [o 98 (.mv (tv 2)),
 o 99 (.len false (tv 98)),
 o 100 (.mv (tv 1)),
 oa 101 (.call (kf 29) [(false, (tv 99)), (false, (tv 100))] []) 6400,
 o 102 (.fld 2 (tv 17)),
 on (.store 1 (tv 102) (tv 101) [])] [] [1, 2, 8, 17])
 .skip))
 (.seq (.seq (.region [64] [o 18 (.mv (ki 0))] [] [1, 2, 8, 17, 18])
 (.block 4 (.loop l96_3)))
 (.seq (.region [] [o 139 (.load true 11 (tv 17)),
 on (.store 11 (tv 8) (tv 139) [])] [] [8])
 .ret))))))))),
 [.cell 8 true 11], false⟩

def l167_0 : VCode := (.seq (.seq (.region [] [o 42 (.mv (tv 5)),
 o 43 (.mv (tv 0)),
 o 44 (.len true (tv 43)),
 o 45 (.bin .lss 0 (tv 42) (tv 44)),
 o 46 (.mv (tv 45)),
 og 47 (.mv (tv 0)) 46 true,
 og 48 (.mv (tv 5)) 46 true,
 og 49 (.idxS (tv 47) (tv 48)) 46 true,
 og 50 (.bin .neq 0 (tv 49) (.k (.sc (.c (.int .u8 10))))) 46 true,
 o 51 (.pick (tv 46) (tv 50) kF)] [] [0, 3, 4, 5, 51])
 (.cond (tv 51) .skip
 (.exit 3)))
 (.block 4 (.region [] [o 52 (.mv (tv 5)),
 o 53 (.bin .add 0 (tv 52) (ki 1)),
 o 5 (.mv (tv 53))] [] [0, 3, 4, 5])))

def l167_1 : VCode := (.seq (.seq (.region [] [o 57 (.mv (tv 7)),
 o 58 (.mv (tv 0)),
 o 59 (.len true (tv 58)),
 o 60 (.bin .lss 0 (tv 57) (tv 59)),
 o 61 (.mv (tv 60)),
 og 62 (.mv (tv 0)) 61 true,
 og 63 (.mv (tv 7)) 61 true,
 og 64 (.idxS (tv 62) (tv 63)) 61 true,
 ⟨(some 65), (.call (kf 217) [(false, (tv 64))] []), (some (61, true)), 4288, []⟩,
 o 66 (.pick (tv 61) (tv 65) kF)] [] [0, 3, 4, 5, 7, 66])
 (.cond (tv 66) .skip
 (.exit 5)))
 (.block 6 (.region [] [o 67 (.mv (tv 7)),
 o 68 (.bin .add 0 (tv 67) (ki 1)),
 o 7 (.mv (tv 68))] [] [0, 3, 4, 5, 7])))

def l167_2 : VCode := (.seq (.seq (.region [] [o 13 (.mv (tv 5)),
 o 14 (.mv (tv 0)),
 o 15 (.len true (tv 14)),
 o 16 (.bin .lss 0 (tv 13) (tv 15))] [] [0, 3, 4, 5, 16])
 (.cond (tv 16) .skip
 (.exit 0)))
 (.block 1 (.seq (.region [] [o 17 (.mv (tv 0)),
 o 18 (.mv (tv 5)),
 o 19 (.idxS (tv 17) (tv 18)),
 o 6 (.mv (tv 19))] [] [0, 3, 4, 5, 6])
 (.seq (.region [] [o 20 (.mv (tv 5)),
 o 21 (.bin .add 0 (tv 20) (ki 1)),
 o 7 (.mv (tv 21))] [] [0, 3, 4, 5, 6, 7])
 (.seq (.block 2 (.seq (.region [] [o 23 (.mv (tv 6)),
 o 24 (.bin .eql 0 (tv 23) (.k (.sc (.c (.int .u8 32))))),
 o 25 (.mv (tv 24)),
 og 26 (.mv (tv 6)) 25 false,
 og 27 (.bin .eql 0 (tv 26) (.k (.sc (.c (.int .u8 9))))) 25 false,
 o 28 (.pick (tv 25) kt (tv 27)),
 o 29 (.mv (tv 28)),
 og 30 (.mv (tv 6)) 29 false,
 og 31 (.bin .eql 0 (tv 30) (.k (.sc (.c (.int .u8 13))))) 29 false,
 o 32 (.pick (tv 29) kt (tv 31)),
 o 33 (.mv (tv 32)),
 og 34 (.mv (tv 6)) 33 false,
 og 35 (.bin .eql 0 (tv 34) (.k (.sc (.c (.int .u8 10))))) 33 false,
 o 36 (.pick (tv 33) kt (tv 35)),
 o 22 (.mv (tv 36))] [] [0, 3, 4, 5, 6, 7, 22])
 (.cond (tv 22) (.seq (.region [] [o 37 (.mv (tv 5)),
 o 38 (.bin .add 0 (tv 37) (ki 1)),
 o 5 (.mv (tv 38))] [] [0, 3, 4, 5])
 (.exit 1))
 (.seq (.region [] [o 40 (.mv (tv 6)),
 o 41 (.bin .eql 0 (tv 40) (.k (.sc (.c (.int .u8 35))))),
 o 39 (.mv (tv 41))] [] [0, 3, 4, 5, 6, 7, 39])
 (.cond (tv 39) (.seq (.block 3 (.loop l167_0))
 (.exit 1))
 (.seq (.region [] [o 55 (.mv (tv 6)),
 oa 56 (.call (kf 217) [(false, (tv 55))] []) 3648,
 o 54 (.mv (tv 56))] [] [0, 3, 4, 5, 6, 7, 54])
 (.cond (tv 54) (.block 5 (.loop l167_1))
 (.seq (.region [] [o 70 (.mv (tv 6)),
 o 71 (.bin .eql 0 (tv 70) (.k (.sc (.c (.int .u8 45))))),
 o 72 (.mv (tv 71)),
 og 73 (.mv (tv 7)) 72 true,
 og 74 (.mv (tv 0)) 72 true,
 og 75 (.len true (tv 74)) 72 true,
 og 76 (.bin .lss 0 (tv 73) (tv 75)) 72 true,
 o 77 (.pick (tv 72) (tv 76) kF),
 o 78 (.mv (tv 77)),
 og 79 (.mv (tv 0)) 78 true,
 og 80 (.mv (tv 7)) 78 true,
 og 81 (.idxS (tv 79) (tv 80)) 78 true,
 og 82 (.bin .eql 0 (tv 81) (.k (.sc (.c (.int .u8 62))))) 78 true,
 o 83 (.pick (tv 78) (tv 82) kF),
 o 69 (.mv (tv 83))] [] [0, 3, 4, 5, 7, 69])
 (.cond (tv 69) (.region [] [o 84 (.mv (tv 7)),
 o 85 (.bin .add 0 (tv 84) (ki 1)),
 o 7 (.mv (tv 85))] [] [0, 3, 4, 5, 7])
 .skip)))))))))
 (.seq (.region [] [o 86 (.mv (tv 0)),
 o 87 (.mv (tv 5)),
 o 88 (.mv (tv 7)),
 o 89 (.slS (tv 86) (some (tv 87)) (some (tv 88))),
 oa 90 (.call (kf 218) [(false, (tv 89))] []) 6016,
 o 8 (.mv (tv 90))] [] [0, 3, 4, 5, 7, 8])
 (.seq (.seq (.region [] [o 91 (.mv (tv 8)),
 o 92 (.bin .eql 0 (tv 91) (ki 0))] [] [0, 3, 4, 5, 7, 8, 92])
 (.cond (tv 92) (.seq (.region [] [o 93 (.mv (tv 5)),
 o 94 (.build [zi, zi] [(0, 1, (ki 2)), (1, 1, (tv 93))]),
 o 2 (.mv kn),
 on (.store 2 (tv 3) (tv 94) [])] [] [2, 3])
 .ret)
 .skip))
 (.seq (.region [7040] [o 95 (.mv (tv 4)),
 o 96 (.mv (tv 8)),
 o 97 (.mv (tv 0)),
 o 98 (.mv (tv 5)),
 o 99 (.mv (tv 7)),
 o 100 (.slS (tv 97) (some (tv 98)) (some (tv 99))),
 o 101 (.mv (tv 5)),
 o 102 (.build [zi, zs, zi] [(0, 1, (tv 96)), (1, 1, (tv 100)), (2, 1, (tv 101))]),
 oa 103 (.mkSl 3 [(tv 102)]) 7040,
 o 104 (.app 3 32 false (tv 95) (tv 103)),
 o 4 (.mv (tv 104))] [] [0, 3, 4, 7])
 (.region [7040] [o 105 (.mv (tv 7)),
 o 5 (.mv (tv 105))] [] [0, 3, 4, 5])))))))))

def v167 : VFun := ⟨1,
 (.seq (.region [] [o 2 (.mv kn),
 oa 3 (.new [zi, zi] []) 128] [] [0, 3])
 (.seq (.seq (.region [] [o 9 (.mv (tv 0)),
 o 10 (.len true (tv 9)),
 o 11 (.bin .gtr 0 (tv 10) (ki 4000))] [] [0, 3, 11])
 (.cond (tv 11) (.seq (.region [] [o 12 (.build [zi, zi] [(0, 1, (ki 1))]),
 o 2 (.mv kn),
 on (.store 2 (tv 3) (tv 12) [])] [] [2, 3])
 .ret)
 .skip))
 (.seq (.region [] [⟨(some 4), (.mv kn), none, 576, [(0, 3)]⟩] [] [0, 3, 4])
 (.seq (.seq (.region [] [o 5 (.mv (ki 0))] [] [0, 3, 4, 5])
 (.block 0 (.loop l167_2)))
 (.seq (.region [] [o 106 (.mv (tv 4)),
 o 107 (.build [zi, zi] []),
 o 2 (.mv (tv 106)),
 on (.store 2 (tv 3) (tv 107) [])] [] [2, 3])
 .ret))))),
 [.tmp 2, .cell 3 true 2], false⟩

def v168 : VFun := ⟨2,
 (.seq (.region [] [o 4 (.mv (.k (.sc (.c .nilptr))))] [] [0, 1])
 (.seq (.seq (.region [] [o 5 (.mv (tv 1)),
 o 6 (.bin .lss 0 (tv 5) (ki 0)),
 o 7 (.mv (tv 6)),
 og 8 (.mv (tv 1)) 7 false,
 og 9 (.mv (tv 0)) 7 false,
 og 10 (.len false (tv 9)) 7 false,
 og 11 (.bin .gtr 0 (tv 8) (tv 10)) 7 false,
 o 12 (.pick (tv 7) kt (tv 11))] [] [0, 1, 12])
 (.cond (tv 12) (.region [] [o 13 (.mv (tv 0)),
 o 14 (.len false (tv 13)),
 o 1 (.mv (tv 14))] [] [0, 1])
 .skip))
 (.seq (.region [] [o 15 (.mv (tv 0)),
 o 16 (.mv (tv 1)),
 o 17 (.build [.nil, zi, (.c (.bool false)), zi] [(0, 1, (tv 15)), (1, 1, (tv 16))]),
 oa 18 (.box (tv 17)) 1024,
 o 4 (.mv (tv 18))] [] [4])
 .ret))),
 [.tmp 4], true⟩

def l169_0 : VCode := (.seq (.seq (.region [] [o 69 (.mv (tv 0)),
 o 70 (.nn (tv 69)),
 o 71 (.fld 2 (tv 70)),
 o 72 (.load false 1 (tv 71)),
 o 73 (.un .not (tv 72)),
 o 74 (.mv (tv 73)),
 og 75 (.mv (tv 0)) 74 true,
 og 76 (.nn (tv 75)) 74 true,
 og 77 (.fld 1 (tv 76)) 74 true,
 og 78 (.load false 1 (tv 77)) 74 true,
 og 79 (.mv (tv 0)) 74 true,
 og 80 (.nn (tv 79)) 74 true,
 og 81 (.fld 0 (tv 80)) 74 true,
 og 82 (.load false 1 (tv 81)) 74 true,
 og 83 (.len false (tv 82)) 74 true,
 og 84 (.bin .lss 0 (tv 78) (tv 83)) 74 true,
 o 85 (.pick (tv 74) (tv 84) kF),
 o 86 (.mv (tv 85)),
 og 87 (.mv (tv 0)) 86 true,
 og 88 (.nn (tv 87)) 86 true,
 og 89 (.fld 0 (tv 88)) 86 true,
 og 90 (.load false 1 (tv 89)) 86 true,
 og 91 (.mv (tv 0)) 86 true,
 og 92 (.nn (tv 91)) 86 true,
 og 93 (.fld 1 (tv 92)) 86 true,
 og 94 (.load false 1 (tv 93)) 86 true,
 og 95 (.idxA 3 (tv 90) (tv 94)) 86 true,
 og 96 (.load true 3 (tv 95)) 86 true,
 ⟨(some 97), (.call (kf 225) [(false, (tv 96))] []), (some (86, true)), 6656, []⟩,
 o 98 (.pick (tv 86) (tv 97) kF)] [(7, 11), (8, 11), (9, 11), (7, 12), (8, 12), (9, 12), (7, 13), (8, 13), (9, 13), (7, 14), (8, 14), (9, 14), (19, 23), (20, 23), (21, 23), (19, 24), (20, 24), (21, 24), (19, 25), (20, 25), (21, 25)] [0, 2, 8, 98])
 (.cond (tv 98) .skip
 (.exit 1)))
 (.block 2 (.seq (.region [6912] [o 99 (.mv (tv 0)),
 oa 100 (.call (kf 224) [(true, (tv 99))] []) 6848,
 oa 9 (.new [zi, zi, zs, zi, .nil, .nil, zi, zs, zi, zi, .nil] []) 6912,
 on (.store 11 (tv 9) (tv 100) [])] [] [0, 2, 8, 9])
 (.region [7296] [o 101 (.fld 1 (tv 8)),
 o 102 (.load false 1 (tv 101)),
 o 103 (.load true 11 (tv 8)),
 o 104 (.load true 11 (tv 9)),
 oa 105 (.mkSl 11 [(tv 103), (tv 104)]) 7296,
 o 106 (.build [zi, zi, zs, zi, .nil, .nil, zi, zs, zi, zi, .nil] [(0, 1, (ki 5)), (1, 1, (tv 102)), (4, 1, (tv 105))]),
 on (.store 11 (tv 8) (tv 106) [])] [] [0, 2, 8]))))

def v169 : VFun := ⟨1,
 (.seq (.region [] [oa 2 (.new [zi, zi, zs, zi, .nil, .nil, zi, zs, zi, zi, .nil] []) 64] [] [0, 2])
 (.seq (.region [] [o 10 (.mv (tv 0)),
 oa 11 (.call (kf 219) [(true, (tv 10))] []) 192,
 o 3 (.mv (tv 11))] [] [0, 2, 3])
 (.seq (.block 0 (.seq (.region [] [o 13 (.mv (tv 0)),
 oa 14 (.call (kf 220) [(true, (tv 13)), (false, (.k (.sc (.c (.str [92])))))] []) 384,
 o 12 (.mv (tv 14))] [] [0, 2, 3, 12])
 (.cond (tv 12) (.seq (.region [] [o 15 (.mv (tv 0)),
 oa 16 (.call (kf 221) [(true, (tv 15)), (false, (ki 1))] []) 576,
 o 4 (.mv (tv 16))] [] [0, 2, 3, 4])
 (.seq (.region [] [o 17 (.mv (tv 0)),
 oa 18 (.call (kf 222) [(true, (tv 17)), (false, (.k (.sc (.c (.str [46])))))] []) 768] [] [0, 2, 3, 4])
 (.seq (.seq (.region [] [o 19 (.mv (tv 0)),
 o 20 (.nn (tv 19)),
 o 21 (.fld 2 (tv 20)),
 o 22 (.load false 1 (tv 21))] [] [0, 2, 3, 4, 22])
 (.cond (tv 22) (.seq (.region [] [o 23 (.build [zi, zi, zs, zi, .nil, .nil, zi, zs, zi, zi, .nil] []),
 on (.store 11 (tv 2) (tv 23) [])] [] [2])
 .ret)
 .skip))
 (.seq (.region [] [o 24 (.mv (tv 3)),
 o 25 (.mv (tv 4)),
 o 26 (.mv (tv 0)),
 oa 27 (.call (kf 169) [(true, (tv 26))] []) 1408,
 oa 28 (.mkSl 11 [(tv 27)]) 1472,
 o 29 (.build [zi, zi, zs, zi, .nil, .nil, zi, zs, zi, zi, .nil] [(0, 1, (ki 4)), (1, 1, (tv 24)), (2, 1, (tv 25)), (4, 1, (tv 28))]),
 on (.store 11 (tv 2) (tv 29) [])] [] [2])
 .ret))))
 (.seq (.region [] [o 31 (.mv (tv 0)),
 oa 32 (.call (kf 220) [(true, (tv 31)), (false, (.k (.sc (.c (.str [108, 101, 116])))))] []) 1728,
 o 30 (.mv (tv 32))] [] [0, 2, 3, 30])
 (.cond (tv 30) (.seq (.region [] [o 5 (.mv (ki 6))] [] [0, 2, 3, 5])
 (.seq (.seq (.region [] [o 33 (.mv (tv 0)),
 oa 34 (.call (kf 220) [(true, (tv 33)), (false, (.k (.sc (.c (.str [114, 101, 99])))))] []) 1984] [] [0, 2, 3, 5, 34])
 (.cond (tv 34) (.region [] [o 5 (.mv (ki 7))] [] [0, 2, 3, 5])
 .skip))
 (.seq (.region [] [o 35 (.mv (tv 0)),
 oa 36 (.call (kf 221) [(true, (tv 35)), (false, (ki 1))] []) 2176,
 o 6 (.mv (tv 36))] [] [0, 2, 3, 5, 6])
 (.seq (.region [] [o 37 (.mv (tv 0)),
 oa 38 (.call (kf 222) [(true, (tv 37)), (false, (.k (.sc (.c (.str [61])))))] []) 2368] [] [0, 2, 3, 5, 6])
 (.seq (.seq (.region [] [o 39 (.mv (tv 0)),
 o 40 (.nn (tv 39)),
 o 41 (.fld 2 (tv 40)),
 o 42 (.load false 1 (tv 41))] [] [0, 2, 3, 5, 6, 42])
 (.cond (tv 42) (.seq (.region [] [o 43 (.build [zi, zi, zs, zi, .nil, .nil, zi, zs, zi, zi, .nil] []),
 on (.store 11 (tv 2) (tv 43) [])] [] [2])
 .ret)
 .skip))
 (.seq (.region [] [o 44 (.mv (tv 0)),
 oa 45 (.call (kf 169) [(true, (tv 44))] []) 2880,
 oa 7 (.new [zi, zi, zs, zi, .nil, .nil, zi, zs, zi, zi, .nil] []) 2944,
 on (.store 11 (tv 7) (tv 45) [])] [] [0, 2, 3, 5, 6, 7])
 (.seq (.region [] [o 46 (.mv (tv 0)),
 oa 47 (.call (kf 222) [(true, (tv 46)), (false, (.k (.sc (.c (.str [105, 110])))))] []) 3136] [] [0, 2, 3, 5, 6, 7])
 (.seq (.seq (.region [] [o 48 (.mv (tv 0)),
 o 49 (.nn (tv 48)),
 o 50 (.fld 2 (tv 49)),
 o 51 (.load false 1 (tv 50))] [] [0, 2, 3, 5, 6, 7, 51])
 (.cond (tv 51) (.seq (.region [] [o 52 (.build [zi, zi, zs, zi, .nil, .nil, zi, zs, zi, zi, .nil] []),
 on (.store 11 (tv 2) (tv 52) [])] [] [2])
 .ret)
 .skip))
 (.seq (.region [] [o 53 (.mv (tv 5)),
 o 54 (.mv (tv 3)),
 o 55 (.mv (tv 6)),
 o 56 (.load true 11 (tv 7)),
 o 57 (.mv (tv 0)),
 oa 58 (.call (kf 169) [(true, (tv 57))] []) 3904,
 oa 59 (.mkSl 11 [(tv 56), (tv 58)]) 3968,
 o 60 (.build [zi, zi, zs, zi, .nil, .nil, zi, zs, zi, zi, .nil] [(0, 1, (tv 53)), (1, 1, (tv 54)), (2, 1, (tv 55)), (4, 1, (tv 59))]),
 on (.store 11 (tv 2) (tv 60) [])] [(3, 5)] [2])
 .ret)))))))))
 (.seq (.region [] [o 62 (.mv (tv 0)),
 oa 63 (.call (kf 220) [(true, (tv 62)), (false, (.k (.sc (.c (.str [99, 97, 115, 101])))))] []) 4224,
 o 61 (.mv (tv 63))] [] [0, 2, 3, 61])
 (.cond (tv 61) (.seq (.region [] [o 64 (.mv (tv 0)),
 o 65 (.mv (tv 3)),
 oa 66 (.call (kf 223) [(true, (tv 64)), (false, (tv 65))] []) 4480,
 on (.store 11 (tv 2) (tv 66) [])] [] [2])
 .ret)
 .skip)))))))
 (.seq (.region [] [o 67 (.mv (tv 0)),
 oa 68 (.call (kf 224) [(true, (tv 67))] []) 4672,
 oa 8 (.new [zi, zi, zs, zi, .nil, .nil, zi, zs, zi, zi, .nil] []) 4736,
 on (.store 11 (tv 8) (tv 68) [])] [] [0, 2, 8])
 (.seq (.block 1 (.loop l169_0))
 (.seq (.region [] [o 107 (.load true 11 (tv 8)),
 on (.store 11 (tv 2) (tv 107) [])] [] [2])
 .ret)))))),
 [.cell 2 true 11], false⟩

set_option maxRecDepth 100000 in
theorem m5 : mFun Go.Proofs.Tryz.prog 5 v5 = true := by kernel_rfl
set_option maxRecDepth 100000 in
theorem m133 : mFun Go.Proofs.Tryz.prog 133 v133 = true := by kernel_rfl
set_option maxRecDepth 100000 in
theorem m144 : mFun Go.Proofs.Tryz.prog 144 v144 = true := by kernel_rfl
set_option maxRecDepth 100000 in
theorem m95 : mFun Go.Proofs.Tryz.prog 95 v95 = true := by kernel_rfl
set_option maxRecDepth 100000 in
theorem m140 : mFun Go.Proofs.Tryz.prog 140 v140 = true := by kernel_rfl
set_option maxRecDepth 100000 in
theorem m19 : mFun Go.Proofs.Tryz.prog 19 v19 = true := by kernel_rfl
set_option maxRecDepth 100000 in
theorem m13 : mFun Go.Proofs.Tryz.prog 13 v13 = true := by kernel_rfl
set_option maxRecDepth 100000 in
theorem m20 : mFun Go.Proofs.Tryz.prog 20 v20 = true := by kernel_rfl
set_option maxRecDepth 100000 in
theorem m21 : mFun Go.Proofs.Tryz.prog 21 v21 = true := by kernel_rfl
set_option maxRecDepth 100000 in
theorem m23 : mFun Go.Proofs.Tryz.prog 23 v23 = true := by kernel_rfl
set_option maxRecDepth 100000 in
theorem m22 : mFun Go.Proofs.Tryz.prog 22 v22 = true := by kernel_rfl
set_option maxRecDepth 100000 in
theorem m24 : mFun Go.Proofs.Tryz.prog 24 v24 = true := by kernel_rfl
set_option maxRecDepth 100000 in
theorem m18 : mFun Go.Proofs.Tryz.prog 18 v18 = true := by kernel_rfl
set_option maxRecDepth 100000 in
theorem m25 : mFun Go.Proofs.Tryz.prog 25 v25 = true := by kernel_rfl
set_option maxRecDepth 100000 in
theorem m67 : mFun Go.Proofs.Tryz.prog 67 v67 = true := by kernel_rfl
set_option maxRecDepth 100000 in
theorem m31 : mFun Go.Proofs.Tryz.prog 31 v31 = true := by kernel_rfl
set_option maxRecDepth 100000 in
theorem m35 : mFun Go.Proofs.Tryz.prog 35 v35 = true := by kernel_rfl
set_option maxRecDepth 100000 in
theorem m30 : mFun Go.Proofs.Tryz.prog 30 v30 = true := by kernel_rfl
set_option maxRecDepth 100000 in
theorem m68 : mFun Go.Proofs.Tryz.prog 68 v68 = true := by kernel_rfl
set_option maxRecDepth 100000 in
theorem m69 : mFun Go.Proofs.Tryz.prog 69 v69 = true := by kernel_rfl
set_option maxRecDepth 100000 in
theorem m71 : mFun Go.Proofs.Tryz.prog 71 v71 = true := by kernel_rfl
set_option maxRecDepth 100000 in
theorem m53 : mFun Go.Proofs.Tryz.prog 53 v53 = true := by kernel_rfl
set_option maxRecDepth 100000 in
theorem m34 : mFun Go.Proofs.Tryz.prog 34 v34 = true := by kernel_rfl
set_option maxRecDepth 100000 in
theorem m70 : mFun Go.Proofs.Tryz.prog 70 v70 = true := by kernel_rfl
set_option maxRecDepth 100000 in
theorem m72 : mFun Go.Proofs.Tryz.prog 72 v72 = true := by kernel_rfl
set_option maxRecDepth 100000 in
theorem m66 : mFun Go.Proofs.Tryz.prog 66 v66 = true := by kernel_rfl
set_option maxRecDepth 100000 in
theorem m27 : mFun Go.Proofs.Tryz.prog 27 v27 = true := by kernel_rfl
set_option maxRecDepth 100000 in
theorem m26 : mFun Go.Proofs.Tryz.prog 26 v26 = true := by kernel_rfl
set_option maxRecDepth 100000 in
theorem m40 : mFun Go.Proofs.Tryz.prog 40 v40 = true := by kernel_rfl
set_option maxRecDepth 100000 in
theorem m127 : mFun Go.Proofs.Tryz.prog 127 v127 = true := by kernel_rfl
set_option maxRecDepth 100000 in
theorem m82 : mFun Go.Proofs.Tryz.prog 82 v82 = true := by kernel_rfl
set_option maxRecDepth 100000 in
theorem m84 : mFun Go.Proofs.Tryz.prog 84 v84 = true := by kernel_rfl
set_option maxRecDepth 100000 in
theorem m86 : mFun Go.Proofs.Tryz.prog 86 v86 = true := by kernel_rfl
set_option maxRecDepth 100000 in
theorem m79 : mFun Go.Proofs.Tryz.prog 79 v79 = true := by kernel_rfl
set_option maxRecDepth 100000 in
theorem m80 : mFun Go.Proofs.Tryz.prog 80 v80 = true := by kernel_rfl
set_option maxRecDepth 100000 in
theorem m81 : mFun Go.Proofs.Tryz.prog 81 v81 = true := by kernel_rfl
set_option maxRecDepth 100000 in
theorem m129 : mFun Go.Proofs.Tryz.prog 129 v129 = true := by kernel_rfl
set_option maxRecDepth 100000 in
theorem m47 : mFun Go.Proofs.Tryz.prog 47 v47 = true := by kernel_rfl
set_option maxRecDepth 100000 in
theorem m100 : mFun Go.Proofs.Tryz.prog 100 v100 = true := by kernel_rfl
set_option maxRecDepth 100000 in
theorem m128 : mFun Go.Proofs.Tryz.prog 128 v128 = true := by kernel_rfl
set_option maxRecDepth 100000 in
theorem m130 : mFun Go.Proofs.Tryz.prog 130 v130 = true := by kernel_rfl
set_option maxRecDepth 100000 in
theorem m132 : mFun Go.Proofs.Tryz.prog 132 v132 = true := by kernel_rfl
set_option maxRecDepth 100000 in
theorem m131 : mFun Go.Proofs.Tryz.prog 131 v131 = true := by kernel_rfl
set_option maxRecDepth 100000 in
theorem m125 : mFun Go.Proofs.Tryz.prog 125 v125 = true := by kernel_rfl
set_option maxRecDepth 100000 in
theorem m126 : mFun Go.Proofs.Tryz.prog 126 v126 = true := by kernel_rfl
set_option maxRecDepth 100000 in
theorem m97 : mFun Go.Proofs.Tryz.prog 97 v97 = true := by kernel_rfl
set_option maxRecDepth 100000 in
theorem m32 : mFun Go.Proofs.Tryz.prog 32 v32 = true := by kernel_rfl
set_option maxRecDepth 100000 in
theorem m96 : mFun Go.Proofs.Tryz.prog 96 v96 = true := by kernel_rfl
set_option maxRecDepth 100000 in
theorem m167 : mFun Go.Proofs.Tryz.prog 167 v167 = true := by kernel_rfl
set_option maxRecDepth 100000 in
theorem m168 : mFun Go.Proofs.Tryz.prog 168 v168 = true := by kernel_rfl
set_option maxRecDepth 100000 in
theorem m169 : mFun Go.Proofs.Tryz.prog 169 v169 = true := by kernel_rfl

end Go.Vs.Tryz
