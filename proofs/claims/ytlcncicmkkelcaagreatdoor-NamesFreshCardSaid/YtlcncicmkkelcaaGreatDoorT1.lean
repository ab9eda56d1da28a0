/- Functions of the program in the language of the value semantics, part 1 (printed by a program of mine), and that they match. (Parts of one proof, put together.) -/
import Derived.Test.YtlcncicmkkelcaaGreatDoorM4
import Derived.Test.YtlcncicmkkelcaaGreatDoorProg
import Derived.KernelRfl
set_option linter.unusedSimpArgs false
set_option linter.unusedVariables false
set_option linter.deprecated false

/- Functions of the program in the language of the value semantics, part 1 (printed by a program of mine), and that they match. -/
namespace Go.Vs.Tryz
open Go Go.Vs

def l6_0 : VCode := (.seq (.seq (.region [] [o 22 (.mv (tv 8)),
 o 23 (.mv (tv 1)),
 o 24 (.len false (tv 23)),
 o 25 (.bin .lss 0 (tv 22) (tv 24))] [] [0, 1, 7, 8, 25])
 (.cond (tv 25) .skip
 (.exit 0)))
 (.seq (.block 1 (.region [] [o 28 (.mv (tv 7)),
 o 29 (.mv (tv 1)),
 o 30 (.mv (tv 8)),
 o 31 (.idxA 1 (tv 29) (tv 30)),
 o 32 (.load false 1 (tv 31)),
 oa 33 (.call (kf 27) [(false, (tv 32)), (false, (ki 12))] []) 1728,
 oa 34 (.call (kf 26) [(false, (tv 33))] []) 1792,
 o 35 (.bin .add 0 (.k (.sc (.c (.str [118])))) (tv 34)),
 oa 36 (.mkSl 1 [(tv 35)]) 1920,
 o 37 (.app 1 16 false (tv 28) (tv 36)),
 o 7 (.mv (tv 37))] [] [0, 1, 7, 8]))
 (.region [1920] [o 26 (.mv (tv 8)),
 o 27 (.bin .add 0 (tv 26) (ki 1)),
 o 8 (.mv (tv 27))] [] [0, 1, 7, 8])))

def v6 : VFun := ⟨3,
 (.seq (.region [] [o 6 (.mv kF)] [] [0, 1, 2])
 (.seq (.seq (.region [] [oa 10 (.call (kf 19) [] []) 128,
 o 11 (.un .not (tv 10))] [] [0, 1, 2, 11])
 (.cond (tv 11) (.seq (.region [] [o 6 (.mv kF)] [] [6])
 .ret)
 .skip))
 (.seq (.seq (.region [] [o 12 (.mv (tv 1)),
 o 13 (.len false (tv 12)),
 o 14 (.bin .gtr 0 (tv 13) (ki 10)),
 o 15 (.mv (tv 14)),
 og 16 (.mv (tv 2)) 15 false,
 og 17 (.len false (tv 16)) 15 false,
 og 18 (.bin .gtr 0 (tv 17) (ki 5)) 15 false,
 o 19 (.pick (tv 15) kt (tv 18))] [] [0, 1, 2, 19])
 (.cond (tv 19) (.seq (.region [] [o 6 (.mv kt)] [] [6])
 .ret)
 .skip))
 (.seq (.region [] [o 20 (.mv (tv 2)),
 oa 21 (.app 1 16 true kn (tv 20)) 960,
 o 7 (.mv (tv 21))] [] [0, 1, 7])
 (.seq (.seq (.region [] [o 8 (.mv (ki 0))] [] [0, 1, 7, 8])
 (.block 0 (.loop l6_0)))
 (.seq (.region [] [o 38 (.mv (tv 0)),
 oa 39 (.call (kf 27) [(false, (tv 38)), (false, (ki 20))] []) 2368,
 o 9 (.mv (tv 39))] [] [7, 9])
 (.seq (.region [] [o 40 (.mv (tv 9)),
 o 41 (.mv (tv 7)),
 oa 42 (.call (kf 28) [(false, (tv 40)), (false, (tv 41))] []) 2624,
 o 43 (.mv (tv 9)),
 o 44 (.mv (tv 7)),
 oa 45 (.call (kf 29) [(false, (tv 43)), (false, (tv 44))] []) 2816,
 o 46 (.bin .eql 0 (tv 42) (tv 45)),
 o 47 (.mv (tv 46)),
 og 48 (.mv (tv 9)) 47 true,
 og 49 (.bin .sub 0 (ki (-1)) (tv 48)) 47 true,
 og 50 (.mv (tv 7)) 47 true,
 ⟨(some 51), (.call (kf 28) [(false, (tv 49)), (false, (tv 50))] []), (some (47, true)), 3200, []⟩,
 og 52 (.mv (tv 7)) 47 true,
 ⟨(some 53), (.call (kf 29) [(false, (ki 0)), (false, (tv 52))] []), (some (47, true)), 3328, []⟩,
 og 54 (.bin .eql 0 (tv 51) (tv 53)) 47 true,
 o 55 (.pick (tv 47) (tv 54) kF),
 o 6 (.mv (tv 55))] [] [6])
 .ret))))))),
 [.tmp 6], false⟩

def v133 : VFun := ⟨1,
 (.seq (.region [] [o 2 (.mv kn)] [] [0])
 (.seq (.seq (.region [] [o 3 (.mv (tv 0)),
 o 4 (.bin .eql 2 (tv 3) kn)] [] [0, 4])
 (.cond (tv 4) (.seq (.region [] [o 2 (.mv kn)] [] [2])
 .ret)
 .skip))
 (.seq (.region [] [o 5 .mkE,
 o 6 (.mv (tv 0)),
 oa 7 (.appF 2 32 (tv 5) (tv 6)) 448,
 o 2 (.mv (tv 7))] [] [2])
 .ret))),
 [.tmp 2], true⟩

def v144 : VFun := ⟨1,
 (.seq (.region [] [o 2 (.mv kn)] [] [0])
 (.seq (.seq (.region [] [o 3 (.mv (tv 0)),
 o 4 (.bin .eql 2 (tv 3) kn)] [] [0, 4])
 (.cond (tv 4) (.seq (.region [] [o 2 (.mv kn)] [] [2])
 .ret)
 .skip))
 (.seq (.region [] [o 5 .mkE,
 o 6 (.mv (tv 0)),
 oa 7 (.appF 14 200 (tv 5) (tv 6)) 448,
 o 2 (.mv (tv 7))] [] [2])
 .ret))),
 [.tmp 2], true⟩

def v95 : VFun := ⟨1,
 (.seq (.region [] [o 2 (.mv kn)] [] [0])
 (.seq (.seq (.region [] [o 3 (.mv (tv 0)),
 o 4 (.bin .eql 2 (tv 3) kn)] [] [0, 4])
 (.cond (tv 4) (.seq (.region [] [o 2 (.mv kn)] [] [2])
 .ret)
 .skip))
 (.seq (.region [] [o 5 .mkE,
 o 6 (.mv (tv 0)),
 oa 7 (.appF 1 16 (tv 5) (tv 6)) 448,
 o 2 (.mv (tv 7))] [] [2])
 .ret))),
 [.tmp 2], true⟩

def v140 : VFun := ⟨1,
 (.seq (.region [] [o 2 (.mv kn)] [] [0])
 (.seq (.seq (.region [] [o 3 (.mv (tv 0)),
 o 4 (.bin .eql 2 (tv 3) kn)] [] [0, 4])
 (.cond (tv 4) (.seq (.region [] [o 2 (.mv kn)] [] [2])
 .ret)
 .skip))
 (.seq (.region [] [o 5 .mkE,
 o 6 (.mv (tv 0)),
 oa 7 (.appF 11 152 (tv 5) (tv 6)) 448,
 o 2 (.mv (tv 7))] [] [2])
 .ret))),
 [.tmp 2], true⟩

def v19 : VFun := ⟨0,
 (.seq (.region [] [o 0 (.mv kF)] [] [1000000])
 (.seq (.region [] [oa 2 (.call (kf 67) [(false, (.k (.sc (.c (.str [92, 121, 46, 32, 120, 32, 121])))))] []) 128,
 oa 3 (.call (kf 67) [(false, (.k (.sc (.c (.str [121])))))] []) 192,
 oa 4 (.call (kf 31) [(false, (tv 2)), (false, (.k (.sc (.c (.str [120]))))), (false, (tv 3))] []) 256,
 oa 1 (.new [zi, zi, zs, zi, .nil, .nil, zi, zs, zi, zi, .nil] []) 320,
 on (.store 11 (tv 1) (tv 4) [])] [] [1])
 (.seq (.region [] [oa 5 (.call (kf 67) [(false, (.k (.sc (.c (.str [92, 120, 46, 32, 92, 121, 46, 32, 120])))))] []) 448,
 oa 6 (.call (kf 67) [(false, (.k (.sc (.c (.str [92, 97, 46, 32, 92, 98, 46, 32, 97])))))] []) 512,
 oa 7 (.call (kf 24) [(false, (tv 5)), (false, (tv 6))] []) 576,
 o 8 (.mv (tv 7)),
 ⟨(some 9), (.call (kf 67) [(false, (.k (.sc (.c (.str [92, 120, 46, 32, 92, 121, 46, 32, 120])))))] []), (some (8, true)), 704, []⟩,
 ⟨(some 10), (.call (kf 67) [(false, (.k (.sc (.c (.str [92, 97, 46, 32, 92, 98, 46, 32, 98])))))] []), (some (8, true)), 768, []⟩,
 ⟨(some 11), (.call (kf 24) [(false, (tv 9)), (false, (tv 10))] []), (some (8, true)), 832, []⟩,
 og 12 (.un .not (tv 11)) 8 true,
 o 13 (.pick (tv 8) (tv 12) kF),
 o 14 (.mv (tv 13)),
 og 15 (.load true 11 (tv 1)) 14 true,
 ⟨(some 16), (.call (kf 67) [(false, (.k (.sc (.c (.str [92, 118, 49, 46, 32, 121, 32, 118, 49])))))] []), (some (14, true)), 1152, []⟩,
 ⟨(some 17), (.call (kf 35) [(false, (tv 15)), (false, (tv 16))] []), (some (14, true)), 1216, []⟩,
 o 18 (.pick (tv 14) (tv 17) kF),
 o 19 (.mv (tv 18)),
 ⟨(some 20), (.call (kf 67) [(false, (.k (.sc (.c (.str [102, 32, 40, 92, 120, 46, 32, 120, 32, 121, 41])))))] []), (some (19, true)), 1408, []⟩,
 ⟨(some 21), (.call (kf 30) [(false, (tv 20))] []), (some (19, true)), 1472, []⟩,
 ⟨(some 22), (.mkSl 1 [(.k (.sc (.c (.str [102])))), (.k (.sc (.c (.str [121]))))]), (some (19, true)), 1536, []⟩,
 ⟨(some 23), (.call (kf 68) [(false, (tv 21)), (false, (tv 22))] []), (some (19, true)), 1600, []⟩,
 o 24 (.pick (tv 19) (tv 23) kF),
 o 0 (.mv (tv 24))] [(10, 11), (15, 17), (16, 17)] [0])
 .ret))),
 [.tmp 0], false⟩

def v27 : VFun := ⟨2,
 (.seq (.region [] [o 4 (.mv (ki 0))] [] [0, 1])
 (.seq (.seq (.region [] [o 5 (.mv (tv 1)),
 o 6 (.bin .lss 0 (tv 5) (ki 1))] [] [0, 1, 6])
 (.cond (tv 6) (.seq (.region [] [o 4 (.mv (ki 0))] [] [4])
 .ret)
 .skip))
 (.seq (.region [] [o 7 (.mv (tv 0)),
 o 8 (.mv (tv 1)),
 o 9 (.bin .rem 0 (tv 7) (tv 8)),
 o 0 (.mv (tv 9))] [] [0, 1])
 (.seq (.seq (.region [] [o 10 (.mv (tv 0)),
 o 11 (.bin .lss 0 (tv 10) (ki 0))] [] [0, 1, 11])
 (.cond (tv 11) (.region [] [o 12 (.mv (tv 0)),
 o 13 (.mv (tv 1)),
 o 14 (.bin .add 0 (tv 12) (tv 13)),
 o 0 (.mv (tv 14))] [] [0])
 .skip))
 (.seq (.region [] [o 15 (.mv (tv 0)),
 o 4 (.mv (tv 15))] [] [4])
 .ret))))),
 [.tmp 4], false⟩

def l26_0 : VCode := (.seq (.seq (.region [] [o 9 (.mv (tv 4)),
 o 10 (.bin .neq 0 (tv 9) (ki 0))] [] [0, 3, 4, 10])
 (.cond (tv 10) .skip
 (.exit 0)))
 (.seq (.block 1 (.seq (.region [] [o 13 (.mv (tv 4)),
 o 14 (.bin .rem 0 (tv 13) (ki 10)),
 o 5 (.mv (tv 14))] [] [0, 3, 4, 5])
 (.seq (.seq (.region [] [o 15 (.mv (tv 5)),
 o 16 (.bin .lss 0 (tv 15) (ki 0))] [] [0, 3, 4, 5, 16])
 (.cond (tv 16) (.region [] [o 17 (.mv (tv 5)),
 o 18 (.un .neg (tv 17)),
 o 5 (.mv (tv 18))] [] [0, 3, 4, 5])
 .skip))
 (.region [] [o 19 (.mv (tv 5)),
 o 20 (.mv (tv 5)),
 o 21 (.bin .add 0 (tv 20) (ki 1)),
 o 22 (.slS (.k (.sc (.c (.str [48, 49, 50, 51, 52, 53, 54, 55, 56, 57])))) (some (tv 19)) (some (tv 21))),
 o 23 (.mv (tv 3)),
 o 24 (.bin .add 0 (tv 22) (tv 23)),
 o 3 (.mv (tv 24))] [] [0, 3, 4]))))
 (.region [] [o 11 (.mv (tv 4)),
 o 12 (.bin .quo 0 (tv 11) (ki 10)),
 o 4 (.mv (tv 12))] [] [0, 3, 4])))

def v26 : VFun := ⟨1,
 (.seq (.region [] [o 2 (.mv (.k (.sc zs)))] [] [0])
 (.seq (.seq (.region [] [o 6 (.mv (tv 0)),
 o 7 (.bin .eql 0 (tv 6) (ki 0))] [] [0, 7])
 (.cond (tv 7) (.seq (.region [] [o 2 (.mv (.k (.sc (.c (.str [48])))))] [] [2])
 .ret)
 .skip))
 (.seq (.region [] [o 3 (.mv (.k (.sc zs)))] [] [0, 3])
 (.seq (.seq (.region [] [o 8 (.mv (tv 0)),
 o 4 (.mv (tv 8))] [] [0, 3, 4])
 (.block 0 (.loop l26_0)))
 (.seq (.seq (.region [] [o 25 (.mv (tv 0)),
 o 26 (.bin .lss 0 (tv 25) (ki 0))] [] [3, 26])
 (.cond (tv 26) (.region [] [o 27 (.mv (tv 3)),
 o 28 (.bin .add 0 (.k (.sc (.c (.str [45])))) (tv 27)),
 o 3 (.mv (tv 28))] [] [3])
 .skip))
 (.seq (.region [] [o 29 (.mv (tv 3)),
 o 2 (.mv (tv 29))] [] [2])
 .ret)))))),
 [.tmp 2], false⟩

def l28_0 : VCode := (.seq (.region [] [o 18 (.bin .lss 0 (tv 17) (tv 16))] [] [0, 5, 15, 16, 17, 18])
 (.seq (.cond (tv 18) .skip
 (.exit 0))
 (.seq (.block 1 (.seq (.region [] [o 19 (.idxA 1 (tv 15) (tv 17)),
 o 20 (.load false 1 (tv 19)),
 o 7 (.mv (tv 20))] [] [0, 5, 7, 15, 16, 17])
 (.seq (.region [] [o 22 (.mv (tv 7)),
 oa 23 (.call (kf 73) [(false, (tv 22)), (false, (.k (.sc (.c (.str [118])))))] []) 704,
 o 21 (.mv (tv 23)),
 o 24 (.ext 0 (tv 21)),
 o 25 (.ext 1 (tv 21)),
 o 8 (.mv (tv 24)),
 o 9 (.mv (tv 25))] [] [0, 5, 8, 9, 15, 16, 17])
 (.seq (.region [] [o 27 (.mv (tv 8)),
 oa 28 (.call (kf 74) [(false, (tv 27)), (false, (ki 10)), (false, (ki 64))] []) 1152,
 o 26 (.mv (tv 28)),
 o 29 (.ext 0 (tv 26)),
 o 30 (.ext 1 (tv 26)),
 o 10 (.mv (tv 29)),
 o 11 (.mv (tv 30))] [] [0, 5, 8, 9, 10, 11, 15, 16, 17])
 (.seq (.region [] [o 31 (.mv (tv 9)),
 o 32 (.mv (tv 31)),
 og 33 (.mv (tv 11)) 32 true,
 og 34 (.bin .eql 5 (tv 33) (.k (.sc (.c .nilif)))) 32 true,
 o 35 (.pick (tv 32) (tv 34) kF),
 o 36 (.mv (tv 35)),
 og 37 (.mv (tv 10)) 36 true,
 og 38 (.bin .gtr 0 (tv 37) (.k (.sc (.c (.int .u64 0))))) 36 true,
 o 39 (.pick (tv 36) (tv 38) kF),
 o 40 (.mv (tv 39)),
 og 41 (.mv (tv 10)) 40 true,
 ⟨(some 42), (.call (kf 75) [(false, (tv 41)), (false, (ki 10))] []), (some (40, true)), 2240, []⟩,
 og 43 (.mv (tv 8)) 40 true,
 og 44 (.bin .eql 0 (tv 42) (tv 43)) 40 true,
 o 45 (.pick (tv 40) (tv 44) kF)] [] [0, 5, 10, 15, 16, 17, 45])
 (.cond (tv 45) (.region [] [o 46 (.mv (tv 5)),
 o 47 (.mv (tv 10)),
 oa 48 (.mkSl 1 [(tv 47)]) 2624,
 o 49 (.app 1 8 false (tv 46) (tv 48)),
 o 5 (.mv (tv 49))] [] [0, 5, 15, 16, 17])
 .skip))))))
 (.region [1184, 1185, 1186, 2624] [o 50 (.bin .add 0 (tv 17) (ki 1)),
 o 17 (.mv (tv 50))] [] [0, 5, 15, 16, 17]))))

def l28_1 : VCode := (.seq (.region [] [o 61 (.bin .lss 0 (tv 60) (tv 59))] [] [12, 58, 59, 60, 61])
 (.seq (.cond (tv 61) .skip
 (.exit 2))
 (.seq (.block 3 (.seq (.region [] [o 62 (.idxA 1 (tv 58) (tv 60)),
 o 63 (.load false 1 (tv 62)),
 o 14 (.mv (tv 63))] [] [12, 14, 58, 59, 60])
 (.seq (.region [] [o 64 (.mv (tv 14)),
 o 65 (.mv (tv 12)),
 o 66 (.bin .leq 0 (tv 64) (tv 65))] [] [12, 58, 59, 60, 66])
 (.cond (tv 66) (.region [] [o 67 (.mv (tv 12)),
 o 68 (.bin .add 0 (tv 67) (.k (.sc (.c (.int .u64 1))))),
 o 12 (.mv (tv 68))] [] [12, 58, 59, 60])
 .skip))))
 (.region [] [o 69 (.bin .add 0 (tv 60) (ki 1)),
 o 60 (.mv (tv 69))] [] [12, 58, 59, 60]))))

def v28 : VFun := ⟨2,
 (.seq (.region [] [o 4 (.mv (.k (.sc zs)))] [] [0, 1])
 (.seq (.region [] [⟨(some 5), (.mv kn), none, 128, [(0, 1)]⟩] [] [0, 1, 5])
 (.seq (.seq (.region [] [o 15 (.mv (tv 1)),
 o 16 (.len false (tv 15)),
 o 17 (.mv (ki 0))] [] [0, 5, 15, 16, 17])
 (.block 0 (.loop l28_0)))
 (.seq (.region [] [o 51 (.mv (tv 5)),
 oa 52 (.call (kf 76) [(true, (tv 51))] []) 3008] [] [0, 5])
 (.seq (.region [] [o 53 (.mv (tv 0)),
 o 54 (.mx (tv 53) (ki 0)),
 o 55 (.cvI .u64 (tv 54)),
 o 56 (.bin .add 0 (tv 55) (.k (.sc (.c (.int .u64 1))))),
 o 12 (.mv (tv 56))] [] [5, 12])
 (.seq (.seq (.region [] [o 57 (.mv (tv 5)),
 oa 58 (.call (kf 77) [(true, (tv 57))] []) 3456,
 o 59 (.len false (tv 58)),
 o 60 (.mv (ki 0))] [] [12, 58, 59, 60])
 (.block 2 (.loop l28_1)))
 (.seq (.region [] [o 70 (.mv (tv 12)),
 oa 71 (.call (kf 75) [(false, (tv 70)), (false, (ki 10))] []) 4480,
 o 72 (.bin .add 0 (.k (.sc (.c (.str [118])))) (tv 71)),
 o 4 (.mv (tv 72))] [] [4])
 .ret))))))),
 [.tmp 4], false⟩

def l29_0 : VCode := (.seq (.block 1 (.seq (.region [] [o 11 (.mv (tv 5)),
 oa 12 (.call (kf 26) [(false, (tv 11))] []) 448,
 o 13 (.bin .add 0 (.k (.sc (.c (.str [118])))) (tv 12)),
 o 6 (.mv (tv 13))] [] [0, 1, 5, 6])
 (.seq (.seq (.region [] [o 14 (.mv (tv 1)),
 o 15 (.mv (tv 6)),
 oa 16 (.call (kf 78) [(false, (tv 14)), (false, (tv 15))] []) 768] [] [0, 1, 5, 6, 16])
 (.cond (tv 16) (.exit 1)
 .skip))
 (.seq (.seq (.region [] [o 17 (.mv (tv 0)),
 o 18 (.bin .eql 0 (tv 17) (ki 0))] [] [0, 1, 5, 6, 18])
 (.cond (tv 18) (.seq (.region [] [o 19 (.mv (tv 6)),
 o 4 (.mv (tv 19))] [] [4])
 .ret)
 .skip))
 (.region [] [o 20 (.mv (tv 0)),
 o 21 (.bin .sub 0 (tv 20) (ki 1)),
 o 0 (.mv (tv 21))] [] [0, 1, 5])))))
 (.region [] [o 9 (.mv (tv 5)),
 o 10 (.bin .add 0 (tv 9) (ki 1)),
 o 5 (.mv (tv 10))] [] [0, 1, 5]))

def v29 : VFun := ⟨2,
 (.seq (.region [] [o 4 (.mv (.k (.sc zs)))] [] [0, 1])
 (.seq (.region [] [o 7 (.mv (tv 0)),
 o 8 (.mx (tv 7) (ki 0)),
 o 0 (.mv (tv 8))] [] [0, 1])
 (.seq (.region [] [o 5 (.mv (ki 1))] [] [0, 1, 5])
 (.block 0 (.loop l29_0))))),
 [.tmp 4], false⟩

def v67 : VFun := ⟨1,
 (.seq (.region [] [oa 2 (.new [zi, zi, zs, zi, .nil, .nil, zi, zs, zi, zi, .nil] []) 64] [] [0, 2])
 (.seq (.region [] [o 6 (.mv (tv 0)),
 oa 7 (.call (kf 127) [(false, (tv 6))] []) 192,
 o 5 (.mv (tv 7)),
 o 8 (.ext 0 (tv 5)),
 o 9 (.ext 1 (tv 5)),
 oa 3 (.new [zi, zi, zs, zi, .nil, .nil, zi, zs, zi, zi, .nil] []) 448,
 oa 4 (.new [zi, zi] []) 512,
 on (.store 11 (tv 3) (tv 8) []),
 on (.store 2 (tv 4) (tv 9) [])] [] [2, 3])
 (.seq (.region [512] [o 10 (.load true 11 (tv 3)),
 on (.store 11 (tv 2) (tv 10) [])] [] [2])
 .ret))),
 [.cell 2 true 11], false⟩

def v31 : VFun := ⟨3,
 (.seq (.region [] [oa 3 (.box (tv 0)) 64,
 oa 5 (.box (tv 2)) 128,
 oa 6 (.new [zi, zi, zs, zi, .nil, .nil, zi, zs, zi, zi, .nil] []) 192] [] [1, 3, 5, 6])
 (.seq (.region [] [o 7 (.mv (tv 1)),
 o 8 (.load true 11 (tv 5)),
 o 9 (.load true 11 (tv 5)),
 oa 10 (.call (kf 30) [(false, (tv 9))] []) 448,
 o 11 (.build [zs, zi, zi, zs, zi, .nil, .nil, zi, zs, zi, zi, .nil, .nil] [(0, 1, (tv 7)), (1, 11, (tv 8)), (12, 1, (tv 10))]),
 o 12 (.load true 11 (tv 3)),
 oa 13 (.call (kf 82) [(false, (tv 11)), (false, (tv 12))] []) 640,
 on (.store 11 (tv 6) (tv 13) [])] [(1, 2), (1, 3), (1, 5), (2, 5), (3, 5)] [6])
 .ret)),
 [.cell 6 true 11], false⟩

def v24 : VFun := ⟨2,
 (.seq (.region [] [oa 2 (.box (tv 0)) 64,
 oa 3 (.box (tv 1)) 128,
 o 4 (.mv kF)] [] [2, 3])
 (.seq (.region [] [o 5 (.load true 11 (tv 2)),
 o 6 (.load true 11 (tv 3)),
 oa 7 (.call (kf 72) [(false, kn), (false, (tv 5)), (false, (tv 6)), (false, kF)] []) 384,
 o 4 (.mv (tv 7))] [] [4])
 .ret)),
 [.tmp 4], false⟩

def l35_0 : VCode := (.seq (.seq (.region [] [o 51 (.mv (tv 5)),
 o 52 (.fld 5 (tv 2)),
 o 53 (.load false 1 (tv 52)),
 o 54 (.len false (tv 53)),
 o 55 (.bin .lss 0 (tv 51) (tv 54))] [] [2, 3, 5, 55])
 (.cond (tv 55) .skip
 (.exit 0)))
 (.seq (.block 1 (.seq (.region [] [o 58 (.fld 5 (tv 2)),
 o 59 (.load false 1 (tv 58)),
 o 60 (.mv (tv 5)),
 o 61 (.idxA 14 (tv 59) (tv 60)),
 o 62 (.fld 1 (tv 61)),
 o 63 (.load false 1 (tv 62)),
 o 64 (.fld 5 (tv 3)),
 o 65 (.load false 1 (tv 64)),
 o 66 (.mv (tv 5)),
 o 67 (.idxA 14 (tv 65) (tv 66)),
 o 68 (.fld 1 (tv 67)),
 o 69 (.load false 1 (tv 68)),
 o 70 (.bin .neq 0 (tv 63) (tv 69)),
 o 71 (.mv (tv 70)),
 og 72 (.fld 5 (tv 2)) 71 false,
 og 73 (.load false 1 (tv 72)) 71 false,
 og 74 (.mv (tv 5)) 71 false,
 og 75 (.idxA 14 (tv 73) (tv 74)) 71 false,
 og 76 (.fld 2 (tv 75)) 71 false,
 og 77 (.load false 1 (tv 76)) 71 false,
 og 78 (.fld 5 (tv 3)) 71 false,
 og 79 (.load false 1 (tv 78)) 71 false,
 og 80 (.mv (tv 5)) 71 false,
 og 81 (.idxA 14 (tv 79) (tv 80)) 71 false,
 og 82 (.fld 2 (tv 81)) 71 false,
 og 83 (.load false 1 (tv 82)) 71 false,
 ⟨(some 84), (.call (kf 85) [(false, (tv 77)), (false, (tv 83))] []), (some (71, false)), 5248, []⟩,
 og 85 (.un .not (tv 84)) 71 false,
 o 86 (.pick (tv 71) kt (tv 85))] [(0, 6), (1, 6), (3, 6), (4, 6), (5, 6), (0, 7), (1, 7), (3, 7), (4, 7), (5, 7), (0, 9), (1, 9), (3, 9), (4, 9), (5, 9), (0, 10), (1, 10), (3, 10), (4, 10), (5, 10), (0, 11), (1, 11), (3, 11), (4, 11), (5, 11), (14, 20), (15, 20), (17, 20), (18, 20), (19, 20), (14, 21), (15, 21), (17, 21), (18, 21), (19, 21), (14, 23), (15, 23), (17, 23), (18, 23), (19, 23), (14, 24), (15, 24), (17, 24), (18, 24), (19, 24), (14, 25), (15, 25), (17, 25), (18, 25), (19, 25)] [2, 3, 5, 86])
 (.cond (tv 86) (.seq (.region [] [o 4 (.mv kF)] [] [4])
 .ret)
 .skip)))
 (.region [] [o 56 (.mv (tv 5)),
 o 57 (.bin .add 0 (tv 56) (ki 1)),
 o 5 (.mv (tv 57))] [] [2, 3, 5])))

def v35 : VFun := ⟨2,
 (.seq (.region [] [oa 2 (.box (tv 0)) 64,
 oa 3 (.box (tv 1)) 128,
 o 4 (.mv kF)] [] [2, 3])
 (.seq (.seq (.region [] [o 6 (.fld 0 (tv 2)),
 o 7 (.load false 1 (tv 6)),
 o 8 (.fld 0 (tv 3)),
 o 9 (.load false 1 (tv 8)),
 o 10 (.bin .neq 0 (tv 7) (tv 9)),
 o 11 (.mv (tv 10)),
 og 12 (.fld 2 (tv 2)) 11 false,
 og 13 (.load false 1 (tv 12)) 11 false,
 og 14 (.fld 2 (tv 3)) 11 false,
 og 15 (.load false 1 (tv 14)) 11 false,
 og 16 (.bin .neq 0 (tv 13) (tv 15)) 11 false,
 o 17 (.pick (tv 11) kt (tv 16)),
 o 18 (.mv (tv 17)),
 og 19 (.fld 3 (tv 2)) 18 false,
 og 20 (.load false 1 (tv 19)) 18 false,
 og 21 (.fld 3 (tv 3)) 18 false,
 og 22 (.load false 1 (tv 21)) 18 false,
 og 23 (.bin .neq 0 (tv 20) (tv 22)) 18 false,
 o 24 (.pick (tv 18) kt (tv 23)),
 o 25 (.mv (tv 24)),
 og 26 (.fld 6 (tv 2)) 25 false,
 og 27 (.load true 5 (tv 26)) 25 false,
 og 28 (.fld 6 (tv 3)) 25 false,
 og 29 (.load true 5 (tv 28)) 25 false,
 ⟨(some 30), (.call (kf 84) [(false, (tv 27)), (false, (tv 29))] []), (some (25, false)), 1792, []⟩,
 og 31 (.un .not (tv 30)) 25 false,
 o 32 (.pick (tv 25) kt (tv 31)),
 o 33 (.mv (tv 32)),
 og 34 (.fld 4 (tv 2)) 33 false,
 og 35 (.load false 1 (tv 34)) 33 false,
 og 36 (.len false (tv 35)) 33 false,
 og 37 (.fld 4 (tv 3)) 33 false,
 og 38 (.load false 1 (tv 37)) 33 false,
 og 39 (.len false (tv 38)) 33 false,
 og 40 (.bin .neq 0 (tv 36) (tv 39)) 33 false,
 o 41 (.pick (tv 33) kt (tv 40)),
 o 42 (.mv (tv 41)),
 og 43 (.fld 5 (tv 2)) 42 false,
 og 44 (.load false 1 (tv 43)) 42 false,
 og 45 (.len false (tv 44)) 42 false,
 og 46 (.fld 5 (tv 3)) 42 false,
 og 47 (.load false 1 (tv 46)) 42 false,
 og 48 (.len false (tv 47)) 42 false,
 og 49 (.bin .neq 0 (tv 45) (tv 48)) 42 false,
 o 50 (.pick (tv 42) kt (tv 49))] [] [2, 3, 50])
 (.cond (tv 50) (.seq (.region [] [o 4 (.mv kF)] [] [4])
 .ret)
 .skip))
 (.seq (.seq (.region [] [o 5 (.mv (ki 0))] [] [2, 3, 5])
 (.block 0 (.loop l35_0)))
 (.seq (.region [] [o 87 (.load true 11 (tv 2)),
 oa 88 (.call (kf 69) [(false, (tv 87))] []) 5760,
 o 89 (.load true 11 (tv 3)),
 oa 90 (.call (kf 69) [(false, (tv 89))] []) 5888,
 oa 91 (.call (kf 86) [(false, (tv 88)), (false, (tv 90))] []) 5952,
 o 4 (.mv (tv 91))] [(0, 2), (1, 2)] [4])
 .ret)))),
 [.tmp 4], false⟩

def l30_0 : VCode := (.seq (.region [] [o 30 (.bin .lss 0 (tv 29) (tv 28))] [] [1, 3, 6, 16, 17, 18, 27, 28, 29, 30])
 (.seq (.cond (tv 30) .skip
 (.exit 2))
 (.seq (.block 3 (.seq (.region [] [o 31 (.idxA 1 (tv 27) (tv 29)),
 o 32 (.load false 1 (tv 31)),
 o 8 (.mv (tv 32))] [] [1, 3, 6, 8, 16, 17, 18, 27, 28, 29])
 (.seq (.region [] [o 33 (.mv (tv 6)),
 o 34 (.mv (tv 8)),
 oa 35 (.call (kf 81) [(false, (tv 33)), (false, (tv 34))] []) 2304,
 o 36 (.un .not (tv 35)),
 o 37 (.mv (tv 36)),
 og 38 (.mv (tv 3)) 37 true,
 og 39 (.mv (tv 8)) 37 true,
 ⟨(some 40), (.call (kf 81) [(false, (tv 38)), (false, (tv 39))] []), (some (37, true)), 2624, []⟩,
 og 41 (.un .not (tv 40)) 37 true,
 o 42 (.pick (tv 37) (tv 41) kF)] [] [1, 3, 6, 8, 16, 17, 18, 27, 28, 29, 42])
 (.cond (tv 42) (.region [] [o 43 (.mv (tv 3)),
 o 44 (.mv (tv 8)),
 oa 45 (.mkSl 1 [(tv 44)]) 2944,
 o 46 (.app 1 16 false (tv 43) (tv 45)),
 o 3 (.mv (tv 46))] [] [1, 3, 6, 16, 17, 18, 27, 28, 29])
 .skip))))
 (.region [2944] [o 47 (.bin .add 0 (tv 29) (ki 1)),
 o 29 (.mv (tv 47))] [] [1, 3, 6, 16, 17, 18, 27, 28, 29]))))

def l30_1 : VCode := (.seq (.region [] [o 19 (.bin .lss 0 (tv 18) (tv 17))] [] [1, 3, 16, 17, 18, 19])
 (.seq (.cond (tv 19) .skip
 (.exit 0))
 (.seq (.block 1 (.seq (.region [] [o 20 (.mv (tv 18)),
 o 21 (.idxA 11 (tv 16) (tv 18)),
 o 22 (.load true 11 (tv 21)),
 oa 5 (.new [zi, zi, zs, zi, .nil, .nil, zi, zs, zi, zi, .nil] []) 1216,
 o 4 (.mv (tv 20)),
 on (.store 11 (tv 5) (tv 22) [])] [] [1, 3, 4, 5, 16, 17, 18])
 (.seq (.region [] [o 23 (.load true 11 (tv 1)),
 o 24 (.mv (tv 4)),
 oa 25 (.call (kf 80) [(false, (tv 23)), (false, (tv 24))] []) 1536,
 o 6 (.mv (tv 25))] [] [1, 3, 5, 6, 16, 17, 18])
 (.seq (.region [] [o 26 (.load true 11 (tv 5)),
 oa 27 (.call (kf 30) [(false, (tv 26))] []) 1728,
 o 28 (.len false (tv 27)),
 o 29 (.mv (ki 0))] [] [1, 3, 6, 16, 17, 18, 27, 28, 29])
 (.block 2 (.loop l30_0))))))
 (.region [1216] [o 48 (.bin .add 0 (tv 18) (ki 1)),
 o 18 (.mv (tv 48))] [] [1, 3, 16, 17, 18]))))

def v30 : VFun := ⟨1,
 (.seq (.region [] [oa 1 (.box (tv 0)) 64,
 o 2 (.mv kn)] [] [1])
 (.seq (.seq (.region [] [o 9 (.fld 0 (tv 1)),
 o 10 (.load false 1 (tv 9)),
 o 11 (.bin .eql 0 (tv 10) (ki 1))] [] [1, 11])
 (.cond (tv 11) (.seq (.region [] [o 12 (.fld 2 (tv 1)),
 o 13 (.load false 1 (tv 12)),
 oa 14 (.mkSl 1 [(tv 13)]) 512,
 o 2 (.mv (tv 14))] [] [2])
 .ret)
 .skip))
 (.seq (.region [] [⟨(some 3), (.mv kn), none, 640, [(0, 1)]⟩] [] [1, 3])
 (.seq (.seq (.region [] [o 15 (.load true 11 (tv 1)),
 oa 16 (.call (kf 79) [(false, (tv 15))] []) 768,
 o 17 (.len false (tv 16)),
 o 18 (.mv (ki 0))] [] [1, 3, 16, 17, 18])
 (.block 0 (.loop l30_1)))
 (.seq (.region [] [o 49 (.mv (tv 3)),
 o 2 (.mv (tv 49))] [] [2])
 .ret))))),
 [.tmp 2], false⟩

def l68_0 : VCode := (.seq (.seq (.region [] [o 11 (.mv (tv 5)),
 o 12 (.mv (tv 0)),
 o 13 (.len false (tv 12)),
 o 14 (.bin .lss 0 (tv 11) (tv 13))] [] [0, 1, 5, 14])
 (.cond (tv 14) .skip
 (.exit 0)))
 (.seq (.block 1 (.seq (.region [] [o 17 (.mv (tv 0)),
 o 18 (.mv (tv 5)),
 o 19 (.idxA 1 (tv 17) (tv 18)),
 o 20 (.load false 1 (tv 19)),
 o 21 (.mv (tv 1)),
 o 22 (.mv (tv 5)),
 o 23 (.idxA 1 (tv 21) (tv 22)),
 o 24 (.load false 1 (tv 23)),
 o 25 (.bin .neq 0 (tv 20) (tv 24))] [(2, 6), (3, 6), (2, 7), (3, 7)] [0, 1, 5, 25])
 (.cond (tv 25) (.seq (.region [] [o 4 (.mv kF)] [] [4])
 .ret)
 .skip)))
 (.region [] [o 15 (.mv (tv 5)),
 o 16 (.bin .add 0 (tv 15) (ki 1)),
 o 5 (.mv (tv 16))] [] [0, 1, 5])))

def v68 : VFun := ⟨2,
 (.seq (.region [] [o 4 (.mv kF)] [] [0, 1])
 (.seq (.seq (.region [] [o 6 (.mv (tv 0)),
 o 7 (.len false (tv 6)),
 o 8 (.mv (tv 1)),
 o 9 (.len false (tv 8)),
 o 10 (.bin .neq 0 (tv 7) (tv 9))] [] [0, 1, 10])
 (.cond (tv 10) (.seq (.region [] [o 4 (.mv kF)] [] [4])
 .ret)
 .skip))
 (.seq (.seq (.region [] [o 5 (.mv (ki 0))] [] [0, 1, 5])
 (.block 0 (.loop l68_0)))
 (.seq (.region [] [o 4 (.mv kt)] [] [4])
 .ret)))),
 [.tmp 4], false⟩

def v73 : VFun := ⟨2,
 (.seq (.region [] [o 4 (.mv (.k (.sc zs))),
 o 5 (.mv kF)] [] [0, 1])
 (.seq (.region [] [o 6 (.mv (tv 0)),
 o 7 (.mv (tv 1)),
 oa 8 (.call (kf 134) [(false, (tv 6)), (false, (tv 7))] []) 320,
 o 9 (.ext 0 (tv 8)),
 o 10 (.ext 1 (tv 8)),
 o 4 (.mv (tv 9)),
 o 5 (.mv (tv 10))] [] [4, 5])
 .ret)),
 [.tmp 4, .tmp 5], false⟩

def v74 : VFun := ⟨3,
 (.seq (.region [] [o 6 (.mv (.k (.sc (.c (.int .u64 0))))),
 o 7 (.mv (.k (.sc (.c .nilif))))] [] [0, 1, 2])
 (.seq (.region [] [o 11 (.mv (tv 0)),
 o 12 (.mv (tv 1)),
 o 13 (.mv (tv 2)),
 oa 14 (.call (kf 135) [(false, (tv 11)), (false, (tv 12)), (false, (tv 13))] []) 384,
 o 10 (.mv (tv 14)),
 o 15 (.ext 0 (tv 10)),
 o 16 (.ext 1 (tv 10)),
 o 8 (.mv (tv 15)),
 o 9 (.mv (tv 16))] [] [0, 1, 2, 8, 9])
 (.seq (.seq (.region [] [o 17 (.mv (tv 9)),
 o 18 (.bin .neq 5 (tv 17) (.k (.sc (.c .nilif))))] [] [0, 1, 2, 8, 9, 18])
 (.cond (tv 18) (.seq (.region [] [o 19 (.mv (tv 8)),
 o 20 (.mv (tv 0)),
 o 21 (.mv (tv 1)),
 o 22 (.mv (tv 2)),
 o 23 (.mv (tv 9)),
 oa 24 (.call (kf 136) [(false, (.k (.sc (.c (.str [80, 97, 114, 115, 101, 85, 105, 110, 116]))))), (false, (tv 20)), (false, (tv 21)), (false, (tv 22)), (false, (tv 23))] []) 1216,
 o 6 (.mv (tv 19)),
 o 7 (.mv (tv 24))] [] [6, 7])
 .ret)
 .skip))
 (.seq (.region [] [o 25 (.mv (tv 8)),
 o 6 (.mv (tv 25)),
 o 7 (.mv (.k (.sc (.c .nilif))))] [] [6, 7])
 .ret)))),
 [.tmp 6, .tmp 7], true⟩

def v75 : VFun := ⟨2,
 (.seq (.region [] [o 4 (.mv (.k (.sc zs)))] [] [0, 1])
 (.seq (.region [] [o 5 (.mv (tv 0)),
 o 6 (.mv (tv 1)),
 oa 7 (.call (kf 137) [(false, (tv 5)), (false, (tv 6))] []) 256,
 o 4 (.mv (tv 7))] [] [4])
 .ret)),
 [.tmp 4], false⟩

def v76 : VFun := ⟨1,
 (.seq (.region [] [o 3 (.mv (tv 0)),
 o 4 (.len false (tv 3)),
 o 2 (.mv (tv 4))] [] [0, 2])
 (.region [] [o 5 (.mv (tv 0)),
 o 6 (.mv (tv 2)),
 o 7 (.mv (tv 2)),
 o 8 (.cvI .u64 (tv 7)),
 oa 9 (.call (kf 139) [(false, (tv 8))] []) 512,
 oa 10 (.call (kf 138) [(true, (tv 5)), (false, (ki 0)), (false, (tv 6)), (false, (tv 9))] []) 576] [] [1000000])),
 [], false⟩

def l77_0 : VCode := (.seq (.seq (.region [] [o 29 (.mv (tv 5)),
 o 30 (.mv (tv 4)),
 o 31 (.len false (tv 30)),
 o 32 (.bin .lss 0 (tv 29) (tv 31))] [] [0, 3, 4, 5, 32])
 (.cond (tv 32) .skip
 (.exit 2)))
 (.seq (.block 3 (.seq (.region [] [o 35 (.mv (tv 4)),
 o 36 (.mv (tv 5)),
 o 37 (.idxA 1 (tv 35) (tv 36)),
 o 38 (.load false 1 (tv 37)),
 o 39 (.mv (tv 4)),
 o 40 (.mv (tv 5)),
 o 41 (.bin .sub 0 (tv 40) (ki 1)),
 o 42 (.idxA 1 (tv 39) (tv 41)),
 o 43 (.load false 1 (tv 42)),
 o 44 (.bin .neq 0 (tv 38) (tv 43))] [(2, 7), (3, 7), (2, 8), (3, 8)] [0, 3, 4, 5, 44])
 (.cond (tv 44) (.seq (.region [] [o 45 (.mv (tv 0)),
 o 46 (.mv (tv 3)),
 o 47 (.mv (tv 4)),
 o 48 (.mv (tv 5)),
 o 49 (.idxA 1 (tv 47) (tv 48)),
 o 50 (.load false 1 (tv 49)),
 o 51 (.idxA 1 (tv 45) (tv 46)),
 on (.store 1 (tv 51) (tv 50) [])] [] [0, 3, 4, 5])
 (.region [] [o 52 (.mv (tv 3)),
 o 53 (.bin .add 0 (tv 52) (ki 1)),
 o 3 (.mv (tv 53))] [] [0, 3, 4, 5]))
 .skip)))
 (.region [] [o 33 (.mv (tv 5)),
 o 34 (.bin .add 0 (tv 33) (ki 1)),
 o 5 (.mv (tv 34))] [] [0, 3, 4, 5])))

def l77_1 : VCode := (.seq (.seq (.region [] [o 10 (.mv (tv 3)),
 o 11 (.mv (tv 0)),
 o 12 (.len false (tv 11)),
 o 13 (.bin .lss 0 (tv 10) (tv 12))] [] [0, 3, 13])
 (.cond (tv 13) .skip
 (.exit 0)))
 (.seq (.block 1 (.seq (.region [] [o 16 (.mv (tv 0)),
 o 17 (.mv (tv 3)),
 o 18 (.idxA 1 (tv 16) (tv 17)),
 o 19 (.load false 1 (tv 18)),
 o 20 (.mv (tv 0)),
 o 21 (.mv (tv 3)),
 o 22 (.bin .sub 0 (tv 21) (ki 1)),
 o 23 (.idxA 1 (tv 20) (tv 22)),
 o 24 (.load false 1 (tv 23)),
 o 25 (.bin .eql 0 (tv 19) (tv 24))] [(2, 7), (3, 7), (2, 8), (3, 8)] [0, 3, 25])
 (.cond (tv 25) (.seq (.region [] [o 26 (.mv (tv 0)),
 o 27 (.mv (tv 3)),
 o 28 (.sl 1 (tv 26) (some (tv 27)) none none),
 o 4 (.mv (tv 28))] [] [0, 3, 4])
 (.seq (.seq (.region [] [o 5 (.mv (ki 1))] [] [0, 3, 4, 5])
 (.block 2 (.loop l77_0)))
 (.seq (.region [] [o 54 (.mv (tv 0)),
 o 55 (.mv (tv 3)),
 o 56 (.sl 1 (tv 54) (some (tv 55)) none none),
 on (.clr 1 [(.c (.int .u64 0))] (tv 56))] [] [0, 3])
 (.seq (.region [] [o 57 (.mv (tv 0)),
 o 58 (.mv (tv 3)),
 o 59 (.sl 1 (tv 57) none (some (tv 58)) none),
 o 2 (.mv (tv 59))] [] [2])
 .ret))))
 .skip)))
 (.region [] [o 14 (.mv (tv 3)),
 o 15 (.bin .add 0 (tv 14) (ki 1)),
 o 3 (.mv (tv 15))] [] [0, 3])))

def v77 : VFun := ⟨1,
 (.seq (.region [] [o 2 (.mv kn)] [] [0])
 (.seq (.seq (.region [] [o 6 (.mv (tv 0)),
 o 7 (.len false (tv 6)),
 o 8 (.bin .lss 0 (tv 7) (ki 2))] [] [0, 8])
 (.cond (tv 8) (.seq (.region [] [o 9 (.mv (tv 0)),
 o 2 (.mv (tv 9))] [] [2])
 .ret)
 .skip))
 (.seq (.seq (.region [] [o 3 (.mv (ki 1))] [] [0, 3])
 (.block 0 (.loop l77_1)))
 (.seq (.region [] [o 60 (.mv (tv 0)),
 o 2 (.mv (tv 60))] [] [2])
 .ret)))),
 [.tmp 2], true⟩

def l78_0 : VCode := (.seq (.seq (.region [] [o 6 (.mv (tv 5)),
 o 7 (.mv (tv 0)),
 o 8 (.len false (tv 7)),
 o 9 (.bin .lss 0 (tv 6) (tv 8))] [] [0, 1, 5, 9])
 (.cond (tv 9) .skip
 (.exit 0)))
 (.seq (.block 1 (.seq (.region [] [o 12 (.mv (tv 0)),
 o 13 (.mv (tv 5)),
 o 14 (.idxA 1 (tv 12) (tv 13)),
 o 15 (.load false 1 (tv 14)),
 o 16 (.mv (tv 1)),
 o 17 (.bin .eql 0 (tv 15) (tv 16))] [] [0, 1, 5, 17])
 (.cond (tv 17) (.seq (.region [] [o 4 (.mv kt)] [] [4])
 .ret)
 .skip)))
 (.region [] [o 10 (.mv (tv 5)),
 o 11 (.bin .add 0 (tv 10) (ki 1)),
 o 5 (.mv (tv 11))] [] [0, 1, 5])))

def v78 : VFun := ⟨2,
 (.seq (.region [] [o 4 (.mv kF)] [] [0, 1])
 (.seq (.seq (.region [] [o 5 (.mv (ki 0))] [] [0, 1, 5])
 (.block 0 (.loop l78_0)))
 (.seq (.region [] [o 4 (.mv kF)] [] [4])
 .ret))),
 [.tmp 4], false⟩

def v127 : VFun := ⟨1,
 (.seq (.region [] [oa 2 (.new [zi, zi, zs, zi, .nil, .nil, zi, zs, zi, zi, .nil] []) 64,
 oa 3 (.new [zi, zi] []) 128] [] [0, 2, 3])
 (.seq (.region [] [o 11 (.mv (tv 0)),
 oa 12 (.call (kf 167) [(false, (tv 11))] []) 256,
 o 10 (.mv (tv 12)),
 o 13 (.ext 0 (tv 10)),
 o 14 (.ext 1 (tv 10)),
 oa 5 (.new [zi, zi] []) 512,
 o 4 (.mv (tv 13)),
 on (.store 2 (tv 5) (tv 14) [])] [] [2, 3, 4, 5])
 (.seq (.seq (.region [] [o 15 (.fld 0 (tv 5)),
 o 16 (.load false 1 (tv 15)),
 o 17 (.bin .neq 0 (tv 16) (ki 0))] [] [2, 3, 4, 5, 17])
 (.cond (tv 17) (.seq (.region [] [o 18 (.build [zi, zi, zs, zi, .nil, .nil, zi, zs, zi, zi, .nil] []),
 o 19 (.load true 2 (tv 5)),
 on (.store 11 (tv 2) (tv 18) []),
 on (.store 2 (tv 3) (tv 19) [])] [(1, 2)] [2, 3])
 .ret)
 .skip))
 (.seq (.region [] [o 20 (.mv (tv 4)),
 oa 21 (.call (kf 168) [(false, (tv 20)), (false, (ki 0))] []) 1216,
 o 6 (.mv (tv 21))] [] [2, 3, 4, 5, 6])
 (.seq (.region [] [o 22 (.mv (tv 6)),
 oa 23 (.call (kf 169) [(true, (tv 22))] []) 1408,
 oa 7 (.new [zi, zi, zs, zi, .nil, .nil, zi, zs, zi, zi, .nil] []) 1472,
 on (.store 11 (tv 7) (tv 23) [])] [] [2, 3, 4, 5, 6, 7])
 (.seq (.seq (.region [] [o 24 (.mv (tv 6)),
 o 25 (.nn (tv 24)),
 o 26 (.fld 1 (tv 25)),
 o 27 (.load false 1 (tv 26)),
 o 28 (.mv (tv 4)),
 o 29 (.len false (tv 28)),
 o 30 (.bin .lss 0 (tv 27) (tv 29))] [] [2, 3, 5, 6, 7, 30])
 (.cond (tv 30) (.region [] [o 31 (.mv (tv 6)),
 oa 32 (.call (kf 170) [(true, (tv 31))] []) 2112] [] [2, 3, 5, 6, 7])
 .skip))
 (.seq (.seq (.region [] [o 33 (.mv (tv 6)),
 o 34 (.nn (tv 33)),
 o 35 (.fld 2 (tv 34)),
 o 36 (.load false 1 (tv 35))] [] [2, 3, 5, 6, 7, 36])
 (.cond (tv 36) (.seq (.region [] [o 37 (.build [zi, zi, zs, zi, .nil, .nil, zi, zs, zi, zi, .nil] []),
 o 38 (.mv (tv 6)),
 o 39 (.nn (tv 38)),
 o 40 (.fld 3 (tv 39)),
 o 41 (.load false 1 (tv 40)),
 o 42 (.build [zi, zi] [(0, 1, (ki 3)), (1, 1, (tv 41))]),
 on (.store 11 (tv 2) (tv 37) []),
 on (.store 2 (tv 3) (tv 42) [])] [(2, 6), (3, 6), (4, 6)] [2, 3])
 .ret)
 .skip))
 (.seq (.seq (.region [] [o 43 (.load true 11 (tv 7)),
 oa 44 (.call (kf 171) [(false, (tv 43))] []) 3008] [] [2, 3, 5, 7, 44])
 (.cond (tv 44) (.seq (.region [] [o 45 (.build [zi, zi, zs, zi, .nil, .nil, zi, zs, zi, zi, .nil] []),
 o 46 (.build [zi, zi] [(0, 1, (ki 4))]),
 on (.store 11 (tv 2) (tv 45) []),
 on (.store 2 (tv 3) (tv 46) [])] [] [2, 3])
 .ret)
 .skip))
 (.seq (.seq (.region [] [o 48 (.load true 11 (tv 7)),
 oa 49 (.call (kf 172) [(false, (tv 48))] []) 3392,
 o 47 (.mv (tv 49)),
 o 50 (.ext 0 (tv 47)),
 o 51 (.ext 1 (tv 47)),
 o 8 (.mv (tv 50)),
 o 9 (.mv (tv 51))] [] [2, 3, 5, 7, 8, 9])
 (.seq (.region [] [o 52 (.mv (tv 9))] [] [2, 3, 5, 7, 8, 52])
 (.cond (tv 52) (.seq (.region [] [o 53 (.build [zi, zi, zs, zi, .nil, .nil, zi, zs, zi, zi, .nil] []),
 o 54 (.mv (tv 8)),
 o 55 (.build [zi, zi] [(0, 1, (ki 5)), (1, 1, (tv 54))]),
 on (.store 11 (tv 2) (tv 53) []),
 on (.store 2 (tv 3) (tv 55) [])] [] [2, 3])
 .ret)
 .skip)))
 (.seq (.region [] [o 56 (.load true 11 (tv 7)),
 o 57 (.load true 2 (tv 5)),
 on (.store 11 (tv 2) (tv 56) []),
 on (.store 2 (tv 3) (tv 57) [])] [(0, 1), (1, 2)] [2, 3])
 .ret)))))))))),
 [.cell 2 true 11, .cell 3 true 2], false⟩

def l82_0 : VCode := (.seq (.region [] [o 39 (.bin .lss 0 (tv 38) (tv 37))] [] [2, 3, 4, 36, 37, 38, 39])
 (.seq (.cond (tv 39) .skip
 (.exit 1))
 (.seq (.block 2 (.seq (.region [] [o 40 (.mv (tv 38)),
 o 41 (.idxA 14 (tv 36) (tv 38)),
 o 42 (.load true 14 (tv 41)),
 oa 6 (.new [zi, zs, .nil, zi, zi, zs, zi, .nil, .nil, zi, zs, zi, zi, .nil] []) 2752,
 o 5 (.mv (tv 40)),
 on (.store 14 (tv 6) (tv 42) [])] [] [2, 3, 4, 5, 6, 36, 37, 38])
 (.region [] [o 43 (.fld 5 (tv 3)),
 o 44 (.load false 1 (tv 43)),
 o 45 (.mv (tv 5)),
 o 46 (.load true 13 (tv 2)),
 o 47 (.load true 14 (tv 6)),
 oa 48 (.call (kf 145) [(false, (tv 46)), (false, (tv 47))] []) 3264,
 o 49 (.idxA 14 (tv 44) (tv 45)),
 on (.store 14 (tv 49) (tv 48) [])] [(0, 3), (1, 3), (0, 4), (1, 4), (3, 4), (0, 5), (1, 5)] [2, 3, 4, 36, 37, 38])))
 (.region [2752] [o 50 (.bin .add 0 (tv 38) (ki 1)),
 o 38 (.mv (tv 50))] [] [2, 3, 4, 36, 37, 38]))))

def l82_1 : VCode := (.seq (.region [] [o 56 (.bin .lss 0 (tv 55) (tv 54))] [] [2, 3, 4, 7, 53, 54, 55, 56])
 (.seq (.cond (tv 56) .skip
 (.exit 3))
 (.seq (.block 4 (.seq (.region [] [o 57 (.mv (tv 55)),
 o 58 (.idxA 11 (tv 53) (tv 55)),
 o 59 (.load true 11 (tv 58)),
 oa 9 (.new [zi, zi, zs, zi, .nil, .nil, zi, zs, zi, zi, .nil] []) 4224,
 o 8 (.mv (tv 57)),
 on (.store 11 (tv 9) (tv 59) [])] [] [2, 3, 4, 7, 8, 9, 53, 54, 55])
 (.seq (.region [] [o 60 (.load true 11 (tv 3)),
 o 61 (.mv (tv 8)),
 oa 62 (.call (kf 80) [(false, (tv 60)), (false, (tv 61))] []) 4544,
 o 63 (.fld 0 (tv 2)),
 o 64 (.load false 1 (tv 63)),
 oa 65 (.call (kf 81) [(false, (tv 62)), (false, (tv 64))] []) 4736,
 o 66 (.un .not (tv 65))] [(0, 3), (2, 3), (0, 4), (2, 4)] [2, 3, 4, 7, 8, 9, 53, 54, 55, 66])
 (.cond (tv 66) (.region [] [o 67 (.mv (tv 7)),
 o 68 (.mv (tv 8)),
 o 69 (.load true 13 (tv 2)),
 o 70 (.load true 11 (tv 9)),
 oa 71 (.call (kf 82) [(false, (tv 69)), (false, (tv 70))] []) 5120,
 o 72 (.idxA 11 (tv 67) (tv 68)),
 on (.store 11 (tv 72) (tv 71) [])] [] [2, 3, 4, 7, 53, 54, 55])
 .skip))))
 (.region [4224] [o 73 (.bin .add 0 (tv 55) (ki 1)),
 o 55 (.mv (tv 73))] [] [2, 3, 4, 7, 53, 54, 55]))))

def v82 : VFun := ⟨2,
 (.seq (.region [] [oa 2 (.box (tv 0)) 64,
 oa 3 (.box (tv 1)) 128,
 oa 4 (.new [zi, zi, zs, zi, .nil, .nil, zi, zs, zi, zi, .nil] []) 192] [] [2, 3, 4])
 (.seq (.seq (.region [] [o 10 (.fld 0 (tv 3)),
 o 11 (.load false 1 (tv 10))] [] [2, 3, 4, 11])
 (.block 0 (.seq (.region [] [o 13 (.bin .eql 0 (tv 11) (ki 1)),
 o 12 (.mv (tv 13))] [] [2, 3, 4, 11, 12])
 (.cond (tv 12) (.seq (.seq (.region [] [o 14 (.fld 2 (tv 3)),
 o 15 (.load false 1 (tv 14)),
 o 16 (.fld 0 (tv 2)),
 o 17 (.load false 1 (tv 16)),
 o 18 (.bin .eql 0 (tv 15) (tv 17))] [] [2, 3, 4, 18])
 (.cond (tv 18) (.seq (.region [] [o 19 (.fld 1 (tv 2)),
 o 20 (.load true 11 (tv 19)),
 on (.store 11 (tv 4) (tv 20) [])] [] [4])
 .ret)
 .skip))
 (.seq (.region [] [o 21 (.load true 11 (tv 3)),
 on (.store 11 (tv 4) (tv 21) [])] [] [4])
 .ret))
 (.seq (.seq (.region [] [o 23 (.bin .eql 0 (tv 11) (ki 4)),
 o 22 (.mv (tv 23))] [] [2, 3, 4, 11, 22])
 (.cond (tv 22) .skip
 (.seq (.region [] [o 24 (.bin .eql 0 (tv 11) (ki 6)),
 o 22 (.mv (tv 24))] [] [2, 3, 4, 11, 22])
 (.cond (tv 22) .skip
 (.region [] [o 25 (.bin .eql 0 (tv 11) (ki 7)),
 o 22 (.mv (tv 25))] [] [2, 3, 4, 11, 22])))))
 (.cond (tv 22) (.region [] [o 26 (.load true 13 (tv 2)),
 o 27 (.load true 11 (tv 3)),
 oa 28 (.call (kf 143) [(false, (tv 26)), (false, (tv 27))] []) 1664,
 on (.store 11 (tv 3) (tv 28) [])] [] [2, 3, 4])
 (.seq (.region [] [o 30 (.bin .eql 0 (tv 11) (ki 8)),
 o 29 (.mv (tv 30))] [] [2, 3, 4, 29])
 (.cond (tv 29) (.seq (.region [] [o 31 (.fld 5 (tv 3)),
 o 32 (.load false 1 (tv 31)),
 oa 33 (.call (kf 144) [(false, (tv 32))] []) 2048,
 o 34 (.fld 5 (tv 3)),
 on (.store 1 (tv 34) (tv 33) [])] [] [2, 3, 4])
 (.seq (.region [] [o 35 (.fld 5 (tv 3)),
 o 36 (.load false 1 (tv 35)),
 o 37 (.len false (tv 36)),
 o 38 (.mv (ki 0))] [] [2, 3, 4, 36, 37, 38])
 (.block 1 (.loop l82_0))))
 .skip))))))))
 (.seq (.region [] [o 51 (.load true 11 (tv 3)),
 oa 52 (.call (kf 79) [(false, (tv 51))] []) 3648,
 o 7 (.mv (tv 52))] [] [2, 3, 4, 7])
 (.seq (.seq (.region [] [o 53 (.mv (tv 7)),
 o 54 (.len false (tv 53)),
 o 55 (.mv (ki 0))] [] [2, 3, 4, 7, 53, 54, 55])
 (.block 3 (.loop l82_1)))
 (.seq (.region [] [o 74 (.load true 11 (tv 3)),
 o 75 (.mv (tv 7)),
 oa 76 (.call (kf 146) [(false, (tv 74)), (false, (tv 75))] []) 5568,
 on (.store 11 (tv 4) (tv 76) [])] [] [4])
 .ret))))),
 [.cell 4 true 11], false⟩

def l72_0 : VCode := (.seq (.region [] [o 62 (.bin .lss 0 (tv 61) (tv 60))] [] [0, 3, 5, 6, 9, 10, 60, 61, 62])
 (.seq (.cond (tv 62) .skip
 (.exit 0))
 (.seq (.block 1 (.seq (.region [] [o 63 (.mv (tv 61)),
 o 11 (.mv (tv 63))] [] [0, 3, 5, 6, 9, 10, 11, 60, 61])
 (.region [] [o 64 (.mv (tv 9)),
 o 65 (.mv (tv 11)),
 o 66 (.bldD [zi, zi, zs, zi, .nil, .nil, zi, zs, zi, zi, .nil] []),
 o 67 (.idxA 11 (tv 64) (tv 65)),
 on (.store 11 (tv 67) (tv 66) [])] [] [0, 3, 5, 6, 9, 10, 60, 61])))
 (.region [] [o 68 (.bin .add 0 (tv 61) (ki 1)),
 o 61 (.mv (tv 68))] [] [0, 3, 5, 6, 9, 10, 60, 61]))))

def l72_1 : VCode := (.seq (.region [] [o 72 (.bin .lss 0 (tv 71) (tv 70))] [] [0, 3, 5, 6, 9, 10, 70, 71, 72])
 (.seq (.cond (tv 72) .skip
 (.exit 2))
 (.seq (.block 3 (.seq (.region [] [o 73 (.mv (tv 71)),
 o 12 (.mv (tv 73))] [] [0, 3, 5, 6, 9, 10, 12, 70, 71])
 (.region [] [o 74 (.mv (tv 10)),
 o 75 (.mv (tv 12)),
 o 76 (.bldD [zi, zi, zs, zi, .nil, .nil, zi, zs, zi, zi, .nil] []),
 o 77 (.idxA 11 (tv 74) (tv 75)),
 on (.store 11 (tv 77) (tv 76) [])] [] [0, 3, 5, 6, 9, 10, 70, 71])))
 (.region [] [o 78 (.bin .add 0 (tv 71) (ki 1)),
 o 71 (.mv (tv 78))] [] [0, 3, 5, 6, 9, 10, 70, 71]))))

def l72_2 : VCode := (.seq (.region [] [o 107 (.bin .lss 0 (tv 106) (tv 105))] [] [0, 3, 5, 6, 9, 10, 13, 14, 15, 16, 92, 93, 105, 106, 107])
 (.seq (.cond (tv 107) .skip
 (.exit 6))
 (.seq (.block 7 (.seq (.region [] [o 108 (.mv (tv 106)),
 o 17 (.mv (tv 108))] [] [0, 3, 5, 6, 9, 10, 13, 14, 15, 16, 17, 92, 93, 105, 106])
 (.region [] [o 109 (.mv (tv 14)),
 o 110 (.mv (tv 15)),
 o 111 (.mv (tv 17)),
 o 112 (.idxA 1 (tv 110) (tv 111)),
 o 113 (.load false 1 (tv 112)),
 o 114 (.mv (tv 16)),
 o 115 (.mv (tv 17)),
 o 116 (.idxA 1 (tv 114) (tv 115)),
 o 117 (.load false 1 (tv 116)),
 o 118 (.build [zs, zs] [(0, 1, (tv 113)), (1, 1, (tv 117))]),
 oa 119 (.mkSl 2 [(tv 118)]) 7936,
 o 120 (.app 2 32 false (tv 109) (tv 119)),
 o 14 (.mv (tv 120))] [(3, 7), (4, 7), (3, 8), (4, 8)] [0, 3, 5, 6, 9, 10, 13, 14, 15, 16, 92, 93, 105, 106])))
 (.region [7936] [o 121 (.bin .add 0 (tv 106) (ki 1)),
 o 106 (.mv (tv 121))] [] [0, 3, 5, 6, 9, 10, 13, 14, 15, 16, 92, 93, 105, 106]))))

def l72_3 : VCode := (.seq (.region [] [o 94 (.bin .lss 0 (tv 93) (tv 92))] [] [0, 3, 5, 6, 9, 10, 92, 93, 94])
 (.seq (.cond (tv 94) .skip
 (.exit 4))
 (.seq (.block 5 (.seq (.region [] [o 95 (.mv (tv 93)),
 o 13 (.mv (tv 95))] [] [0, 3, 5, 6, 9, 10, 13, 92, 93])
 (.seq (.region [] [o 96 (.mv (tv 0)),
 oa 97 (.call (kf 133) [(false, (tv 96))] []) 6272,
 ⟨(some 14), (.mv (tv 97)), none, 6336, [(0, 2)]⟩] [] [0, 3, 5, 6, 9, 10, 13, 14, 92, 93])
 (.seq (.region [] [o 98 (.load true 11 (tv 5)),
 o 99 (.mv (tv 13)),
 oa 100 (.call (kf 80) [(false, (tv 98)), (false, (tv 99))] []) 6528,
 o 101 (.load true 11 (tv 6)),
 o 102 (.mv (tv 13)),
 oa 103 (.call (kf 80) [(false, (tv 101)), (false, (tv 102))] []) 6720,
 o 15 (.mv (tv 100)),
 o 16 (.mv (tv 103))] [(0, 3), (2, 3)] [0, 3, 5, 6, 9, 10, 13, 14, 15, 16, 92, 93])
 (.seq (.seq (.region [] [o 104 (.mv (tv 15)),
 o 105 (.len false (tv 104)),
 o 106 (.mv (ki 0))] [] [0, 3, 5, 6, 9, 10, 13, 14, 15, 16, 92, 93, 105, 106])
 (.block 6 (.loop l72_2)))
 (.seq (.region [] [o 122 (.mv (tv 14)),
 o 123 (.mv (tv 9)),
 o 124 (.mv (tv 13)),
 o 125 (.idxA 11 (tv 123) (tv 124)),
 o 126 (.load true 11 (tv 125)),
 o 127 (.mv (tv 10)),
 o 128 (.mv (tv 13)),
 o 129 (.idxA 11 (tv 127) (tv 128)),
 o 130 (.load true 11 (tv 129)),
 o 131 (.mv (tv 3)),
 oa 132 (.call (kf 72) [(false, (tv 122)), (false, (tv 126)), (false, (tv 130)), (false, (tv 131))] []) 8896,
 o 133 (.un .not (tv 132))] [(3, 7), (4, 7), (3, 8), (4, 8)] [0, 3, 5, 6, 9, 10, 92, 93, 133])
 (.cond (tv 133) (.seq (.region [] [o 8 (.mv kF)] [] [8])
 .ret)
 .skip)))))))
 (.region [6304, 6305, 6306, 6336, 6337] [o 134 (.bin .add 0 (tv 93) (ki 1)),
 o 93 (.mv (tv 134))] [] [0, 3, 5, 6, 9, 10, 92, 93]))))

def v72 : VFun := ⟨4,
 (.seq (.region [] [oa 5 (.box (tv 1)) 64,
 oa 6 (.box (tv 2)) 128,
 o 8 (.mv kF)] [] [0, 3, 5, 6])
 (.seq (.seq (.region [] [o 18 (.mv (tv 3)),
 o 19 (.mv (tv 18)),
 og 20 (.fld 0 (tv 5)) 19 true,
 og 21 (.load false 1 (tv 20)) 19 true,
 og 22 (.bin .eql 0 (tv 21) (ki 10)) 19 true,
 o 23 (.pick (tv 19) (tv 22) kF)] [] [0, 3, 5, 6, 23])
 (.cond (tv 23) (.seq (.region [] [o 8 (.mv kt)] [] [8])
 .ret)
 .skip))
 (.seq (.seq (.region [] [o 24 (.fld 0 (tv 5)),
 o 25 (.load false 1 (tv 24)),
 o 26 (.bin .eql 0 (tv 25) (ki 1)),
 o 27 (.mv (tv 26)),
 og 28 (.fld 0 (tv 6)) 27 true,
 og 29 (.load false 1 (tv 28)) 27 true,
 og 30 (.bin .eql 0 (tv 29) (ki 1)) 27 true,
 o 31 (.pick (tv 27) (tv 30) kF)] [] [0, 3, 5, 6, 31])
 (.cond (tv 31) (.seq (.region [] [o 32 (.mv (tv 0)),
 o 33 (.fld 2 (tv 5)),
 o 34 (.load false 1 (tv 33)),
 o 35 (.fld 2 (tv 6)),
 o 36 (.load false 1 (tv 35)),
 oa 37 (.call (kf 130) [(false, (tv 32)), (false, (tv 34)), (false, (tv 36))] []) 1536,
 o 8 (.mv (tv 37))] [] [8])
 .ret)
 .skip))
 (.seq (.seq (.region [] [o 38 (.fld 0 (tv 5)),
 o 39 (.load false 1 (tv 38)),
 o 40 (.fld 0 (tv 6)),
 o 41 (.load false 1 (tv 40)),
 o 42 (.bin .neq 0 (tv 39) (tv 41)),
 o 43 (.mv (tv 42)),
 og 44 (.fld 0 (tv 5)) 43 false,
 og 45 (.load false 1 (tv 44)) 43 false,
 og 46 (.bin .eql 0 (tv 45) (ki 2)) 43 false,
 og 47 (.mv (tv 46)) 43 false,
 og 48 (.fld 2 (tv 5)) 47 true,
 og 49 (.load false 1 (tv 48)) 47 true,
 og 50 (.fld 2 (tv 6)) 47 true,
 og 51 (.load false 1 (tv 50)) 47 true,
 og 52 (.bin .neq 0 (tv 49) (tv 51)) 47 true,
 og 53 (.pick (tv 47) (tv 52) kF) 43 false,
 o 54 (.pick (tv 43) kt (tv 53))] [] [0, 3, 5, 6, 54])
 (.cond (tv 54) (.seq (.region [] [o 8 (.mv kF)] [] [8])
 .ret)
 .skip))
 (.seq (.region [] [o 55 (.load true 11 (tv 5)),
 oa 56 (.call (kf 79) [(false, (tv 55))] []) 2880,
 o 57 (.load true 11 (tv 6)),
 oa 58 (.call (kf 79) [(false, (tv 57))] []) 3008,
 o 9 (.mv (tv 56)),
 o 10 (.mv (tv 58))] [(0, 2), (1, 2)] [0, 3, 5, 6, 9, 10])
 (.seq (.seq (.region [] [o 59 (.mv (tv 9)),
 o 60 (.len false (tv 59)),
 o 61 (.mv (ki 0))] [] [0, 3, 5, 6, 9, 10, 60, 61])
 (.block 0 (.loop l72_0)))
 (.seq (.seq (.region [] [o 69 (.mv (tv 10)),
 o 70 (.len false (tv 69)),
 o 71 (.mv (ki 0))] [] [0, 3, 5, 6, 9, 10, 70, 71])
 (.block 2 (.loop l72_1)))
 (.seq (.seq (.region [] [o 79 (.load true 11 (tv 5)),
 o 80 (.mv (tv 9)),
 oa 81 (.call (kf 132) [(false, (tv 79)), (false, (tv 80))] []) 4992,
 o 82 (.load true 11 (tv 6)),
 o 83 (.mv (tv 10)),
 oa 84 (.call (kf 132) [(false, (tv 82)), (false, (tv 83))] []) 5184,
 oa 85 (.call (kf 131) [(false, (tv 81)), (false, (tv 84))] []) 5248,
 o 86 (.un .not (tv 85))] [(0, 3), (2, 3)] [0, 3, 5, 6, 86])
 (.cond (tv 86) (.seq (.region [] [o 8 (.mv kF)] [] [8])
 .ret)
 .skip))
 (.seq (.region [] [o 87 (.load true 11 (tv 5)),
 oa 88 (.call (kf 79) [(false, (tv 87))] []) 5504,
 o 89 (.load true 11 (tv 6)),
 oa 90 (.call (kf 79) [(false, (tv 89))] []) 5632,
 o 9 (.mv (tv 88)),
 o 10 (.mv (tv 90))] [(0, 2), (1, 2)] [0, 3, 5, 6, 9, 10])
 (.seq (.seq (.region [] [o 91 (.mv (tv 9)),
 o 92 (.len false (tv 91)),
 o 93 (.mv (ki 0))] [] [0, 3, 5, 6, 9, 10, 92, 93])
 (.block 4 (.loop l72_3)))
 (.seq (.region [] [o 8 (.mv kt)] [] [8])
 .ret))))))))))),
 [.tmp 8], false⟩

def v84 : VFun := ⟨2,
 (.seq (.region [] [oa 2 (.box (tv 0)) 64,
 oa 3 (.box (tv 1)) 128,
 o 4 (.mv kF)] [] [2, 3])
 (.seq (.seq (.region [] [o 5 (.fld 0 (tv 2)),
 o 6 (.load false 1 (tv 5)),
 o 7 (.fld 0 (tv 3)),
 o 8 (.load false 1 (tv 7)),
 o 9 (.bin .neq 0 (tv 6) (tv 8)),
 o 10 (.mv (tv 9)),
 og 11 (.fld 1 (tv 2)) 10 false,
 og 12 (.load false 1 (tv 11)) 10 false,
 og 13 (.fld 1 (tv 3)) 10 false,
 og 14 (.load false 1 (tv 13)) 10 false,
 og 15 (.bin .neq 0 (tv 12) (tv 14)) 10 false,
 o 16 (.pick (tv 10) kt (tv 15)),
 o 17 (.mv (tv 16)),
 og 18 (.fld 2 (tv 2)) 17 false,
 og 19 (.load false 1 (tv 18)) 17 false,
 og 20 (.fld 2 (tv 3)) 17 false,
 og 21 (.load false 1 (tv 20)) 17 false,
 og 22 (.bin .neq 0 (tv 19) (tv 21)) 17 false,
 o 23 (.pick (tv 17) kt (tv 22)),
 o 24 (.mv (tv 23)),
 og 25 (.fld 3 (tv 2)) 24 false,
 og 26 (.load false 1 (tv 25)) 24 false,
 og 27 (.fld 3 (tv 3)) 24 false,
 og 28 (.load false 1 (tv 27)) 24 false,
 og 29 (.bin .neq 0 (tv 26) (tv 28)) 24 false,
 o 30 (.pick (tv 24) kt (tv 29))] [] [2, 3, 30])
 (.cond (tv 30) (.seq (.region [] [o 4 (.mv kF)] [] [4])
 .ret)
 .skip))
 (.seq (.region [] [o 31 (.fld 4 (tv 2)),
 o 32 (.load false 1 (tv 31)),
 o 33 (.fld 4 (tv 3)),
 o 34 (.load false 1 (tv 33)),
 oa 35 (.call (kf 147) [(false, (tv 32)), (false, (tv 34))] []) 2240,
 o 4 (.mv (tv 35))] [] [4])
 .ret))),
 [.tmp 4], false⟩

def l69_0 : VCode := (.seq (.seq (.region [] [o 8 (.mv (tv 4)),
 o 9 (.fld 5 (tv 1)),
 o 10 (.load false 1 (tv 9)),
 o 11 (.len false (tv 10)),
 o 12 (.bin .lss 0 (tv 8) (tv 11))] [] [1, 3, 4, 12])
 (.cond (tv 12) .skip
 (.exit 0)))
 (.seq (.block 1 (.region [] [o 15 (.mv (tv 3)),
 o 16 (.fld 5 (tv 1)),
 o 17 (.load false 1 (tv 16)),
 o 18 (.mv (tv 4)),
 o 19 (.idxA 14 (tv 17) (tv 18)),
 o 20 (.fld 3 (tv 19)),
 o 21 (.load true 11 (tv 20)),
 oa 22 (.mkSl 11 [(tv 21)]) 1280,
 o 23 (.app 11 152 false (tv 15) (tv 22)),
 o 3 (.mv (tv 23))] [] [1, 3, 4]))
 (.region [1280] [o 13 (.mv (tv 4)),
 o 14 (.bin .add 0 (tv 13) (ki 1)),
 o 4 (.mv (tv 14))] [] [1, 3, 4])))

def v69 : VFun := ⟨1,
 (.seq (.region [] [oa 1 (.box (tv 0)) 64,
 o 2 (.mv kn)] [] [1])
 (.seq (.region [] [o 5 (.fld 4 (tv 1)),
 o 6 (.load false 1 (tv 5)),
 oa 7 (.app 11 152 true kn (tv 6)) 320,
 o 3 (.mv (tv 7))] [] [1, 3])
 (.seq (.seq (.region [] [o 4 (.mv (ki 0))] [] [1, 3, 4])
 (.block 0 (.loop l69_0)))
 (.seq (.region [] [o 24 (.mv (tv 3)),
 o 2 (.mv (tv 24))] [] [2])
 .ret)))),
 [.tmp 2], true⟩

def l86_0 : VCode := (.seq (.seq (.region [] [o 11 (.mv (tv 5)),
 o 12 (.mv (tv 0)),
 o 13 (.len false (tv 12)),
 o 14 (.bin .lss 0 (tv 11) (tv 13))] [] [0, 1, 5, 14])
 (.cond (tv 14) .skip
 (.exit 0)))
 (.seq (.block 1 (.seq (.region [] [o 17 (.mv (tv 0)),
 o 18 (.mv (tv 5)),
 o 19 (.idxA 11 (tv 17) (tv 18)),
 o 20 (.load true 11 (tv 19)),
 o 21 (.mv (tv 1)),
 o 22 (.mv (tv 5)),
 o 23 (.idxA 11 (tv 21) (tv 22)),
 o 24 (.load true 11 (tv 23)),
 oa 25 (.call (kf 35) [(false, (tv 20)), (false, (tv 24))] []) 1344,
 o 26 (.un .not (tv 25))] [(2, 6), (3, 6), (2, 7), (3, 7)] [0, 1, 5, 26])
 (.cond (tv 26) (.seq (.region [] [o 4 (.mv kF)] [] [4])
 .ret)
 .skip)))
 (.region [] [o 15 (.mv (tv 5)),
 o 16 (.bin .add 0 (tv 15) (ki 1)),
 o 5 (.mv (tv 16))] [] [0, 1, 5])))

def v86 : VFun := ⟨2,
 (.seq (.region [] [o 4 (.mv kF)] [] [0, 1])
 (.seq (.seq (.region [] [o 6 (.mv (tv 0)),
 o 7 (.len false (tv 6)),
 o 8 (.mv (tv 1)),
 o 9 (.len false (tv 8)),
 o 10 (.bin .neq 0 (tv 7) (tv 9))] [] [0, 1, 10])
 (.cond (tv 10) (.seq (.region [] [o 4 (.mv kF)] [] [4])
 .ret)
 .skip))
 (.seq (.seq (.region [] [o 5 (.mv (ki 0))] [] [0, 1, 5])
 (.block 0 (.loop l86_0)))
 (.seq (.region [] [o 4 (.mv kt)] [] [4])
 .ret)))),
 [.tmp 4], false⟩

def l79_0 : VCode := (.seq (.region [] [o 13 (.bin .lss 0 (tv 12) (tv 11))] [] [3, 10, 11, 12, 13])
 (.seq (.cond (tv 13) .skip
 (.exit 0))
 (.seq (.block 1 (.seq (.region [] [o 14 (.idxA 14 (tv 10) (tv 12)),
 o 15 (.load true 14 (tv 14)),
 oa 5 (.new [zi, zs, .nil, zi, zi, zs, zi, .nil, .nil, zi, zs, zi, zi, .nil] []) 896,
 on (.store 14 (tv 5) (tv 15) [])] [] [3, 5, 10, 11, 12])
 (.region [] [o 16 (.mv (tv 3)),
 o 17 (.fld 3 (tv 5)),
 o 18 (.load true 11 (tv 17)),
 oa 19 (.mkSl 11 [(tv 18)]) 1216,
 o 20 (.app 11 152 false (tv 16) (tv 19)),
 o 3 (.mv (tv 20))] [] [3, 10, 11, 12])))
 (.region [896, 1216] [o 21 (.bin .add 0 (tv 12) (ki 1)),
 o 12 (.mv (tv 21))] [] [3, 10, 11, 12]))))

def v79 : VFun := ⟨1,
 (.seq (.region [] [oa 1 (.box (tv 0)) 64,
 o 2 (.mv kn)] [] [1])
 (.seq (.region [] [o 6 (.fld 4 (tv 1)),
 o 7 (.load false 1 (tv 6)),
 oa 8 (.call (kf 140) [(false, (tv 7))] []) 320,
 o 3 (.mv (tv 8))] [] [1, 3])
 (.seq (.seq (.region [] [o 9 (.fld 5 (tv 1)),
 o 10 (.load false 1 (tv 9)),
 o 11 (.len false (tv 10)),
 o 12 (.mv (ki 0))] [] [3, 10, 11, 12])
 (.block 0 (.loop l79_0)))
 (.seq (.region [] [o 22 (.mv (tv 3)),
 o 2 (.mv (tv 22))] [] [2])
 .ret)))),
 [.tmp 2], true⟩

def v80 : VFun := ⟨2,
 (.seq (.region [] [oa 2 (.box (tv 0)) 64,
 o 4 (.mv kn)] [] [1, 2])
 (.seq (.seq (.region [] [o 8 (.load true 11 (tv 2)),
 o 9 (.mv (tv 1)),
 oa 10 (.mkSl 1 [(tv 9)]) 320,
 oa 11 (.call (kf 141) [(false, (tv 8)), (false, (tv 10))] []) 384,
 o 7 (.mv (tv 11)),
 o 12 (.ext 0 (tv 7)),
 o 13 (.ext 1 (tv 7)),
 oa 5 (.new [zi, zi, zs, zi, .nil, .nil, zi, zs, zi, zi, .nil] []) 640,
 on (.store 11 (tv 5) (tv 12) []),
 o 6 (.mv (tv 13))] [] [1, 2, 6])
 (.seq (.region [320, 640] [o 14 (.mv (tv 6)),
 o 15 (.un .not (tv 14))] [] [1, 2, 15])
 (.cond (tv 15) (.seq (.region [] [o 4 (.mv kn)] [] [4])
 .ret)
 .skip)))
 (.seq (.seq (.region [] [o 16 (.fld 0 (tv 2)),
 o 17 (.load false 1 (tv 16)),
 o 18 (.bin .eql 0 (tv 17) (ki 8)),
 o 19 (.mv (tv 18)),
 og 20 (.mv (tv 1)) 19 true,
 og 21 (.fld 4 (tv 2)) 19 true,
 og 22 (.load false 1 (tv 21)) 19 true,
 og 23 (.len false (tv 22)) 19 true,
 og 24 (.bin .geq 0 (tv 20) (tv 23)) 19 true,
 o 25 (.pick (tv 19) (tv 24) kF)] [] [1, 2, 25])
 (.cond (tv 25) (.seq (.region [] [o 26 (.fld 5 (tv 2)),
 o 27 (.load false 1 (tv 26)),
 o 28 (.mv (tv 1)),
 o 29 (.fld 4 (tv 2)),
 o 30 (.load false 1 (tv 29)),
 o 31 (.len false (tv 30)),
 o 32 (.bin .sub 0 (tv 28) (tv 31)),
 o 33 (.idxA 14 (tv 27) (tv 32)),
 o 34 (.fld 2 (tv 33)),
 o 35 (.load false 1 (tv 34)),
 o 4 (.mv (tv 35))] [] [4])
 .ret)
 .skip))
 (.seq (.region [] [o 36 (.load true 11 (tv 2)),
 o 37 (.mv (tv 1)),
 oa 38 (.mkSl 1 [(tv 37)]) 2496,
 oa 39 (.call (kf 142) [(false, (tv 36)), (false, (tv 38))] []) 2560,
 o 4 (.mv (tv 39))] [] [4])
 .ret)))),
 [.tmp 4], false⟩

def v81 : VFun := ⟨2,
 (.seq (.region [] [o 4 (.mv kF)] [] [0, 1])
 (.seq (.region [] [o 5 (.mv (tv 0)),
 o 6 (.mv (tv 1)),
 oa 7 (.call (kf 107) [(false, (tv 5)), (false, (tv 6))] []) 256,
 o 8 (.bin .geq 0 (tv 7) (ki 0)),
 o 4 (.mv (tv 8))] [] [4])
 .ret)),
 [.tmp 4], false⟩

def v134 : VFun := ⟨2,
 (.seq (.region [] [o 4 (.mv (.k (.sc zs))),
 o 5 (.mv kF)] [] [0, 1])
 (.seq (.seq (.region [] [o 6 (.mv (tv 0)),
 o 7 (.mv (tv 1)),
 oa 8 (.call (kf 181) [(false, (tv 6)), (false, (tv 7))] []) 320,
 o 9 (.un .not (tv 8))] [] [0, 1, 9])
 (.cond (tv 9) (.seq (.region [] [o 10 (.mv (tv 0)),
 o 4 (.mv (tv 10)),
 o 5 (.mv kF)] [] [4, 5])
 .ret)
 .skip))
 (.seq (.region [] [o 11 (.mv (tv 0)),
 o 12 (.mv (tv 1)),
 o 13 (.len true (tv 12)),
 o 14 (.slS (tv 11) (some (tv 13)) none),
 o 4 (.mv (tv 14)),
 o 5 (.mv kt)] [] [4, 5])
 .ret))),
 [.tmp 4, .tmp 5], false⟩

def l135_0 : VCode := (.seq (.region [] [o 102 (.bin .lss 0 (tv 101) (tv 100))] [] [1, 8, 9, 10, 11, 12, 13, 99, 100, 101, 102])
 (.seq (.cond (tv 102) .skip
 (.exit 3))
 (.seq (.block 4 (.seq (.region [] [o 103 (.idxA 1 (tv 99) (tv 101)),
 o 104 (.load false 1 (tv 103)),
 o 15 (.mv (tv 104))] [] [1, 8, 9, 10, 11, 12, 13, 15, 99, 100, 101])
 (.seq (.region [] [o 16 (.mv (.k (.sc (.c (.int .u8 0)))))] [] [1, 8, 9, 10, 11, 12, 13, 15, 99, 100, 101])
 (.seq (.block 5 (.seq (.region [] [o 107 (.mv (tv 15)),
 o 108 (.bin .eql 0 (tv 107) (.k (.sc (.c (.int .u8 95))))),
 o 109 (.mv (tv 108)),
 og 110 (.mv (tv 8)) 109 true,
 o 111 (.pick (tv 109) (tv 110) kF),
 o 106 (.mv (tv 111))] [] [1, 8, 9, 10, 11, 12, 13, 15, 99, 100, 101, 106])
 (.cond (tv 106) (.seq (.region [] [o 12 (.mv kt)] [] [1, 8, 9, 10, 11, 12, 13, 99, 100, 101])
 (.exit 4))
 (.seq (.region [] [o 113 (.mv (tv 15)),
 o 114 (.bin .leq 0 (.k (.sc (.c (.int .u8 48)))) (tv 113)),
 o 115 (.mv (tv 114)),
 og 116 (.mv (tv 15)) 115 true,
 og 117 (.bin .leq 0 (tv 116) (.k (.sc (.c (.int .u8 57))))) 115 true,
 o 118 (.pick (tv 115) (tv 117) kF),
 o 112 (.mv (tv 118))] [] [1, 8, 9, 10, 11, 12, 13, 15, 99, 100, 101, 112])
 (.cond (tv 112) (.region [] [o 119 (.mv (tv 15)),
 o 120 (.bin .sub 0 (tv 119) (.k (.sc (.c (.int .u8 48))))),
 o 16 (.mv (tv 120))] [] [1, 8, 9, 10, 11, 12, 13, 16, 99, 100, 101])
 (.seq (.region [] [o 122 (.mv (tv 15)),
 oa 123 (.call (kf 182) [(false, (tv 122))] []) 8640,
 o 124 (.bin .leq 0 (.k (.sc (.c (.int .u8 97)))) (tv 123)),
 o 125 (.mv (tv 124)),
 og 126 (.mv (tv 15)) 125 true,
 ⟨(some 127), (.call (kf 182) [(false, (tv 126))] []), (some (125, true)), 8896, []⟩,
 og 128 (.bin .leq 0 (tv 127) (.k (.sc (.c (.int .u8 122))))) 125 true,
 o 129 (.pick (tv 125) (tv 128) kF),
 o 121 (.mv (tv 129))] [] [1, 8, 9, 10, 11, 12, 13, 15, 99, 100, 101, 121])
 (.cond (tv 121) (.region [] [o 130 (.mv (tv 15)),
 oa 131 (.call (kf 182) [(false, (tv 130))] []) 9216,
 o 132 (.bin .sub 0 (tv 131) (.k (.sc (.c (.int .u8 97))))),
 o 133 (.bin .add 0 (tv 132) (.k (.sc (.c (.int .u8 10))))),
 o 16 (.mv (tv 133))] [] [1, 8, 9, 10, 11, 12, 13, 16, 99, 100, 101])
 (.seq (.region [] [o 105 (.ifc 209 (ki 2)),
 o 6 (.mv (.k (.sc (.c (.int .u64 0))))),
 o 7 (.mv (tv 105))] [] [6, 7])
 .ret))))))))
 (.seq (.seq (.region [] [o 134 (.mv (tv 16)),
 o 135 (.mv (tv 1)),
 o 136 (.cvI .u8 (tv 135)),
 o 137 (.bin .geq 0 (tv 134) (tv 136))] [] [1, 8, 9, 10, 11, 12, 13, 16, 99, 100, 101, 137])
 (.cond (tv 137) (.seq (.region [] [o 138 (.ifc 209 (ki 2)),
 o 6 (.mv (.k (.sc (.c (.int .u64 0))))),
 o 7 (.mv (tv 138))] [] [6, 7])
 .ret)
 .skip))
 (.seq (.seq (.region [] [o 139 (.mv (tv 13)),
 o 140 (.mv (tv 10)),
 o 141 (.bin .geq 0 (tv 139) (tv 140))] [] [1, 8, 9, 10, 11, 12, 13, 16, 99, 100, 101, 141])
 (.cond (tv 141) (.seq (.region [] [o 142 (.mv (tv 11)),
 o 143 (.ifc 209 (ki 1)),
 o 6 (.mv (tv 142)),
 o 7 (.mv (tv 143))] [] [6, 7])
 .ret)
 .skip))
 (.seq (.region [] [o 144 (.mv (tv 13)),
 o 145 (.mv (tv 1)),
 o 146 (.cvI .u64 (tv 145)),
 o 147 (.bin .mul 0 (tv 144) (tv 146)),
 o 13 (.mv (tv 147))] [] [1, 8, 9, 10, 11, 12, 13, 16, 99, 100, 101])
 (.seq (.region [] [o 148 (.mv (tv 13)),
 o 149 (.mv (tv 16)),
 o 150 (.cvI .u64 (tv 149)),
 o 151 (.bin .add 0 (tv 148) (tv 150)),
 o 17 (.mv (tv 151))] [] [1, 8, 9, 10, 11, 12, 13, 17, 99, 100, 101])
 (.seq (.seq (.region [] [o 152 (.mv (tv 17)),
 o 153 (.mv (tv 13)),
 o 154 (.bin .lss 0 (tv 152) (tv 153)),
 o 155 (.mv (tv 154)),
 og 156 (.mv (tv 17)) 155 false,
 og 157 (.mv (tv 11)) 155 false,
 og 158 (.bin .gtr 0 (tv 156) (tv 157)) 155 false,
 o 159 (.pick (tv 155) kt (tv 158))] [] [1, 8, 9, 10, 11, 12, 17, 99, 100, 101, 159])
 (.cond (tv 159) (.seq (.region [] [o 160 (.mv (tv 11)),
 o 161 (.ifc 209 (ki 1)),
 o 6 (.mv (tv 160)),
 o 7 (.mv (tv 161))] [] [6, 7])
 .ret)
 .skip))
 (.region [] [o 162 (.mv (tv 17)),
 o 13 (.mv (tv 162))] [] [1, 8, 9, 10, 11, 12, 13, 99, 100, 101]))))))))))
 (.region [] [o 163 (.bin .add 0 (tv 101) (ki 1)),
 o 101 (.mv (tv 163))] [] [1, 8, 9, 10, 11, 12, 13, 99, 100, 101]))))

def v135 : VFun := ⟨3,
 (.seq (.region [] [o 6 (.mv (.k (.sc (.c (.int .u64 0))))),
 o 7 (.mv (.k (.sc (.c .nilif))))] [] [0, 1, 2])
 (.seq (.seq (.region [] [o 18 (.mv (tv 0)),
 o 19 (.bin .eql 0 (tv 18) (.k (.sc zs)))] [] [0, 1, 2, 19])
 (.cond (tv 19) (.seq (.region [] [o 20 (.ifc 209 (ki 2)),
 o 6 (.mv (.k (.sc (.c (.int .u64 0))))),
 o 7 (.mv (tv 20))] [] [6, 7])
 .ret)
 .skip))
 (.seq (.region [] [o 21 (.mv (tv 1)),
 o 22 (.bin .eql 0 (tv 21) (ki 0)),
 o 8 (.mv (tv 22))] [] [0, 1, 2, 8])
 (.seq (.region [] [o 23 (.mv (tv 0)),
 o 9 (.mv (tv 23))] [] [0, 1, 2, 8, 9])
 (.seq (.block 0 (.seq (.region [] [o 26 (.mv (tv 1)),
 o 27 (.bin .leq 0 (ki 2) (tv 26)),
 o 28 (.mv (tv 27)),
 og 29 (.mv (tv 1)) 28 true,
 og 30 (.bin .leq 0 (tv 29) (ki 36)) 28 true,
 o 31 (.pick (tv 28) (tv 30) kF),
 o 25 (.mv (tv 31))] [] [0, 1, 2, 8, 9, 25])
 (.cond (tv 25) .skip
 (.seq (.region [] [o 33 (.mv (tv 1)),
 o 34 (.bin .eql 0 (tv 33) (ki 0)),
 o 32 (.mv (tv 34))] [] [0, 2, 8, 9, 32])
 (.cond (tv 32) (.seq (.region [] [o 1 (.mv (ki 10))] [] [0, 1, 2, 8, 9])
 (.seq (.region [] [o 35 (.mv (tv 0)),
 o 36 (.idxS (tv 35) (ki 0)),
 o 37 (.bin .eql 0 (tv 36) (.k (.sc (.c (.int .u8 48)))))] [] [0, 1, 2, 8, 9, 37])
 (.cond (tv 37) (.block 1 (.seq (.region [] [o 41 (.mv (tv 0)),
 o 42 (.len true (tv 41)),
 o 43 (.bin .geq 0 (tv 42) (ki 3)),
 o 44 (.mv (tv 43)),
 og 45 (.mv (tv 0)) 44 true,
 og 46 (.idxS (tv 45) (ki 1)) 44 true,
 ⟨(some 47), (.call (kf 182) [(false, (tv 46))] []), (some (44, true)), 2112, []⟩,
 og 48 (.bin .eql 0 (tv 47) (.k (.sc (.c (.int .u8 98))))) 44 true,
 o 49 (.pick (tv 44) (tv 48) kF),
 o 40 (.mv (tv 49))] [] [0, 2, 8, 9, 40])
 (.cond (tv 40) (.seq (.region [] [o 1 (.mv (ki 2))] [] [0, 1, 2, 8, 9])
 (.region [] [o 50 (.mv (tv 0)),
 o 51 (.slS (tv 50) (some (ki 2)) none),
 o 0 (.mv (tv 51))] [] [0, 1, 2, 8, 9]))
 (.seq (.region [] [o 53 (.mv (tv 0)),
 o 54 (.len true (tv 53)),
 o 55 (.bin .geq 0 (tv 54) (ki 3)),
 o 56 (.mv (tv 55)),
 og 57 (.mv (tv 0)) 56 true,
 og 58 (.idxS (tv 57) (ki 1)) 56 true,
 ⟨(some 59), (.call (kf 182) [(false, (tv 58))] []), (some (56, true)), 3008, []⟩,
 og 60 (.bin .eql 0 (tv 59) (.k (.sc (.c (.int .u8 111))))) 56 true,
 o 61 (.pick (tv 56) (tv 60) kF),
 o 52 (.mv (tv 61))] [] [0, 2, 8, 9, 52])
 (.cond (tv 52) (.seq (.region [] [o 1 (.mv (ki 8))] [] [0, 1, 2, 8, 9])
 (.region [] [o 62 (.mv (tv 0)),
 o 63 (.slS (tv 62) (some (ki 2)) none),
 o 0 (.mv (tv 63))] [] [0, 1, 2, 8, 9]))
 (.seq (.region [] [o 65 (.mv (tv 0)),
 o 66 (.len true (tv 65)),
 o 67 (.bin .geq 0 (tv 66) (ki 3)),
 o 68 (.mv (tv 67)),
 og 69 (.mv (tv 0)) 68 true,
 og 70 (.idxS (tv 69) (ki 1)) 68 true,
 ⟨(some 71), (.call (kf 182) [(false, (tv 70))] []), (some (68, true)), 3904, []⟩,
 og 72 (.bin .eql 0 (tv 71) (.k (.sc (.c (.int .u8 120))))) 68 true,
 o 73 (.pick (tv 68) (tv 72) kF),
 o 64 (.mv (tv 73))] [] [0, 2, 8, 9, 64])
 (.cond (tv 64) (.seq (.region [] [o 1 (.mv (ki 16))] [] [0, 1, 2, 8, 9])
 (.region [] [o 74 (.mv (tv 0)),
 o 75 (.slS (tv 74) (some (ki 2)) none),
 o 0 (.mv (tv 75))] [] [0, 1, 2, 8, 9]))
 (.seq (.region [] [o 1 (.mv (ki 8))] [] [0, 1, 2, 8, 9])
 (.region [] [o 38 (.mv (tv 0)),
 o 39 (.slS (tv 38) (some (ki 1)) none),
 o 0 (.mv (tv 39))] [] [0, 1, 2, 8, 9])))))))))
 .skip)))
 (.seq (.region [] [o 24 (.ifc 209 (ki 3)),
 o 6 (.mv (.k (.sc (.c (.int .u64 0))))),
 o 7 (.mv (tv 24))] [] [6, 7])
 .ret))))))
 (.seq (.seq (.region [] [o 76 (.mv (tv 2)),
 o 77 (.bin .eql 0 (tv 76) (ki 0))] [] [0, 1, 2, 8, 9, 77])
 (.cond (tv 77) (.region [] [o 2 (.mv (ki 64))] [] [0, 1, 2, 8, 9])
 (.seq (.region [] [o 78 (.mv (tv 2)),
 o 79 (.bin .lss 0 (tv 78) (ki 0)),
 o 80 (.mv (tv 79)),
 og 81 (.mv (tv 2)) 80 false,
 og 82 (.bin .gtr 0 (tv 81) (ki 64)) 80 false,
 o 83 (.pick (tv 80) kt (tv 82))] [] [0, 1, 2, 8, 9, 83])
 (.cond (tv 83) (.seq (.region [] [o 84 (.ifc 209 (ki 4)),
 o 6 (.mv (.k (.sc (.c (.int .u64 0))))),
 o 7 (.mv (tv 84))] [] [6, 7])
 .ret)
 .skip))))
 (.seq (.region [] [o 10 (.mv (.k (.sc (.c (.int .u64 0)))))] [] [0, 1, 2, 8, 9])
 (.seq (.seq (.region [] [o 85 (.mv (tv 1))] [] [0, 1, 2, 8, 9, 85])
 (.block 2 (.seq (.region [] [o 91 (.bin .eql 0 (tv 85) (ki 10)),
 o 90 (.mv (tv 91))] [] [0, 1, 2, 8, 9, 85, 90])
 (.cond (tv 90) (.region [] [o 10 (.mv (.k (.sc (.c (.int .u64 1844674407370955162)))))] [] [0, 1, 2, 8, 9, 10])
 (.seq (.region [] [o 93 (.bin .eql 0 (tv 85) (ki 16)),
 o 92 (.mv (tv 93))] [] [0, 1, 2, 8, 9, 92])
 (.cond (tv 92) (.region [] [o 10 (.mv (.k (.sc (.c (.int .u64 1152921504606846976)))))] [] [0, 1, 2, 8, 9, 10])
 (.region [] [o 86 (.mv (tv 1)),
 o 87 (.cvI .u64 (tv 86)),
 o 88 (.bin .quo 0 (.k (.sc (.c (.int .u64 18446744073709551615)))) (tv 87)),
 o 89 (.bin .add 0 (tv 88) (.k (.sc (.c (.int .u64 1))))),
 o 10 (.mv (tv 89))] [] [0, 1, 2, 8, 9, 10])))))))
 (.seq (.region [] [o 94 (.mv (tv 2)),
 o 95 (.cvI .u64 (tv 94)),
 o 96 (.bin .shl 0 (.k (.sc (.c (.int .u64 1)))) (tv 95)),
 o 97 (.bin .sub 0 (tv 96) (.k (.sc (.c (.int .u64 1))))),
 o 11 (.mv (tv 97))] [] [0, 1, 8, 9, 10, 11])
 (.seq (.region [] [o 12 (.mv kF)] [] [0, 1, 8, 9, 10, 11, 12])
 (.seq (.region [] [o 13 (.mv (.k (.sc (.c (.int .u64 0)))))] [] [0, 1, 8, 9, 10, 11, 12, 13])
 (.seq (.seq (.region [] [o 98 (.mv (tv 0)),
 o 99 (.cvB (tv 98)),
 o 100 (.len false (tv 99)),
 o 101 (.mv (ki 0))] [] [1, 8, 9, 10, 11, 12, 13, 99, 100, 101])
 (.block 3 (.loop l135_0)))
 (.seq (.seq (.region [] [o 164 (.mv (tv 12)),
 o 165 (.mv (tv 164)),
 og 166 (.mv (tv 9)) 165 true,
 ⟨(some 167), (.call (kf 183) [(false, (tv 166))] []), (some (165, true)), 12416, []⟩,
 og 168 (.un .not (tv 167)) 165 true,
 o 169 (.pick (tv 165) (tv 168) kF)] [] [13, 169])
 (.cond (tv 169) (.seq (.region [] [o 170 (.ifc 209 (ki 2)),
 o 6 (.mv (.k (.sc (.c (.int .u64 0))))),
 o 7 (.mv (tv 170))] [] [6, 7])
 .ret)
 .skip))
 (.seq (.region [] [o 171 (.mv (tv 13)),
 o 6 (.mv (tv 171)),
 o 7 (.mv (.k (.sc (.c .nilif))))] [] [6, 7])
 .ret)))))))))))))),
 [.tmp 6, .tmp 7], false⟩

def v136 : VFun := ⟨5,
 (.seq (.region [] [o 10 (.mv (.k (.sc (.c .nilif))))] [] [0, 1, 2, 3, 4])
 (.seq (.seq (.region [] [o 11 (.mv (tv 4))] [] [0, 1, 2, 3, 4, 11])
 (.block 0 (.seq (.region [] [o 13 (.ifc 209 (ki 2)),
 o 14 (.bin .eql 215 (tv 11) (tv 13)),
 o 12 (.mv (tv 14))] [] [0, 1, 2, 3, 4, 11, 12])
 (.cond (tv 12) (.seq (.region [] [o 15 (.mv (tv 0)),
 o 16 (.mv (tv 1)),
 oa 17 (.call (kf 184) [(false, (tv 15)), (false, (tv 16))] []) 512,
 o 18 (.ifc 212 (tv 17)),
 o 10 (.mv (tv 18))] [] [10])
 .ret)
 (.seq (.region [] [o 20 (.ifc 209 (ki 1)),
 o 21 (.bin .eql 215 (tv 11) (tv 20)),
 o 19 (.mv (tv 21))] [] [0, 1, 2, 3, 4, 11, 19])
 (.cond (tv 19) (.seq (.region [] [o 22 (.mv (tv 0)),
 o 23 (.mv (tv 1)),
 oa 24 (.call (kf 185) [(false, (tv 22)), (false, (tv 23))] []) 1024,
 o 25 (.ifc 212 (tv 24)),
 o 10 (.mv (tv 25))] [] [10])
 .ret)
 (.seq (.region [] [o 27 (.ifc 209 (ki 3)),
 o 28 (.bin .eql 215 (tv 11) (tv 27)),
 o 26 (.mv (tv 28))] [] [0, 1, 2, 3, 4, 11, 26])
 (.cond (tv 26) (.seq (.region [] [o 29 (.mv (tv 0)),
 o 30 (.mv (tv 1)),
 o 31 (.mv (tv 2)),
 oa 32 (.call (kf 186) [(false, (tv 29)), (false, (tv 30)), (false, (tv 31))] []) 1600,
 o 33 (.ifc 212 (tv 32)),
 o 10 (.mv (tv 33))] [] [10])
 .ret)
 (.seq (.region [] [o 35 (.ifc 209 (ki 4)),
 o 36 (.bin .eql 215 (tv 11) (tv 35)),
 o 34 (.mv (tv 36))] [] [0, 1, 3, 4, 34])
 (.cond (tv 34) (.seq (.region [] [o 37 (.mv (tv 0)),
 o 38 (.mv (tv 1)),
 o 39 (.mv (tv 3)),
 oa 40 (.call (kf 187) [(false, (tv 37)), (false, (tv 38)), (false, (tv 39))] []) 2176,
 o 41 (.ifc 212 (tv 40)),
 o 10 (.mv (tv 41))] [] [10])
 .ret)
 .skip))))))))))
 (.seq (.region [] [o 42 (.mv (tv 4)),
 o 10 (.mv (tv 42))] [] [10])
 .ret))),
 [.tmp 10], true⟩

def v137 : VFun := ⟨2,
 (.seq (.region [] [o 4 (.mv (.k (.sc zs)))] [] [0, 1])
 (.seq (.seq (.region [] [o 9 (.mv (tv 1)),
 o 10 (.bin .eql 0 (tv 9) (ki 10))] [] [0, 1, 10])
 (.cond (tv 10) (.seq (.seq (.region [] [o 11 (.mv (tv 0)),
 o 12 (.bin .lss 0 (tv 11) (.k (.sc (.c (.int .u64 100)))))] [] [0, 12])
 (.cond (tv 12) (.seq (.region [] [o 13 (.mv (tv 0)),
 o 14 (.cvI .i64 (tv 13)),
 oa 15 (.call (kf 188) [(false, (tv 14))] []) 512,
 o 4 (.mv (tv 15))] [] [4])
 .ret)
 .skip))
 (.seq (.region [] [oa 5 (.newA 24 [(.c (.int .u8 0))]) 640] [] [0, 5])
 (.seq (.region [] [o 16 (.mv (tv 0)),
 oa 17 (.call (kf 189) [(false, (tv 16))] []) 768,
 o 6 (.mv (tv 17))] [] [0, 5, 6])
 (.seq (.region [] [o 18 (.mv (tv 6)),
 o 19 (.slA 1 24 (tv 5) none (some (tv 18))),
 o 20 (.mv (tv 0)),
 oa 21 (.call (kf 190) [(true, (tv 19)), (false, (tv 20))] []) 1088] [] [5, 6])
 (.seq (.region [] [o 22 (.mv (tv 6)),
 o 23 (.slA 1 24 (tv 5) none (some (tv 22))),
 o 24 (.cvS (tv 23)),
 o 4 (.mv (tv 24))] [] [4])
 .ret)))))
 .skip))
 (.seq (.region [] [o 26 (.mv (tv 0)),
 o 27 (.mv (tv 1)),
 oa 28 (.call (kf 191) [(false, kn), (false, (tv 26)), (false, (tv 27)), (false, kF), (false, kF)] []) 1536,
 o 25 (.mv (tv 28)),
 o 29 (.ext 0 (tv 25)),
 o 30 (.ext 1 (tv 25)),
 o 7 (.mv (tv 29)),
 o 8 (.mv (tv 30))] [] [8])
 (.seq (.region [] [o 31 (.mv (tv 8)),
 o 4 (.mv (tv 31))] [] [4])
 .ret)))),
 [.tmp 4], false⟩

def v139 : VFun := ⟨1,
 (.seq (.region [] [o 2 (.mv (ki 0))] [] [0])
 (.seq (.cond kF (.seq (.region [] [o 3 (.mv (tv 0)),
 o 4 (.cvI .u32 (tv 3)),
 oa 5 (.call (kf 201) [(false, (tv 4))] []) 256,
 o 2 (.mv (tv 5))] [] [2])
 .ret)
 .skip)
 (.seq (.region [] [o 6 (.mv (tv 0)),
 oa 7 (.call (kf 202) [(false, (tv 6))] []) 448,
 o 2 (.mv (tv 7))] [] [2])
 .ret))),
 [.tmp 2], false⟩

def l138_0 : VCode := (.block 1 (.seq (.region [] [o 19 (.mv (tv 2)),
 o 20 (.mv (tv 1)),
 o 21 (.bin .sub 0 (tv 19) (tv 20)),
 o 10 (.mv (tv 21))] [] [0, 1, 2, 3, 8, 9, 10])
 (.seq (.seq (.region [] [o 22 (.mv (tv 10)),
 o 23 (.bin .leq 0 (tv 22) (ki 12))] [] [0, 1, 2, 3, 8, 9, 10, 23])
 (.cond (tv 23) (.seq (.region [] [o 24 (.mv (tv 0)),
 o 25 (.mv (tv 1)),
 o 26 (.mv (tv 2)),
 oa 27 (.call (kf 192) [(true, (tv 24)), (false, (tv 25)), (false, (tv 26))] []) 768] [] [1000000])
 .ret)
 .skip))
 (.seq (.seq (.region [] [o 28 (.mv (tv 3)),
 o 29 (.bin .eql 0 (tv 28) (ki 0))] [] [0, 1, 2, 3, 8, 9, 10, 29])
 (.cond (tv 29) (.seq (.region [] [o 30 (.mv (tv 0)),
 o 31 (.mv (tv 1)),
 o 32 (.mv (tv 2)),
 oa 33 (.call (kf 193) [(true, (tv 30)), (false, (tv 31)), (false, (tv 32))] []) 1152] [] [1000000])
 .ret)
 .skip))
 (.seq (.seq (.region [] [o 34 (.mv (tv 8)),
 o 35 (.un .not (tv 34))] [] [0, 1, 2, 3, 8, 9, 10, 35])
 (.cond (tv 35) (.seq (.region [] [o 36 (.mv (tv 0)),
 o 37 (.mv (tv 1)),
 o 38 (.mv (tv 2)),
 oa 39 (.call (kf 194) [(true, (tv 36)), (false, (tv 37)), (false, (tv 38))] []) 1536] [] [0, 1, 2, 3, 8, 9, 10])
 (.region [] [o 40 (.mv (tv 3)),
 o 41 (.bin .sub 0 (tv 40) (ki 1)),
 o 3 (.mv (tv 41))] [] [0, 1, 2, 3, 8, 9, 10]))
 .skip))
 (.seq (.region [] [o 43 (.mv (tv 0)),
 o 44 (.mv (tv 1)),
 o 45 (.mv (tv 2)),
 oa 46 (.call (kf 195) [(true, (tv 43)), (false, (tv 44)), (false, (tv 45))] []) 1984,
 o 42 (.mv (tv 46)),
 o 47 (.ext 0 (tv 42)),
 o 48 (.ext 1 (tv 42)),
 o 11 (.mv (tv 47)),
 o 12 (.mv (tv 48))] [] [0, 1, 2, 3, 8, 9, 10, 11, 12])
 (.seq (.seq (.region [] [o 49 (.mv (tv 12)),
 o 50 (.bin .eql 0 (tv 49) (ki 2))] [] [0, 1, 2, 3, 8, 9, 10, 11, 12, 50])
 (.cond (tv 50) (.seq (.region [] [o 51 (.mv (tv 0)),
 o 52 (.mv (tv 1)),
 o 53 (.mv (tv 2)),
 oa 54 (.call (kf 196) [(true, (tv 51)), (false, (tv 52)), (false, (tv 53))] []) 2688] [] [0, 1, 2, 3, 8, 9, 10, 11])
 (.seq (.region [] [o 55 (.mv (tv 2)),
 o 56 (.bin .sub 0 (tv 55) (ki 1)),
 o 57 (.mv (tv 11)),
 o 58 (.mv (tv 1)),
 o 59 (.bin .sub 0 (tv 57) (tv 58)),
 o 60 (.bin .sub 0 (tv 56) (tv 59)),
 o 11 (.mv (tv 60))] [] [0, 1, 2, 3, 8, 9, 10, 11])
 (.region [] [o 12 (.mv (ki 1))] [] [0, 1, 2, 3, 8, 9, 10, 11, 12])))
 .skip))
 (.seq (.seq (.region [] [o 61 (.mv (tv 8)),
 o 62 (.mv (tv 61)),
 og 63 (.mv (tv 9)) 62 true,
 o 64 (.pick (tv 62) (tv 63) kF),
 o 65 (.mv (tv 64)),
 og 66 (.mv (tv 12)) 65 true,
 og 67 (.bin .eql 0 (tv 66) (ki 1)) 65 true,
 o 68 (.pick (tv 65) (tv 67) kF)] [] [0, 1, 2, 3, 8, 9, 10, 11, 68])
 (.cond (tv 68) (.seq (.region [] [o 69 (.mv (tv 0)),
 o 70 (.mv (tv 1)),
 o 71 (.mv (tv 2)),
 oa 72 (.call (kf 197) [(true, (tv 69)), (false, (tv 70)), (false, (tv 71))] []) 3968] [] [0, 1, 2, 3, 8, 9, 10, 11, 72])
 (.cond (tv 72) .ret
 .skip))
 .skip))
 (.seq (.seq (.region [] [o 73 (.mv (tv 1)),
 o 74 (.bin .gtr 0 (tv 73) (ki 0)),
 o 75 (.mv (tv 74)),
 og 76 (.mv (tv 0)) 75 true,
 og 77 (.mv (tv 1)) 75 true,
 og 78 (.bin .sub 0 (tv 77) (ki 1)) 75 true,
 og 79 (.idxA 1 (tv 76) (tv 78)) 75 true,
 og 80 (.load false 1 (tv 79)) 75 true,
 og 81 (.mv (tv 0)) 75 true,
 og 82 (.mv (tv 11)) 75 true,
 og 83 (.idxA 1 (tv 81) (tv 82)) 75 true,
 og 84 (.load false 1 (tv 83)) 75 true,
 ⟨(some 85), (.call (kf 198) [(false, (tv 80)), (false, (tv 84))] []), (some (75, true)), 4800, []⟩,
 og 86 (.un .not (tv 85)) 75 true,
 o 87 (.pick (tv 75) (tv 86) kF)] [(6, 10), (7, 10), (6, 11), (7, 11)] [0, 1, 2, 3, 8, 9, 10, 11, 87])
 (.cond (tv 87) (.seq (.region [] [o 88 (.mv (tv 0)),
 o 89 (.mv (tv 1)),
 o 90 (.mv (tv 2)),
 o 91 (.mv (tv 11)),
 oa 92 (.call (kf 199) [(true, (tv 88)), (false, (tv 89)), (false, (tv 90)), (false, (tv 91))] []) 5248,
 o 13 (.mv (tv 92))] [] [0, 1, 2, 3, 8, 9, 13])
 (.seq (.region [] [o 93 (.mv (tv 13)),
 o 1 (.mv (tv 93))] [] [0, 1, 2, 3, 8, 9])
 (.exit 1)))
 .skip))
 (.seq (.region [] [o 95 (.mv (tv 0)),
 o 96 (.mv (tv 1)),
 o 97 (.mv (tv 2)),
 o 98 (.mv (tv 11)),
 oa 99 (.call (kf 200) [(true, (tv 95)), (false, (tv 96)), (false, (tv 97)), (false, (tv 98))] []) 5760,
 o 94 (.mv (tv 99)),
 o 100 (.ext 0 (tv 94)),
 o 101 (.ext 1 (tv 94)),
 o 14 (.mv (tv 100)),
 o 15 (.mv (tv 101))] [] [0, 1, 2, 3, 8, 9, 10, 14, 15])
 (.seq (.region [] [o 102 (.mv (tv 15)),
 o 9 (.mv (tv 102))] [] [0, 1, 2, 3, 8, 9, 10, 14])
 (.seq (.region [] [o 103 (.mv (tv 14)),
 o 104 (.mv (tv 1)),
 o 105 (.bin .sub 0 (tv 103) (tv 104)),
 o 106 (.mv (tv 2)),
 o 107 (.mv (tv 14)),
 o 108 (.bin .sub 0 (tv 106) (tv 107)),
 o 16 (.mv (tv 105)),
 o 17 (.mv (tv 108))] [] [0, 1, 2, 3, 8, 9, 10, 14, 16, 17])
 (.seq (.region [] [o 109 (.mv (tv 10)),
 o 110 (.bin .quo 0 (tv 109) (ki 8)),
 o 18 (.mv (tv 110))] [] [0, 1, 2, 3, 8, 9, 14, 16, 17, 18])
 (.seq (.region [] [o 111 (.mv (tv 16)),
 o 112 (.mv (tv 17)),
 o 113 (.bin .lss 0 (tv 111) (tv 112))] [] [0, 1, 2, 3, 8, 9, 14, 16, 17, 18, 113])
 (.cond (tv 113) (.seq (.region [] [o 114 (.mv (tv 16)),
 o 115 (.mv (tv 18)),
 o 116 (.bin .geq 0 (tv 114) (tv 115)),
 o 8 (.mv (tv 116))] [] [0, 1, 2, 3, 8, 9, 14])
 (.seq (.region [] [o 117 (.mv (tv 0)),
 o 118 (.mv (tv 1)),
 o 119 (.mv (tv 14)),
 o 120 (.mv (tv 3)),
 oa 121 (.call (kf 138) [(true, (tv 117)), (false, (tv 118)), (false, (tv 119)), (false, (tv 120))] []) 7680] [] [0, 1, 2, 3, 8, 9, 14])
 (.region [] [o 122 (.mv (tv 14)),
 o 123 (.bin .add 0 (tv 122) (ki 1)),
 o 1 (.mv (tv 123))] [] [0, 1, 2, 3, 8, 9])))
 (.seq (.region [] [o 124 (.mv (tv 17)),
 o 125 (.mv (tv 18)),
 o 126 (.bin .geq 0 (tv 124) (tv 125)),
 o 8 (.mv (tv 126))] [] [0, 1, 2, 3, 8, 9, 14])
 (.seq (.region [] [o 127 (.mv (tv 0)),
 o 128 (.mv (tv 14)),
 o 129 (.bin .add 0 (tv 128) (ki 1)),
 o 130 (.mv (tv 2)),
 o 131 (.mv (tv 3)),
 oa 132 (.call (kf 138) [(true, (tv 127)), (false, (tv 129)), (false, (tv 130)), (false, (tv 131))] []) 8512] [] [0, 1, 2, 3, 8, 9, 14])
 (.region [] [o 133 (.mv (tv 14)),
 o 2 (.mv (tv 133))] [] [0, 1, 2, 3, 8, 9]))))))))))))))))))

def v138 : VFun := ⟨4,
 (.seq (.region [] [o 8 (.mv kt)] [] [0, 1, 2, 3, 8, 9])
 (.seq (.region [] [o 9 (.mv kt)] [] [0, 1, 2, 3, 8, 9])
 (.block 0 (.loop l138_0)))),
 [], false⟩

def l167_0 : VCode := (.seq (.seq (.region [] [o 42 (.mv (tv 5)),
 o 43 (.mv (tv 0)),
 o 44 (.len true (tv 43)),
 o 45 (.bin .lss 0 (tv 42) (tv 44)),
 o 46 (.mv (tv 45)),
 og 47 (.mv (tv 0)) 46 true,
 og 48 (.mv (tv 5)) 46 true,
 og 49 (.idxS (tv 47) (tv 48)) 46 true,
 og 50 (.bin .neq 0 (tv 49) (.k (.sc (.c (.int .u8 10))))) 46 true,
 o 51 (.pick (tv 46) (tv 50) kF)] [] [0, 3, 4, 5, 51])
 (.cond (tv 51) .skip
 (.exit 3)))
 (.block 4 (.region [] [o 52 (.mv (tv 5)),
 o 53 (.bin .add 0 (tv 52) (ki 1)),
 o 5 (.mv (tv 53))] [] [0, 3, 4, 5])))

def l167_1 : VCode := (.seq (.seq (.region [] [o 57 (.mv (tv 7)),
 o 58 (.mv (tv 0)),
 o 59 (.len true (tv 58)),
 o 60 (.bin .lss 0 (tv 57) (tv 59)),
 o 61 (.mv (tv 60)),
 og 62 (.mv (tv 0)) 61 true,
 og 63 (.mv (tv 7)) 61 true,
 og 64 (.idxS (tv 62) (tv 63)) 61 true,
 ⟨(some 65), (.call (kf 217) [(false, (tv 64))] []), (some (61, true)), 4288, []⟩,
 o 66 (.pick (tv 61) (tv 65) kF)] [] [0, 3, 4, 5, 7, 66])
 (.cond (tv 66) .skip
 (.exit 5)))
 (.block 6 (.region [] [o 67 (.mv (tv 7)),
 o 68 (.bin .add 0 (tv 67) (ki 1)),
 o 7 (.mv (tv 68))] [] [0, 3, 4, 5, 7])))

def l167_2 : VCode := (.seq (.seq (.region [] [o 13 (.mv (tv 5)),
 o 14 (.mv (tv 0)),
 o 15 (.len true (tv 14)),
 o 16 (.bin .lss 0 (tv 13) (tv 15))] [] [0, 3, 4, 5, 16])
 (.cond (tv 16) .skip
 (.exit 0)))
 (.block 1 (.seq (.region [] [o 17 (.mv (tv 0)),
 o 18 (.mv (tv 5)),
 o 19 (.idxS (tv 17) (tv 18)),
 o 6 (.mv (tv 19))] [] [0, 3, 4, 5, 6])
 (.seq (.region [] [o 20 (.mv (tv 5)),
 o 21 (.bin .add 0 (tv 20) (ki 1)),
 o 7 (.mv (tv 21))] [] [0, 3, 4, 5, 6, 7])
 (.seq (.block 2 (.seq (.region [] [o 23 (.mv (tv 6)),
 o 24 (.bin .eql 0 (tv 23) (.k (.sc (.c (.int .u8 32))))),
 o 25 (.mv (tv 24)),
 og 26 (.mv (tv 6)) 25 false,
 og 27 (.bin .eql 0 (tv 26) (.k (.sc (.c (.int .u8 9))))) 25 false,
 o 28 (.pick (tv 25) kt (tv 27)),
 o 29 (.mv (tv 28)),
 og 30 (.mv (tv 6)) 29 false,
 og 31 (.bin .eql 0 (tv 30) (.k (.sc (.c (.int .u8 13))))) 29 false,
 o 32 (.pick (tv 29) kt (tv 31)),
 o 33 (.mv (tv 32)),
 og 34 (.mv (tv 6)) 33 false,
 og 35 (.bin .eql 0 (tv 34) (.k (.sc (.c (.int .u8 10))))) 33 false,
 o 36 (.pick (tv 33) kt (tv 35)),
 o 22 (.mv (tv 36))] [] [0, 3, 4, 5, 6, 7, 22])
 (.cond (tv 22) (.seq (.region [] [o 37 (.mv (tv 5)),
 o 38 (.bin .add 0 (tv 37) (ki 1)),
 o 5 (.mv (tv 38))] [] [0, 3, 4, 5])
 (.exit 1))
 (.seq (.region [] [o 40 (.mv (tv 6)),
 o 41 (.bin .eql 0 (tv 40) (.k (.sc (.c (.int .u8 35))))),
 o 39 (.mv (tv 41))] [] [0, 3, 4, 5, 6, 7, 39])
 (.cond (tv 39) (.seq (.block 3 (.loop l167_0))
 (.exit 1))
 (.seq (.region [] [o 55 (.mv (tv 6)),
 oa 56 (.call (kf 217) [(false, (tv 55))] []) 3648,
 o 54 (.mv (tv 56))] [] [0, 3, 4, 5, 6, 7, 54])
 (.cond (tv 54) (.block 5 (.loop l167_1))
 (.seq (.region [] [o 70 (.mv (tv 6)),
 o 71 (.bin .eql 0 (tv 70) (.k (.sc (.c (.int .u8 45))))),
 o 72 (.mv (tv 71)),
 og 73 (.mv (tv 7)) 72 true,
 og 74 (.mv (tv 0)) 72 true,
 og 75 (.len true (tv 74)) 72 true,
 og 76 (.bin .lss 0 (tv 73) (tv 75)) 72 true,
 o 77 (.pick (tv 72) (tv 76) kF),
 o 78 (.mv (tv 77)),
 og 79 (.mv (tv 0)) 78 true,
 og 80 (.mv (tv 7)) 78 true,
 og 81 (.idxS (tv 79) (tv 80)) 78 true,
 og 82 (.bin .eql 0 (tv 81) (.k (.sc (.c (.int .u8 62))))) 78 true,
 o 83 (.pick (tv 78) (tv 82) kF),
 o 69 (.mv (tv 83))] [] [0, 3, 4, 5, 7, 69])
 (.cond (tv 69) (.region [] [o 84 (.mv (tv 7)),
 o 85 (.bin .add 0 (tv 84) (ki 1)),
 o 7 (.mv (tv 85))] [] [0, 3, 4, 5, 7])
 .skip)))))))))
 (.seq (.region [] [o 86 (.mv (tv 0)),
 o 87 (.mv (tv 5)),
 o 88 (.mv (tv 7)),
 o 89 (.slS (tv 86) (some (tv 87)) (some (tv 88))),
 oa 90 (.call (kf 218) [(false, (tv 89))] []) 6016,
 o 8 (.mv (tv 90))] [] [0, 3, 4, 5, 7, 8])
 (.seq (.seq (.region [] [o 91 (.mv (tv 8)),
 o 92 (.bin .eql 0 (tv 91) (ki 0))] [] [0, 3, 4, 5, 7, 8, 92])
 (.cond (tv 92) (.seq (.region [] [o 93 (.mv (tv 5)),
 o 94 (.build [zi, zi] [(0, 1, (ki 2)), (1, 1, (tv 93))]),
 o 2 (.mv kn),
 on (.store 2 (tv 3) (tv 94) [])] [] [2, 3])
 .ret)
 .skip))
 (.seq (.region [7040] [o 95 (.mv (tv 4)),
 o 96 (.mv (tv 8)),
 o 97 (.mv (tv 0)),
 o 98 (.mv (tv 5)),
 o 99 (.mv (tv 7)),
 o 100 (.slS (tv 97) (some (tv 98)) (some (tv 99))),
 o 101 (.mv (tv 5)),
 o 102 (.build [zi, zs, zi] [(0, 1, (tv 96)), (1, 1, (tv 100)), (2, 1, (tv 101))]),
 oa 103 (.mkSl 3 [(tv 102)]) 7040,
 o 104 (.app 3 32 false (tv 95) (tv 103)),
 o 4 (.mv (tv 104))] [] [0, 3, 4, 7])
 (.region [7040] [o 105 (.mv (tv 7)),
 o 5 (.mv (tv 105))] [] [0, 3, 4, 5])))))))))

def v167 : VFun := ⟨1,
 (.seq (.region [] [o 2 (.mv kn),
 oa 3 (.new [zi, zi] []) 128] [] [0, 3])
 (.seq (.seq (.region [] [o 9 (.mv (tv 0)),
 o 10 (.len true (tv 9)),
 o 11 (.bin .gtr 0 (tv 10) (ki 4000))] [] [0, 3, 11])
 (.cond (tv 11) (.seq (.region [] [o 12 (.build [zi, zi] [(0, 1, (ki 1))]),
 o 2 (.mv kn),
 on (.store 2 (tv 3) (tv 12) [])] [] [2, 3])
 .ret)
 .skip))
 (.seq (.region [] [⟨(some 4), (.mv kn), none, 576, [(0, 3)]⟩] [] [0, 3, 4])
 (.seq (.seq (.region [] [o 5 (.mv (ki 0))] [] [0, 3, 4, 5])
 (.block 0 (.loop l167_2)))
 (.seq (.region [] [o 106 (.mv (tv 4)),
 o 107 (.build [zi, zi] []),
 o 2 (.mv (tv 106)),
 on (.store 2 (tv 3) (tv 107) [])] [] [2, 3])
 .ret))))),
 [.tmp 2, .cell 3 true 2], false⟩

def v168 : VFun := ⟨2,
 (.seq (.region [] [o 4 (.mv (.k (.sc (.c .nilptr))))] [] [0, 1])
 (.seq (.seq (.region [] [o 5 (.mv (tv 1)),
 o 6 (.bin .lss 0 (tv 5) (ki 0)),
 o 7 (.mv (tv 6)),
 og 8 (.mv (tv 1)) 7 false,
 og 9 (.mv (tv 0)) 7 false,
 og 10 (.len false (tv 9)) 7 false,
 og 11 (.bin .gtr 0 (tv 8) (tv 10)) 7 false,
 o 12 (.pick (tv 7) kt (tv 11))] [] [0, 1, 12])
 (.cond (tv 12) (.region [] [o 13 (.mv (tv 0)),
 o 14 (.len false (tv 13)),
 o 1 (.mv (tv 14))] [] [0, 1])
 .skip))
 (.seq (.region [] [o 15 (.mv (tv 0)),
 o 16 (.mv (tv 1)),
 o 17 (.build [.nil, zi, (.c (.bool false)), zi] [(0, 1, (tv 15)), (1, 1, (tv 16))]),
 oa 18 (.box (tv 17)) 1024,
 o 4 (.mv (tv 18))] [] [4])
 .ret))),
 [.tmp 4], true⟩

def l169_0 : VCode := (.seq (.seq (.region [] [o 69 (.mv (tv 0)),
 o 70 (.nn (tv 69)),
 o 71 (.fld 2 (tv 70)),
 o 72 (.load false 1 (tv 71)),
 o 73 (.un .not (tv 72)),
 o 74 (.mv (tv 73)),
 og 75 (.mv (tv 0)) 74 true,
 og 76 (.nn (tv 75)) 74 true,
 og 77 (.fld 1 (tv 76)) 74 true,
 og 78 (.load false 1 (tv 77)) 74 true,
 og 79 (.mv (tv 0)) 74 true,
 og 80 (.nn (tv 79)) 74 true,
 og 81 (.fld 0 (tv 80)) 74 true,
 og 82 (.load false 1 (tv 81)) 74 true,
 og 83 (.len false (tv 82)) 74 true,
 og 84 (.bin .lss 0 (tv 78) (tv 83)) 74 true,
 o 85 (.pick (tv 74) (tv 84) kF),
 o 86 (.mv (tv 85)),
 og 87 (.mv (tv 0)) 86 true,
 og 88 (.nn (tv 87)) 86 true,
 og 89 (.fld 0 (tv 88)) 86 true,
 og 90 (.load false 1 (tv 89)) 86 true,
 og 91 (.mv (tv 0)) 86 true,
 og 92 (.nn (tv 91)) 86 true,
 og 93 (.fld 1 (tv 92)) 86 true,
 og 94 (.load false 1 (tv 93)) 86 true,
 og 95 (.idxA 3 (tv 90) (tv 94)) 86 true,
 og 96 (.load true 3 (tv 95)) 86 true,
 ⟨(some 97), (.call (kf 225) [(false, (tv 96))] []), (some (86, true)), 6656, []⟩,
 o 98 (.pick (tv 86) (tv 97) kF)] [(7, 11), (8, 11), (9, 11), (7, 12), (8, 12), (9, 12), (7, 13), (8, 13), (9, 13), (7, 14), (8, 14), (9, 14), (19, 23), (20, 23), (21, 23), (19, 24), (20, 24), (21, 24), (19, 25), (20, 25), (21, 25)] [0, 2, 8, 98])
 (.cond (tv 98) .skip
 (.exit 1)))
 (.block 2 (.seq (.region [6912] [o 99 (.mv (tv 0)),
 oa 100 (.call (kf 224) [(true, (tv 99))] []) 6848,
 oa 9 (.new [zi, zi, zs, zi, .nil, .nil, zi, zs, zi, zi, .nil] []) 6912,
 on (.store 11 (tv 9) (tv 100) [])] [] [0, 2, 8, 9])
 (.region [7296] [o 101 (.fld 1 (tv 8)),
 o 102 (.load false 1 (tv 101)),
 o 103 (.load true 11 (tv 8)),
 o 104 (.load true 11 (tv 9)),
 oa 105 (.mkSl 11 [(tv 103), (tv 104)]) 7296,
 o 106 (.build [zi, zi, zs, zi, .nil, .nil, zi, zs, zi, zi, .nil] [(0, 1, (ki 5)), (1, 1, (tv 102)), (4, 1, (tv 105))]),
 on (.store 11 (tv 8) (tv 106) [])] [] [0, 2, 8]))))

def v169 : VFun := ⟨1,
 (.seq (.region [] [oa 2 (.new [zi, zi, zs, zi, .nil, .nil, zi, zs, zi, zi, .nil] []) 64] [] [0, 2])
 (.seq (.region [] [o 10 (.mv (tv 0)),
 oa 11 (.call (kf 219) [(true, (tv 10))] []) 192,
 o 3 (.mv (tv 11))] [] [0, 2, 3])
 (.seq (.block 0 (.seq (.region [] [o 13 (.mv (tv 0)),
 oa 14 (.call (kf 220) [(true, (tv 13)), (false, (.k (.sc (.c (.str [92])))))] []) 384,
 o 12 (.mv (tv 14))] [] [0, 2, 3, 12])
 (.cond (tv 12) (.seq (.region [] [o 15 (.mv (tv 0)),
 oa 16 (.call (kf 221) [(true, (tv 15)), (false, (ki 1))] []) 576,
 o 4 (.mv (tv 16))] [] [0, 2, 3, 4])
 (.seq (.region [] [o 17 (.mv (tv 0)),
 oa 18 (.call (kf 222) [(true, (tv 17)), (false, (.k (.sc (.c (.str [46])))))] []) 768] [] [0, 2, 3, 4])
 (.seq (.seq (.region [] [o 19 (.mv (tv 0)),
 o 20 (.nn (tv 19)),
 o 21 (.fld 2 (tv 20)),
 o 22 (.load false 1 (tv 21))] [] [0, 2, 3, 4, 22])
 (.cond (tv 22) (.seq (.region [] [o 23 (.build [zi, zi, zs, zi, .nil, .nil, zi, zs, zi, zi, .nil] []),
 on (.store 11 (tv 2) (tv 23) [])] [] [2])
 .ret)
 .skip))
 (.seq (.region [] [o 24 (.mv (tv 3)),
 o 25 (.mv (tv 4)),
 o 26 (.mv (tv 0)),
 oa 27 (.call (kf 169) [(true, (tv 26))] []) 1408,
 oa 28 (.mkSl 11 [(tv 27)]) 1472,
 o 29 (.build [zi, zi, zs, zi, .nil, .nil, zi, zs, zi, zi, .nil] [(0, 1, (ki 4)), (1, 1, (tv 24)), (2, 1, (tv 25)), (4, 1, (tv 28))]),
 on (.store 11 (tv 2) (tv 29) [])] [] [2])
 .ret))))
 (.seq (.region [] [o 31 (.mv (tv 0)),
 oa 32 (.call (kf 220) [(true, (tv 31)), (false, (.k (.sc (.c (.str [108, 101, 116])))))] []) 1728,
 o 30 (.mv (tv 32))] [] [0, 2, 3, 30])
 (.cond (tv 30) (.seq (.region [] [o 5 (.mv (ki 6))] [] [0, 2, 3, 5])
 (.seq (.seq (.region [] [o 33 (.mv (tv 0)),
 oa 34 (.call (kf 220) [(true, (tv 33)), (false, (.k (.sc (.c (.str [114, 101, 99])))))] []) 1984] [] [0, 2, 3, 5, 34])
 (.cond (tv 34) (.region [] [o 5 (.mv (ki 7))] [] [0, 2, 3, 5])
 .skip))
 (.seq (.region [] [o 35 (.mv (tv 0)),
 oa 36 (.call (kf 221) [(true, (tv 35)), (false, (ki 1))] []) 2176,
 o 6 (.mv (tv 36))] [] [0, 2, 3, 5, 6])
 (.seq (.region [] [o 37 (.mv (tv 0)),
 oa 38 (.call (kf 222) [(true, (tv 37)), (false, (.k (.sc (.c (.str [61])))))] []) 2368] [] [0, 2, 3, 5, 6])
 (.seq (.seq (.region [] [o 39 (.mv (tv 0)),
 o 40 (.nn (tv 39)),
 o 41 (.fld 2 (tv 40)),
 o 42 (.load false 1 (tv 41))] [] [0, 2, 3, 5, 6, 42])
 (.cond (tv 42) (.seq (.region [] [o 43 (.build [zi, zi, zs, zi, .nil, .nil, zi, zs, zi, zi, .nil] []),
 on (.store 11 (tv 2) (tv 43) [])] [] [2])
 .ret)
 .skip))
 (.seq (.region [] [o 44 (.mv (tv 0)),
 oa 45 (.call (kf 169) [(true, (tv 44))] []) 2880,
 oa 7 (.new [zi, zi, zs, zi, .nil, .nil, zi, zs, zi, zi, .nil] []) 2944,
 on (.store 11 (tv 7) (tv 45) [])] [] [0, 2, 3, 5, 6, 7])
 (.seq (.region [] [o 46 (.mv (tv 0)),
 oa 47 (.call (kf 222) [(true, (tv 46)), (false, (.k (.sc (.c (.str [105, 110])))))] []) 3136] [] [0, 2, 3, 5, 6, 7])
 (.seq (.seq (.region [] [o 48 (.mv (tv 0)),
 o 49 (.nn (tv 48)),
 o 50 (.fld 2 (tv 49)),
 o 51 (.load false 1 (tv 50))] [] [0, 2, 3, 5, 6, 7, 51])
 (.cond (tv 51) (.seq (.region [] [o 52 (.build [zi, zi, zs, zi, .nil, .nil, zi, zs, zi, zi, .nil] []),
 on (.store 11 (tv 2) (tv 52) [])] [] [2])
 .ret)
 .skip))
 (.seq (.region [] [o 53 (.mv (tv 5)),
 o 54 (.mv (tv 3)),
 o 55 (.mv (tv 6)),
 o 56 (.load true 11 (tv 7)),
 o 57 (.mv (tv 0)),
 oa 58 (.call (kf 169) [(true, (tv 57))] []) 3904,
 oa 59 (.mkSl 11 [(tv 56), (tv 58)]) 3968,
 o 60 (.build [zi, zi, zs, zi, .nil, .nil, zi, zs, zi, zi, .nil] [(0, 1, (tv 53)), (1, 1, (tv 54)), (2, 1, (tv 55)), (4, 1, (tv 59))]),
 on (.store 11 (tv 2) (tv 60) [])] [(3, 5)] [2])
 .ret)))))))))
 (.seq (.region [] [o 62 (.mv (tv 0)),
 oa 63 (.call (kf 220) [(true, (tv 62)), (false, (.k (.sc (.c (.str [99, 97, 115, 101])))))] []) 4224,
 o 61 (.mv (tv 63))] [] [0, 2, 3, 61])
 (.cond (tv 61) (.seq (.region [] [o 64 (.mv (tv 0)),
 o 65 (.mv (tv 3)),
 oa 66 (.call (kf 223) [(true, (tv 64)), (false, (tv 65))] []) 4480,
 on (.store 11 (tv 2) (tv 66) [])] [] [2])
 .ret)
 .skip)))))))
 (.seq (.region [] [o 67 (.mv (tv 0)),
 oa 68 (.call (kf 224) [(true, (tv 67))] []) 4672,
 oa 8 (.new [zi, zi, zs, zi, .nil, .nil, zi, zs, zi, zi, .nil] []) 4736,
 on (.store 11 (tv 8) (tv 68) [])] [] [0, 2, 8])
 (.seq (.block 1 (.loop l169_0))
 (.seq (.region [] [o 107 (.load true 11 (tv 8)),
 on (.store 11 (tv 2) (tv 107) [])] [] [2])
 .ret)))))),
 [.cell 2 true 11], false⟩

def v171 : VFun := ⟨1,
 (.seq (.region [] [oa 1 (.box (tv 0)) 64,
 o 2 (.mv kF)] [] [1])
 (.seq (.region [] [o 3 (.load true 11 (tv 1)),
 oa 4 (.call (kf 226) [(false, (tv 3))] []) 256,
 o 5 (.bin .gtr 0 (tv 4) (ki 40)),
 o 6 (.mv (tv 5)),
 og 7 (.load true 11 (tv 1)) 6 false,
 ⟨(some 8), (.call (kf 227) [(false, (tv 7))] []), (some (6, false)), 512, []⟩,
 o 9 (.pick (tv 6) kt (tv 8)),
 o 2 (.mv (tv 9))] [] [2])
 .ret)),
 [.tmp 2], false⟩

def l172_0 : VCode := (.seq (.seq (.region [] [o 9 (.mv (tv 4)),
 o 10 (.fld 5 (tv 1)),
 o 11 (.load false 1 (tv 10)),
 o 12 (.len false (tv 11)),
 o 13 (.bin .lss 0 (tv 9) (tv 12))] [] [1, 4, 13])
 (.cond (tv 13) .skip
 (.exit 0)))
 (.seq (.block 1 (.seq (.region [] [o 16 (.fld 5 (tv 1)),
 o 17 (.load false 1 (tv 16)),
 o 18 (.mv (tv 4)),
 o 19 (.idxA 14 (tv 17) (tv 18)),
 o 20 (.fld 2 (tv 19)),
 o 21 (.load false 1 (tv 20)),
 o 22 (.len false (tv 21)),
 o 23 (.bin .gtr 0 (tv 22) (ki 4))] [] [1, 4, 23])
 (.cond (tv 23) (.seq (.region [] [o 24 (.fld 5 (tv 1)),
 o 25 (.load false 1 (tv 24)),
 o 26 (.mv (tv 4)),
 o 27 (.idxA 14 (tv 25) (tv 26)),
 o 28 (.fld 0 (tv 27)),
 o 29 (.load false 1 (tv 28)),
 o 2 (.mv (tv 29)),
 o 3 (.mv kt)] [] [2, 3])
 .ret)
 .skip)))
 (.region [] [o 14 (.mv (tv 4)),
 o 15 (.bin .add 0 (tv 14) (ki 1)),
 o 4 (.mv (tv 15))] [] [1, 4])))

def l172_1 : VCode := (.seq (.seq (.region [] [o 32 (.mv (tv 6)),
 o 33 (.mv (tv 5)),
 o 34 (.len false (tv 33)),
 o 35 (.bin .lss 0 (tv 32) (tv 34))] [] [5, 6, 35])
 (.cond (tv 35) .skip
 (.exit 2)))
 (.seq (.block 3 (.seq (.region [] [o 39 (.mv (tv 5)),
 o 40 (.mv (tv 6)),
 o 41 (.idxA 11 (tv 39) (tv 40)),
 o 42 (.load true 11 (tv 41)),
 oa 43 (.call (kf 172) [(false, (tv 42))] []) 2624,
 o 38 (.mv (tv 43)),
 o 44 (.ext 0 (tv 38)),
 o 45 (.ext 1 (tv 38)),
 o 7 (.mv (tv 44)),
 o 8 (.mv (tv 45))] [] [5, 6, 7, 8])
 (.seq (.region [] [o 46 (.mv (tv 8))] [] [5, 6, 7, 46])
 (.cond (tv 46) (.seq (.region [] [o 47 (.mv (tv 7)),
 o 2 (.mv (tv 47)),
 o 3 (.mv kt)] [] [2, 3])
 .ret)
 .skip))))
 (.region [] [o 36 (.mv (tv 6)),
 o 37 (.bin .add 0 (tv 36) (ki 1)),
 o 6 (.mv (tv 37))] [] [5, 6])))

def v172 : VFun := ⟨1,
 (.seq (.region [] [oa 1 (.box (tv 0)) 64,
 o 2 (.mv (ki 0)),
 o 3 (.mv kF)] [] [1])
 (.seq (.seq (.region [] [o 4 (.mv (ki 0))] [] [1, 4])
 (.block 0 (.loop l172_0)))
 (.seq (.region [] [o 30 (.load true 11 (tv 1)),
 oa 31 (.call (kf 69) [(false, (tv 30))] []) 1920,
 o 5 (.mv (tv 31))] [] [5])
 (.seq (.seq (.region [64] [o 6 (.mv (ki 0))] [] [5, 6])
 (.block 2 (.loop l172_1)))
 (.seq (.region [] [o 2 (.mv (ki 0)),
 o 3 (.mv kF)] [] [2, 3])
 .ret))))),
 [.tmp 2, .tmp 3], false⟩

def l143_0 : VCode := (.seq (.seq (.region [] [o 48 (.mv (tv 8)),
 o 49 (.mv (tv 5)),
 o 50 (.len false (tv 49)),
 o 51 (.bin .lss 0 (tv 48) (tv 50))] [] [3, 4, 5, 7, 8, 51])
 (.cond (tv 51) .skip
 (.exit 0)))
 (.seq (.block 1 (.region [] [o 54 (.mv (tv 5)),
 o 55 (.mv (tv 8)),
 o 56 (.mv (tv 5)),
 o 57 (.mv (tv 8)),
 o 58 (.idxA 11 (tv 56) (tv 57)),
 o 59 (.load true 11 (tv 58)),
 o 60 (.fld 2 (tv 3)),
 o 61 (.load false 1 (tv 60)),
 o 62 (.mv (tv 7)),
 oa 63 (.call (kf 209) [(false, (tv 59)), (false, (tv 61)), (false, (tv 62))] []) 3968,
 o 64 (.idxA 11 (tv 54) (tv 55)),
 on (.store 11 (tv 64) (tv 63) [])] [(4, 6), (5, 6), (4, 7), (5, 7)] [3, 4, 5, 7, 8]))
 (.region [] [o 52 (.mv (tv 8)),
 o 53 (.bin .add 0 (tv 52) (ki 1)),
 o 8 (.mv (tv 53))] [] [3, 4, 5, 7, 8])))

def v143 : VFun := ⟨2,
 (.seq (.region [] [oa 2 (.box (tv 0)) 64,
 oa 3 (.box (tv 1)) 128,
 oa 4 (.new [zi, zi, zs, zi, .nil, .nil, zi, zs, zi, zi, .nil] []) 192] [] [2, 3, 4])
 (.seq (.region [] [o 9 (.fld 4 (tv 3)),
 o 10 (.load false 1 (tv 9)),
 oa 11 (.call (kf 140) [(false, (tv 10))] []) 384,
 o 5 (.mv (tv 11))] [] [2, 3, 4, 5])
 (.seq (.region [] [o 6 (.mv (ki 0))] [] [2, 3, 4, 5, 6])
 (.seq (.seq (.region [] [o 12 (.fld 0 (tv 3)),
 o 13 (.load false 1 (tv 12)),
 o 14 (.bin .eql 0 (tv 13) (ki 6))] [] [2, 3, 4, 5, 6, 14])
 (.cond (tv 14) (.region [] [o 6 (.mv (ki 1))] [] [2, 3, 4, 5, 6])
 .skip))
 (.seq (.seq (.region [] [o 15 (.fld 2 (tv 3)),
 o 16 (.load false 1 (tv 15)),
 o 17 (.fld 0 (tv 2)),
 o 18 (.load false 1 (tv 17)),
 o 19 (.bin .eql 0 (tv 16) (tv 18)),
 o 20 (.mv (tv 19)),
 og 21 (.mv (tv 6)) 20 false,
 og 22 (.mv (tv 5)) 20 false,
 og 23 (.len false (tv 22)) 20 false,
 og 24 (.bin .geq 0 (tv 21) (tv 23)) 20 false,
 o 25 (.pick (tv 20) kt (tv 24)),
 o 26 (.mv (tv 25)),
 og 27 (.load true 13 (tv 2)) 26 false,
 og 28 (.fld 2 (tv 3)) 26 false,
 og 29 (.load false 1 (tv 28)) 26 false,
 og 30 (.mv (tv 5)) 26 false,
 og 31 (.mv (tv 6)) 26 false,
 og 32 (.sl 11 (tv 30) (some (tv 31)) none none) 26 false,
 ⟨(some 33), (.call (kf 206) [(false, (tv 27)), (false, (tv 29)), (false, (tv 32))] []), (some (26, false)), 1984, []⟩,
 og 34 (.un .not (tv 33)) 26 false,
 o 35 (.pick (tv 26) kt (tv 34))] [(0, 2), (1, 2), (0, 3), (1, 3), (12, 13), (12, 14), (12, 17), (13, 17), (14, 17)] [2, 3, 4, 5, 6, 35])
 (.cond (tv 35) (.seq (.region [] [o 36 (.load true 11 (tv 3)),
 on (.store 11 (tv 4) (tv 36) [])] [] [4])
 .ret)
 .skip))
 (.seq (.region [] [o 37 (.load true 11 (tv 3)),
 oa 38 (.call (kf 208) [(false, (tv 37))] []) 2368,
 o 39 (.fld 12 (tv 2)),
 o 40 (.load false 1 (tv 39)),
 o 41 (.app 1 16 false (tv 38) (tv 40)),
 o 42 (.fld 0 (tv 2)),
 o 43 (.load false 1 (tv 42)),
 oa 44 (.mkSl 1 [(tv 43)]) 2752,
 o 45 (.app 1 16 false (tv 41) (tv 44)),
 oa 46 (.call (kf 207) [(false, (tv 45))] []) 2880,
 o 7 (.mv (tv 46))] [(0, 2), (1, 2), (0, 3), (1, 3), (0, 5), (1, 5), (2, 5), (3, 5), (4, 5), (0, 6), (1, 6), (2, 6), (3, 6), (4, 6), (0, 7), (1, 7), (2, 7), (3, 7), (4, 7)] [3, 4, 5, 6, 7])
 (.seq (.seq (.region [64, 2752] [o 47 (.mv (tv 6)),
 o 8 (.mv (tv 47))] [] [3, 4, 5, 7, 8])
 (.block 0 (.loop l143_0)))
 (.seq (.region [] [o 65 (.mv (tv 7)),
 o 66 (.mv (tv 5)),
 o 67 (.fld 2 (tv 3)),
 on (.store 1 (tv 67) (tv 65) []),
 o 68 (.fld 4 (tv 3)),
 on (.store 1 (tv 68) (tv 66) [])] [] [3, 4])
 (.seq (.region [] [o 69 (.load true 11 (tv 3)),
 on (.store 11 (tv 4) (tv 69) [])] [] [4])
 .ret))))))))),
 [.cell 4 true 11], false⟩

def l146_0 : VCode := (.seq (.region [] [o 37 (.bin .lss 0 (tv 36) (tv 35))] [] [1, 2, 4, 5, 6, 7, 35, 36, 37])
 (.seq (.cond (tv 37) .skip
 (.exit 0))
 (.seq (.block 1 (.seq (.region [] [o 38 (.mv (tv 36)),
 o 8 (.mv (tv 38))] [] [1, 2, 4, 5, 6, 7, 8, 35, 36])
 (.region [] [o 39 (.mv (tv 7)),
 o 40 (.mv (tv 8)),
 o 41 (.mv (tv 1)),
 o 42 (.mv (tv 5)),
 o 43 (.mv (tv 8)),
 o 44 (.bin .add 0 (tv 42) (tv 43)),
 o 45 (.idxA 11 (tv 41) (tv 44)),
 o 46 (.load true 11 (tv 45)),
 o 47 (.idxA 14 (tv 39) (tv 40)),
 o 48 (.fld 3 (tv 47)),
 on (.store 11 (tv 48) (tv 46) [])] [] [1, 2, 4, 5, 6, 7, 35, 36])))
 (.region [] [o 49 (.bin .add 0 (tv 36) (ki 1)),
 o 36 (.mv (tv 49))] [] [1, 2, 4, 5, 6, 7, 35, 36]))))

def v146 : VFun := ⟨2,
 (.seq (.region [] [oa 2 (.box (tv 0)) 64,
 oa 4 (.new [zi, zi, zs, zi, .nil, .nil, zi, zs, zi, zi, .nil] []) 128] [] [1, 2, 4])
 (.seq (.region [] [o 9 (.fld 4 (tv 2)),
 o 10 (.load false 1 (tv 9)),
 o 11 (.len false (tv 10)),
 o 5 (.mv (tv 11))] [] [1, 2, 4, 5])
 (.seq (.seq (.region [] [o 12 (.mv (tv 1)),
 o 13 (.len false (tv 12)),
 o 14 (.mv (tv 5)),
 o 15 (.fld 5 (tv 2)),
 o 16 (.load false 1 (tv 15)),
 o 17 (.len false (tv 16)),
 o 18 (.bin .add 0 (tv 14) (tv 17)),
 o 19 (.bin .neq 0 (tv 13) (tv 18))] [] [1, 2, 4, 5, 19])
 (.cond (tv 19) (.seq (.region [] [o 20 (.load true 11 (tv 2)),
 on (.store 11 (tv 4) (tv 20) [])] [] [4])
 .ret)
 .skip))
 (.seq (.region [] [o 21 (.mv (tv 5)),
 oa 22 (.mkS 11 152 [zi, zi, zs, zi, .nil, .nil, zi, zs, zi, zi, .nil] (tv 21)) 1152,
 o 23 (.fld 5 (tv 2)),
 o 24 (.load false 1 (tv 23)),
 o 25 (.len false (tv 24)),
 oa 26 (.mkS 14 200 [zi, zs, .nil, zi, zi, zs, zi, .nil, .nil, zi, zs, zi, zi, .nil] (tv 25)) 1408,
 o 6 (.mv (tv 22)),
 o 7 (.mv (tv 26))] [(1, 2), (1, 3), (1, 4), (1, 5)] [1, 2, 4, 5, 6, 7])
 (.seq (.region [] [o 27 (.mv (tv 6)),
 o 28 (.mv (tv 1)),
 o 29 (.cp 11 (tv 27) (tv 28))] [] [1, 2, 4, 5, 6, 7])
 (.seq (.region [] [o 30 (.mv (tv 7)),
 o 31 (.fld 5 (tv 2)),
 o 32 (.load false 1 (tv 31)),
 o 33 (.cp 14 (tv 30) (tv 32))] [] [1, 2, 4, 5, 6, 7])
 (.seq (.seq (.region [] [o 34 (.mv (tv 7)),
 o 35 (.len false (tv 34)),
 o 36 (.mv (ki 0))] [] [1, 2, 4, 5, 6, 7, 35, 36])
 (.block 0 (.loop l146_0)))
 (.seq (.region [] [o 50 (.mv (tv 6)),
 o 51 (.mv (tv 7)),
 o 52 (.fld 4 (tv 2)),
 on (.store 1 (tv 52) (tv 50) []),
 o 53 (.fld 5 (tv 2)),
 on (.store 1 (tv 53) (tv 51) [])] [] [2, 4])
 (.seq (.region [] [o 54 (.load true 11 (tv 2)),
 on (.store 11 (tv 4) (tv 54) [])] [] [4])
 .ret))))))))),
 [.cell 4 true 11], true⟩

def l130_0 : VCode := (.block 1 (.seq (.region [] [o 13 (.fld 0 (tv 8)),
 o 14 (.load false 1 (tv 13)),
 o 15 (.load false 1 (tv 4)),
 o 16 (.bin .eql 0 (tv 14) (tv 15)),
 o 17 (.mv (tv 16)),
 og 18 (.fld 1 (tv 8)) 17 false,
 og 19 (.load false 1 (tv 18)) 17 false,
 og 20 (.load false 1 (tv 5)) 17 false,
 og 21 (.bin .eql 0 (tv 19) (tv 20)) 17 false,
 o 22 (.pick (tv 17) kt (tv 21))] [] [4, 5, 6, 8, 22])
 (.cond (tv 22) (.seq (.region [] [o 23 (.fld 0 (tv 8)),
 o 24 (.load false 1 (tv 23)),
 o 25 (.load false 1 (tv 4)),
 o 26 (.bin .eql 0 (tv 24) (tv 25)),
 o 27 (.mv (tv 26)),
 og 28 (.fld 1 (tv 8)) 27 true,
 og 29 (.load false 1 (tv 28)) 27 true,
 og 30 (.load false 1 (tv 5)) 27 true,
 og 31 (.bin .eql 0 (tv 29) (tv 30)) 27 true,
 o 32 (.pick (tv 27) (tv 31) kF),
 on (.store 1 (tv 6) (tv 32) [])] [] [6])
 .ret)
 .skip)))

def v130 : VFun := ⟨3,
 (.seq (.region [] [oa 4 (.box (tv 1)) 64,
 oa 5 (.box (tv 2)) 128,
 oa 6 (.new [(.c (.bool false))] []) 192] [] [0, 4, 5, 6])
 (.seq (.seq (.region [] [o 9 (.mv (tv 0)),
 oa 10 (.call (kf 149) [(false, (tv 9))] []) 320] [] [4, 5, 6, 10])
 (.block 0 (.rangeB (tv 10) 210 2 true 11 12 (.region [384] [oa 8 (.new [zs, zs] []) 384,
 on (.store 2 (tv 8) (tv 12) [])] [] [4, 5, 6, 8])
 l130_0)))
 (.seq (.region [] [o 33 (.load false 1 (tv 4)),
 o 34 (.load false 1 (tv 5)),
 o 35 (.bin .eql 0 (tv 33) (tv 34)),
 on (.store 1 (tv 6) (tv 35) [])] [] [6])
 .ret))),
 [.cell 6 false 1], false⟩

def l132_0 : VCode := (.seq (.region [] [o 18 (.bin .lss 0 (tv 17) (tv 16))] [] [2, 4, 15, 16, 17, 18])
 (.seq (.cond (tv 18) .skip
 (.exit 0))
 (.seq (.block 1 (.seq (.region [] [o 19 (.mv (tv 17)),
 o 20 (.idxA 14 (tv 15) (tv 17)),
 o 21 (.load true 14 (tv 20)),
 oa 6 (.new [zi, zs, .nil, zi, zi, zs, zi, .nil, .nil, zi, zs, zi, zi, .nil] []) 1280,
 o 5 (.mv (tv 19)),
 on (.store 14 (tv 6) (tv 21) [])] [] [2, 4, 5, 6, 15, 16, 17])
 (.region [] [o 22 (.fld 5 (tv 2)),
 o 23 (.load false 1 (tv 22)),
 o 24 (.mv (tv 5)),
 o 25 (.fld 2 (tv 6)),
 o 26 (.load false 1 (tv 25)),
 o 27 (.len false (tv 26)),
 oa 28 (.mkS 1 16 [zs] (tv 27)) 1856,
 o 29 (.idxA 14 (tv 23) (tv 24)),
 o 30 (.fld 2 (tv 29)),
 on (.store 1 (tv 30) (tv 28) [])] [(0, 3), (1, 3), (0, 4), (1, 4), (0, 5), (1, 5), (0, 6), (1, 6)] [2, 4, 15, 16, 17])))
 (.melt 1856 (.region [1280, 1856] [o 31 (.bin .add 0 (tv 17) (ki 1)),
 o 17 (.mv (tv 31))] [] [2, 4, 15, 16, 17])))))

def v132 : VFun := ⟨2,
 (.seq (.region [] [oa 2 (.box (tv 0)) 64,
 oa 4 (.new [zi, zi, zs, zi, .nil, .nil, zi, zs, zi, zi, .nil] []) 128] [] [1, 2, 4])
 (.seq (.region [] [o 7 (.load true 11 (tv 2)),
 o 8 (.mv (tv 1)),
 oa 9 (.call (kf 146) [(false, (tv 7)), (false, (tv 8))] []) 320,
 on (.store 11 (tv 2) (tv 9) [])] [] [2, 4])
 (.seq (.seq (.region [] [o 10 (.fld 0 (tv 2)),
 o 11 (.load false 1 (tv 10)),
 o 12 (.bin .neq 0 (tv 11) (ki 2))] [] [2, 4, 12])
 (.cond (tv 12) (.region [] [o 13 (.fld 2 (tv 2)),
 on (.store 1 (tv 13) (.k (.sc zs)) [])] [] [2, 4])
 .skip))
 (.seq (.seq (.region [] [o 14 (.fld 5 (tv 2)),
 o 15 (.load false 1 (tv 14)),
 o 16 (.len false (tv 15)),
 o 17 (.mv (ki 0))] [] [2, 4, 15, 16, 17])
 (.block 0 (.loop l132_0)))
 (.seq (.region [] [o 32 (.load true 11 (tv 2)),
 on (.store 11 (tv 4) (tv 32) [])] [] [4])
 .ret))))),
 [.cell 4 true 11], false⟩

def v131 : VFun := ⟨2,
 (.seq (.region [] [oa 2 (.box (tv 0)) 64,
 oa 3 (.box (tv 1)) 128,
 o 4 (.mv kF)] [] [2, 3])
 (.seq (.seq (.region [] [o 6 (.fld 0 (tv 2)),
 o 7 (.load false 1 (tv 6)),
 o 8 (.fld 0 (tv 3)),
 o 9 (.load false 1 (tv 8)),
 o 10 (.bin .neq 0 (tv 7) (tv 9)),
 o 11 (.mv (tv 10)),
 og 12 (.fld 2 (tv 2)) 11 false,
 og 13 (.load false 1 (tv 12)) 11 false,
 og 14 (.fld 2 (tv 3)) 11 false,
 og 15 (.load false 1 (tv 14)) 11 false,
 og 16 (.bin .neq 0 (tv 13) (tv 15)) 11 false,
 o 17 (.pick (tv 11) kt (tv 16)),
 o 18 (.mv (tv 17)),
 og 19 (.fld 3 (tv 2)) 18 false,
 og 20 (.load false 1 (tv 19)) 18 false,
 og 21 (.fld 3 (tv 3)) 18 false,
 og 22 (.load false 1 (tv 21)) 18 false,
 og 23 (.bin .neq 0 (tv 20) (tv 22)) 18 false,
 o 24 (.pick (tv 18) kt (tv 23)),
 o 25 (.mv (tv 24)),
 og 26 (.fld 6 (tv 2)) 25 false,
 og 27 (.load true 5 (tv 26)) 25 false,
 og 28 (.fld 6 (tv 3)) 25 false,
 og 29 (.load true 5 (tv 28)) 25 false,
 ⟨(some 30), (.call (kf 114) [(false, (tv 27)), (false, (tv 29))] []), (some (25, false)), 1792, []⟩,
 og 31 (.un .not (tv 30)) 25 false,
 o 32 (.pick (tv 25) kt (tv 31))] [] [2, 3, 32])
 (.cond (tv 32) (.seq (.region [] [o 4 (.mv kF)] [] [4])
 .ret)
 .skip))
 (.seq (.region [] [o 33 (.fld 5 (tv 2)),
 o 34 (.load false 1 (tv 33)),
 o 35 (.fld 5 (tv 3)),
 o 36 (.load false 1 (tv 35)),
 oa 37 (.call (kf 177) [(false, (tv 34)), (false, (tv 36)), (true, (kf 178))] []) 2304,
 o 5 (.mv (tv 37))] [] [2, 3, 5])
 (.seq (.region [] [o 38 (.mv (tv 5)),
 o 39 (.mv (tv 38)),
 og 40 (.fld 4 (tv 2)) 39 true,
 og 41 (.load false 1 (tv 40)) 39 true,
 og 42 (.fld 4 (tv 3)) 39 true,
 og 43 (.load false 1 (tv 42)) 39 true,
 ⟨(some 44), (.call (kf 180) [(false, (tv 41)), (false, (tv 43)), (true, (kf 131))] []), (some (39, true)), 2816, []⟩,
 o 45 (.pick (tv 39) (tv 44) kF),
 o 4 (.mv (tv 45))] [] [4])
 .ret)))),
 [.tmp 4], false⟩

def l147_0 : VCode := (.seq (.seq (.region [] [o 11 (.mv (tv 5)),
 o 12 (.mv (tv 0)),
 o 13 (.len false (tv 12)),
 o 14 (.bin .lss 0 (tv 11) (tv 13))] [] [0, 1, 5, 14])
 (.cond (tv 14) .skip
 (.exit 0)))
 (.seq (.block 1 (.seq (.region [] [o 17 (.mv (tv 0)),
 o 18 (.mv (tv 5)),
 o 19 (.idxA 5 (tv 17) (tv 18)),
 o 20 (.load true 5 (tv 19)),
 o 21 (.mv (tv 1)),
 o 22 (.mv (tv 5)),
 o 23 (.idxA 5 (tv 21) (tv 22)),
 o 24 (.load true 5 (tv 23)),
 oa 25 (.call (kf 84) [(false, (tv 20)), (false, (tv 24))] []) 1344,
 o 26 (.un .not (tv 25))] [(2, 6), (3, 6), (2, 7), (3, 7)] [0, 1, 5, 26])
 (.cond (tv 26) (.seq (.region [] [o 4 (.mv kF)] [] [4])
 .ret)
 .skip)))
 (.region [] [o 15 (.mv (tv 5)),
 o 16 (.bin .add 0 (tv 15) (ki 1)),
 o 5 (.mv (tv 16))] [] [0, 1, 5])))

def v147 : VFun := ⟨2,
 (.seq (.region [] [o 4 (.mv kF)] [] [0, 1])
 (.seq (.seq (.region [] [o 6 (.mv (tv 0)),
 o 7 (.len false (tv 6)),
 o 8 (.mv (tv 1)),
 o 9 (.len false (tv 8)),
 o 10 (.bin .neq 0 (tv 7) (tv 9))] [] [0, 1, 10])
 (.cond (tv 10) (.seq (.region [] [o 4 (.mv kF)] [] [4])
 .ret)
 .skip))
 (.seq (.seq (.region [] [o 5 (.mv (ki 0))] [] [0, 1, 5])
 (.block 0 (.loop l147_0)))
 (.seq (.region [] [o 4 (.mv kt)] [] [4])
 .ret)))),
 [.tmp 4], false⟩

def l141_0 : VCode := (.seq (.region [] [o 12 (.bin .lss 0 (tv 11) (tv 10))] [] [2, 4, 9, 10, 11, 12])
 (.seq (.cond (tv 12) .skip
 (.exit 0))
 (.seq (.block 1 (.seq (.region [] [o 13 (.idxA 1 (tv 9) (tv 11)),
 o 14 (.load false 1 (tv 13)),
 o 7 (.mv (tv 14))] [] [2, 4, 7, 9, 10, 11])
 (.seq (.region [] [o 15 (.load true 11 (tv 2)),
 oa 16 (.call (kf 79) [(false, (tv 15))] []) 768,
 o 8 (.mv (tv 16))] [] [2, 4, 7, 8, 9, 10, 11])
 (.seq (.seq (.region [] [o 17 (.mv (tv 7)),
 o 18 (.bin .lss 0 (tv 17) (ki 0)),
 o 19 (.mv (tv 18)),
 og 20 (.mv (tv 7)) 19 false,
 og 21 (.mv (tv 8)) 19 false,
 og 22 (.len false (tv 21)) 19 false,
 og 23 (.bin .geq 0 (tv 20) (tv 22)) 19 false,
 o 24 (.pick (tv 19) kt (tv 23))] [] [2, 4, 7, 8, 9, 10, 11, 24])
 (.cond (tv 24) (.seq (.region [] [o 25 (.build [zi, zi, zs, zi, .nil, .nil, zi, zs, zi, zi, .nil] []),
 on (.store 11 (tv 4) (tv 25) []),
 o 5 (.mv kF)] [] [4, 5])
 .ret)
 .skip))
 (.region [] [o 26 (.mv (tv 8)),
 o 27 (.mv (tv 7)),
 o 28 (.idxA 11 (tv 26) (tv 27)),
 o 29 (.load true 11 (tv 28)),
 on (.store 11 (tv 2) (tv 29) [])] [] [2, 4, 9, 10, 11])))))
 (.region [800, 801, 802] [o 30 (.bin .add 0 (tv 11) (ki 1)),
 o 11 (.mv (tv 30))] [] [2, 4, 9, 10, 11]))))

def v141 : VFun := ⟨2,
 (.seq (.region [] [oa 2 (.box (tv 0)) 64,
 oa 4 (.new [zi, zi, zs, zi, .nil, .nil, zi, zs, zi, zi, .nil] []) 128,
 o 5 (.mv kF)] [] [1, 2, 4])
 (.seq (.seq (.region [] [o 9 (.mv (tv 1)),
 o 10 (.len false (tv 9)),
 o 11 (.mv (ki 0))] [] [2, 4, 9, 10, 11])
 (.block 0 (.loop l141_0)))
 (.seq (.region [] [o 31 (.load true 11 (tv 2)),
 on (.store 11 (tv 4) (tv 31) []),
 o 5 (.mv kt)] [] [4, 5])
 .ret))),
 [.cell 4 true 11, .tmp 5], false⟩

def l142_0 : VCode := (.seq (.region [] [o 31 (.bin .lss 0 (tv 30) (tv 29))] [] [2, 7, 9, 20, 21, 22, 28, 29, 30, 31])
 (.seq (.cond (tv 31) .skip
 (.exit 2))
 (.seq (.block 3 (.seq (.region [] [o 32 (.idxA 1 (tv 28) (tv 30)),
 o 33 (.load false 1 (tv 32)),
 oa 11 (.new [zs] []) 1984,
 on (.store 1 (tv 11) (tv 33) [])] [] [2, 7, 9, 11, 20, 21, 22, 28, 29, 30])
 (.seq (.region [] [o 34 (.mv (tv 7)),
 o 35 (.fn 205 [(tv 11)]),
 oa 36 (.call (kf 204) [(true, (tv 34)), (true, (tv 35))] []) 2240,
 o 7 (.mv (tv 36))] [] [2, 7, 9, 11, 20, 21, 22, 28, 29, 30])
 (.region [] [o 37 (.mv (tv 7)),
 o 38 (.load false 1 (tv 11)),
 oa 39 (.mkSl 1 [(tv 38)]) 2496,
 o 40 (.app 1 16 false (tv 37) (tv 39)),
 o 7 (.mv (tv 40))] [] [2, 7, 9, 20, 21, 22, 28, 29, 30]))))
 (.region [1984, 2272, 2273, 2274, 2496] [o 41 (.bin .add 0 (tv 30) (ki 1)),
 o 30 (.mv (tv 41))] [] [2, 7, 9, 20, 21, 22, 28, 29, 30]))))

def l142_1 : VCode := (.seq (.region [] [o 23 (.bin .lss 0 (tv 22) (tv 21))] [] [2, 7, 20, 21, 22, 23])
 (.seq (.cond (tv 23) .skip
 (.exit 0))
 (.seq (.block 1 (.seq (.region [] [o 24 (.idxA 1 (tv 20) (tv 22)),
 o 25 (.load false 1 (tv 24)),
 o 9 (.mv (tv 25))] [] [2, 7, 9, 20, 21, 22])
 (.seq (.seq (.region [] [o 26 (.load true 11 (tv 2)),
 o 27 (.mv (tv 9)),
 oa 28 (.call (kf 203) [(false, (tv 26)), (false, (tv 27))] []) 1600,
 o 29 (.len false (tv 28)),
 o 30 (.mv (ki 0))] [] [2, 7, 9, 20, 21, 22, 28, 29, 30])
 (.block 2 (.loop l142_0)))
 (.region [] [o 42 (.load true 11 (tv 2)),
 oa 43 (.call (kf 79) [(false, (tv 42))] []) 2880,
 o 44 (.mv (tv 9)),
 o 45 (.idxA 11 (tv 43) (tv 44)),
 o 46 (.load true 11 (tv 45)),
 on (.store 11 (tv 2) (tv 46) [])] [] [2, 7, 20, 21, 22]))))
 (.region [2912, 2913, 2914] [o 47 (.bin .add 0 (tv 22) (ki 1)),
 o 22 (.mv (tv 47))] [] [2, 7, 20, 21, 22]))))

def v142 : VFun := ⟨2,
 (.seq (.region [] [oa 2 (.box (tv 0)) 64,
 o 4 (.mv kn)] [] [1, 2])
 (.seq (.seq (.region [] [o 13 (.load true 11 (tv 2)),
 o 14 (.mv (tv 1)),
 oa 15 (.call (kf 141) [(false, (tv 13)), (false, (tv 14))] []) 320,
 o 12 (.mv (tv 15)),
 o 16 (.ext 0 (tv 12)),
 o 17 (.ext 1 (tv 12)),
 oa 5 (.new [zi, zi, zs, zi, .nil, .nil, zi, zs, zi, zi, .nil] []) 576,
 on (.store 11 (tv 5) (tv 16) []),
 o 6 (.mv (tv 17))] [] [1, 2, 6])
 (.seq (.region [576] [o 18 (.mv (tv 6)),
 o 19 (.un .not (tv 18))] [] [1, 2, 19])
 (.cond (tv 19) (.seq (.region [] [o 4 (.mv kn)] [] [4])
 .ret)
 .skip)))
 (.seq (.region [] [⟨(some 7), (.mv kn), none, 960, [(0, 1)]⟩] [] [1, 2, 7])
 (.seq (.seq (.region [] [o 20 (.mv (tv 1)),
 o 21 (.len false (tv 20)),
 o 22 (.mv (ki 0))] [] [2, 7, 20, 21, 22])
 (.block 0 (.loop l142_1)))
 (.seq (.region [] [o 48 (.mv (tv 7)),
 o 4 (.mv (tv 48))] [] [4])
 .ret))))),
 [.tmp 4], false⟩

def l107_0 : VCode := (.seq (.region [] [o 9 (.bin .lss 0 (tv 8) (tv 7))] [] [0, 1, 7, 8, 9])
 (.seq (.cond (tv 9) .skip
 (.exit 0))
 (.seq (.block 1 (.seq (.region [] [o 10 (.mv (tv 8)),
 o 5 (.mv (tv 10))] [] [0, 1, 5, 7, 8])
 (.seq (.region [] [o 11 (.mv (tv 1)),
 o 12 (.mv (tv 0)),
 o 13 (.mv (tv 5)),
 o 14 (.idxA 1 (tv 12) (tv 13)),
 o 15 (.load false 1 (tv 14)),
 o 16 (.bin .eql 0 (tv 11) (tv 15))] [] [0, 1, 5, 7, 8, 16])
 (.cond (tv 16) (.seq (.region [] [o 17 (.mv (tv 5)),
 o 4 (.mv (tv 17))] [] [4])
 .ret)
 .skip))))
 (.region [] [o 18 (.bin .add 0 (tv 8) (ki 1)),
 o 8 (.mv (tv 18))] [] [0, 1, 7, 8]))))

def v107 : VFun := ⟨2,
 (.seq (.region [] [o 4 (.mv (ki 0))] [] [0, 1])
 (.seq (.seq (.region [] [o 6 (.mv (tv 0)),
 o 7 (.len false (tv 6)),
 o 8 (.mv (ki 0))] [] [0, 1, 7, 8])
 (.block 0 (.loop l107_0)))
 (.seq (.region [] [o 4 (.mv (ki (-1)))] [] [4])
 .ret))),
 [.tmp 4], false⟩

def v181 : VFun := ⟨2,
 (.seq (.region [] [o 4 (.mv kF)] [] [0, 1])
 (.seq (.region [] [o 5 (.mv (tv 0)),
 o 6 (.len true (tv 5)),
 o 7 (.mv (tv 1)),
 o 8 (.len true (tv 7)),
 o 9 (.bin .geq 0 (tv 6) (tv 8)),
 o 10 (.mv (tv 9)),
 og 11 (.mv (tv 0)) 10 true,
 og 12 (.mv (tv 1)) 10 true,
 og 13 (.len true (tv 12)) 10 true,
 og 14 (.slS (tv 11) none (some (tv 13))) 10 true,
 og 15 (.mv (tv 1)) 10 true,
 og 16 (.bin .eql 0 (tv 14) (tv 15)) 10 true,
 o 17 (.pick (tv 10) (tv 16) kF),
 o 4 (.mv (tv 17))] [] [4])
 .ret)),
 [.tmp 4], false⟩

def v182 : VFun := ⟨1,
 (.seq (.region [] [o 2 (.mv (.k (.sc (.c (.int .u8 0)))))] [] [0])
 (.seq (.region [] [o 3 (.mv (tv 0)),
 o 4 (.bin .or 0 (tv 3) (.k (.sc (.c (.int .u8 32))))),
 o 2 (.mv (tv 4))] [] [2])
 .ret)),
 [.tmp 2], false⟩

def v184 : VFun := ⟨2,
 (.seq (.region [] [o 4 (.mv (.k (.sc (.c .nilptr))))] [] [0, 1])
 (.seq (.region [] [o 5 (.mv (tv 0)),
 o 6 (.mv (tv 1)),
 oa 7 (.call (kf 233) [(false, (tv 6))] []) 256,
 o 8 (.load false 1 (.g 0)),
 o 9 (.build [zs, zs, (.c .nilif)] [(0, 1, (tv 5)), (1, 1, (tv 7)), (2, 1, (tv 8))]),
 oa 10 (.box (tv 9)) 448,
 o 4 (.mv (tv 10))] [(2, 3)] [4])
 .ret)),
 [.tmp 4], true⟩

def v185 : VFun := ⟨2,
 (.seq (.region [] [o 4 (.mv (.k (.sc (.c .nilptr))))] [] [0, 1])
 (.seq (.region [] [o 5 (.mv (tv 0)),
 o 6 (.mv (tv 1)),
 oa 7 (.call (kf 233) [(false, (tv 6))] []) 256,
 o 8 (.load false 1 (.g 1)),
 o 9 (.build [zs, zs, (.c .nilif)] [(0, 1, (tv 5)), (1, 1, (tv 7)), (2, 1, (tv 8))]),
 oa 10 (.box (tv 9)) 448,
 o 4 (.mv (tv 10))] [(2, 3)] [4])
 .ret)),
 [.tmp 4], true⟩

def v188 : VFun := ⟨1,
 (.seq (.region [] [o 2 (.mv (.k (.sc zs)))] [] [0])
 (.seq (.seq (.region [] [o 3 (.mv (tv 0)),
 o 4 (.bin .lss 0 (tv 3) (ki 10))] [] [0, 4])
 (.cond (tv 4) (.seq (.region [] [o 5 (.mv (tv 0)),
 o 6 (.mv (tv 0)),
 o 7 (.bin .add 0 (tv 6) (ki 1)),
 o 8 (.slS (.k (.sc (.c (.str [48, 49, 50, 51, 52, 53, 54, 55, 56, 57, 97, 98, 99, 100, 101, 102, 103, 104, 105, 106, 107, 108, 109, 110, 111, 112, 113, 114, 115, 116, 117, 118, 119, 120, 121, 122])))) (some (tv 5)) (some (tv 7))),
 o 2 (.mv (tv 8))] [] [2])
 .ret)
 .skip))
 (.seq (.region [] [o 9 (.mv (tv 0)),
 o 10 (.bin .mul 0 (tv 9) (ki 2)),
 o 11 (.mv (tv 0)),
 o 12 (.bin .mul 0 (tv 11) (ki 2)),
 o 13 (.bin .add 0 (tv 12) (ki 2)),
 o 14 (.slS (.k (.sc (.c (.str [48, 48, 48, 49, 48, 50, 48, 51, 48, 52, 48, 53, 48, 54, 48, 55, 48, 56, 48, 57, 49, 48, 49, 49, 49, 50, 49, 51, 49, 52, 49, 53, 49, 54, 49, 55, 49, 56, 49, 57, 50, 48, 50, 49, 50, 50, 50, 51, 50, 52, 50, 53, 50, 54, 50, 55, 50, 56, 50, 57, 51, 48, 51, 49, 51, 50, 51, 51, 51, 52, 51, 53, 51, 54, 51, 55, 51, 56, 51, 57, 52, 48, 52, 49, 52, 50, 52, 51, 52, 52, 52, 53, 52, 54, 52, 55, 52, 56, 52, 57, 53, 48, 53, 49, 53, 50, 53, 51, 53, 52, 53, 53, 53, 54, 53, 55, 53, 56, 53, 57, 54, 48, 54, 49, 54, 50, 54, 51, 54, 52, 54, 53, 54, 54, 54, 55, 54, 56, 54, 57, 55, 48, 55, 49, 55, 50, 55, 51, 55, 52, 55, 53, 55, 54, 55, 55, 55, 56, 55, 57, 56, 48, 56, 49, 56, 50, 56, 51, 56, 52, 56, 53, 56, 54, 56, 55, 56, 56, 56, 57, 57, 48, 57, 49, 57, 50, 57, 51, 57, 52, 57, 53, 57, 54, 57, 55, 57, 56, 57, 57])))) (some (tv 10)) (some (tv 13))),
 o 2 (.mv (tv 14))] [] [2])
 .ret))),
 [.tmp 2], false⟩

set_option maxRecDepth 100000 in
theorem m6 : mFun Go.Proofs.Tryz.prog 6 v6 = true := by kernel_rfl
set_option maxRecDepth 100000 in
theorem m133 : mFun Go.Proofs.Tryz.prog 133 v133 = true := by kernel_rfl
set_option maxRecDepth 100000 in
theorem m144 : mFun Go.Proofs.Tryz.prog 144 v144 = true := by kernel_rfl
set_option maxRecDepth 100000 in
theorem m95 : mFun Go.Proofs.Tryz.prog 95 v95 = true := by kernel_rfl
set_option maxRecDepth 100000 in
theorem m140 : mFun Go.Proofs.Tryz.prog 140 v140 = true := by kernel_rfl
set_option maxRecDepth 100000 in
theorem m19 : mFun Go.Proofs.Tryz.prog 19 v19 = true := by kernel_rfl
set_option maxRecDepth 100000 in
theorem m27 : mFun Go.Proofs.Tryz.prog 27 v27 = true := by kernel_rfl
set_option maxRecDepth 100000 in
theorem m26 : mFun Go.Proofs.Tryz.prog 26 v26 = true := by kernel_rfl
set_option maxRecDepth 100000 in
theorem m28 : mFun Go.Proofs.Tryz.prog 28 v28 = true := by kernel_rfl
set_option maxRecDepth 100000 in
theorem m29 : mFun Go.Proofs.Tryz.prog 29 v29 = true := by kernel_rfl
set_option maxRecDepth 100000 in
theorem m67 : mFun Go.Proofs.Tryz.prog 67 v67 = true := by kernel_rfl
set_option maxRecDepth 100000 in
theorem m31 : mFun Go.Proofs.Tryz.prog 31 v31 = true := by kernel_rfl
set_option maxRecDepth 100000 in
theorem m24 : mFun Go.Proofs.Tryz.prog 24 v24 = true := by kernel_rfl
set_option maxRecDepth 100000 in
theorem m35 : mFun Go.Proofs.Tryz.prog 35 v35 = true := by kernel_rfl
set_option maxRecDepth 100000 in
theorem m30 : mFun Go.Proofs.Tryz.prog 30 v30 = true := by kernel_rfl
set_option maxRecDepth 100000 in
theorem m68 : mFun Go.Proofs.Tryz.prog 68 v68 = true := by kernel_rfl
set_option maxRecDepth 100000 in
theorem m73 : mFun Go.Proofs.Tryz.prog 73 v73 = true := by kernel_rfl
set_option maxRecDepth 100000 in
theorem m74 : mFun Go.Proofs.Tryz.prog 74 v74 = true := by kernel_rfl
set_option maxRecDepth 100000 in
theorem m75 : mFun Go.Proofs.Tryz.prog 75 v75 = true := by kernel_rfl
set_option maxRecDepth 100000 in
theorem m76 : mFun Go.Proofs.Tryz.prog 76 v76 = true := by kernel_rfl
set_option maxRecDepth 100000 in
theorem m77 : mFun Go.Proofs.Tryz.prog 77 v77 = true := by kernel_rfl
set_option maxRecDepth 100000 in
theorem m78 : mFun Go.Proofs.Tryz.prog 78 v78 = true := by kernel_rfl
set_option maxRecDepth 100000 in
theorem m127 : mFun Go.Proofs.Tryz.prog 127 v127 = true := by kernel_rfl
set_option maxRecDepth 100000 in
theorem m82 : mFun Go.Proofs.Tryz.prog 82 v82 = true := by kernel_rfl
set_option maxRecDepth 100000 in
theorem m72 : mFun Go.Proofs.Tryz.prog 72 v72 = true := by kernel_rfl
set_option maxRecDepth 100000 in
theorem m84 : mFun Go.Proofs.Tryz.prog 84 v84 = true := by kernel_rfl
set_option maxRecDepth 100000 in
theorem m69 : mFun Go.Proofs.Tryz.prog 69 v69 = true := by kernel_rfl
set_option maxRecDepth 100000 in
theorem m86 : mFun Go.Proofs.Tryz.prog 86 v86 = true := by kernel_rfl
set_option maxRecDepth 100000 in
theorem m79 : mFun Go.Proofs.Tryz.prog 79 v79 = true := by kernel_rfl
set_option maxRecDepth 100000 in
theorem m80 : mFun Go.Proofs.Tryz.prog 80 v80 = true := by kernel_rfl
set_option maxRecDepth 100000 in
theorem m81 : mFun Go.Proofs.Tryz.prog 81 v81 = true := by kernel_rfl
set_option maxRecDepth 100000 in
theorem m134 : mFun Go.Proofs.Tryz.prog 134 v134 = true := by kernel_rfl
set_option maxRecDepth 100000 in
theorem m135 : mFun Go.Proofs.Tryz.prog 135 v135 = true := by kernel_rfl
set_option maxRecDepth 100000 in
theorem m136 : mFun Go.Proofs.Tryz.prog 136 v136 = true := by kernel_rfl
set_option maxRecDepth 100000 in
theorem m137 : mFun Go.Proofs.Tryz.prog 137 v137 = true := by kernel_rfl
set_option maxRecDepth 100000 in
theorem m139 : mFun Go.Proofs.Tryz.prog 139 v139 = true := by kernel_rfl
set_option maxRecDepth 100000 in
theorem m138 : mFun Go.Proofs.Tryz.prog 138 v138 = true := by kernel_rfl
set_option maxRecDepth 100000 in
theorem m167 : mFun Go.Proofs.Tryz.prog 167 v167 = true := by kernel_rfl
set_option maxRecDepth 100000 in
theorem m168 : mFun Go.Proofs.Tryz.prog 168 v168 = true := by kernel_rfl
set_option maxRecDepth 100000 in
theorem m169 : mFun Go.Proofs.Tryz.prog 169 v169 = true := by kernel_rfl
set_option maxRecDepth 100000 in
theorem m171 : mFun Go.Proofs.Tryz.prog 171 v171 = true := by kernel_rfl
set_option maxRecDepth 100000 in
theorem m172 : mFun Go.Proofs.Tryz.prog 172 v172 = true := by kernel_rfl
set_option maxRecDepth 100000 in
theorem m143 : mFun Go.Proofs.Tryz.prog 143 v143 = true := by kernel_rfl
set_option maxRecDepth 100000 in
theorem m146 : mFun Go.Proofs.Tryz.prog 146 v146 = true := by kernel_rfl
set_option maxRecDepth 100000 in
theorem m130 : mFun Go.Proofs.Tryz.prog 130 v130 = true := by kernel_rfl
set_option maxRecDepth 100000 in
theorem m132 : mFun Go.Proofs.Tryz.prog 132 v132 = true := by kernel_rfl
set_option maxRecDepth 100000 in
theorem m131 : mFun Go.Proofs.Tryz.prog 131 v131 = true := by kernel_rfl
set_option maxRecDepth 100000 in
theorem m147 : mFun Go.Proofs.Tryz.prog 147 v147 = true := by kernel_rfl
set_option maxRecDepth 100000 in
theorem m141 : mFun Go.Proofs.Tryz.prog 141 v141 = true := by kernel_rfl
set_option maxRecDepth 100000 in
theorem m142 : mFun Go.Proofs.Tryz.prog 142 v142 = true := by kernel_rfl
set_option maxRecDepth 100000 in
theorem m107 : mFun Go.Proofs.Tryz.prog 107 v107 = true := by kernel_rfl
set_option maxRecDepth 100000 in
theorem m181 : mFun Go.Proofs.Tryz.prog 181 v181 = true := by kernel_rfl
set_option maxRecDepth 100000 in
theorem m182 : mFun Go.Proofs.Tryz.prog 182 v182 = true := by kernel_rfl
set_option maxRecDepth 100000 in
theorem m184 : mFun Go.Proofs.Tryz.prog 184 v184 = true := by kernel_rfl
set_option maxRecDepth 100000 in
theorem m185 : mFun Go.Proofs.Tryz.prog 185 v185 = true := by kernel_rfl
set_option maxRecDepth 100000 in
theorem m188 : mFun Go.Proofs.Tryz.prog 188 v188 = true := by kernel_rfl

end Go.Vs.Tryz
