/- Functions of the program in the language of the value semantics, part 2 (printed by a program of mine), and that they match. (Parts of one proof, put together.) -/
import Derived.Test.YtlcncicmkkelcaaGreatDoorM3
import Derived.Test.YtlcncicmkkelcaaGreatDoorProg
import Derived.KernelRfl
set_option linter.unusedSimpArgs false
set_option linter.unusedVariables false
set_option linter.deprecated false

/- Functions of the program in the language of the value semantics, part 2 (printed by a program of mine), and that they match. -/
namespace Go.Vs.Tryz
open Go Go.Vs

def v171 : VFun := ⟨1,
 (.seq (.region [] [oa 1 (.box (tv 0)) 64,
 o 2 (.mv kF)] [] [1])
 (.seq (.region [] [o 3 (.load true 11 (tv 1)),
 oa 4 (.call (kf 226) [(false, (tv 3))] []) 256,
 o 5 (.bin .gtr 0 (tv 4) (ki 40)),
 o 6 (.mv (tv 5)),
 og 7 (.load true 11 (tv 1)) 6 false,
 ⟨(some 8), (.call (kf 227) [(false, (tv 7))] []), (some (6, false)), 512, []⟩,
 o 9 (.pick (tv 6) kt (tv 8)),
 o 2 (.mv (tv 9))] [] [2])
 .ret)),
 [.tmp 2], false⟩

def l172_0 : VCode := (.seq (.seq (.region [] [o 9 (.mv (tv 4)),
 o 10 (.fld 5 (tv 1)),
 o 11 (.load false 1 (tv 10)),
 o 12 (.len false (tv 11)),
 o 13 (.bin .lss 0 (tv 9) (tv 12))] [] [1, 4, 13])
 (.cond (tv 13) .skip
 (.exit 0)))
 (.seq (.block 1 (.seq (.region [] [o 16 (.fld 5 (tv 1)),
 o 17 (.load false 1 (tv 16)),
 o 18 (.mv (tv 4)),
 o 19 (.idxA 14 (tv 17) (tv 18)),
 o 20 (.fld 2 (tv 19)),
 o 21 (.load false 1 (tv 20)),
 o 22 (.len false (tv 21)),
 o 23 (.bin .gtr 0 (tv 22) (ki 4))] [] [1, 4, 23])
 (.cond (tv 23) (.seq (.region [] [o 24 (.fld 5 (tv 1)),
 o 25 (.load false 1 (tv 24)),
 o 26 (.mv (tv 4)),
 o 27 (.idxA 14 (tv 25) (tv 26)),
 o 28 (.fld 0 (tv 27)),
 o 29 (.load false 1 (tv 28)),
 o 2 (.mv (tv 29)),
 o 3 (.mv kt)] [] [2, 3])
 .ret)
 .skip)))
 (.region [] [o 14 (.mv (tv 4)),
 o 15 (.bin .add 0 (tv 14) (ki 1)),
 o 4 (.mv (tv 15))] [] [1, 4])))

def l172_1 : VCode := (.seq (.seq (.region [] [o 32 (.mv (tv 6)),
 o 33 (.mv (tv 5)),
 o 34 (.len false (tv 33)),
 o 35 (.bin .lss 0 (tv 32) (tv 34))] [] [5, 6, 35])
 (.cond (tv 35) .skip
 (.exit 2)))
 (.seq (.block 3 (.seq (.region [] [o 39 (.mv (tv 5)),
 o 40 (.mv (tv 6)),
 o 41 (.idxA 11 (tv 39) (tv 40)),
 o 42 (.load true 11 (tv 41)),
 oa 43 (.call (kf 172) [(false, (tv 42))] []) 2624,
 o 38 (.mv (tv 43)),
 o 44 (.ext 0 (tv 38)),
 o 45 (.ext 1 (tv 38)),
 o 7 (.mv (tv 44)),
 o 8 (.mv (tv 45))] [] [5, 6, 7, 8])
 (.seq (.region [] [o 46 (.mv (tv 8))] [] [5, 6, 7, 46])
 (.cond (tv 46) (.seq (.region [] [o 47 (.mv (tv 7)),
 o 2 (.mv (tv 47)),
 o 3 (.mv kt)] [] [2, 3])
 .ret)
 .skip))))
 (.region [] [o 36 (.mv (tv 6)),
 o 37 (.bin .add 0 (tv 36) (ki 1)),
 o 6 (.mv (tv 37))] [] [5, 6])))

def v172 : VFun := ⟨1,
 (.seq (.region [] [oa 1 (.box (tv 0)) 64,
 o 2 (.mv (ki 0)),
 o 3 (.mv kF)] [] [1])
 (.seq (.seq (.region [] [o 4 (.mv (ki 0))] [] [1, 4])
 (.block 0 (.loop l172_0)))
 (.seq (.region [] [o 30 (.load true 11 (tv 1)),
 oa 31 (.call (kf 69) [(false, (tv 30))] []) 1920,
 o 5 (.mv (tv 31))] [] [5])
 (.seq (.seq (.region [64] [o 6 (.mv (ki 0))] [] [5, 6])
 (.block 2 (.loop l172_1)))
 (.seq (.region [] [o 2 (.mv (ki 0)),
 o 3 (.mv kF)] [] [2, 3])
 .ret))))),
 [.tmp 2, .tmp 3], false⟩

def l143_0 : VCode := (.seq (.seq (.region [] [o 48 (.mv (tv 8)),
 o 49 (.mv (tv 5)),
 o 50 (.len false (tv 49)),
 o 51 (.bin .lss 0 (tv 48) (tv 50))] [] [3, 4, 5, 7, 8, 51])
 (.cond (tv 51) .skip
 (.exit 0)))
 (.seq (.block 1 (.region [] [o 54 (.mv (tv 5)),
 o 55 (.mv (tv 8)),
 o 56 (.mv (tv 5)),
 o 57 (.mv (tv 8)),
 o 58 (.idxA 11 (tv 56) (tv 57)),
 o 59 (.load true 11 (tv 58)),
 o 60 (.fld 2 (tv 3)),
 o 61 (.load false 1 (tv 60)),
 o 62 (.mv (tv 7)),
 oa 63 (.call (kf 209) [(false, (tv 59)), (false, (tv 61)), (false, (tv 62))] []) 3968,
 o 64 (.idxA 11 (tv 54) (tv 55)),
 on (.store 11 (tv 64) (tv 63) [])] [(4, 6), (5, 6), (4, 7), (5, 7)] [3, 4, 5, 7, 8]))
 (.region [] [o 52 (.mv (tv 8)),
 o 53 (.bin .add 0 (tv 52) (ki 1)),
 o 8 (.mv (tv 53))] [] [3, 4, 5, 7, 8])))

def v143 : VFun := ⟨2,
 (.seq (.region [] [oa 2 (.box (tv 0)) 64,
 oa 3 (.box (tv 1)) 128,
 oa 4 (.new [zi, zi, zs, zi, .nil, .nil, zi, zs, zi, zi, .nil] []) 192] [] [2, 3, 4])
 (.seq (.region [] [o 9 (.fld 4 (tv 3)),
 o 10 (.load false 1 (tv 9)),
 oa 11 (.call (kf 140) [(false, (tv 10))] []) 384,
 o 5 (.mv (tv 11))] [] [2, 3, 4, 5])
 (.seq (.region [] [o 6 (.mv (ki 0))] [] [2, 3, 4, 5, 6])
 (.seq (.seq (.region [] [o 12 (.fld 0 (tv 3)),
 o 13 (.load false 1 (tv 12)),
 o 14 (.bin .eql 0 (tv 13) (ki 6))] [] [2, 3, 4, 5, 6, 14])
 (.cond (tv 14) (.region [] [o 6 (.mv (ki 1))] [] [2, 3, 4, 5, 6])
 .skip))
 (.seq (.seq (.region [] [o 15 (.fld 2 (tv 3)),
 o 16 (.load false 1 (tv 15)),
 o 17 (.fld 0 (tv 2)),
 o 18 (.load false 1 (tv 17)),
 o 19 (.bin .eql 0 (tv 16) (tv 18)),
 o 20 (.mv (tv 19)),
 og 21 (.mv (tv 6)) 20 false,
 og 22 (.mv (tv 5)) 20 false,
 og 23 (.len false (tv 22)) 20 false,
 og 24 (.bin .geq 0 (tv 21) (tv 23)) 20 false,
 o 25 (.pick (tv 20) kt (tv 24)),
 o 26 (.mv (tv 25)),
 og 27 (.load true 13 (tv 2)) 26 false,
 og 28 (.fld 2 (tv 3)) 26 false,
 og 29 (.load false 1 (tv 28)) 26 false,
 og 30 (.mv (tv 5)) 26 false,
 og 31 (.mv (tv 6)) 26 false,
 og 32 (.sl 11 (tv 30) (some (tv 31)) none none) 26 false,
 ⟨(some 33), (.call (kf 206) [(false, (tv 27)), (false, (tv 29)), (false, (tv 32))] []), (some (26, false)), 1984, []⟩,
 og 34 (.un .not (tv 33)) 26 false,
 o 35 (.pick (tv 26) kt (tv 34))] [(0, 2), (1, 2), (0, 3), (1, 3), (12, 13), (12, 14), (12, 17), (13, 17), (14, 17)] [2, 3, 4, 5, 6, 35])
 (.cond (tv 35) (.seq (.region [] [o 36 (.load true 11 (tv 3)),
 on (.store 11 (tv 4) (tv 36) [])] [] [4])
 .ret)
 .skip))
 (.seq (.region [] [o 37 (.load true 11 (tv 3)),
 oa 38 (.call (kf 208) [(false, (tv 37))] []) 2368,
 o 39 (.fld 12 (tv 2)),
 o 40 (.load false 1 (tv 39)),
 o 41 (.app 1 16 false (tv 38) (tv 40)),
 o 42 (.fld 0 (tv 2)),
 o 43 (.load false 1 (tv 42)),
 oa 44 (.mkSl 1 [(tv 43)]) 2752,
 o 45 (.app 1 16 false (tv 41) (tv 44)),
 oa 46 (.call (kf 207) [(false, (tv 45))] []) 2880,
 o 7 (.mv (tv 46))] [(0, 2), (1, 2), (0, 3), (1, 3), (0, 5), (1, 5), (2, 5), (3, 5), (4, 5), (0, 6), (1, 6), (2, 6), (3, 6), (4, 6), (0, 7), (1, 7), (2, 7), (3, 7), (4, 7)] [3, 4, 5, 6, 7])
 (.seq (.seq (.region [64, 2752] [o 47 (.mv (tv 6)),
 o 8 (.mv (tv 47))] [] [3, 4, 5, 7, 8])
 (.block 0 (.loop l143_0)))
 (.seq (.region [] [o 65 (.mv (tv 7)),
 o 66 (.mv (tv 5)),
 o 67 (.fld 2 (tv 3)),
 on (.store 1 (tv 67) (tv 65) []),
 o 68 (.fld 4 (tv 3)),
 on (.store 1 (tv 68) (tv 66) [])] [] [3, 4])
 (.seq (.region [] [o 69 (.load true 11 (tv 3)),
 on (.store 11 (tv 4) (tv 69) [])] [] [4])
 .ret))))))))),
 [.cell 4 true 11], false⟩

def l146_0 : VCode := (.seq (.region [] [o 37 (.bin .lss 0 (tv 36) (tv 35))] [] [1, 2, 4, 5, 6, 7, 35, 36, 37])
 (.seq (.cond (tv 37) .skip
 (.exit 0))
 (.seq (.block 1 (.seq (.region [] [o 38 (.mv (tv 36)),
 o 8 (.mv (tv 38))] [] [1, 2, 4, 5, 6, 7, 8, 35, 36])
 (.region [] [o 39 (.mv (tv 7)),
 o 40 (.mv (tv 8)),
 o 41 (.mv (tv 1)),
 o 42 (.mv (tv 5)),
 o 43 (.mv (tv 8)),
 o 44 (.bin .add 0 (tv 42) (tv 43)),
 o 45 (.idxA 11 (tv 41) (tv 44)),
 o 46 (.load true 11 (tv 45)),
 o 47 (.idxA 14 (tv 39) (tv 40)),
 o 48 (.fld 3 (tv 47)),
 on (.store 11 (tv 48) (tv 46) [])] [] [1, 2, 4, 5, 6, 7, 35, 36])))
 (.region [] [o 49 (.bin .add 0 (tv 36) (ki 1)),
 o 36 (.mv (tv 49))] [] [1, 2, 4, 5, 6, 7, 35, 36]))))

def v146 : VFun := ⟨2,
 (.seq (.region [] [oa 2 (.box (tv 0)) 64,
 oa 4 (.new [zi, zi, zs, zi, .nil, .nil, zi, zs, zi, zi, .nil] []) 128] [] [1, 2, 4])
 (.seq (.region [] [o 9 (.fld 4 (tv 2)),
 o 10 (.load false 1 (tv 9)),
 o 11 (.len false (tv 10)),
 o 5 (.mv (tv 11))] [] [1, 2, 4, 5])
 (.seq (.seq (.region [] [o 12 (.mv (tv 1)),
 o 13 (.len false (tv 12)),
 o 14 (.mv (tv 5)),
 o 15 (.fld 5 (tv 2)),
 o 16 (.load false 1 (tv 15)),
 o 17 (.len false (tv 16)),
 o 18 (.bin .add 0 (tv 14) (tv 17)),
 o 19 (.bin .neq 0 (tv 13) (tv 18))] [] [1, 2, 4, 5, 19])
 (.cond (tv 19) (.seq (.region [] [o 20 (.load true 11 (tv 2)),
 on (.store 11 (tv 4) (tv 20) [])] [] [4])
 .ret)
 .skip))
 (.seq (.region [] [o 21 (.mv (tv 5)),
 oa 22 (.mkS 11 152 [zi, zi, zs, zi, .nil, .nil, zi, zs, zi, zi, .nil] (tv 21)) 1152,
 o 23 (.fld 5 (tv 2)),
 o 24 (.load false 1 (tv 23)),
 o 25 (.len false (tv 24)),
 oa 26 (.mkS 14 200 [zi, zs, .nil, zi, zi, zs, zi, .nil, .nil, zi, zs, zi, zi, .nil] (tv 25)) 1408,
 o 6 (.mv (tv 22)),
 o 7 (.mv (tv 26))] [(1, 2), (1, 3), (1, 4), (1, 5)] [1, 2, 4, 5, 6, 7])
 (.seq (.region [] [o 27 (.mv (tv 6)),
 o 28 (.mv (tv 1)),
 o 29 (.cp 11 (tv 27) (tv 28))] [] [1, 2, 4, 5, 6, 7])
 (.seq (.region [] [o 30 (.mv (tv 7)),
 o 31 (.fld 5 (tv 2)),
 o 32 (.load false 1 (tv 31)),
 o 33 (.cp 14 (tv 30) (tv 32))] [] [1, 2, 4, 5, 6, 7])
 (.seq (.seq (.region [] [o 34 (.mv (tv 7)),
 o 35 (.len false (tv 34)),
 o 36 (.mv (ki 0))] [] [1, 2, 4, 5, 6, 7, 35, 36])
 (.block 0 (.loop l146_0)))
 (.seq (.region [] [o 50 (.mv (tv 6)),
 o 51 (.mv (tv 7)),
 o 52 (.fld 4 (tv 2)),
 on (.store 1 (tv 52) (tv 50) []),
 o 53 (.fld 5 (tv 2)),
 on (.store 1 (tv 53) (tv 51) [])] [] [2, 4])
 (.seq (.region [] [o 54 (.load true 11 (tv 2)),
 on (.store 11 (tv 4) (tv 54) [])] [] [4])
 .ret))))))))),
 [.cell 4 true 11], true⟩

def l147_0 : VCode := (.seq (.seq (.region [] [o 11 (.mv (tv 5)),
 o 12 (.mv (tv 0)),
 o 13 (.len false (tv 12)),
 o 14 (.bin .lss 0 (tv 11) (tv 13))] [] [0, 1, 5, 14])
 (.cond (tv 14) .skip
 (.exit 0)))
 (.seq (.block 1 (.seq (.region [] [o 17 (.mv (tv 0)),
 o 18 (.mv (tv 5)),
 o 19 (.idxA 5 (tv 17) (tv 18)),
 o 20 (.load true 5 (tv 19)),
 o 21 (.mv (tv 1)),
 o 22 (.mv (tv 5)),
 o 23 (.idxA 5 (tv 21) (tv 22)),
 o 24 (.load true 5 (tv 23)),
 oa 25 (.call (kf 84) [(false, (tv 20)), (false, (tv 24))] []) 1344,
 o 26 (.un .not (tv 25))] [(2, 6), (3, 6), (2, 7), (3, 7)] [0, 1, 5, 26])
 (.cond (tv 26) (.seq (.region [] [o 4 (.mv kF)] [] [4])
 .ret)
 .skip)))
 (.region [] [o 15 (.mv (tv 5)),
 o 16 (.bin .add 0 (tv 15) (ki 1)),
 o 5 (.mv (tv 16))] [] [0, 1, 5])))

def v147 : VFun := ⟨2,
 (.seq (.region [] [o 4 (.mv kF)] [] [0, 1])
 (.seq (.seq (.region [] [o 6 (.mv (tv 0)),
 o 7 (.len false (tv 6)),
 o 8 (.mv (tv 1)),
 o 9 (.len false (tv 8)),
 o 10 (.bin .neq 0 (tv 7) (tv 9))] [] [0, 1, 10])
 (.cond (tv 10) (.seq (.region [] [o 4 (.mv kF)] [] [4])
 .ret)
 .skip))
 (.seq (.seq (.region [] [o 5 (.mv (ki 0))] [] [0, 1, 5])
 (.block 0 (.loop l147_0)))
 (.seq (.region [] [o 4 (.mv kt)] [] [4])
 .ret)))),
 [.tmp 4], false⟩

def l141_0 : VCode := (.seq (.region [] [o 12 (.bin .lss 0 (tv 11) (tv 10))] [] [2, 4, 9, 10, 11, 12])
 (.seq (.cond (tv 12) .skip
 (.exit 0))
 (.seq (.block 1 (.seq (.region [] [o 13 (.idxA 1 (tv 9) (tv 11)),
 o 14 (.load false 1 (tv 13)),
 o 7 (.mv (tv 14))] [] [2, 4, 7, 9, 10, 11])
 (.seq (.region [] [o 15 (.load true 11 (tv 2)),
 oa 16 (.call (kf 79) [(false, (tv 15))] []) 768,
 o 8 (.mv (tv 16))] [] [2, 4, 7, 8, 9, 10, 11])
 (.seq (.seq (.region [] [o 17 (.mv (tv 7)),
 o 18 (.bin .lss 0 (tv 17) (ki 0)),
 o 19 (.mv (tv 18)),
 og 20 (.mv (tv 7)) 19 false,
 og 21 (.mv (tv 8)) 19 false,
 og 22 (.len false (tv 21)) 19 false,
 og 23 (.bin .geq 0 (tv 20) (tv 22)) 19 false,
 o 24 (.pick (tv 19) kt (tv 23))] [] [2, 4, 7, 8, 9, 10, 11, 24])
 (.cond (tv 24) (.seq (.region [] [o 25 (.build [zi, zi, zs, zi, .nil, .nil, zi, zs, zi, zi, .nil] []),
 on (.store 11 (tv 4) (tv 25) []),
 o 5 (.mv kF)] [] [4, 5])
 .ret)
 .skip))
 (.region [] [o 26 (.mv (tv 8)),
 o 27 (.mv (tv 7)),
 o 28 (.idxA 11 (tv 26) (tv 27)),
 o 29 (.load true 11 (tv 28)),
 on (.store 11 (tv 2) (tv 29) [])] [] [2, 4, 9, 10, 11])))))
 (.region [800, 801, 802] [o 30 (.bin .add 0 (tv 11) (ki 1)),
 o 11 (.mv (tv 30))] [] [2, 4, 9, 10, 11]))))

def v141 : VFun := ⟨2,
 (.seq (.region [] [oa 2 (.box (tv 0)) 64,
 oa 4 (.new [zi, zi, zs, zi, .nil, .nil, zi, zs, zi, zi, .nil] []) 128,
 o 5 (.mv kF)] [] [1, 2, 4])
 (.seq (.seq (.region [] [o 9 (.mv (tv 1)),
 o 10 (.len false (tv 9)),
 o 11 (.mv (ki 0))] [] [2, 4, 9, 10, 11])
 (.block 0 (.loop l141_0)))
 (.seq (.region [] [o 31 (.load true 11 (tv 2)),
 on (.store 11 (tv 4) (tv 31) []),
 o 5 (.mv kt)] [] [4, 5])
 .ret))),
 [.cell 4 true 11, .tmp 5], false⟩

def l142_0 : VCode := (.seq (.region [] [o 31 (.bin .lss 0 (tv 30) (tv 29))] [] [2, 7, 9, 20, 21, 22, 28, 29, 30, 31])
 (.seq (.cond (tv 31) .skip
 (.exit 2))
 (.seq (.block 3 (.seq (.region [] [o 32 (.idxA 1 (tv 28) (tv 30)),
 o 33 (.load false 1 (tv 32)),
 oa 11 (.new [zs] []) 1984,
 on (.store 1 (tv 11) (tv 33) [])] [] [2, 7, 9, 11, 20, 21, 22, 28, 29, 30])
 (.seq (.region [] [o 34 (.mv (tv 7)),
 o 35 (.fn 205 [(tv 11)]),
 oa 36 (.call (kf 204) [(true, (tv 34)), (true, (tv 35))] []) 2240,
 o 7 (.mv (tv 36))] [] [2, 7, 9, 11, 20, 21, 22, 28, 29, 30])
 (.region [] [o 37 (.mv (tv 7)),
 o 38 (.load false 1 (tv 11)),
 oa 39 (.mkSl 1 [(tv 38)]) 2496,
 o 40 (.app 1 16 false (tv 37) (tv 39)),
 o 7 (.mv (tv 40))] [] [2, 7, 9, 20, 21, 22, 28, 29, 30]))))
 (.region [1984, 2272, 2273, 2274, 2496] [o 41 (.bin .add 0 (tv 30) (ki 1)),
 o 30 (.mv (tv 41))] [] [2, 7, 9, 20, 21, 22, 28, 29, 30]))))

def l142_1 : VCode := (.seq (.region [] [o 23 (.bin .lss 0 (tv 22) (tv 21))] [] [2, 7, 20, 21, 22, 23])
 (.seq (.cond (tv 23) .skip
 (.exit 0))
 (.seq (.block 1 (.seq (.region [] [o 24 (.idxA 1 (tv 20) (tv 22)),
 o 25 (.load false 1 (tv 24)),
 o 9 (.mv (tv 25))] [] [2, 7, 9, 20, 21, 22])
 (.seq (.seq (.region [] [o 26 (.load true 11 (tv 2)),
 o 27 (.mv (tv 9)),
 oa 28 (.call (kf 203) [(false, (tv 26)), (false, (tv 27))] []) 1600,
 o 29 (.len false (tv 28)),
 o 30 (.mv (ki 0))] [] [2, 7, 9, 20, 21, 22, 28, 29, 30])
 (.block 2 (.loop l142_0)))
 (.region [] [o 42 (.load true 11 (tv 2)),
 oa 43 (.call (kf 79) [(false, (tv 42))] []) 2880,
 o 44 (.mv (tv 9)),
 o 45 (.idxA 11 (tv 43) (tv 44)),
 o 46 (.load true 11 (tv 45)),
 on (.store 11 (tv 2) (tv 46) [])] [] [2, 7, 20, 21, 22]))))
 (.region [2912, 2913, 2914] [o 47 (.bin .add 0 (tv 22) (ki 1)),
 o 22 (.mv (tv 47))] [] [2, 7, 20, 21, 22]))))

def v142 : VFun := ⟨2,
 (.seq (.region [] [oa 2 (.box (tv 0)) 64,
 o 4 (.mv kn)] [] [1, 2])
 (.seq (.seq (.region [] [o 13 (.load true 11 (tv 2)),
 o 14 (.mv (tv 1)),
 oa 15 (.call (kf 141) [(false, (tv 13)), (false, (tv 14))] []) 320,
 o 12 (.mv (tv 15)),
 o 16 (.ext 0 (tv 12)),
 o 17 (.ext 1 (tv 12)),
 oa 5 (.new [zi, zi, zs, zi, .nil, .nil, zi, zs, zi, zi, .nil] []) 576,
 on (.store 11 (tv 5) (tv 16) []),
 o 6 (.mv (tv 17))] [] [1, 2, 6])
 (.seq (.region [576] [o 18 (.mv (tv 6)),
 o 19 (.un .not (tv 18))] [] [1, 2, 19])
 (.cond (tv 19) (.seq (.region [] [o 4 (.mv kn)] [] [4])
 .ret)
 .skip)))
 (.seq (.region [] [⟨(some 7), (.mv kn), none, 960, [(0, 1)]⟩] [] [1, 2, 7])
 (.seq (.seq (.region [] [o 20 (.mv (tv 1)),
 o 21 (.len false (tv 20)),
 o 22 (.mv (ki 0))] [] [2, 7, 20, 21, 22])
 (.block 0 (.loop l142_1)))
 (.seq (.region [] [o 48 (.mv (tv 7)),
 o 4 (.mv (tv 48))] [] [4])
 .ret))))),
 [.tmp 4], false⟩

def l107_0 : VCode := (.seq (.region [] [o 9 (.bin .lss 0 (tv 8) (tv 7))] [] [0, 1, 7, 8, 9])
 (.seq (.cond (tv 9) .skip
 (.exit 0))
 (.seq (.block 1 (.seq (.region [] [o 10 (.mv (tv 8)),
 o 5 (.mv (tv 10))] [] [0, 1, 5, 7, 8])
 (.seq (.region [] [o 11 (.mv (tv 1)),
 o 12 (.mv (tv 0)),
 o 13 (.mv (tv 5)),
 o 14 (.idxA 1 (tv 12) (tv 13)),
 o 15 (.load false 1 (tv 14)),
 o 16 (.bin .eql 0 (tv 11) (tv 15))] [] [0, 1, 5, 7, 8, 16])
 (.cond (tv 16) (.seq (.region [] [o 17 (.mv (tv 5)),
 o 4 (.mv (tv 17))] [] [4])
 .ret)
 .skip))))
 (.region [] [o 18 (.bin .add 0 (tv 8) (ki 1)),
 o 8 (.mv (tv 18))] [] [0, 1, 7, 8]))))

def v107 : VFun := ⟨2,
 (.seq (.region [] [o 4 (.mv (ki 0))] [] [0, 1])
 (.seq (.seq (.region [] [o 6 (.mv (tv 0)),
 o 7 (.len false (tv 6)),
 o 8 (.mv (ki 0))] [] [0, 1, 7, 8])
 (.block 0 (.loop l107_0)))
 (.seq (.region [] [o 4 (.mv (ki (-1)))] [] [4])
 .ret))),
 [.tmp 4], false⟩

def v173 : VFun := ⟨2,
 (.seq (.region [] [o 4 (.mv kF)] [] [0, 1])
 (.seq (.region [] [o 5 (.mv (tv 0)),
 o 6 (.nn (tv 5)),
 o 7 (.fld 2 (tv 6)),
 o 8 (.load false 1 (tv 7)),
 o 9 (.un .not (tv 8)),
 o 10 (.mv (tv 9)),
 og 11 (.mv (tv 0)) 10 true,
 og 12 (.nn (tv 11)) 10 true,
 og 13 (.fld 1 (tv 12)) 10 true,
 og 14 (.load false 1 (tv 13)) 10 true,
 og 15 (.mv (tv 0)) 10 true,
 og 16 (.nn (tv 15)) 10 true,
 og 17 (.fld 0 (tv 16)) 10 true,
 og 18 (.load false 1 (tv 17)) 10 true,
 og 19 (.len false (tv 18)) 10 true,
 og 20 (.bin .lss 0 (tv 14) (tv 19)) 10 true,
 o 21 (.pick (tv 10) (tv 20) kF),
 o 22 (.mv (tv 21)),
 og 23 (.mv (tv 0)) 22 true,
 og 24 (.nn (tv 23)) 22 true,
 og 25 (.fld 0 (tv 24)) 22 true,
 og 26 (.load false 1 (tv 25)) 22 true,
 og 27 (.mv (tv 0)) 22 true,
 og 28 (.nn (tv 27)) 22 true,
 og 29 (.fld 1 (tv 28)) 22 true,
 og 30 (.load false 1 (tv 29)) 22 true,
 og 31 (.idxA 3 (tv 26) (tv 30)) 22 true,
 og 32 (.fld 0 (tv 31)) 22 true,
 og 33 (.load false 1 (tv 32)) 22 true,
 og 34 (.bin .eql 0 (tv 33) (ki 5)) 22 true,
 og 35 (.mv (tv 34)) 22 true,
 og 36 (.mv (tv 0)) 35 false,
 og 37 (.nn (tv 36)) 35 false,
 og 38 (.fld 0 (tv 37)) 35 false,
 og 39 (.load false 1 (tv 38)) 35 false,
 og 40 (.mv (tv 0)) 35 false,
 og 41 (.nn (tv 40)) 35 false,
 og 42 (.fld 1 (tv 41)) 35 false,
 og 43 (.load false 1 (tv 42)) 35 false,
 og 44 (.idxA 3 (tv 39) (tv 43)) 35 false,
 og 45 (.fld 0 (tv 44)) 35 false,
 og 46 (.load false 1 (tv 45)) 35 false,
 og 47 (.bin .eql 0 (tv 46) (ki 4)) 35 false,
 og 48 (.pick (tv 35) kt (tv 47)) 22 true,
 o 49 (.pick (tv 22) (tv 48) kF),
 o 50 (.mv (tv 49)),
 og 51 (.mv (tv 0)) 50 true,
 og 52 (.nn (tv 51)) 50 true,
 og 53 (.fld 0 (tv 52)) 50 true,
 og 54 (.load false 1 (tv 53)) 50 true,
 og 55 (.mv (tv 0)) 50 true,
 og 56 (.nn (tv 55)) 50 true,
 og 57 (.fld 1 (tv 56)) 50 true,
 og 58 (.load false 1 (tv 57)) 50 true,
 og 59 (.idxA 3 (tv 54) (tv 58)) 50 true,
 og 60 (.fld 1 (tv 59)) 50 true,
 og 61 (.load false 1 (tv 60)) 50 true,
 og 62 (.mv (tv 1)) 50 true,
 og 63 (.bin .eql 0 (tv 61) (tv 62)) 50 true,
 o 64 (.pick (tv 50) (tv 63) kF),
 o 4 (.mv (tv 64))] [(7, 11), (8, 11), (9, 11), (7, 12), (8, 12), (9, 12), (7, 13), (8, 13), (9, 13), (7, 14), (8, 14), (9, 14), (19, 23), (20, 23), (21, 23), (19, 24), (20, 24), (21, 24), (19, 25), (20, 25), (21, 25), (32, 36), (33, 36), (34, 36), (32, 37), (33, 37), (34, 37), (32, 38), (33, 38), (34, 38), (47, 51), (48, 51), (49, 51), (47, 52), (48, 52), (49, 52), (47, 53), (48, 53), (49, 53)] [4])
 .ret)),
 [.tmp 4], false⟩

def l174_0 : VCode := (.seq (.seq (.region [] [o 13 (.mv (tv 0)),
 oa 14 (.call (kf 228) [(true, (tv 13)), (false, (ki 1))] []) 896] [] [0, 2, 3, 14])
 (.cond (tv 14) .skip
 (.exit 0)))
 (.block 1 (.region [1216] [o 15 (.fld 2 (tv 3)),
 o 16 (.load false 1 (tv 15)),
 o 17 (.mv (tv 0)),
 oa 18 (.call (kf 221) [(true, (tv 17)), (false, (ki 1))] []) 1152,
 oa 19 (.mkSl 1 [(tv 18)]) 1216,
 o 20 (.app 1 16 false (tv 16) (tv 19)),
 o 21 (.fld 2 (tv 3)),
 on (.store 1 (tv 21) (tv 20) [])] [(0, 3), (1, 3), (0, 4), (1, 4)] [0, 2, 3])))

def l174_1 : VCode := (.seq (.seq (.region [] [o 34 (.mv (tv 0)),
 oa 35 (.call (kf 229) [(true, (tv 34))] []) 2432] [] [0, 2, 3, 4, 35])
 (.cond (tv 35) .skip
 (.exit 4)))
 (.block 5 (.region [2752] [o 36 (.fld 2 (tv 4)),
 o 37 (.load false 1 (tv 36)),
 o 38 (.mv (tv 0)),
 oa 39 (.call (kf 230) [(true, (tv 38))] []) 2688,
 oa 40 (.mkSl 5 [(tv 39)]) 2752,
 o 41 (.app 5 64 false (tv 37) (tv 40)),
 o 42 (.fld 2 (tv 4)),
 on (.store 1 (tv 42) (tv 41) [])] [(0, 3), (1, 3), (0, 4), (1, 4)] [0, 2, 3, 4])))

def l174_2 : VCode := (.seq (.seq (.region [] [o 24 (.mv (tv 0)),
 o 25 (.nn (tv 24)),
 o 26 (.fld 2 (tv 25)),
 o 27 (.load false 1 (tv 26)),
 o 28 (.un .not (tv 27))] [] [0, 2, 3, 28])
 (.cond (tv 28) .skip
 (.exit 2)))
 (.block 3 (.seq (.region [2240, 2304, 2307] [o 29 (.mv (tv 0)),
 oa 30 (.call (kf 219) [(true, (tv 29))] []) 1984,
 o 31 (.mv (tv 0)),
 oa 32 (.call (kf 221) [(true, (tv 31)), (false, (ki 2))] []) 2112,
 o 33 (.build [zi, zs, .nil] [(0, 1, (tv 30)), (1, 1, (tv 32))]),
 oa 4 (.new [zi, zs, .nil] []) 2240,
 ⟨none, (.store 3 (tv 4) (tv 33) [(2, 5)]), none, 2304, []⟩] [] [0, 2, 3, 4])
 (.seq (.block 4 (.loop l174_1))
 (.seq (.region [3200] [o 43 (.fld 3 (tv 3)),
 o 44 (.load false 1 (tv 43)),
 o 45 (.ldD true 3 (tv 4)),
 oa 46 (.mkSl 3 [(tv 45)]) 3200,
 o 47 (.app 3 48 false (tv 44) (tv 46)),
 o 48 (.fld 3 (tv 3)),
 on (.store 1 (tv 48) (tv 47) [])] [] [0, 2, 3])
 (.seq (.region [2240, 3200] [o 49 (.mv (tv 0)),
 oa 50 (.call (kf 220) [(true, (tv 49)), (false, (.k (.sc (.c (.str [124])))))] []) 3520,
 o 51 (.un .not (tv 50))] [] [0, 2, 3, 51])
 (.cond (tv 51) (.exit 2)
 .skip)))))))

def v174 : VFun := ⟨1,
 (.seq (.region [] [oa 2 (.new [zi, zs, .nil, .nil] []) 64] [] [0, 2])
 (.seq (.region [] [o 5 (.mv (tv 0)),
 oa 6 (.call (kf 219) [(true, (tv 5))] []) 192,
 o 7 (.build [zi, zs, .nil, .nil] [(0, 1, (tv 6))]),
 oa 3 (.new [zi, zs, .nil, .nil] []) 320,
 ⟨none, (.store 4 (tv 3) (tv 7) [(2, 1), (3, 3)]), none, 384, []⟩] [] [0, 2, 3])
 (.seq (.region [] [o 8 (.mv (tv 0)),
 oa 9 (.call (kf 222) [(true, (tv 8)), (false, (.k (.sc (.c (.str [100, 97, 116, 97])))))] []) 512] [] [0, 2, 3])
 (.seq (.region [] [o 10 (.mv (tv 0)),
 oa 11 (.call (kf 221) [(true, (tv 10)), (false, (ki 2))] []) 640,
 o 12 (.fld 1 (tv 3)),
 on (.store 1 (tv 12) (tv 11) [])] [] [0, 2, 3])
 (.seq (.block 0 (.loop l174_0))
 (.seq (.region [] [o 22 (.mv (tv 0)),
 oa 23 (.call (kf 222) [(true, (tv 22)), (false, (.k (.sc (.c (.str [61])))))] []) 1536] [] [0, 2, 3])
 (.seq (.block 2 (.loop l174_2))
 (.seq (.region [] [o 52 (.mv (tv 0)),
 oa 53 (.call (kf 222) [(true, (tv 52)), (false, (.k (.sc (.c (.str [59])))))] []) 3712] [] [2, 3])
 (.seq (.region [] [o 54 (.ldD true 4 (tv 3)),
 on (.store 4 (tv 2) (tv 54) [])] [] [2])
 .ret))))))))),
 [.cell 2 true 4], false⟩

def l176_0 : VCode := (.seq (.seq (.region [] [o 43 (.mv (tv 5)),
 o 44 (.fld 3 (tv 4)),
 o 45 (.load false 1 (tv 44)),
 o 46 (.len false (tv 45)),
 o 47 (.bin .lss 0 (tv 43) (tv 46))] [] [1, 2, 3, 4, 5, 47])
 (.cond (tv 47) .skip
 (.exit 2)))
 (.seq (.block 3 (.seq (.region [] [o 50 (.fld 3 (tv 4)),
 o 51 (.load false 1 (tv 50)),
 o 52 (.mv (tv 5)),
 o 53 (.idxA 3 (tv 51) (tv 52)),
 o 54 (.fld 2 (tv 53)),
 o 55 (.load false 1 (tv 54)),
 o 56 (.len false (tv 55)),
 o 57 (.bin .gtr 0 (tv 56) (ki 4))] [] [1, 2, 3, 4, 5, 57])
 (.cond (tv 57) (.seq (.region [] [o 58 (.fld 3 (tv 4)),
 o 59 (.load false 1 (tv 58)),
 o 60 (.mv (tv 5)),
 o 61 (.idxA 3 (tv 59) (tv 60)),
 o 62 (.fld 0 (tv 61)),
 o 63 (.load false 1 (tv 62)),
 o 64 (.build [zi, zi] [(0, 1, (ki 5)), (1, 1, (tv 63))]),
 on (.store 2 (tv 2) (tv 64) [])] [] [2])
 .ret)
 .skip)))
 (.region [] [o 48 (.mv (tv 5)),
 o 49 (.bin .add 0 (tv 48) (ki 1)),
 o 5 (.mv (tv 49))] [] [1, 2, 3, 4, 5])))

def l176_1 : VCode := (.seq (.seq (.region [] [o 14 (.mv (tv 3)),
 o 15 (.fld 0 (tv 1)),
 o 16 (.load false 1 (tv 15)),
 o 17 (.len false (tv 16)),
 o 18 (.bin .lss 0 (tv 14) (tv 17))] [] [1, 2, 3, 18])
 (.cond (tv 18) .skip
 (.exit 0)))
 (.seq (.block 1 (.seq (.region [] [o 21 (.fld 0 (tv 1)),
 o 22 (.load false 1 (tv 21)),
 o 23 (.mv (tv 3)),
 o 24 (.idxA 4 (tv 22) (tv 23)),
 o 25 (.load true 4 (tv 24)),
 oa 4 (.new [zi, zs, .nil, .nil] []) 896,
 on (.store 4 (tv 4) (tv 25) [])] [] [1, 2, 3, 4])
 (.seq (.seq (.region [] [o 26 (.mv (tv 3)),
 o 27 (.bin .geq 0 (tv 26) (ki 8)),
 o 28 (.mv (tv 27)),
 og 29 (.fld 2 (tv 4)) 28 false,
 og 30 (.load false 1 (tv 29)) 28 false,
 og 31 (.len false (tv 30)) 28 false,
 og 32 (.bin .gtr 0 (tv 31) (ki 4)) 28 false,
 o 33 (.pick (tv 28) kt (tv 32)),
 o 34 (.mv (tv 33)),
 og 35 (.fld 3 (tv 4)) 34 false,
 og 36 (.load false 1 (tv 35)) 34 false,
 og 37 (.len false (tv 36)) 34 false,
 og 38 (.bin .gtr 0 (tv 37) (ki 6)) 34 false,
 o 39 (.pick (tv 34) kt (tv 38))] [] [1, 2, 3, 4, 39])
 (.cond (tv 39) (.seq (.region [] [o 40 (.fld 0 (tv 4)),
 o 41 (.load false 1 (tv 40)),
 o 42 (.build [zi, zi] [(0, 1, (ki 5)), (1, 1, (tv 41))]),
 on (.store 2 (tv 2) (tv 42) [])] [] [2])
 .ret)
 .skip))
 (.seq (.region [] [o 5 (.mv (ki 0))] [] [1, 2, 3, 4, 5])
 (.block 2 (.loop l176_0))))))
 (.region [896] [o 19 (.mv (tv 3)),
 o 20 (.bin .add 0 (tv 19) (ki 1)),
 o 3 (.mv (tv 20))] [] [1, 2, 3])))

def l176_2 : VCode := (.seq (.seq (.region [] [o 94 (.mv (tv 9)),
 o 95 (.fld 3 (tv 7)),
 o 96 (.load false 1 (tv 95)),
 o 97 (.mv (tv 8)),
 o 98 (.idxA 3 (tv 96) (tv 97)),
 o 99 (.fld 2 (tv 98)),
 o 100 (.load false 1 (tv 99)),
 o 101 (.len false (tv 100)),
 o 102 (.bin .lss 0 (tv 94) (tv 101))] [] [1, 2, 6, 7, 8, 9, 102])
 (.cond (tv 102) .skip
 (.exit 8)))
 (.seq (.block 9 (.seq (.region [] [o 105 (.fld 3 (tv 7)),
 o 106 (.load false 1 (tv 105)),
 o 107 (.mv (tv 8)),
 o 108 (.idxA 3 (tv 106) (tv 107)),
 o 109 (.fld 2 (tv 108)),
 o 110 (.load false 1 (tv 109)),
 o 111 (.mv (tv 9)),
 o 112 (.idxA 5 (tv 110) (tv 111)),
 o 113 (.load true 5 (tv 112)),
 oa 114 (.call (kf 232) [(false, (tv 113))] []) 7104,
 o 115 (.bin .gtr 0 (tv 114) (ki 40))] [] [1, 2, 6, 7, 8, 9, 115])
 (.cond (tv 115) (.seq (.region [] [o 116 (.fld 0 (tv 7)),
 o 117 (.load false 1 (tv 116)),
 o 118 (.build [zi, zi] [(0, 1, (ki 4)), (1, 1, (tv 117))]),
 on (.store 2 (tv 2) (tv 118) [])] [] [2])
 .ret)
 .skip)))
 (.region [] [o 103 (.mv (tv 9)),
 o 104 (.bin .add 0 (tv 103) (ki 1)),
 o 9 (.mv (tv 104))] [] [1, 2, 6, 7, 8, 9])))

def l176_3 : VCode := (.seq (.seq (.region [] [o 87 (.mv (tv 8)),
 o 88 (.fld 3 (tv 7)),
 o 89 (.load false 1 (tv 88)),
 o 90 (.len false (tv 89)),
 o 91 (.bin .lss 0 (tv 87) (tv 90))] [] [1, 2, 6, 7, 8, 91])
 (.cond (tv 91) .skip
 (.exit 6)))
 (.seq (.block 7 (.seq (.region [] [o 9 (.mv (ki 0))] [] [1, 2, 6, 7, 8, 9])
 (.block 8 (.loop l176_2))))
 (.region [] [o 92 (.mv (tv 8)),
 o 93 (.bin .add 0 (tv 92) (ki 1)),
 o 8 (.mv (tv 93))] [] [1, 2, 6, 7, 8])))

def l176_4 : VCode := (.seq (.seq (.region [] [o 75 (.mv (tv 6)),
 o 76 (.fld 0 (tv 1)),
 o 77 (.load false 1 (tv 76)),
 o 78 (.len false (tv 77)),
 o 79 (.bin .lss 0 (tv 75) (tv 78))] [] [1, 2, 6, 79])
 (.cond (tv 79) .skip
 (.exit 4)))
 (.seq (.block 5 (.seq (.region [] [o 82 (.fld 0 (tv 1)),
 o 83 (.load false 1 (tv 82)),
 o 84 (.mv (tv 6)),
 o 85 (.idxA 4 (tv 83) (tv 84)),
 o 86 (.load true 4 (tv 85)),
 oa 7 (.new [zi, zs, .nil, .nil] []) 5376,
 on (.store 4 (tv 7) (tv 86) [])] [] [1, 2, 6, 7])
 (.seq (.region [] [o 8 (.mv (ki 0))] [] [1, 2, 6, 7, 8])
 (.block 6 (.loop l176_3)))))
 (.region [5376] [o 80 (.mv (tv 6)),
 o 81 (.bin .add 0 (tv 80) (ki 1)),
 o 6 (.mv (tv 81))] [] [1, 2, 6])))

def l176_5 : VCode := (.seq (.seq (.region [] [o 119 (.mv (tv 10)),
 o 120 (.fld 1 (tv 1)),
 o 121 (.load false 1 (tv 120)),
 o 122 (.len false (tv 121)),
 o 123 (.bin .lss 0 (tv 119) (tv 122))] [] [1, 2, 10, 123])
 (.cond (tv 123) .skip
 (.exit 10)))
 (.seq (.block 11 (.seq (.region [] [o 126 (.fld 1 (tv 1)),
 o 127 (.load false 1 (tv 126)),
 o 128 (.mv (tv 10)),
 o 129 (.idxA 20 (tv 127) (tv 128)),
 o 130 (.load true 20 (tv 129)),
 oa 11 (.new [zi, (.c (.bool false)), zs, (.c (.bool false)), zi, zs, zi, zi, .nil, zi, zi, zs, zi, .nil, .nil, zi, zs, zi, zi, .nil] []) 8768,
 on (.store 20 (tv 11) (tv 130) [])] [] [1, 2, 10, 11])
 (.seq (.seq (.region [] [o 131 (.fld 3 (tv 11)),
 o 132 (.load false 1 (tv 131)),
 o 133 (.mv (tv 132)),
 og 134 (.fld 4 (tv 11)) 133 true,
 og 135 (.load true 5 (tv 134)) 133 true,
 ⟨(some 136), (.call (kf 232) [(false, (tv 135))] []), (some (133, true)), 9216, []⟩,
 og 137 (.bin .gtr 0 (tv 136) (ki 40)) 133 true,
 o 138 (.pick (tv 133) (tv 137) kF),
 o 139 (.mv (tv 138)),
 og 140 (.fld 9 (tv 11)) 139 false,
 og 141 (.load true 11 (tv 140)) 139 false,
 ⟨(some 142), (.call (kf 171) [(false, (tv 141))] []), (some (139, false)), 9600, []⟩,
 o 143 (.pick (tv 139) kt (tv 142))] [] [1, 2, 10, 11, 143])
 (.cond (tv 143) (.seq (.region [] [o 144 (.fld 0 (tv 11)),
 o 145 (.load false 1 (tv 144)),
 o 146 (.build [zi, zi] [(0, 1, (ki 4)), (1, 1, (tv 145))]),
 on (.store 2 (tv 2) (tv 146) [])] [] [2])
 .ret)
 .skip))
 (.seq (.region [] [o 148 (.fld 9 (tv 11)),
 o 149 (.load true 11 (tv 148)),
 oa 150 (.call (kf 172) [(false, (tv 149))] []) 10112,
 o 147 (.mv (tv 150)),
 o 151 (.ext 0 (tv 147)),
 o 152 (.ext 1 (tv 147)),
 o 12 (.mv (tv 151)),
 o 13 (.mv (tv 152))] [] [1, 2, 10, 12, 13])
 (.seq (.region [8768] [o 153 (.mv (tv 13))] [] [1, 2, 10, 12, 153])
 (.cond (tv 153) (.seq (.region [] [o 154 (.mv (tv 12)),
 o 155 (.build [zi, zi] [(0, 1, (ki 5)), (1, 1, (tv 154))]),
 on (.store 2 (tv 2) (tv 155) [])] [] [2])
 .ret)
 .skip))))))
 (.region [8768] [o 124 (.mv (tv 10)),
 o 125 (.bin .add 0 (tv 124) (ki 1)),
 o 10 (.mv (tv 125))] [] [1, 2, 10])))

def v176 : VFun := ⟨1,
 (.seq (.region [] [oa 1 (.box (tv 0)) 64,
 oa 2 (.new [zi, zi] []) 128] [] [1, 2])
 (.seq (.seq (.region [] [o 3 (.mv (ki 0))] [] [1, 2, 3])
 (.block 0 (.loop l176_1)))
 (.seq (.seq (.region [] [o 65 (.fld 1 (tv 1)),
 o 66 (.load false 1 (tv 65)),
 o 67 (.len false (tv 66)),
 o 68 (.bin .gtr 0 (tv 67) (ki 16))] [] [1, 2, 68])
 (.cond (tv 68) (.seq (.region [] [o 69 (.fld 1 (tv 1)),
 o 70 (.load false 1 (tv 69)),
 o 71 (.idxA 20 (tv 70) (ki 16)),
 o 72 (.fld 0 (tv 71)),
 o 73 (.load false 1 (tv 72)),
 o 74 (.build [zi, zi] [(0, 1, (ki 5)), (1, 1, (tv 73))]),
 on (.store 2 (tv 2) (tv 74) [])] [] [2])
 .ret)
 .skip))
 (.seq (.seq (.region [] [o 6 (.mv (ki 0))] [] [1, 2, 6])
 (.block 4 (.loop l176_4)))
 (.seq (.seq (.region [] [o 10 (.mv (ki 0))] [] [1, 2, 10])
 (.block 10 (.loop l176_5)))
 (.seq (.region [] [o 156 (.build [zi, zi] []),
 on (.store 2 (tv 2) (tv 156) [])] [] [2])
 .ret)))))),
 [.cell 2 true 2], false⟩

def v149 : VFun := ⟨1,
 (.seq (.region [] [oa 1 (.box (tv 0)) 64,
 o 2 (.mv (.k (.sc (.c .nilfn))))] [] [1])
 (.seq (.region [] [o 3 (.fn 210 [(tv 1)]),
 o 2 (.mv (tv 3))] [] [2])
 .ret)),
 [.tmp 2], true⟩

def v114 : VFun := ⟨2,
 (.seq (.region [] [oa 2 (.box (tv 0)) 64,
 oa 3 (.box (tv 1)) 128,
 o 4 (.mv kF)] [] [2, 3])
 (.seq (.region [] [o 5 (.load true 5 (tv 2)),
 o 6 (.load true 5 (tv 3)),
 oa 7 (.call (kf 162) [(false, (tv 5)), (false, (tv 6))] []) 384,
 o 8 (.bin .eql 0 (tv 7) (ki 0)),
 o 4 (.mv (tv 8))] [] [4])
 .ret)),
 [.tmp 4], false⟩

def l177_0 : VCode := (.seq (.region [] [o 18 (.bin .lss 0 (tv 17) (tv 16))] [] [1, 2, 15, 16, 17, 18])
 (.seq (.cond (tv 18) .skip
 (.exit 0))
 (.seq (.block 1 (.seq (.region [] [o 19 (.mv (tv 17)),
 o 20 (.idxA 14 (tv 15) (tv 17)),
 o 21 (.load true 14 (tv 20)),
 oa 8 (.new [zi, zs, .nil, zi, zi, zs, zi, .nil, .nil, zi, zs, zi, zi, .nil] []) 960,
 o 7 (.mv (tv 19)),
 on (.store 14 (tv 8) (tv 21) [])] [] [1, 2, 7, 8, 15, 16, 17])
 (.seq (.region [] [o 22 (.mv (tv 1)),
 o 23 (.mv (tv 7)),
 o 24 (.idxA 14 (tv 22) (tv 23)),
 o 25 (.load true 14 (tv 24)),
 oa 9 (.new [zi, zs, .nil, zi, zi, zs, zi, .nil, .nil, zi, zs, zi, zi, .nil] []) 1408,
 on (.store 14 (tv 9) (tv 25) [])] [] [1, 2, 8, 9, 15, 16, 17])
 (.seq (.region [] [o 26 (.mv (tv 2)),
 o 27 (.load true 14 (tv 8)),
 o 28 (.load true 14 (tv 9)),
 oa 29 (.call (tv 26) [(false, (tv 27)), (false, (tv 28))] []) 1728,
 o 30 (.un .not (tv 29))] [] [1, 2, 15, 16, 17, 30])
 (.cond (tv 30) (.seq (.region [960, 1408] [o 6 (.mv kF)] [] [6])
 .ret)
 .skip)))))
 (.region [960, 1408, 1760, 1761, 1762] [o 31 (.bin .add 0 (tv 17) (ki 1)),
 o 17 (.mv (tv 31))] [] [1, 2, 15, 16, 17]))))

def v177 : VFun := ⟨3,
 (.seq (.region [] [o 6 (.mv kF)] [] [0, 1, 2])
 (.seq (.seq (.region [] [o 10 (.mv (tv 0)),
 o 11 (.len false (tv 10)),
 o 12 (.mv (tv 1)),
 o 13 (.len false (tv 12)),
 o 14 (.bin .neq 0 (tv 11) (tv 13))] [] [0, 1, 2, 14])
 (.cond (tv 14) (.seq (.region [] [o 6 (.mv kF)] [] [6])
 .ret)
 .skip))
 (.seq (.seq (.region [] [o 15 (.mv (tv 0)),
 o 16 (.len false (tv 15)),
 o 17 (.mv (ki 0))] [] [1, 2, 15, 16, 17])
 (.block 0 (.loop l177_0)))
 (.seq (.region [] [o 6 (.mv kt)] [] [6])
 .ret)))),
 [.tmp 6], false⟩

def v178 : VFun := ⟨2,
 (.seq (.region [] [oa 2 (.box (tv 0)) 64,
 oa 3 (.box (tv 1)) 128,
 o 4 (.mv kF)] [] [2, 3])
 (.seq (.region [] [o 5 (.fld 1 (tv 2)),
 o 6 (.load false 1 (tv 5)),
 o 7 (.fld 1 (tv 3)),
 o 8 (.load false 1 (tv 7)),
 o 9 (.bin .eql 0 (tv 6) (tv 8)),
 o 10 (.mv (tv 9)),
 og 11 (.fld 2 (tv 2)) 10 true,
 og 12 (.load false 1 (tv 11)) 10 true,
 og 13 (.fld 2 (tv 3)) 10 true,
 og 14 (.load false 1 (tv 13)) 10 true,
 ⟨(some 15), (.call (kf 179) [(false, (tv 12)), (false, (tv 14))] []), (some (10, true)), 896, []⟩,
 o 16 (.pick (tv 10) (tv 15) kF),
 o 17 (.mv (tv 16)),
 og 18 (.fld 3 (tv 2)) 17 true,
 og 19 (.load true 11 (tv 18)) 17 true,
 og 20 (.fld 3 (tv 3)) 17 true,
 og 21 (.load true 11 (tv 20)) 17 true,
 ⟨(some 22), (.call (kf 131) [(false, (tv 19)), (false, (tv 21))] []), (some (17, true)), 1344, []⟩,
 o 23 (.pick (tv 17) (tv 22) kF),
 o 4 (.mv (tv 23))] [] [4])
 .ret)),
 [.tmp 4], false⟩

def l180_0 : VCode := (.seq (.region [] [o 18 (.bin .lss 0 (tv 17) (tv 16))] [] [1, 2, 15, 16, 17, 18])
 (.seq (.cond (tv 18) .skip
 (.exit 0))
 (.seq (.block 1 (.seq (.region [] [o 19 (.mv (tv 17)),
 o 20 (.idxA 11 (tv 15) (tv 17)),
 o 21 (.load true 11 (tv 20)),
 oa 8 (.new [zi, zi, zs, zi, .nil, .nil, zi, zs, zi, zi, .nil] []) 960,
 o 7 (.mv (tv 19)),
 on (.store 11 (tv 8) (tv 21) [])] [] [1, 2, 7, 8, 15, 16, 17])
 (.seq (.region [] [o 22 (.mv (tv 1)),
 o 23 (.mv (tv 7)),
 o 24 (.idxA 11 (tv 22) (tv 23)),
 o 25 (.load true 11 (tv 24)),
 oa 9 (.new [zi, zi, zs, zi, .nil, .nil, zi, zs, zi, zi, .nil] []) 1408,
 on (.store 11 (tv 9) (tv 25) [])] [] [1, 2, 8, 9, 15, 16, 17])
 (.seq (.region [] [o 26 (.mv (tv 2)),
 o 27 (.load true 11 (tv 8)),
 o 28 (.load true 11 (tv 9)),
 oa 29 (.call (tv 26) [(false, (tv 27)), (false, (tv 28))] []) 1728,
 o 30 (.un .not (tv 29))] [] [1, 2, 15, 16, 17, 30])
 (.cond (tv 30) (.seq (.region [960, 1408] [o 6 (.mv kF)] [] [6])
 .ret)
 .skip)))))
 (.region [960, 1408, 1760, 1761, 1762] [o 31 (.bin .add 0 (tv 17) (ki 1)),
 o 17 (.mv (tv 31))] [] [1, 2, 15, 16, 17]))))

def v180 : VFun := ⟨3,
 (.seq (.region [] [o 6 (.mv kF)] [] [0, 1, 2])
 (.seq (.seq (.region [] [o 10 (.mv (tv 0)),
 o 11 (.len false (tv 10)),
 o 12 (.mv (tv 1)),
 o 13 (.len false (tv 12)),
 o 14 (.bin .neq 0 (tv 11) (tv 13))] [] [0, 1, 2, 14])
 (.cond (tv 14) (.seq (.region [] [o 6 (.mv kF)] [] [6])
 .ret)
 .skip))
 (.seq (.seq (.region [] [o 15 (.mv (tv 0)),
 o 16 (.len false (tv 15)),
 o 17 (.mv (ki 0))] [] [1, 2, 15, 16, 17])
 (.block 0 (.loop l180_0)))
 (.seq (.region [] [o 6 (.mv kt)] [] [6])
 .ret)))),
 [.tmp 6], false⟩

def l92_0 : VCode := (.seq (.seq (.region [] [o 30 (.mv (tv 7)),
 o 31 (.fld 5 (tv 6)),
 o 32 (.load false 1 (tv 31)),
 o 33 (.len false (tv 32)),
 o 34 (.bin .lss 0 (tv 30) (tv 33))] [] [1, 4, 5, 6, 7, 34])
 (.cond (tv 34) .skip
 (.exit 0)))
 (.seq (.block 1 (.region [] [o 37 (.fld 5 (tv 6)),
 o 38 (.load false 1 (tv 37)),
 o 39 (.mv (tv 7)),
 o 40 (.mv (tv 1)),
 o 41 (.mv (tv 5)),
 o 42 (.mv (tv 7)),
 o 43 (.bin .add 0 (tv 41) (tv 42)),
 o 44 (.idxA 11 (tv 40) (tv 43)),
 o 45 (.load true 11 (tv 44)),
 o 46 (.idxA 14 (tv 38) (tv 39)),
 o 47 (.fld 3 (tv 46)),
 on (.store 11 (tv 47) (tv 45) [])] [(0, 7), (1, 7), (0, 8), (1, 8)] [1, 4, 5, 6, 7]))
 (.region [] [o 35 (.mv (tv 7)),
 o 36 (.bin .add 0 (tv 35) (ki 1)),
 o 7 (.mv (tv 36))] [] [1, 4, 5, 6, 7])))

def v92 : VFun := ⟨2,
 (.seq (.region [] [oa 2 (.box (tv 0)) 64,
 oa 4 (.new [zi, zi, zs, zi, .nil, .nil, zi, zs, zi, zi, .nil] []) 128] [] [1, 2, 4])
 (.seq (.region [] [o 8 (.fld 4 (tv 2)),
 o 9 (.load false 1 (tv 8)),
 o 10 (.len false (tv 9)),
 o 5 (.mv (tv 10))] [] [1, 2, 4, 5])
 (.seq (.seq (.region [] [o 11 (.mv (tv 1)),
 o 12 (.len false (tv 11)),
 o 13 (.mv (tv 5)),
 o 14 (.fld 5 (tv 2)),
 o 15 (.load false 1 (tv 14)),
 o 16 (.len false (tv 15)),
 o 17 (.bin .add 0 (tv 13) (tv 16)),
 o 18 (.bin .neq 0 (tv 12) (tv 17))] [] [1, 2, 4, 5, 18])
 (.cond (tv 18) (.seq (.region [] [o 19 (.load true 11 (tv 2)),
 on (.store 11 (tv 4) (tv 19) [])] [] [4])
 .ret)
 .skip))
 (.seq (.region [] [o 20 (.load true 11 (tv 2)),
 oa 6 (.new [zi, zi, zs, zi, .nil, .nil, zi, zs, zi, zi, .nil] []) 1152,
 on (.store 11 (tv 6) (tv 20) [])] [] [1, 2, 4, 5, 6])
 (.seq (.region [] [o 21 (.mv (tv 1)),
 o 22 (.mv (tv 5)),
 o 23 (.sl 11 (tv 21) none (some (tv 22)) none),
 oa 24 (.app 11 152 true kn (tv 23)) 1472,
 o 25 (.fld 5 (tv 2)),
 o 26 (.load false 1 (tv 25)),
 oa 27 (.app 14 200 true kn (tv 26)) 1664,
 o 28 (.fld 4 (tv 6)),
 on (.store 1 (tv 28) (tv 24) []),
 o 29 (.fld 5 (tv 6)),
 on (.store 1 (tv 29) (tv 27) [])] [(2, 4), (3, 4), (2, 5), (3, 5), (4, 7), (5, 7), (6, 7)] [1, 4, 5, 6])
 (.seq (.seq (.region [64] [o 7 (.mv (ki 0))] [] [1, 4, 5, 6, 7])
 (.block 0 (.loop l92_0)))
 (.seq (.region [] [o 48 (.load true 11 (tv 6)),
 on (.store 11 (tv 4) (tv 48) [])] [] [4])
 .ret))))))),
 [.cell 4 true 11], true⟩

def l83_0 : VCode := (.seq (.seq (.region [] [o 33 (.mv (tv 8)),
 o 34 (.mv (tv 7)),
 o 35 (.len false (tv 34)),
 o 36 (.bin .lss 0 (tv 33) (tv 35))] [] [0, 1, 5, 7, 8, 36])
 (.cond (tv 36) .skip
 (.exit 0)))
 (.seq (.block 1 (.region [] [o 39 (.mv (tv 0)),
 o 40 (.mv (tv 1)),
 oa 41 (.app 1 16 true kn (tv 40)) 2304,
 o 42 (.load true 11 (tv 5)),
 o 43 (.mv (tv 8)),
 oa 44 (.call (kf 126) [(false, (tv 42)), (false, (tv 43))] []) 2496,
 o 45 (.app 1 16 false (tv 41) (tv 44)),
 o 46 (.mv (tv 7)),
 o 47 (.mv (tv 8)),
 o 48 (.idxA 11 (tv 46) (tv 47)),
 o 49 (.load true 11 (tv 48)),
 oa 50 (.call (kf 83) [(true, (tv 39)), (false, (tv 45)), (false, (tv 49))] []) 2880,
 o 0 (.mv (tv 50))] [(2, 3), (2, 9), (3, 9), (5, 9), (6, 9), (2, 10), (3, 10), (5, 10), (6, 10)] [0, 1, 5, 7, 8]))
 (.region [2304, 2912, 2913, 2914] [o 37 (.mv (tv 8)),
 o 38 (.bin .add 0 (tv 37) (ki 1)),
 o 8 (.mv (tv 38))] [] [0, 1, 5, 7, 8])))

def v83 : VFun := ⟨3,
 (.seq (.region [] [oa 5 (.box (tv 2)) 64,
 o 6 (.mv kn)] [] [0, 1, 5])
 (.seq (.seq (.region [] [o 9 (.fld 0 (tv 5)),
 o 10 (.load false 1 (tv 9)),
 o 11 (.bin .eql 0 (tv 10) (ki 1)),
 o 12 (.mv (tv 11)),
 og 13 (.mv (tv 1)) 12 true,
 og 14 (.fld 2 (tv 5)) 12 true,
 og 15 (.load false 1 (tv 14)) 12 true,
 ⟨(some 16), (.call (kf 78) [(false, (tv 13)), (false, (tv 15))] []), (some (12, true)), 640, []⟩,
 og 17 (.un .not (tv 16)) 12 true,
 o 18 (.pick (tv 12) (tv 17) kF),
 o 19 (.mv (tv 18)),
 og 20 (.mv (tv 0)) 19 true,
 og 21 (.fld 2 (tv 5)) 19 true,
 og 22 (.load false 1 (tv 21)) 19 true,
 ⟨(some 23), (.call (kf 78) [(false, (tv 20)), (false, (tv 22))] []), (some (19, true)), 1088, []⟩,
 og 24 (.un .not (tv 23)) 19 true,
 o 25 (.pick (tv 19) (tv 24) kF)] [] [0, 1, 5, 25])
 (.cond (tv 25) (.region [] [o 26 (.mv (tv 0)),
 o 27 (.fld 2 (tv 5)),
 o 28 (.load false 1 (tv 27)),
 oa 29 (.mkSl 1 [(tv 28)]) 1472,
 o 30 (.app 1 16 false (tv 26) (tv 29)),
 o 0 (.mv (tv 30))] [] [0, 1, 5])
 .skip))
 (.seq (.region [1472] [o 31 (.load true 11 (tv 5)),
 oa 32 (.call (kf 69) [(false, (tv 31))] []) 1728,
 o 7 (.mv (tv 32))] [] [0, 1, 5, 7])
 (.seq (.seq (.region [] [o 8 (.mv (ki 0))] [] [0, 1, 5, 7, 8])
 (.block 0 (.loop l83_0)))
 (.seq (.region [] [o 51 (.mv (tv 0)),
 o 6 (.mv (tv 51))] [] [6])
 .ret))))),
 [.tmp 6], true⟩

def l29_0 : VCode := (.seq (.block 1 (.seq (.region [] [o 11 (.mv (tv 5)),
 oa 12 (.call (kf 26) [(false, (tv 11))] []) 448,
 o 13 (.bin .add 0 (.k (.sc (.c (.str [118])))) (tv 12)),
 o 6 (.mv (tv 13))] [] [0, 1, 5, 6])
 (.seq (.seq (.region [] [o 14 (.mv (tv 1)),
 o 15 (.mv (tv 6)),
 oa 16 (.call (kf 78) [(false, (tv 14)), (false, (tv 15))] []) 768] [] [0, 1, 5, 6, 16])
 (.cond (tv 16) (.exit 1)
 .skip))
 (.seq (.seq (.region [] [o 17 (.mv (tv 0)),
 o 18 (.bin .eql 0 (tv 17) (ki 0))] [] [0, 1, 5, 6, 18])
 (.cond (tv 18) (.seq (.region [] [o 19 (.mv (tv 6)),
 o 4 (.mv (tv 19))] [] [4])
 .ret)
 .skip))
 (.region [] [o 20 (.mv (tv 0)),
 o 21 (.bin .sub 0 (tv 20) (ki 1)),
 o 0 (.mv (tv 21))] [] [0, 1, 5])))))
 (.region [] [o 9 (.mv (tv 5)),
 o 10 (.bin .add 0 (tv 9) (ki 1)),
 o 5 (.mv (tv 10))] [] [0, 1, 5]))

def v29 : VFun := ⟨2,
 (.seq (.region [] [o 4 (.mv (.k (.sc zs)))] [] [0, 1])
 (.seq (.region [] [o 7 (.mv (tv 0)),
 o 8 (.mx (tv 7) (ki 0)),
 o 0 (.mv (tv 8))] [] [0, 1])
 (.seq (.region [] [o 5 (.mv (ki 1))] [] [0, 1, 5])
 (.block 0 (.loop l29_0))))),
 [.tmp 4], false⟩

def v217 : VFun := ⟨1,
 (.seq (.region [] [o 2 (.mv kF)] [] [0])
 (.seq (.region [] [o 3 (.mv (tv 0)),
 oa 4 (.call (kf 249) [(false, (tv 3))] []) 192,
 o 5 (.mv (tv 4)),
 og 6 (.mv (tv 0)) 5 false,
 ⟨(some 7), (.call (kf 250) [(false, (tv 6))] []), (some (5, false)), 384, []⟩,
 o 8 (.pick (tv 5) kt (tv 7)),
 o 9 (.mv (tv 8)),
 og 10 (.mv (tv 0)) 9 false,
 ⟨(some 11), (.call (kf 251) [(false, (tv 10))] []), (some (9, false)), 640, []⟩,
 o 12 (.pick (tv 9) kt (tv 11)),
 o 13 (.mv (tv 12)),
 og 14 (.mv (tv 0)) 13 false,
 og 15 (.bin .eql 0 (tv 14) (.k (.sc (.c (.int .u8 95))))) 13 false,
 o 16 (.pick (tv 13) kt (tv 15)),
 o 2 (.mv (tv 16))] [] [2])
 .ret)),
 [.tmp 2], false⟩

def v218 : VFun := ⟨1,
 (.seq (.region [] [o 2 (.mv (ki 0))] [] [0])
 (.seq (.block 0 (.seq (.region [] [o 4 (.mv (tv 0)),
 oa 5 (.call (kf 252) [(false, (tv 4))] []) 192,
 o 3 (.mv (tv 5))] [] [0, 3])
 (.cond (tv 3) (.seq (.region [] [o 2 (.mv (ki 4))] [] [2])
 .ret)
 (.seq (.region [] [o 7 (.mv (tv 0)),
 oa 8 (.call (kf 253) [(false, (tv 7))] []) 448,
 o 6 (.mv (tv 8))] [] [0, 6])
 (.cond (tv 6) (.seq (.region [] [o 2 (.mv (ki 1))] [] [2])
 .ret)
 (.seq (.region [] [o 10 (.mv (tv 0)),
 oa 11 (.call (kf 254) [(false, (tv 10))] []) 704,
 o 9 (.mv (tv 11))] [] [0, 9])
 (.cond (tv 9) (.seq (.region [] [o 2 (.mv (ki 2))] [] [2])
 .ret)
 (.seq (.region [] [o 13 (.mv (tv 0)),
 oa 14 (.call (kf 255) [(false, (tv 13))] []) 960,
 o 12 (.mv (tv 14))] [] [0, 12])
 (.cond (tv 12) (.seq (.region [] [o 2 (.mv (ki 3))] [] [2])
 .ret)
 (.seq (.region [] [o 16 (.mv (tv 0)),
 oa 17 (.call (kf 256) [(false, (tv 16))] []) 1216,
 o 15 (.mv (tv 17))] [] [15])
 (.cond (tv 15) (.seq (.region [] [o 2 (.mv (ki 5))] [] [2])
 .ret)
 .skip)))))))))))
 (.seq (.region [] [o 2 (.mv (ki 0))] [] [2])
 .ret))),
 [.tmp 2], false⟩

def v219 : VFun := ⟨1,
 (.seq (.region [] [o 2 (.mv (ki 0))] [] [0])
 (.seq (.seq (.region [] [o 3 (.mv (tv 0)),
 o 4 (.nn (tv 3)),
 o 5 (.fld 1 (tv 4)),
 o 6 (.load false 1 (tv 5)),
 o 7 (.mv (tv 0)),
 o 8 (.nn (tv 7)),
 o 9 (.fld 0 (tv 8)),
 o 10 (.load false 1 (tv 9)),
 o 11 (.len false (tv 10)),
 o 12 (.bin .lss 0 (tv 6) (tv 11))] [(1, 5), (2, 5), (3, 5), (1, 6), (2, 6), (3, 6), (1, 7), (2, 7), (3, 7), (1, 8), (2, 8), (3, 8)] [0, 12])
 (.cond (tv 12) (.seq (.region [] [o 13 (.mv (tv 0)),
 o 14 (.nn (tv 13)),
 o 15 (.fld 0 (tv 14)),
 o 16 (.load false 1 (tv 15)),
 o 17 (.mv (tv 0)),
 o 18 (.nn (tv 17)),
 o 19 (.fld 1 (tv 18)),
 o 20 (.load false 1 (tv 19)),
 o 21 (.idxA 3 (tv 16) (tv 20)),
 o 22 (.fld 2 (tv 21)),
 o 23 (.load false 1 (tv 22)),
 o 2 (.mv (tv 23))] [(1, 5), (2, 5), (3, 5), (1, 6), (2, 6), (3, 6), (1, 7), (2, 7), (3, 7)] [2])
 .ret)
 .skip))
 (.seq (.region [] [o 2 (.mv (ki 0))] [] [2])
 .ret))),
 [.tmp 2], false⟩

def v220 : VFun := ⟨2,
 (.seq (.region [] [o 4 (.mv kF)] [] [0, 1])
 (.seq (.seq (.region [] [o 5 (.mv (tv 0)),
 o 6 (.mv (tv 1)),
 oa 7 (.call (kf 173) [(true, (tv 5)), (false, (tv 6))] []) 256] [] [0, 7])
 (.cond (tv 7) (.seq (.region [] [o 8 (.mv (tv 0)),
 o 9 (.nn (tv 8)),
 o 10 (.fld 1 (tv 9)),
 o 11 (.load false 1 (tv 10)),
 o 12 (.bin .add 0 (tv 11) (ki 1)),
 o 13 (.nn (tv 8)),
 o 14 (.fld 1 (tv 13)),
 on (.store 1 (tv 14) (tv 12) [])] [] [1000000])
 (.seq (.region [] [o 4 (.mv kt)] [] [4])
 .ret))
 .skip))
 (.seq (.region [] [o 4 (.mv kF)] [] [4])
 .ret))),
 [.tmp 4], false⟩

def v221 : VFun := ⟨2,
 (.seq (.region [] [o 4 (.mv (.k (.sc zs)))] [] [0, 1])
 (.seq (.seq (.region [] [o 5 (.mv (tv 0)),
 o 6 (.mv (tv 1)),
 oa 7 (.call (kf 228) [(true, (tv 5)), (false, (tv 6))] []) 256,
 o 8 (.un .not (tv 7))] [] [0, 8])
 (.cond (tv 8) (.seq (.region [] [o 9 (.mv (tv 0)),
 oa 10 (.call (kf 170) [(true, (tv 9))] []) 448] [] [1000000])
 (.seq (.region [] [o 4 (.mv (.k (.sc zs)))] [] [4])
 .ret))
 .skip))
 (.seq (.region [] [o 11 (.mv (tv 0)),
 o 12 (.nn (tv 11)),
 o 13 (.fld 1 (tv 12)),
 o 14 (.load false 1 (tv 13)),
 o 15 (.bin .add 0 (tv 14) (ki 1)),
 o 16 (.nn (tv 11)),
 o 17 (.fld 1 (tv 16)),
 on (.store 1 (tv 17) (tv 15) [])] [] [0])
 (.seq (.region [] [o 18 (.mv (tv 0)),
 o 19 (.nn (tv 18)),
 o 20 (.fld 0 (tv 19)),
 o 21 (.load false 1 (tv 20)),
 o 22 (.mv (tv 0)),
 o 23 (.nn (tv 22)),
 o 24 (.fld 1 (tv 23)),
 o 25 (.load false 1 (tv 24)),
 o 26 (.bin .sub 0 (tv 25) (ki 1)),
 o 27 (.idxA 3 (tv 21) (tv 26)),
 o 28 (.fld 1 (tv 27)),
 o 29 (.load false 1 (tv 28)),
 o 4 (.mv (tv 29))] [(1, 5), (2, 5), (3, 5), (1, 6), (2, 6), (3, 6), (1, 7), (2, 7), (3, 7)] [4])
 .ret)))),
 [.tmp 4], false⟩

def v222 : VFun := ⟨2,
 (.seq (.region [] [o 4 (.mv (tv 0)),
 o 5 (.mv (tv 1)),
 oa 6 (.call (kf 220) [(true, (tv 4)), (false, (tv 5))] []) 192,
 o 7 (.un .not (tv 6))] [] [0, 7])
 (.cond (tv 7) (.region [] [o 8 (.mv (tv 0)),
 oa 9 (.call (kf 170) [(true, (tv 8))] []) 384] [] [1000000])
 .skip)),
 [], false⟩

def v224 : VFun := ⟨1,
 (.seq (.region [] [oa 2 (.new [zi, zi, zs, zi, .nil, .nil, zi, zs, zi, zi, .nil] []) 64] [] [0, 2])
 (.seq (.region [] [o 7 (.mv (tv 0)),
 oa 8 (.call (kf 219) [(true, (tv 7))] []) 192,
 o 3 (.mv (tv 8))] [] [0, 2, 3])
 (.seq (.block 0 (.seq (.region [] [o 10 (.mv (tv 0)),
 oa 11 (.call (kf 228) [(true, (tv 10)), (false, (ki 1))] []) 384,
 o 9 (.mv (tv 11))] [] [0, 2, 3, 9])
 (.cond (tv 9) (.seq (.region [] [o 12 (.mv (tv 3)),
 o 13 (.mv (tv 0)),
 oa 14 (.call (kf 221) [(true, (tv 13)), (false, (ki 1))] []) 640,
 o 15 (.build [zi, zi, zs, zi, .nil, .nil, zi, zs, zi, zi, .nil] [(0, 1, (ki 1)), (1, 1, (tv 12)), (2, 1, (tv 14))]),
 on (.store 11 (tv 2) (tv 15) [])] [] [2])
 .ret)
 (.seq (.region [] [o 17 (.mv (tv 0)),
 oa 18 (.call (kf 228) [(true, (tv 17)), (false, (ki 2))] []) 896,
 o 16 (.mv (tv 18))] [] [0, 2, 3, 16])
 (.cond (tv 16) (.seq (.region [] [o 19 (.mv (tv 3)),
 o 20 (.mv (tv 0)),
 oa 21 (.call (kf 221) [(true, (tv 20)), (false, (ki 2))] []) 1152,
 o 22 (.build [zi, zi, zs, zi, .nil, .nil, zi, zs, zi, zi, .nil] [(0, 1, (ki 2)), (1, 1, (tv 19)), (2, 1, (tv 21))]),
 on (.store 11 (tv 2) (tv 22) [])] [] [2])
 .ret)
 (.seq (.region [] [o 24 (.mv (tv 0)),
 oa 25 (.call (kf 228) [(true, (tv 24)), (false, (ki 3))] []) 1408,
 o 23 (.mv (tv 25))] [] [0, 2, 3, 23])
 (.cond (tv 23) (.seq (.region [] [o 26 (.mv (tv 3)),
 o 27 (.mv (tv 0)),
 oa 28 (.call (kf 221) [(true, (tv 27)), (false, (ki 3))] []) 1664,
 oa 29 (.call (kf 257) [(false, (tv 28))] []) 1728,
 o 30 (.build [zi, zi, zs, zi, .nil, .nil, zi, zs, zi, zi, .nil] [(0, 1, (ki 3)), (1, 1, (tv 26)), (3, 1, (tv 29))]),
 on (.store 11 (tv 2) (tv 30) [])] [] [2])
 .ret)
 (.seq (.region [] [o 32 (.mv (tv 0)),
 oa 33 (.call (kf 220) [(true, (tv 32)), (false, (.k (.sc (.c (.str [63])))))] []) 1984,
 o 31 (.mv (tv 33))] [] [0, 2, 3, 31])
 (.cond (tv 31) (.seq (.region [] [o 34 (.mv (tv 3)),
 o 35 (.build [zi, zi, zs, zi, .nil, .nil, zi, zs, zi, zi, .nil] [(0, 1, (ki 10)), (1, 1, (tv 34))]),
 on (.store 11 (tv 2) (tv 35) [])] [] [2])
 .ret)
 (.seq (.region [] [o 37 (.mv (tv 0)),
 oa 38 (.call (kf 220) [(true, (tv 37)), (false, (.k (.sc (.c (.str [123])))))] []) 2368,
 o 36 (.mv (tv 38))] [] [0, 2, 3, 36])
 (.cond (tv 36) (.seq (.region [] [o 39 (.mv (tv 0)),
 oa 40 (.call (kf 169) [(true, (tv 39))] []) 2560,
 oa 4 (.new [zi, zi, zs, zi, .nil, .nil, zi, zs, zi, zi, .nil] []) 2624,
 on (.store 11 (tv 4) (tv 40) [])] [] [0, 2, 3, 4])
 (.seq (.region [] [o 41 (.mv (tv 0)),
 oa 42 (.call (kf 222) [(true, (tv 41)), (false, (.k (.sc (.c (.str [125])))))] []) 2816] [] [2, 3, 4])
 (.seq (.region [] [o 43 (.mv (tv 3)),
 o 44 (.load true 11 (tv 4)),
 oa 45 (.mkSl 11 [(tv 44)]) 3008,
 o 46 (.build [zi, zi, zs, zi, .nil, .nil, zi, zs, zi, zi, .nil] [(0, 1, (ki 11)), (1, 1, (tv 43)), (4, 1, (tv 45))]),
 on (.store 11 (tv 2) (tv 46) [])] [] [2])
 .ret)))
 .skip)))))))))))
 (.seq (.region [] [o 47 (.mv (tv 0)),
 oa 48 (.call (kf 222) [(true, (tv 47)), (false, (.k (.sc (.c (.str [40])))))] []) 3264] [] [0, 2, 3])
 (.seq (.seq (.region [] [o 49 (.mv (tv 0)),
 o 50 (.nn (tv 49)),
 o 51 (.fld 2 (tv 50)),
 o 52 (.load false 1 (tv 51))] [] [0, 2, 3, 52])
 (.cond (tv 52) (.seq (.region [] [o 53 (.build [zi, zi, zs, zi, .nil, .nil, zi, zs, zi, zi, .nil] []),
 on (.store 11 (tv 2) (tv 53) [])] [] [2])
 .ret)
 .skip))
 (.seq (.region [] [o 54 (.mv (tv 0)),
 oa 55 (.call (kf 169) [(true, (tv 54))] []) 3776,
 oa 5 (.new [zi, zi, zs, zi, .nil, .nil, zi, zs, zi, zi, .nil] []) 3840,
 on (.store 11 (tv 5) (tv 55) [])] [] [0, 2, 3, 5])
 (.seq (.seq (.region [] [o 56 (.mv (tv 0)),
 oa 57 (.call (kf 220) [(true, (tv 56)), (false, (.k (.sc (.c (.str [58])))))] []) 4032] [] [0, 2, 3, 5, 57])
 (.cond (tv 57) (.seq (.region [] [o 58 (.mv (tv 0)),
 oa 59 (.call (kf 231) [(true, (tv 58))] []) 4160,
 oa 6 (.new [zi, zs, zi, zi, .nil] []) 4224,
 on (.store 5 (tv 6) (tv 59) [])] [] [0, 2, 3, 5, 6])
 (.region [] [o 60 (.mv (tv 3)),
 o 61 (.load true 11 (tv 5)),
 oa 62 (.mkSl 11 [(tv 61)]) 4480,
 o 63 (.load true 5 (tv 6)),
 o 64 (.build [zi, zi, zs, zi, .nil, .nil, zi, zs, zi, zi, .nil] [(0, 1, (ki 9)), (1, 1, (tv 60)), (4, 1, (tv 62)), (6, 5, (tv 63))]),
 on (.store 11 (tv 5) (tv 64) [])] [] [0, 2, 5]))
 .skip))
 (.seq (.region [4224] [o 65 (.mv (tv 0)),
 oa 66 (.call (kf 222) [(true, (tv 65)), (false, (.k (.sc (.c (.str [41])))))] []) 4800] [] [2, 5])
 (.seq (.region [] [o 67 (.load true 11 (tv 5)),
 on (.store 11 (tv 2) (tv 67) [])] [] [2])
 .ret))))))))),
 [.cell 2 true 11], false⟩

def v225 : VFun := ⟨1,
 (.seq (.region [] [oa 1 (.box (tv 0)) 64,
 o 2 (.mv kF)] [] [1])
 (.seq (.seq (.region [] [o 3 (.fld 0 (tv 1)),
 o 4 (.load false 1 (tv 3))] [] [1, 4])
 (.block 0 (.seq (.seq (.region [] [o 6 (.bin .eql 0 (tv 4) (ki 1)),
 o 5 (.mv (tv 6))] [] [1, 4, 5])
 (.cond (tv 5) .skip
 (.seq (.region [] [o 7 (.bin .eql 0 (tv 4) (ki 2)),
 o 5 (.mv (tv 7))] [] [1, 4, 5])
 (.cond (tv 5) .skip
 (.region [] [o 8 (.bin .eql 0 (tv 4) (ki 3)),
 o 5 (.mv (tv 8))] [] [1, 4, 5])))))
 (.cond (tv 5) (.seq (.region [] [o 2 (.mv kt)] [] [2])
 .ret)
 (.seq (.region [] [o 10 (.bin .eql 0 (tv 4) (ki 5)),
 o 9 (.mv (tv 10))] [] [1, 9])
 (.cond (tv 9) (.seq (.region [] [o 11 (.fld 1 (tv 1)),
 o 12 (.load false 1 (tv 11)),
 o 13 (.bin .eql 0 (tv 12) (.k (.sc (.c (.str [63]))))),
 o 14 (.mv (tv 13)),
 og 15 (.fld 1 (tv 1)) 14 false,
 og 16 (.load false 1 (tv 15)) 14 false,
 og 17 (.bin .eql 0 (tv 16) (.k (.sc (.c (.str [40]))))) 14 false,
 o 18 (.pick (tv 14) kt (tv 17)),
 o 19 (.mv (tv 18)),
 og 20 (.fld 1 (tv 1)) 19 false,
 og 21 (.load false 1 (tv 20)) 19 false,
 og 22 (.bin .eql 0 (tv 21) (.k (.sc (.c (.str [123]))))) 19 false,
 o 23 (.pick (tv 19) kt (tv 22)),
 o 2 (.mv (tv 23))] [] [2])
 .ret)
 .skip))))))
 (.seq (.region [] [o 2 (.mv kF)] [] [2])
 .ret))),
 [.tmp 2], false⟩

def l226_0 : VCode := (.seq (.seq (.region [] [o 8 (.mv (tv 5)),
 o 9 (.mv (tv 4)),
 o 10 (.len false (tv 9)),
 o 11 (.bin .lss 0 (tv 8) (tv 10))] [] [3, 4, 5, 11])
 (.cond (tv 11) .skip
 (.exit 0)))
 (.seq (.block 1 (.region [] [o 14 (.mv (tv 3)),
 o 15 (.mv (tv 4)),
 o 16 (.mv (tv 5)),
 o 17 (.idxA 11 (tv 15) (tv 16)),
 o 18 (.load true 11 (tv 17)),
 oa 19 (.call (kf 226) [(false, (tv 18))] []) 1088,
 o 20 (.bin .add 0 (ki 1) (tv 19)),
 o 21 (.mx (tv 14) (tv 20)),
 o 3 (.mv (tv 21))] [] [3, 4, 5]))
 (.region [] [o 12 (.mv (tv 5)),
 o 13 (.bin .add 0 (tv 12) (ki 1)),
 o 5 (.mv (tv 13))] [] [3, 4, 5])))

def v226 : VFun := ⟨1,
 (.seq (.region [] [oa 1 (.box (tv 0)) 64,
 o 2 (.mv (ki 0))] [] [1])
 (.seq (.region [] [o 3 (.mv (ki 0))] [] [1, 3])
 (.seq (.region [] [o 6 (.load true 11 (tv 1)),
 oa 7 (.call (kf 69) [(false, (tv 6))] []) 320,
 o 4 (.mv (tv 7))] [] [3, 4])
 (.seq (.seq (.region [64] [o 5 (.mv (ki 0))] [] [3, 4, 5])
 (.block 0 (.loop l226_0)))
 (.seq (.region [] [o 22 (.mv (tv 3)),
 o 2 (.mv (tv 22))] [] [2])
 .ret))))),
 [.tmp 2], false⟩

def l227_0 : VCode := (.seq (.seq (.region [] [o 16 (.mv (tv 4)),
 o 17 (.mv (tv 3)),
 o 18 (.len false (tv 17)),
 o 19 (.bin .lss 0 (tv 16) (tv 18))] [] [3, 4, 19])
 (.cond (tv 19) .skip
 (.exit 0)))
 (.seq (.block 1 (.seq (.region [] [o 22 (.mv (tv 3)),
 o 23 (.mv (tv 4)),
 o 24 (.idxA 11 (tv 22) (tv 23)),
 o 25 (.load true 11 (tv 24)),
 oa 26 (.call (kf 227) [(false, (tv 25))] []) 1600] [] [3, 4, 26])
 (.cond (tv 26) (.seq (.region [] [o 2 (.mv kt)] [] [2])
 .ret)
 .skip)))
 (.region [] [o 20 (.mv (tv 4)),
 o 21 (.bin .add 0 (tv 20) (ki 1)),
 o 4 (.mv (tv 21))] [] [3, 4])))

def v227 : VFun := ⟨1,
 (.seq (.region [] [oa 1 (.box (tv 0)) 64,
 o 2 (.mv kF)] [] [1])
 (.seq (.seq (.region [] [o 5 (.fld 0 (tv 1)),
 o 6 (.load false 1 (tv 5)),
 o 7 (.bin .eql 0 (tv 6) (ki 9)),
 o 8 (.mv (tv 7)),
 og 9 (.fld 6 (tv 1)) 8 true,
 og 10 (.load true 5 (tv 9)) 8 true,
 ⟨(some 11), (.call (kf 232) [(false, (tv 10))] []), (some (8, true)), 576, []⟩,
 og 12 (.bin .gtr 0 (tv 11) (ki 40)) 8 true,
 o 13 (.pick (tv 8) (tv 12) kF)] [] [1, 13])
 (.cond (tv 13) (.seq (.region [] [o 2 (.mv kt)] [] [2])
 .ret)
 .skip))
 (.seq (.region [] [o 14 (.load true 11 (tv 1)),
 oa 15 (.call (kf 69) [(false, (tv 14))] []) 896,
 o 3 (.mv (tv 15))] [] [3])
 (.seq (.seq (.region [64] [o 4 (.mv (ki 0))] [] [3, 4])
 (.block 0 (.loop l227_0)))
 (.seq (.region [] [o 2 (.mv kF)] [] [2])
 .ret))))),
 [.tmp 2], false⟩

def v206 : VFun := ⟨3,
 (.seq (.region [] [oa 3 (.box (tv 0)) 64,
 o 6 (.mv kF)] [] [1, 2, 3])
 (.seq (.seq (.region [] [o 7 (.fld 12 (tv 3)),
 o 8 (.load false 1 (tv 7)),
 o 9 (.mv (tv 1)),
 oa 10 (.call (kf 81) [(false, (tv 8)), (false, (tv 9))] []) 384,
 o 11 (.un .not (tv 10))] [] [2, 3, 11])
 (.cond (tv 11) (.seq (.region [] [o 6 (.mv kF)] [] [6])
 .ret)
 .skip))
 (.seq (.region [] [o 12 (.mv (tv 2)),
 o 13 (.fn 246 [(tv 3)]),
 oa 14 (.call (kf 117) [(false, (tv 12)), (true, (tv 13))] []) 704,
 o 6 (.mv (tv 14))] [] [6])
 .ret))),
 [.tmp 6], false⟩

def l208_0 : VCode := (.seq (.region [] [o 13 (.bin .lss 0 (tv 12) (tv 11))] [] [1, 3, 10, 11, 12, 13])
 (.seq (.cond (tv 13) .skip
 (.exit 0))
 (.seq (.block 1 (.seq (.region [] [o 14 (.mv (tv 12)),
 o 15 (.idxA 11 (tv 10) (tv 12)),
 o 16 (.load true 11 (tv 15)),
 oa 5 (.new [zi, zi, zs, zi, .nil, .nil, zi, zs, zi, zi, .nil] []) 960,
 o 4 (.mv (tv 14)),
 on (.store 11 (tv 5) (tv 16) [])] [] [1, 3, 4, 5, 10, 11, 12])
 (.region [] [o 17 (.mv (tv 3)),
 o 18 (.load true 11 (tv 1)),
 o 19 (.mv (tv 4)),
 oa 20 (.call (kf 80) [(false, (tv 18)), (false, (tv 19))] []) 1344,
 o 21 (.app 1 16 false (tv 17) (tv 20)),
 o 22 (.load true 11 (tv 5)),
 oa 23 (.call (kf 208) [(false, (tv 22))] []) 1536,
 o 24 (.app 1 16 false (tv 21) (tv 23)),
 o 3 (.mv (tv 24))] [(1, 5), (3, 5), (4, 5)] [1, 3, 10, 11, 12])))
 (.region [960, 1568, 1569, 1570] [o 25 (.bin .add 0 (tv 12) (ki 1)),
 o 12 (.mv (tv 25))] [] [1, 3, 10, 11, 12]))))

def v208 : VFun := ⟨1,
 (.seq (.region [] [oa 1 (.box (tv 0)) 64,
 o 2 (.mv kn)] [] [1])
 (.seq (.region [] [o 6 (.fld 2 (tv 1)),
 o 7 (.load false 1 (tv 6)),
 oa 8 (.mkSl 1 [(tv 7)]) 320,
 o 3 (.mv (tv 8))] [] [1, 3])
 (.seq (.seq (.region [] [o 9 (.load true 11 (tv 1)),
 oa 10 (.call (kf 79) [(false, (tv 9))] []) 512,
 o 11 (.len false (tv 10)),
 o 12 (.mv (ki 0))] [] [1, 3, 10, 11, 12])
 (.block 0 (.loop l208_0)))
 (.seq (.region [] [o 26 (.mv (tv 3)),
 o 2 (.mv (tv 26))] [] [2])
 .ret)))),
 [.tmp 2], true⟩

def v207 : VFun := ⟨1,
 (.seq (.region [] [o 2 (.mv (.k (.sc zs)))] [] [0])
 (.seq (.region [] [o 3 (.mv (tv 0)),
 oa 4 (.call (kf 28) [(false, (ki 0)), (false, (tv 3))] []) 192,
 o 2 (.mv (tv 4))] [] [2])
 .ret)),
 [.tmp 2], false⟩

def l209_0 : VCode := (.seq (.region [] [o 25 (.bin .lss 0 (tv 24) (tv 23))] [] [1, 2, 3, 6, 7, 22, 23, 24, 25])
 (.seq (.cond (tv 25) .skip
 (.exit 0))
 (.seq (.block 1 (.seq (.region [] [o 26 (.mv (tv 24)),
 o 27 (.idxA 11 (tv 22) (tv 24)),
 o 28 (.load true 11 (tv 27)),
 oa 9 (.new [zi, zi, zs, zi, .nil, .nil, zi, zs, zi, zi, .nil] []) 1600,
 o 8 (.mv (tv 26)),
 on (.store 11 (tv 9) (tv 28) [])] [] [1, 2, 3, 6, 7, 8, 9, 22, 23, 24])
 (.seq (.region [] [o 29 (.load true 11 (tv 3)),
 o 30 (.mv (tv 8)),
 oa 31 (.call (kf 80) [(false, (tv 29)), (false, (tv 30))] []) 1920,
 o 32 (.mv (tv 1)),
 oa 33 (.call (kf 81) [(false, (tv 31)), (false, (tv 32))] []) 2048,
 o 34 (.un .not (tv 33))] [] [1, 2, 3, 6, 7, 8, 9, 22, 23, 24, 34])
 (.cond (tv 34) (.region [] [o 35 (.mv (tv 7)),
 o 36 (.mv (tv 8)),
 o 37 (.load true 11 (tv 9)),
 o 38 (.mv (tv 1)),
 o 39 (.mv (tv 2)),
 oa 40 (.call (kf 209) [(false, (tv 37)), (false, (tv 38)), (false, (tv 39))] []) 2496,
 o 41 (.idxA 11 (tv 35) (tv 36)),
 on (.store 11 (tv 41) (tv 40) [])] [] [1, 2, 3, 6, 7, 22, 23, 24])
 .skip))))
 (.region [1600] [o 42 (.bin .add 0 (tv 24) (ki 1)),
 o 24 (.mv (tv 42))] [] [1, 2, 3, 6, 7, 22, 23, 24]))))

def v209 : VFun := ⟨3,
 (.seq (.region [] [oa 3 (.box (tv 0)) 64,
 oa 6 (.new [zi, zi, zs, zi, .nil, .nil, zi, zs, zi, zi, .nil] []) 128] [] [1, 2, 3, 6])
 (.seq (.seq (.region [] [o 10 (.fld 0 (tv 3)),
 o 11 (.load false 1 (tv 10)),
 o 12 (.bin .eql 0 (tv 11) (ki 1))] [] [1, 2, 3, 6, 12])
 (.cond (tv 12) (.seq (.seq (.region [] [o 13 (.fld 2 (tv 3)),
 o 14 (.load false 1 (tv 13)),
 o 15 (.mv (tv 1)),
 o 16 (.bin .eql 0 (tv 14) (tv 15))] [] [2, 3, 6, 16])
 (.cond (tv 16) (.region [] [o 17 (.mv (tv 2)),
 o 18 (.fld 2 (tv 3)),
 on (.store 1 (tv 18) (tv 17) [])] [] [3, 6])
 .skip))
 (.seq (.region [] [o 19 (.load true 11 (tv 3)),
 on (.store 11 (tv 6) (tv 19) [])] [] [6])
 .ret))
 .skip))
 (.seq (.region [] [o 20 (.load true 11 (tv 3)),
 oa 21 (.call (kf 79) [(false, (tv 20))] []) 1024,
 o 7 (.mv (tv 21))] [] [1, 2, 3, 6, 7])
 (.seq (.seq (.region [] [o 22 (.mv (tv 7)),
 o 23 (.len false (tv 22)),
 o 24 (.mv (ki 0))] [] [1, 2, 3, 6, 7, 22, 23, 24])
 (.block 0 (.loop l209_0)))
 (.seq (.region [] [o 43 (.load true 11 (tv 3)),
 o 44 (.mv (tv 7)),
 oa 45 (.call (kf 146) [(false, (tv 43)), (false, (tv 44))] []) 2944,
 on (.store 11 (tv 6) (tv 45) [])] [] [6])
 .ret))))),
 [.cell 6 true 11], false⟩

def v203 : VFun := ⟨2,
 (.seq (.region [] [oa 2 (.box (tv 0)) 64,
 o 4 (.mv kn)] [] [1, 2])
 (.seq (.seq (.region [] [o 5 (.fld 0 (tv 2)),
 o 6 (.load false 1 (tv 5))] [] [1, 2, 6])
 (.block 0 (.seq (.seq (.region [] [o 8 (.bin .eql 0 (tv 6) (ki 4)),
 o 7 (.mv (tv 8))] [] [1, 2, 6, 7])
 (.cond (tv 7) .skip
 (.region [] [o 9 (.bin .eql 0 (tv 6) (ki 7)),
 o 7 (.mv (tv 9))] [] [1, 2, 6, 7])))
 (.cond (tv 7) (.seq (.region [] [o 10 (.fld 2 (tv 2)),
 o 11 (.load false 1 (tv 10)),
 oa 12 (.mkSl 1 [(tv 11)]) 704,
 o 4 (.mv (tv 12))] [] [4])
 .ret)
 (.seq (.region [] [o 14 (.bin .eql 0 (tv 6) (ki 6)),
 o 13 (.mv (tv 14))] [] [1, 2, 6, 13])
 (.cond (tv 13) (.seq (.region [] [o 15 (.mv (tv 1)),
 o 16 (.bin .eql 0 (tv 15) (ki 1))] [] [2, 16])
 (.cond (tv 16) (.seq (.region [] [o 17 (.fld 2 (tv 2)),
 o 18 (.load false 1 (tv 17)),
 oa 19 (.mkSl 1 [(tv 18)]) 1216,
 o 4 (.mv (tv 19))] [] [4])
 .ret)
 .skip))
 (.seq (.region [] [o 21 (.bin .eql 0 (tv 6) (ki 8)),
 o 20 (.mv (tv 21))] [] [1, 2, 20])
 (.cond (tv 20) (.seq (.region [] [o 22 (.mv (tv 1)),
 o 23 (.fld 4 (tv 2)),
 o 24 (.load false 1 (tv 23)),
 o 25 (.len false (tv 24)),
 o 26 (.bin .geq 0 (tv 22) (tv 25))] [] [1, 2, 26])
 (.cond (tv 26) (.seq (.region [] [o 27 (.fld 5 (tv 2)),
 o 28 (.load false 1 (tv 27)),
 o 29 (.mv (tv 1)),
 o 30 (.fld 4 (tv 2)),
 o 31 (.load false 1 (tv 30)),
 o 32 (.len false (tv 31)),
 o 33 (.bin .sub 0 (tv 29) (tv 32)),
 o 34 (.idxA 14 (tv 28) (tv 33)),
 o 35 (.fld 2 (tv 34)),
 o 36 (.load false 1 (tv 35)),
 o 4 (.mv (tv 36))] [] [4])
 .ret)
 .skip))
 .skip))))))))
 (.seq (.region [] [o 4 (.mv kn)] [] [4])
 .ret))),
 [.tmp 4], false⟩

def l204_0 : VCode := (.seq (.seq (.region [] [o 16 (.mv (tv 6)),
 o 17 (.mv (tv 0)),
 o 18 (.len false (tv 17)),
 o 19 (.bin .lss 0 (tv 16) (tv 18))] [] [0, 1, 5, 6, 19])
 (.cond (tv 19) .skip
 (.exit 0)))
 (.seq (.block 1 (.seq (.region [] [o 22 (.mv (tv 0)),
 o 23 (.mv (tv 6)),
 o 24 (.idxA 1 (tv 22) (tv 23)),
 o 25 (.load false 1 (tv 24)),
 o 7 (.mv (tv 25))] [] [0, 1, 5, 6, 7])
 (.seq (.region [] [o 26 (.mv (tv 1)),
 o 27 (.mv (tv 7)),
 oa 28 (.call (tv 26) [(false, (tv 27))] []) 1536,
 o 29 (.un .not (tv 28))] [] [0, 1, 5, 6, 7, 29])
 (.cond (tv 29) (.seq (.region [] [o 30 (.mv (tv 0)),
 o 31 (.mv (tv 5)),
 o 32 (.mv (tv 7)),
 o 33 (.idxA 1 (tv 30) (tv 31)),
 on (.store 1 (tv 33) (tv 32) [])] [] [0, 1, 5, 6])
 (.region [] [o 34 (.mv (tv 5)),
 o 35 (.bin .add 0 (tv 34) (ki 1)),
 o 5 (.mv (tv 35))] [] [0, 1, 5, 6]))
 .skip))))
 (.region [1568, 1569, 1570] [o 20 (.mv (tv 6)),
 o 21 (.bin .add 0 (tv 20) (ki 1)),
 o 6 (.mv (tv 21))] [] [0, 1, 5, 6])))

def v204 : VFun := ⟨2,
 (.seq (.region [] [o 4 (.mv kn)] [] [0, 1])
 (.seq (.region [] [o 8 (.mv (tv 0)),
 o 9 (.mv (tv 1)),
 oa 10 (.call (kf 163) [(false, (tv 8)), (true, (tv 9))] []) 256,
 o 5 (.mv (tv 10))] [] [0, 1, 5])
 (.seq (.seq (.region [] [o 11 (.mv (tv 5)),
 o 12 (.bin .eql 0 (tv 11) (ki (-1)))] [] [0, 1, 5, 12])
 (.cond (tv 12) (.seq (.region [] [o 13 (.mv (tv 0)),
 o 4 (.mv (tv 13))] [] [4])
 .ret)
 .skip))
 (.seq (.seq (.region [] [o 14 (.mv (tv 5)),
 o 15 (.bin .add 0 (tv 14) (ki 1)),
 o 6 (.mv (tv 15))] [] [0, 1, 5, 6])
 (.block 0 (.loop l204_0)))
 (.seq (.region [] [o 36 (.mv (tv 0)),
 o 37 (.mv (tv 5)),
 o 38 (.sl 1 (tv 36) (some (tv 37)) none none),
 on .bad] [] [0, 5])
 (.seq (.region [] [o 39 (.mv (tv 0)),
 o 40 (.mv (tv 5)),
 o 41 (.sl 1 (tv 39) none (some (tv 40)) none),
 o 4 (.mv (tv 41))] [] [4])
 .ret)))))),
 [.tmp 4], true⟩

def v228 : VFun := ⟨2,
 (.seq (.region [] [o 4 (.mv kF)] [] [0, 1])
 (.seq (.region [] [o 5 (.mv (tv 0)),
 o 6 (.nn (tv 5)),
 o 7 (.fld 2 (tv 6)),
 o 8 (.load false 1 (tv 7)),
 o 9 (.un .not (tv 8)),
 o 10 (.mv (tv 9)),
 og 11 (.mv (tv 0)) 10 true,
 og 12 (.nn (tv 11)) 10 true,
 og 13 (.fld 1 (tv 12)) 10 true,
 og 14 (.load false 1 (tv 13)) 10 true,
 og 15 (.mv (tv 0)) 10 true,
 og 16 (.nn (tv 15)) 10 true,
 og 17 (.fld 0 (tv 16)) 10 true,
 og 18 (.load false 1 (tv 17)) 10 true,
 og 19 (.len false (tv 18)) 10 true,
 og 20 (.bin .lss 0 (tv 14) (tv 19)) 10 true,
 o 21 (.pick (tv 10) (tv 20) kF),
 o 22 (.mv (tv 21)),
 og 23 (.mv (tv 0)) 22 true,
 og 24 (.nn (tv 23)) 22 true,
 og 25 (.fld 0 (tv 24)) 22 true,
 og 26 (.load false 1 (tv 25)) 22 true,
 og 27 (.mv (tv 0)) 22 true,
 og 28 (.nn (tv 27)) 22 true,
 og 29 (.fld 1 (tv 28)) 22 true,
 og 30 (.load false 1 (tv 29)) 22 true,
 og 31 (.idxA 3 (tv 26) (tv 30)) 22 true,
 og 32 (.fld 0 (tv 31)) 22 true,
 og 33 (.load false 1 (tv 32)) 22 true,
 og 34 (.mv (tv 1)) 22 true,
 og 35 (.bin .eql 0 (tv 33) (tv 34)) 22 true,
 o 36 (.pick (tv 22) (tv 35) kF),
 o 4 (.mv (tv 36))] [(7, 11), (8, 11), (9, 11), (7, 12), (8, 12), (9, 12), (7, 13), (8, 13), (9, 13), (7, 14), (8, 14), (9, 14), (19, 23), (20, 23), (21, 23), (19, 24), (20, 24), (21, 24), (19, 25), (20, 25), (21, 25)] [4])
 .ret)),
 [.tmp 4], false⟩

def v229 : VFun := ⟨1,
 (.seq (.region [] [o 2 (.mv kF)] [] [0])
 (.seq (.region [] [o 3 (.mv (tv 0)),
 oa 4 (.call (kf 228) [(true, (tv 3)), (false, (ki 1))] []) 192,
 o 5 (.mv (tv 4)),
 og 6 (.mv (tv 0)) 5 false,
 ⟨(some 7), (.call (kf 228) [(true, (tv 6)), (false, (ki 2))] []), (some (5, false)), 384, []⟩,
 o 8 (.pick (tv 5) kt (tv 7)),
 o 9 (.mv (tv 8)),
 og 10 (.mv (tv 0)) 9 false,
 ⟨(some 11), (.call (kf 173) [(true, (tv 10)), (false, (.k (.sc (.c (.str [40])))))] []), (some (9, false)), 640, []⟩,
 o 12 (.pick (tv 9) kt (tv 11)),
 o 2 (.mv (tv 12))] [] [2])
 .ret)),
 [.tmp 2], false⟩

def v230 : VFun := ⟨1,
 (.seq (.region [] [oa 2 (.new [zi, zs, zi, zi, .nil] []) 64] [] [0, 2])
 (.seq (.block 0 (.seq (.region [] [o 5 (.mv (tv 0)),
 oa 6 (.call (kf 228) [(true, (tv 5)), (false, (ki 1))] []) 192,
 o 4 (.mv (tv 6))] [] [0, 2, 4])
 (.cond (tv 4) (.seq (.region [] [o 7 (.mv (tv 0)),
 oa 8 (.call (kf 221) [(true, (tv 7)), (false, (ki 1))] []) 384,
 oa 9 (.call (kf 258) [(false, (tv 8))] []) 448,
 on (.store 5 (tv 2) (tv 9) [])] [] [2])
 .ret)
 (.seq (.region [] [o 11 (.mv (tv 0)),
 oa 12 (.call (kf 228) [(true, (tv 11)), (false, (ki 2))] []) 640,
 o 10 (.mv (tv 12))] [] [0, 2, 10])
 (.cond (tv 10) (.seq (.region [] [o 13 (.mv (tv 0)),
 oa 14 (.call (kf 221) [(true, (tv 13)), (false, (ki 2))] []) 832,
 oa 15 (.call (kf 100) [(false, (tv 14)), (false, kn)] []) 896,
 on (.store 5 (tv 2) (tv 15) [])] [] [2])
 .ret)
 .skip)))))
 (.seq (.region [] [o 16 (.mv (tv 0)),
 oa 17 (.call (kf 222) [(true, (tv 16)), (false, (.k (.sc (.c (.str [40])))))] []) 1088] [] [0, 2])
 (.seq (.seq (.region [] [o 18 (.mv (tv 0)),
 o 19 (.nn (tv 18)),
 o 20 (.fld 2 (tv 19)),
 o 21 (.load false 1 (tv 20))] [] [0, 2, 21])
 (.cond (tv 21) (.seq (.region [] [o 22 (.build [zi, zs, zi, zi, .nil] []),
 on (.store 5 (tv 2) (tv 22) [])] [] [2])
 .ret)
 .skip))
 (.seq (.region [] [o 23 (.mv (tv 0)),
 oa 24 (.call (kf 231) [(true, (tv 23))] []) 1600,
 oa 3 (.new [zi, zs, zi, zi, .nil] []) 1664,
 on (.store 5 (tv 3) (tv 24) [])] [] [0, 2, 3])
 (.seq (.region [] [o 25 (.mv (tv 0)),
 oa 26 (.call (kf 222) [(true, (tv 25)), (false, (.k (.sc (.c (.str [41])))))] []) 1856] [] [2, 3])
 (.seq (.region [] [o 27 (.load true 5 (tv 3)),
 on (.store 5 (tv 2) (tv 27) [])] [] [2])
 .ret))))))),
 [.cell 2 true 5], false⟩

def l231_0 : VCode := (.seq (.seq (.region [] [o 9 (.mv (tv 0)),
 oa 10 (.call (kf 229) [(true, (tv 9))] []) 640] [] [0, 2, 3, 10])
 (.cond (tv 10) .skip
 (.exit 0)))
 (.block 1 (.region [960] [o 11 (.fld 4 (tv 3)),
 o 12 (.load false 1 (tv 11)),
 o 13 (.mv (tv 0)),
 oa 14 (.call (kf 230) [(true, (tv 13))] []) 896,
 oa 15 (.mkSl 5 [(tv 14)]) 960,
 o 16 (.app 5 64 false (tv 12) (tv 15)),
 o 17 (.fld 4 (tv 3)),
 on (.store 1 (tv 17) (tv 16) [])] [(0, 3), (1, 3), (0, 4), (1, 4)] [0, 2, 3])))

def v231 : VFun := ⟨1,
 (.seq (.region [] [oa 2 (.new [zi, zs, zi, zi, .nil] []) 64] [] [0, 2])
 (.seq (.region [] [oa 3 (.new [zi, zs, zi, zi, .nil] []) 128] [] [0, 2, 3])
 (.seq (.seq (.region [] [o 4 (.mv (tv 0)),
 oa 5 (.call (kf 228) [(true, (tv 4)), (false, (ki 2))] []) 256] [] [0, 2, 3, 5])
 (.cond (tv 5) (.seq (.region [] [o 6 (.mv (tv 0)),
 oa 7 (.call (kf 221) [(true, (tv 6)), (false, (ki 2))] []) 384,
 oa 8 (.call (kf 100) [(false, (tv 7)), (true, kn)] []) 448,
 ⟨none, (.store 5 (tv 3) (tv 8) [(4, 5)]), none, 512, []⟩] [] [0, 2, 3])
 (.block 0 (.loop l231_0)))
 (.region [] [o 18 (.mv (tv 0)),
 oa 19 (.call (kf 230) [(true, (tv 18))] []) 1280,
 ⟨none, (.store 5 (tv 3) (tv 19) [(4, 5)]), none, 1344, []⟩] [] [0, 2, 3])))
 (.seq (.seq (.region [] [o 20 (.mv (tv 0)),
 oa 21 (.call (kf 220) [(true, (tv 20)), (false, (.k (.sc (.c (.str [45, 62])))))] []) 1472] [] [0, 2, 3, 21])
 (.cond (tv 21) (.seq (.region [] [o 22 (.ldD true 5 (tv 3)),
 o 23 (.mv (tv 0)),
 oa 24 (.call (kf 231) [(true, (tv 23))] []) 1664,
 oa 25 (.call (kf 128) [(false, (tv 22)), (false, (tv 24))] []) 1728,
 on (.store 5 (tv 2) (tv 25) [])] [(0, 2)] [2])
 .ret)
 .skip))
 (.seq (.region [] [o 26 (.ldD true 5 (tv 3)),
 on (.store 5 (tv 2) (tv 26) [])] [] [2])
 .ret))))),
 [.cell 2 true 5], false⟩

def l232_0 : VCode := (.seq (.seq (.region [] [o 5 (.mv (tv 4)),
 o 6 (.fld 4 (tv 1)),
 o 7 (.load false 1 (tv 6)),
 o 8 (.len false (tv 7)),
 o 9 (.bin .lss 0 (tv 5) (tv 8))] [] [1, 3, 4, 9])
 (.cond (tv 9) .skip
 (.exit 0)))
 (.seq (.block 1 (.region [] [o 12 (.mv (tv 3)),
 o 13 (.fld 4 (tv 1)),
 o 14 (.load false 1 (tv 13)),
 o 15 (.mv (tv 4)),
 o 16 (.idxA 5 (tv 14) (tv 15)),
 o 17 (.load true 5 (tv 16)),
 oa 18 (.call (kf 232) [(false, (tv 17))] []) 1024,
 o 19 (.bin .add 0 (ki 1) (tv 18)),
 o 20 (.mx (tv 12) (tv 19)),
 o 3 (.mv (tv 20))] [] [1, 3, 4]))
 (.region [] [o 10 (.mv (tv 4)),
 o 11 (.bin .add 0 (tv 10) (ki 1)),
 o 4 (.mv (tv 11))] [] [1, 3, 4])))

def v232 : VFun := ⟨1,
 (.seq (.region [] [oa 1 (.box (tv 0)) 64,
 o 2 (.mv (ki 0))] [] [1])
 (.seq (.region [] [o 3 (.mv (ki 0))] [] [1, 3])
 (.seq (.seq (.region [] [o 4 (.mv (ki 0))] [] [1, 3, 4])
 (.block 0 (.loop l232_0)))
 (.seq (.region [] [o 21 (.mv (tv 3)),
 o 2 (.mv (tv 21))] [] [2])
 .ret)))),
 [.tmp 2], false⟩

def v162 : VFun := ⟨2,
 (.seq (.region [] [oa 2 (.box (tv 0)) 64,
 oa 3 (.box (tv 1)) 128,
 o 4 (.mv (ki 0))] [] [2, 3])
 (.seq (.region [] [o 6 (.fld 0 (tv 2)),
 o 7 (.load false 1 (tv 6)),
 o 8 (.fld 0 (tv 3)),
 o 9 (.load false 1 (tv 8)),
 oa 10 (.call (kf 55) [(false, (tv 7)), (false, (tv 9))] []) 512,
 o 11 (.fld 1 (tv 2)),
 o 12 (.load false 1 (tv 11)),
 o 13 (.fld 1 (tv 3)),
 o 14 (.load false 1 (tv 13)),
 oa 15 (.call (kf 215) [(false, (tv 12)), (false, (tv 14))] []) 832,
 o 16 (.fld 2 (tv 2)),
 o 17 (.load false 1 (tv 16)),
 o 18 (.fld 2 (tv 3)),
 o 19 (.load false 1 (tv 18)),
 oa 20 (.call (kf 55) [(false, (tv 17)), (false, (tv 19))] []) 1152,
 o 21 (.fld 3 (tv 2)),
 o 22 (.load false 1 (tv 21)),
 o 23 (.fld 3 (tv 3)),
 o 24 (.load false 1 (tv 23)),
 oa 25 (.call (kf 55) [(false, (tv 22)), (false, (tv 24))] []) 1472,
 o 26 (.fld 4 (tv 2)),
 o 27 (.load false 1 (tv 26)),
 o 28 (.len false (tv 27)),
 o 29 (.fld 4 (tv 3)),
 o 30 (.load false 1 (tv 29)),
 o 31 (.len false (tv 30)),
 oa 32 (.call (kf 55) [(false, (tv 28)), (false, (tv 31))] []) 1920,
 oa 33 (.mkSl 1 [(tv 10), (tv 15), (tv 20), (tv 25), (tv 32)]) 1984,
 oa 34 (.call (kf 59) [(false, (tv 33))] []) 2048,
 o 5 (.mv (tv 34))] [(0, 2), (1, 2), (0, 3), (1, 3), (0, 5), (1, 5), (2, 5), (3, 5), (4, 5), (0, 6), (1, 6), (2, 6), (3, 6), (4, 6), (0, 7), (1, 7), (2, 7), (3, 7), (4, 7), (5, 7), (6, 7), (0, 8), (1, 8), (2, 8), (3, 8), (4, 8), (5, 8), (6, 8), (0, 10), (1, 10), (2, 10), (3, 10), (4, 10), (5, 10), (6, 10), (7, 10), (8, 10), (9, 10), (0, 11), (1, 11), (2, 11), (3, 11), (4, 11), (5, 11), (6, 11), (7, 11), (8, 11), (9, 11), (0, 12), (1, 12), (2, 12), (3, 12), (4, 12), (5, 12), (6, 12), (7, 12), (8, 12), (9, 12), (10, 12), (11, 12), (0, 13), (1, 13), (2, 13), (3, 13), (4, 13), (5, 13), (6, 13), (7, 13), (8, 13), (9, 13), (10, 13), (11, 13), (0, 15), (1, 15), (2, 15), (3, 15), (4, 15), (5, 15), (6, 15), (7, 15), (8, 15), (9, 15), (10, 15), (11, 15), (12, 15), (13, 15), (14, 15), (0, 16), (1, 16), (2, 16), (3, 16), (4, 16), (5, 16), (6, 16), (7, 16), (8, 16), (9, 16), (10, 16), (11, 16), (12, 16), (13, 16), (14, 16), (0, 17), (1, 17), (2, 17), (3, 17), (4, 17), (5, 17), (6, 17), (7, 17), (8, 17), (9, 17), (10, 17), (11, 17), (12, 17), (13, 17), (14, 17), (15, 17), (16, 17), (0, 18), (1, 18), (2, 18), (3, 18), (4, 18), (5, 18), (6, 18), (7, 18), (8, 18), (9, 18), (10, 18), (11, 18), (12, 18), (13, 18), (14, 18), (15, 18), (16, 18), (0, 20), (1, 20), (2, 20), (3, 20), (4, 20), (5, 20), (6, 20), (7, 20), (8, 20), (9, 20), (10, 20), (11, 20), (12, 20), (13, 20), (14, 20), (15, 20), (16, 20), (17, 20), (18, 20), (19, 20), (0, 21), (1, 21), (2, 21), (3, 21), (4, 21), (5, 21), (6, 21), (7, 21), (8, 21), (9, 21), (10, 21), (11, 21), (12, 21), (13, 21), (14, 21), (15, 21), (16, 21), (17, 21), (18, 21), (19, 21), (0, 22), (1, 22), (2, 22), (3, 22), (4, 22), (5, 22), (6, 22), (7, 22), (8, 22), (9, 22), (10, 22), (11, 22), (12, 22), (13, 22), (14, 22), (15, 22), (16, 22), (17, 22), (18, 22), (19, 22), (0, 23), (1, 23), (2, 23), (3, 23), (4, 23), (5, 23), (6, 23), (7, 23), (8, 23), (9, 23), (10, 23), (11, 23), (12, 23), (13, 23), (14, 23), (15, 23), (16, 23), (17, 23), (18, 23), (19, 23), (20, 23), (21, 23), (22, 23), (0, 24), (1, 24), (2, 24), (3, 24), (4, 24), (5, 24), (6, 24), (7, 24), (8, 24), (9, 24), (10, 24), (11, 24), (12, 24), (13, 24), (14, 24), (15, 24), (16, 24), (17, 24), (18, 24), (19, 24), (20, 24), (21, 24), (22, 24), (0, 25), (1, 25), (2, 25), (3, 25), (4, 25), (5, 25), (6, 25), (7, 25), (8, 25), (9, 25), (10, 25), (11, 25), (12, 25), (13, 25), (14, 25), (15, 25), (16, 25), (17, 25), (18, 25), (19, 25), (20, 25), (21, 25), (22, 25)] [2, 3, 5])
 (.seq (.seq (.region [1984] [o 35 (.mv (tv 5)),
 o 36 (.bin .neq 0 (tv 35) (ki 0))] [] [2, 3, 5, 36])
 (.cond (tv 36) (.seq (.region [] [o 37 (.mv (tv 5)),
 o 4 (.mv (tv 37))] [] [4])
 .ret)
 .skip))
 (.seq (.region [] [o 38 (.fld 4 (tv 2)),
 o 39 (.load false 1 (tv 38)),
 o 40 (.fld 4 (tv 3)),
 o 41 (.load false 1 (tv 40)),
 oa 42 (.call (kf 216) [(false, (tv 39)), (false, (tv 41)), (true, (kf 162))] []) 2688,
 o 4 (.mv (tv 42))] [] [4])
 .ret)))),
 [.tmp 4], false⟩

def l179_0 : VCode := (.seq (.region [] [o 14 (.bin .lss 0 (tv 13) (tv 12))] [] [0, 1, 12, 13, 14])
 (.seq (.cond (tv 14) .skip
 (.exit 0))
 (.seq (.block 1 (.seq (.region [] [o 15 (.mv (tv 13)),
 o 5 (.mv (tv 15))] [] [0, 1, 5, 12, 13])
 (.seq (.region [] [o 16 (.mv (tv 0)),
 o 17 (.mv (tv 5)),
 o 18 (.idxA 1 (tv 16) (tv 17)),
 o 19 (.load false 1 (tv 18)),
 o 20 (.mv (tv 1)),
 o 21 (.mv (tv 5)),
 o 22 (.idxA 1 (tv 20) (tv 21)),
 o 23 (.load false 1 (tv 22)),
 o 24 (.bin .neq 0 (tv 19) (tv 23))] [(2, 6), (3, 6), (2, 7), (3, 7)] [0, 1, 12, 13, 24])
 (.cond (tv 24) (.seq (.region [] [o 4 (.mv kF)] [] [4])
 .ret)
 .skip))))
 (.region [] [o 25 (.bin .add 0 (tv 13) (ki 1)),
 o 13 (.mv (tv 25))] [] [0, 1, 12, 13]))))

def v179 : VFun := ⟨2,
 (.seq (.region [] [o 4 (.mv kF)] [] [0, 1])
 (.seq (.seq (.region [] [o 6 (.mv (tv 0)),
 o 7 (.len false (tv 6)),
 o 8 (.mv (tv 1)),
 o 9 (.len false (tv 8)),
 o 10 (.bin .neq 0 (tv 7) (tv 9))] [] [0, 1, 10])
 (.cond (tv 10) (.seq (.region [] [o 4 (.mv kF)] [] [4])
 .ret)
 .skip))
 (.seq (.seq (.region [] [o 11 (.mv (tv 0)),
 o 12 (.len false (tv 11)),
 o 13 (.mv (ki 0))] [] [0, 1, 12, 13])
 (.block 0 (.loop l179_0)))
 (.seq (.region [] [o 4 (.mv kt)] [] [4])
 .ret)))),
 [.tmp 4], false⟩

def l78_0 : VCode := (.seq (.seq (.region [] [o 6 (.mv (tv 5)),
 o 7 (.mv (tv 0)),
 o 8 (.len false (tv 7)),
 o 9 (.bin .lss 0 (tv 6) (tv 8))] [] [0, 1, 5, 9])
 (.cond (tv 9) .skip
 (.exit 0)))
 (.seq (.block 1 (.seq (.region [] [o 12 (.mv (tv 0)),
 o 13 (.mv (tv 5)),
 o 14 (.idxA 1 (tv 12) (tv 13)),
 o 15 (.load false 1 (tv 14)),
 o 16 (.mv (tv 1)),
 o 17 (.bin .eql 0 (tv 15) (tv 16))] [] [0, 1, 5, 17])
 (.cond (tv 17) (.seq (.region [] [o 4 (.mv kt)] [] [4])
 .ret)
 .skip)))
 (.region [] [o 10 (.mv (tv 5)),
 o 11 (.bin .add 0 (tv 10) (ki 1)),
 o 5 (.mv (tv 11))] [] [0, 1, 5])))

def v78 : VFun := ⟨2,
 (.seq (.region [] [o 4 (.mv kF)] [] [0, 1])
 (.seq (.seq (.region [] [o 5 (.mv (ki 0))] [] [0, 1, 5])
 (.block 0 (.loop l78_0)))
 (.seq (.region [] [o 4 (.mv kF)] [] [4])
 .ret))),
 [.tmp 4], false⟩

def v249 : VFun := ⟨1,
 (.seq (.region [] [o 2 (.mv kF)] [] [0])
 (.seq (.region [] [o 3 (.mv (tv 0)),
 o 4 (.bin .geq 0 (tv 3) (.k (.sc (.c (.int .u8 97))))),
 o 5 (.mv (tv 4)),
 og 6 (.mv (tv 0)) 5 true,
 og 7 (.bin .leq 0 (tv 6) (.k (.sc (.c (.int .u8 122))))) 5 true,
 o 8 (.pick (tv 5) (tv 7) kF),
 o 2 (.mv (tv 8))] [] [2])
 .ret)),
 [.tmp 2], false⟩

def v250 : VFun := ⟨1,
 (.seq (.region [] [o 2 (.mv kF)] [] [0])
 (.seq (.region [] [o 3 (.mv (tv 0)),
 o 4 (.bin .geq 0 (tv 3) (.k (.sc (.c (.int .u8 65))))),
 o 5 (.mv (tv 4)),
 og 6 (.mv (tv 0)) 5 true,
 og 7 (.bin .leq 0 (tv 6) (.k (.sc (.c (.int .u8 90))))) 5 true,
 o 8 (.pick (tv 5) (tv 7) kF),
 o 2 (.mv (tv 8))] [] [2])
 .ret)),
 [.tmp 2], false⟩

def v251 : VFun := ⟨1,
 (.seq (.region [] [o 2 (.mv kF)] [] [0])
 (.seq (.region [] [o 3 (.mv (tv 0)),
 o 4 (.bin .geq 0 (tv 3) (.k (.sc (.c (.int .u8 48))))),
 o 5 (.mv (tv 4)),
 og 6 (.mv (tv 0)) 5 true,
 og 7 (.bin .leq 0 (tv 6) (.k (.sc (.c (.int .u8 57))))) 5 true,
 o 8 (.pick (tv 5) (tv 7) kF),
 o 2 (.mv (tv 8))] [] [2])
 .ret)),
 [.tmp 2], false⟩

def l252_0 : VCode := (.seq (.seq (.region [] [o 6 (.mv (tv 4)),
 o 7 (.mv (tv 3)),
 o 8 (.len false (tv 7)),
 o 9 (.bin .lss 0 (tv 6) (tv 8))] [] [0, 3, 4, 9])
 (.cond (tv 9) .skip
 (.exit 0)))
 (.seq (.block 1 (.seq (.region [] [o 12 (.mv (tv 3)),
 o 13 (.mv (tv 4)),
 o 14 (.idxA 1 (tv 12) (tv 13)),
 o 15 (.load false 1 (tv 14)),
 o 16 (.mv (tv 0)),
 o 17 (.bin .eql 0 (tv 15) (tv 16))] [] [0, 3, 4, 17])
 (.cond (tv 17) (.seq (.region [] [o 2 (.mv kt)] [] [2])
 .ret)
 .skip)))
 (.region [] [o 10 (.mv (tv 4)),
 o 11 (.bin .add 0 (tv 10) (ki 1)),
 o 4 (.mv (tv 11))] [] [0, 3, 4])))

def v252 : VFun := ⟨1,
 (.seq (.region [] [o 2 (.mv kF)] [] [0])
 (.seq (.region [] [oa 5 (.mkSl 1 [(.k (.sc (.c (.str [100, 97, 116, 97])))), (.k (.sc (.c (.str [108, 101, 116])))), (.k (.sc (.c (.str [114, 101, 99])))), (.k (.sc (.c (.str [105, 110])))), (.k (.sc (.c (.str [99, 97, 115, 101])))), (.k (.sc (.c (.str [111, 102])))), (.k (.sc (.c (.str [101, 110, 100]))))]) 128,
 o 3 (.mv (tv 5))] [] [0, 3])
 (.seq (.seq (.region [] [o 4 (.mv (ki 0))] [] [0, 3, 4])
 (.block 0 (.loop l252_0)))
 (.seq (.region [] [o 2 (.mv kF)] [] [2])
 .ret)))),
 [.tmp 2], false⟩

def v253 : VFun := ⟨1,
 (.seq (.region [] [o 2 (.mv kF)] [] [0])
 (.seq (.region [] [o 3 (.mv (tv 0)),
 oa 4 (.call (kf 263) [(false, (tv 3))] []) 192,
 o 5 (.mv (tv 4)),
 og 6 (.mv (tv 0)) 5 true,
 og 7 (.idxS (tv 6) (ki 0)) 5 true,
 ⟨(some 8), (.call (kf 249) [(false, (tv 7))] []), (some (5, true)), 448, []⟩,
 o 9 (.pick (tv 5) (tv 8) kF),
 o 10 (.mv (tv 9)),
 og 11 (.mv (tv 0)) 10 true,
 og 12 (.len true (tv 11)) 10 true,
 og 13 (.bin .leq 0 (tv 12) (ki 12)) 10 true,
 o 14 (.pick (tv 10) (tv 13) kF),
 o 15 (.mv (tv 14)),
 og 16 (.mv (tv 0)) 15 true,
 ⟨(some 17), (.call (kf 252) [(false, (tv 16))] []), (some (15, true)), 1024, []⟩,
 og 18 (.un .not (tv 17)) 15 true,
 o 19 (.pick (tv 15) (tv 18) kF),
 o 2 (.mv (tv 19))] [] [2])
 .ret)),
 [.tmp 2], false⟩

def v254 : VFun := ⟨1,
 (.seq (.region [] [o 2 (.mv kF)] [] [0])
 (.seq (.region [] [o 3 (.mv (tv 0)),
 oa 4 (.call (kf 263) [(false, (tv 3))] []) 192,
 o 5 (.mv (tv 4)),
 og 6 (.mv (tv 0)) 5 true,
 og 7 (.idxS (tv 6) (ki 0)) 5 true,
 ⟨(some 8), (.call (kf 250) [(false, (tv 7))] []), (some (5, true)), 448, []⟩,
 o 9 (.pick (tv 5) (tv 8) kF),
 o 10 (.mv (tv 9)),
 og 11 (.mv (tv 0)) 10 true,
 og 12 (.len true (tv 11)) 10 true,
 og 13 (.bin .leq 0 (tv 12) (ki 12)) 10 true,
 o 14 (.pick (tv 10) (tv 13) kF),
 o 2 (.mv (tv 14))] [] [2])
 .ret)),
 [.tmp 2], false⟩

def l255_0 : VCode := (.seq (.seq (.region [] [o 21 (.mv (tv 3)),
 o 22 (.mv (tv 0)),
 o 23 (.len true (tv 22)),
 o 24 (.bin .lss 0 (tv 21) (tv 23))] [] [0, 3, 24])
 (.cond (tv 24) .skip
 (.exit 0)))
 (.seq (.block 1 (.seq (.region [] [o 27 (.mv (tv 0)),
 o 28 (.mv (tv 3)),
 o 29 (.idxS (tv 27) (tv 28)),
 oa 30 (.call (kf 251) [(false, (tv 29))] []) 1792,
 o 31 (.un .not (tv 30))] [] [0, 3, 31])
 (.cond (tv 31) (.seq (.region [] [o 2 (.mv kF)] [] [2])
 .ret)
 .skip)))
 (.region [] [o 25 (.mv (tv 3)),
 o 26 (.bin .add 0 (tv 25) (ki 1)),
 o 3 (.mv (tv 26))] [] [0, 3])))

def v255 : VFun := ⟨1,
 (.seq (.region [] [o 2 (.mv kF)] [] [0])
 (.seq (.seq (.region [] [o 4 (.mv (tv 0)),
 o 5 (.bin .eql 0 (tv 4) (.k (.sc zs))),
 o 6 (.mv (tv 5)),
 og 7 (.mv (tv 0)) 6 false,
 og 8 (.len true (tv 7)) 6 false,
 og 9 (.bin .gtr 0 (tv 8) (ki 9)) 6 false,
 o 10 (.pick (tv 6) kt (tv 9)),
 o 11 (.mv (tv 10)),
 og 12 (.mv (tv 0)) 11 false,
 og 13 (.idxS (tv 12) (ki 0)) 11 false,
 og 14 (.bin .eql 0 (tv 13) (.k (.sc (.c (.int .u8 48))))) 11 false,
 og 15 (.mv (tv 14)) 11 false,
 og 16 (.mv (tv 0)) 15 true,
 og 17 (.len true (tv 16)) 15 true,
 og 18 (.bin .gtr 0 (tv 17) (ki 1)) 15 true,
 og 19 (.pick (tv 15) (tv 18) kF) 11 false,
 o 20 (.pick (tv 11) kt (tv 19))] [] [0, 20])
 (.cond (tv 20) (.seq (.region [] [o 2 (.mv kF)] [] [2])
 .ret)
 .skip))
 (.seq (.seq (.region [] [o 3 (.mv (ki 0))] [] [0, 3])
 (.block 0 (.loop l255_0)))
 (.seq (.region [] [o 2 (.mv kt)] [] [2])
 .ret)))),
 [.tmp 2], false⟩

def l256_0 : VCode := (.seq (.seq (.region [] [o 6 (.mv (tv 3)),
 o 7 (.bin .lss 0 (tv 6) (ki 11))] [] [0, 3, 7])
 (.cond (tv 7) .skip
 (.exit 0)))
 (.seq (.block 1 (.seq (.region [] [o 10 (.mv (tv 0)),
 o 11 (.mv (tv 3)),
 o 12 (.mv (tv 3)),
 o 13 (.bin .add 0 (tv 12) (ki 1)),
 o 14 (.slS (.k (.sc (.c (.str [92, 46, 61, 59, 58, 124, 40, 41, 123, 125, 63])))) (some (tv 11)) (some (tv 13))),
 o 15 (.bin .eql 0 (tv 10) (tv 14))] [] [0, 3, 15])
 (.cond (tv 15) (.seq (.region [] [o 2 (.mv kt)] [] [2])
 .ret)
 .skip)))
 (.region [] [o 8 (.mv (tv 3)),
 o 9 (.bin .add 0 (tv 8) (ki 1)),
 o 3 (.mv (tv 9))] [] [0, 3])))

def v256 : VFun := ⟨1,
 (.seq (.region [] [o 2 (.mv kF)] [] [0])
 (.seq (.seq (.region [] [o 4 (.mv (tv 0)),
 o 5 (.bin .eql 0 (tv 4) (.k (.sc (.c (.str [45, 62])))))] [] [0, 5])
 (.cond (tv 5) (.seq (.region [] [o 2 (.mv kt)] [] [2])
 .ret)
 .skip))
 (.seq (.seq (.region [] [o 3 (.mv (ki 0))] [] [0, 3])
 (.block 0 (.loop l256_0)))
 (.seq (.region [] [o 2 (.mv kF)] [] [2])
 .ret)))),
 [.tmp 2], false⟩

def v246 : VFun := ⟨2,
 (.seq (.region [] [oa 2 (.box (tv 0)) 64,
 o 3 (.mv kF)] [] [1, 2])
 (.seq (.region [] [o 4 (.load true 11 (tv 2)),
 oa 5 (.call (kf 30) [(false, (tv 4))] []) 256,
 o 6 (.fld 0 (tv 1)),
 o 7 (.load false 1 (tv 6)),
 oa 8 (.call (kf 81) [(false, (tv 5)), (false, (tv 7))] []) 448,
 o 3 (.mv (tv 8))] [(0, 2), (1, 2), (0, 3), (1, 3)] [3])
 .ret)),
 [.tmp 3], false⟩

def v117 : VFun := ⟨2,
 (.seq (.region [] [o 4 (.mv kF)] [] [0, 1])
 (.seq (.region [] [o 5 (.mv (tv 0)),
 o 6 (.mv (tv 1)),
 oa 7 (.call (kf 164) [(false, (tv 5)), (true, (tv 6))] []) 256,
 o 8 (.bin .geq 0 (tv 7) (ki 0)),
 o 4 (.mv (tv 8))] [] [4])
 .ret)),
 [.tmp 4], false⟩

def l28_0 : VCode := (.seq (.region [] [o 18 (.bin .lss 0 (tv 17) (tv 16))] [] [0, 5, 15, 16, 17, 18])
 (.seq (.cond (tv 18) .skip
 (.exit 0))
 (.seq (.block 1 (.seq (.region [] [o 19 (.idxA 1 (tv 15) (tv 17)),
 o 20 (.load false 1 (tv 19)),
 o 7 (.mv (tv 20))] [] [0, 5, 7, 15, 16, 17])
 (.seq (.region [] [o 22 (.mv (tv 7)),
 oa 23 (.call (kf 73) [(false, (tv 22)), (false, (.k (.sc (.c (.str [118])))))] []) 704,
 o 21 (.mv (tv 23)),
 o 24 (.ext 0 (tv 21)),
 o 25 (.ext 1 (tv 21)),
 o 8 (.mv (tv 24)),
 o 9 (.mv (tv 25))] [] [0, 5, 8, 9, 15, 16, 17])
 (.seq (.region [] [o 27 (.mv (tv 8)),
 oa 28 (.call (kf 74) [(false, (tv 27)), (false, (ki 10)), (false, (ki 64))] []) 1152,
 o 26 (.mv (tv 28)),
 o 29 (.ext 0 (tv 26)),
 o 30 (.ext 1 (tv 26)),
 o 10 (.mv (tv 29)),
 o 11 (.mv (tv 30))] [] [0, 5, 8, 9, 10, 11, 15, 16, 17])
 (.seq (.region [] [o 31 (.mv (tv 9)),
 o 32 (.mv (tv 31)),
 og 33 (.mv (tv 11)) 32 true,
 og 34 (.bin .eql 5 (tv 33) (.k (.sc (.c .nilif)))) 32 true,
 o 35 (.pick (tv 32) (tv 34) kF),
 o 36 (.mv (tv 35)),
 og 37 (.mv (tv 10)) 36 true,
 og 38 (.bin .gtr 0 (tv 37) (.k (.sc (.c (.int .u64 0))))) 36 true,
 o 39 (.pick (tv 36) (tv 38) kF),
 o 40 (.mv (tv 39)),
 og 41 (.mv (tv 10)) 40 true,
 ⟨(some 42), (.call (kf 75) [(false, (tv 41)), (false, (ki 10))] []), (some (40, true)), 2240, []⟩,
 og 43 (.mv (tv 8)) 40 true,
 og 44 (.bin .eql 0 (tv 42) (tv 43)) 40 true,
 o 45 (.pick (tv 40) (tv 44) kF)] [] [0, 5, 10, 15, 16, 17, 45])
 (.cond (tv 45) (.region [] [o 46 (.mv (tv 5)),
 o 47 (.mv (tv 10)),
 oa 48 (.mkSl 1 [(tv 47)]) 2624,
 o 49 (.app 1 8 false (tv 46) (tv 48)),
 o 5 (.mv (tv 49))] [] [0, 5, 15, 16, 17])
 .skip))))))
 (.region [1184, 1185, 1186, 2624] [o 50 (.bin .add 0 (tv 17) (ki 1)),
 o 17 (.mv (tv 50))] [] [0, 5, 15, 16, 17]))))

def l28_1 : VCode := (.seq (.region [] [o 61 (.bin .lss 0 (tv 60) (tv 59))] [] [12, 58, 59, 60, 61])
 (.seq (.cond (tv 61) .skip
 (.exit 2))
 (.seq (.block 3 (.seq (.region [] [o 62 (.idxA 1 (tv 58) (tv 60)),
 o 63 (.load false 1 (tv 62)),
 o 14 (.mv (tv 63))] [] [12, 14, 58, 59, 60])
 (.seq (.region [] [o 64 (.mv (tv 14)),
 o 65 (.mv (tv 12)),
 o 66 (.bin .leq 0 (tv 64) (tv 65))] [] [12, 58, 59, 60, 66])
 (.cond (tv 66) (.region [] [o 67 (.mv (tv 12)),
 o 68 (.bin .add 0 (tv 67) (.k (.sc (.c (.int .u64 1))))),
 o 12 (.mv (tv 68))] [] [12, 58, 59, 60])
 .skip))))
 (.region [] [o 69 (.bin .add 0 (tv 60) (ki 1)),
 o 60 (.mv (tv 69))] [] [12, 58, 59, 60]))))

def v28 : VFun := ⟨2,
 (.seq (.region [] [o 4 (.mv (.k (.sc zs)))] [] [0, 1])
 (.seq (.region [] [⟨(some 5), (.mv kn), none, 128, [(0, 1)]⟩] [] [0, 1, 5])
 (.seq (.seq (.region [] [o 15 (.mv (tv 1)),
 o 16 (.len false (tv 15)),
 o 17 (.mv (ki 0))] [] [0, 5, 15, 16, 17])
 (.block 0 (.loop l28_0)))
 (.seq (.region [] [o 51 (.mv (tv 5)),
 oa 52 (.call (kf 76) [(false, (tv 51))] []) 3008] [] [0, 5])
 (.seq (.region [] [o 53 (.mv (tv 0)),
 o 54 (.mx (tv 53) (ki 0)),
 o 55 (.cvI .u64 (tv 54)),
 o 56 (.bin .add 0 (tv 55) (.k (.sc (.c (.int .u64 1))))),
 o 12 (.mv (tv 56))] [] [5, 12])
 (.seq (.seq (.region [] [o 57 (.mv (tv 5)),
 oa 58 (.call (kf 77) [(false, (tv 57))] []) 3456,
 o 59 (.len false (tv 58)),
 o 60 (.mv (ki 0))] [] [12, 58, 59, 60])
 (.block 2 (.loop l28_1)))
 (.seq (.region [] [o 70 (.mv (tv 12)),
 oa 71 (.call (kf 75) [(false, (tv 70)), (false, (ki 10))] []) 4480,
 o 72 (.bin .add 0 (.k (.sc (.c (.str [118])))) (tv 71)),
 o 4 (.mv (tv 72))] [] [4])
 .ret))))))),
 [.tmp 4], false⟩

def l163_0 : VCode := (.seq (.region [] [o 9 (.bin .lss 0 (tv 8) (tv 7))] [] [0, 1, 7, 8, 9])
 (.seq (.cond (tv 9) .skip
 (.exit 0))
 (.seq (.block 1 (.seq (.region [] [o 10 (.mv (tv 8)),
 o 5 (.mv (tv 10))] [] [0, 1, 5, 7, 8])
 (.seq (.region [] [o 11 (.mv (tv 1)),
 o 12 (.mv (tv 0)),
 o 13 (.mv (tv 5)),
 o 14 (.idxA 1 (tv 12) (tv 13)),
 o 15 (.load false 1 (tv 14)),
 oa 16 (.call (tv 11) [(false, (tv 15))] []) 832] [] [0, 1, 5, 7, 8, 16])
 (.cond (tv 16) (.seq (.region [] [o 17 (.mv (tv 5)),
 o 4 (.mv (tv 17))] [] [4])
 .ret)
 .skip))))
 (.region [864, 865, 866] [o 18 (.bin .add 0 (tv 8) (ki 1)),
 o 8 (.mv (tv 18))] [] [0, 1, 7, 8]))))

def v163 : VFun := ⟨2,
 (.seq (.region [] [o 4 (.mv (ki 0))] [] [0, 1])
 (.seq (.seq (.region [] [o 6 (.mv (tv 0)),
 o 7 (.len false (tv 6)),
 o 8 (.mv (ki 0))] [] [0, 1, 7, 8])
 (.block 0 (.loop l163_0)))
 (.seq (.region [] [o 4 (.mv (ki (-1)))] [] [4])
 .ret))),
 [.tmp 4], false⟩

def v258 : VFun := ⟨1,
 (.seq (.region [] [oa 2 (.new [zi, zs, zi, zi, .nil] []) 64] [] [0, 2])
 (.seq (.region [] [o 3 (.mv (tv 0)),
 o 4 (.build [zi, zs, zi, zi, .nil] [(0, 1, (ki 5)), (1, 1, (tv 3))]),
 on (.store 5 (tv 2) (tv 4) [])] [] [2])
 .ret)),
 [.cell 2 true 5], false⟩

def v55 : VFun := ⟨2,
 (.seq (.region [] [o 4 (.mv (ki 0))] [] [0, 1])
 (.seq (.region [] [o 7 (.mv (tv 0)),
 oa 8 (.call (kf 105) [(false, (tv 7))] []) 192,
 o 5 (.mv (tv 8))] [] [0, 1, 5])
 (.seq (.region [] [o 9 (.mv (tv 1)),
 oa 10 (.call (kf 105) [(false, (tv 9))] []) 384,
 o 6 (.mv (tv 10))] [] [0, 1, 5, 6])
 (.seq (.seq (.region [] [o 11 (.mv (tv 5))] [] [0, 1, 6, 11])
 (.cond (tv 11) (.seq (.seq (.region [] [o 12 (.mv (tv 6))] [] [12])
 (.cond (tv 12) (.seq (.region [] [o 4 (.mv (ki 0))] [] [4])
 .ret)
 .skip))
 (.seq (.region [] [o 4 (.mv (ki (-1)))] [] [4])
 .ret))
 .skip))
 (.seq (.seq (.region [] [o 13 (.mv (tv 6))] [] [0, 1, 13])
 (.cond (tv 13) (.seq (.region [] [o 4 (.mv (ki 1))] [] [4])
 .ret)
 .skip))
 (.seq (.seq (.region [] [o 14 (.mv (tv 0)),
 o 15 (.mv (tv 1)),
 o 16 (.bin .lss 0 (tv 14) (tv 15))] [] [0, 1, 16])
 (.cond (tv 16) (.seq (.region [] [o 4 (.mv (ki (-1)))] [] [4])
 .ret)
 .skip))
 (.seq (.seq (.region [] [o 17 (.mv (tv 0)),
 o 18 (.mv (tv 1)),
 o 19 (.bin .gtr 0 (tv 17) (tv 18))] [] [19])
 (.cond (tv 19) (.seq (.region [] [o 4 (.mv (ki 1))] [] [4])
 .ret)
 .skip))
 (.seq (.region [] [o 4 (.mv (ki 0))] [] [4])
 .ret)))))))),
 [.tmp 4], false⟩

def v215 : VFun := ⟨2,
 (.seq (.region [] [o 4 (.mv (ki 0))] [] [0, 1])
 (.seq (.region [] [o 7 (.mv (tv 0)),
 oa 8 (.call (kf 248) [(false, (tv 7))] []) 192,
 o 5 (.mv (tv 8))] [] [0, 1, 5])
 (.seq (.region [] [o 9 (.mv (tv 1)),
 oa 10 (.call (kf 248) [(false, (tv 9))] []) 384,
 o 6 (.mv (tv 10))] [] [0, 1, 5, 6])
 (.seq (.seq (.region [] [o 11 (.mv (tv 5))] [] [0, 1, 6, 11])
 (.cond (tv 11) (.seq (.seq (.region [] [o 12 (.mv (tv 6))] [] [12])
 (.cond (tv 12) (.seq (.region [] [o 4 (.mv (ki 0))] [] [4])
 .ret)
 .skip))
 (.seq (.region [] [o 4 (.mv (ki (-1)))] [] [4])
 .ret))
 .skip))
 (.seq (.seq (.region [] [o 13 (.mv (tv 6))] [] [0, 1, 13])
 (.cond (tv 13) (.seq (.region [] [o 4 (.mv (ki 1))] [] [4])
 .ret)
 .skip))
 (.seq (.seq (.region [] [o 14 (.mv (tv 0)),
 o 15 (.mv (tv 1)),
 o 16 (.bin .lss 0 (tv 14) (tv 15))] [] [0, 1, 16])
 (.cond (tv 16) (.seq (.region [] [o 4 (.mv (ki (-1)))] [] [4])
 .ret)
 .skip))
 (.seq (.seq (.region [] [o 17 (.mv (tv 0)),
 o 18 (.mv (tv 1)),
 o 19 (.bin .gtr 0 (tv 17) (tv 18))] [] [19])
 (.cond (tv 19) (.seq (.region [] [o 4 (.mv (ki 1))] [] [4])
 .ret)
 .skip))
 (.seq (.region [] [o 4 (.mv (ki 0))] [] [4])
 .ret)))))))),
 [.tmp 4], false⟩

def l59_0 : VCode := (.seq (.region [] [o 9 (.bin .lss 0 (tv 8) (tv 7))] [] [3, 6, 7, 8, 9])
 (.seq (.cond (tv 9) .skip
 (.exit 0))
 (.seq (.block 1 (.seq (.region [] [o 10 (.idxA 1 (tv 6) (tv 8)),
 o 11 (.load false 1 (tv 10)),
 o 5 (.mv (tv 11))] [] [3, 5, 6, 7, 8])
 (.seq (.region [] [o 12 (.mv (tv 5)),
 o 13 (.mv (tv 3)),
 o 14 (.bin .neq 0 (tv 12) (tv 13))] [] [3, 5, 6, 7, 8, 14])
 (.cond (tv 14) (.seq (.region [] [o 15 (.mv (tv 5)),
 o 2 (.mv (tv 15))] [] [2])
 .ret)
 .skip))))
 (.region [] [o 16 (.bin .add 0 (tv 8) (ki 1)),
 o 8 (.mv (tv 16))] [] [3, 6, 7, 8]))))

def v59 : VFun := ⟨1,
 (.seq (.region [] [o 2 (.mv (ki 0))] [] [0])
 (.seq (.region [] [o 3 (.mv (ki 0))] [] [0, 3])
 (.seq (.seq (.region [] [o 6 (.mv (tv 0)),
 o 7 (.len false (tv 6)),
 o 8 (.mv (ki 0))] [] [3, 6, 7, 8])
 (.block 0 (.loop l59_0)))
 (.seq (.region [] [o 17 (.mv (tv 3)),
 o 2 (.mv (tv 17))] [] [2])
 .ret)))),
 [.tmp 2], false⟩

def l216_0 : VCode := (.seq (.region [] [o 14 (.bin .lss 0 (tv 13) (tv 12))] [] [0, 1, 2, 11, 12, 13, 14])
 (.seq (.cond (tv 14) .skip
 (.exit 0))
 (.seq (.block 1 (.seq (.region [] [o 15 (.mv (tv 13)),
 o 16 (.idxA 5 (tv 11) (tv 13)),
 o 17 (.load true 5 (tv 16)),
 oa 8 (.new [zi, zs, zi, zi, .nil] []) 576,
 o 7 (.mv (tv 15)),
 on (.store 5 (tv 8) (tv 17) [])] [] [0, 1, 2, 7, 8, 11, 12, 13])
 (.seq (.seq (.region [] [o 18 (.mv (tv 7)),
 o 19 (.mv (tv 1)),
 o 20 (.len false (tv 19)),
 o 21 (.bin .geq 0 (tv 18) (tv 20))] [] [0, 1, 2, 7, 8, 11, 12, 13, 21])
 (.cond (tv 21) (.seq (.region [] [o 6 (.mv (ki 1))] [] [6])
 .ret)
 .skip))
 (.seq (.region [] [o 22 (.mv (tv 1)),
 o 23 (.mv (tv 7)),
 o 24 (.idxA 5 (tv 22) (tv 23)),
 o 25 (.load true 5 (tv 24)),
 oa 9 (.new [zi, zs, zi, zi, .nil] []) 1344,
 on (.store 5 (tv 9) (tv 25) [])] [] [0, 1, 2, 8, 9, 11, 12, 13])
 (.seq (.region [] [o 26 (.mv (tv 2)),
 o 27 (.load true 5 (tv 8)),
 o 28 (.load true 5 (tv 9)),
 oa 29 (.call (tv 26) [(false, (tv 27)), (false, (tv 28))] []) 1664,
 o 10 (.mv (tv 29))] [] [0, 1, 2, 10, 11, 12, 13])
 (.seq (.region [576, 1344] [o 30 (.mv (tv 10)),
 o 31 (.bin .neq 0 (tv 30) (ki 0))] [] [0, 1, 2, 10, 11, 12, 13, 31])
 (.cond (tv 31) (.seq (.region [] [o 32 (.mv (tv 10)),
 o 6 (.mv (tv 32))] [] [6])
 .ret)
 .skip)))))))
 (.region [576, 1344, 1696, 1697, 1698] [o 33 (.bin .add 0 (tv 13) (ki 1)),
 o 13 (.mv (tv 33))] [] [0, 1, 2, 11, 12, 13]))))

def v216 : VFun := ⟨3,
 (.seq (.region [] [o 6 (.mv (ki 0))] [] [0, 1, 2])
 (.seq (.seq (.region [] [o 11 (.mv (tv 0)),
 o 12 (.len false (tv 11)),
 o 13 (.mv (ki 0))] [] [0, 1, 2, 11, 12, 13])
 (.block 0 (.loop l216_0)))
 (.seq (.seq (.region [] [o 34 (.mv (tv 0)),
 o 35 (.len false (tv 34)),
 o 36 (.mv (tv 1)),
 o 37 (.len false (tv 36)),
 o 38 (.bin .lss 0 (tv 35) (tv 37))] [] [38])
 (.cond (tv 38) (.seq (.region [] [o 6 (.mv (ki (-1)))] [] [6])
 .ret)
 .skip))
 (.seq (.region [] [o 6 (.mv (ki 0))] [] [6])
 .ret)))),
 [.tmp 6], false⟩

def l263_0 : VCode := (.seq (.seq (.region [] [o 4 (.mv (tv 3)),
 o 5 (.mv (tv 0)),
 o 6 (.len true (tv 5)),
 o 7 (.bin .lss 0 (tv 4) (tv 6))] [] [0, 3, 7])
 (.cond (tv 7) .skip
 (.exit 0)))
 (.seq (.block 1 (.seq (.region [] [o 10 (.mv (tv 0)),
 o 11 (.mv (tv 3)),
 o 12 (.idxS (tv 10) (tv 11)),
 oa 13 (.call (kf 217) [(false, (tv 12))] []) 640,
 o 14 (.un .not (tv 13))] [] [0, 3, 14])
 (.cond (tv 14) (.seq (.region [] [o 2 (.mv kF)] [] [2])
 .ret)
 .skip)))
 (.region [] [o 8 (.mv (tv 3)),
 o 9 (.bin .add 0 (tv 8) (ki 1)),
 o 3 (.mv (tv 9))] [] [0, 3])))

def v263 : VFun := ⟨1,
 (.seq (.region [] [o 2 (.mv kF)] [] [0])
 (.seq (.seq (.region [] [o 3 (.mv (ki 0))] [] [0, 3])
 (.block 0 (.loop l263_0)))
 (.seq (.region [] [o 15 (.mv (tv 0)),
 o 16 (.bin .neq 0 (tv 15) (.k (.sc zs))),
 o 2 (.mv (tv 16))] [] [2])
 .ret))),
 [.tmp 2], false⟩

def l164_0 : VCode := (.seq (.region [] [o 9 (.bin .lss 0 (tv 8) (tv 7))] [] [0, 1, 7, 8, 9])
 (.seq (.cond (tv 9) .skip
 (.exit 0))
 (.seq (.block 1 (.seq (.region [] [o 10 (.mv (tv 8)),
 o 5 (.mv (tv 10))] [] [0, 1, 5, 7, 8])
 (.seq (.region [] [o 11 (.mv (tv 1)),
 o 12 (.mv (tv 0)),
 o 13 (.mv (tv 5)),
 o 14 (.idxA 11 (tv 12) (tv 13)),
 o 15 (.load true 11 (tv 14)),
 oa 16 (.call (tv 11) [(false, (tv 15))] []) 832] [] [0, 1, 5, 7, 8, 16])
 (.cond (tv 16) (.seq (.region [] [o 17 (.mv (tv 5)),
 o 4 (.mv (tv 17))] [] [4])
 .ret)
 .skip))))
 (.region [864, 865, 866] [o 18 (.bin .add 0 (tv 8) (ki 1)),
 o 8 (.mv (tv 18))] [] [0, 1, 7, 8]))))

def v164 : VFun := ⟨2,
 (.seq (.region [] [o 4 (.mv (ki 0))] [] [0, 1])
 (.seq (.seq (.region [] [o 6 (.mv (tv 0)),
 o 7 (.len false (tv 6)),
 o 8 (.mv (ki 0))] [] [0, 1, 7, 8])
 (.block 0 (.loop l164_0)))
 (.seq (.region [] [o 4 (.mv (ki (-1)))] [] [4])
 .ret))),
 [.tmp 4], false⟩

def v73 : VFun := ⟨2,
 (.seq (.region [] [o 4 (.mv (.k (.sc zs))),
 o 5 (.mv kF)] [] [0, 1])
 (.seq (.region [] [o 6 (.mv (tv 0)),
 o 7 (.mv (tv 1)),
 oa 8 (.call (kf 134) [(false, (tv 6)), (false, (tv 7))] []) 320,
 o 9 (.ext 0 (tv 8)),
 o 10 (.ext 1 (tv 8)),
 o 4 (.mv (tv 9)),
 o 5 (.mv (tv 10))] [] [4, 5])
 .ret)),
 [.tmp 4, .tmp 5], false⟩

def v74 : VFun := ⟨3,
 (.seq (.region [] [o 6 (.mv (.k (.sc (.c (.int .u64 0))))),
 o 7 (.mv (.k (.sc (.c .nilif))))] [] [0, 1, 2])
 (.seq (.region [] [o 11 (.mv (tv 0)),
 o 12 (.mv (tv 1)),
 o 13 (.mv (tv 2)),
 oa 14 (.call (kf 135) [(false, (tv 11)), (false, (tv 12)), (false, (tv 13))] []) 384,
 o 10 (.mv (tv 14)),
 o 15 (.ext 0 (tv 10)),
 o 16 (.ext 1 (tv 10)),
 o 8 (.mv (tv 15)),
 o 9 (.mv (tv 16))] [] [0, 1, 2, 8, 9])
 (.seq (.seq (.region [] [o 17 (.mv (tv 9)),
 o 18 (.bin .neq 5 (tv 17) (.k (.sc (.c .nilif))))] [] [0, 1, 2, 8, 9, 18])
 (.cond (tv 18) (.seq (.region [] [o 19 (.mv (tv 8)),
 o 20 (.mv (tv 0)),
 o 21 (.mv (tv 1)),
 o 22 (.mv (tv 2)),
 o 23 (.mv (tv 9)),
 oa 24 (.call (kf 136) [(false, (.k (.sc (.c (.str [80, 97, 114, 115, 101, 85, 105, 110, 116]))))), (false, (tv 20)), (false, (tv 21)), (false, (tv 22)), (false, (tv 23))] []) 1216,
 o 6 (.mv (tv 19)),
 o 7 (.mv (tv 24))] [] [6, 7])
 .ret)
 .skip))
 (.seq (.region [] [o 25 (.mv (tv 8)),
 o 6 (.mv (tv 25)),
 o 7 (.mv (.k (.sc (.c .nilif))))] [] [6, 7])
 .ret)))),
 [.tmp 6, .tmp 7], true⟩

def v75 : VFun := ⟨2,
 (.seq (.region [] [o 4 (.mv (.k (.sc zs)))] [] [0, 1])
 (.seq (.region [] [o 5 (.mv (tv 0)),
 o 6 (.mv (tv 1)),
 oa 7 (.call (kf 137) [(false, (tv 5)), (false, (tv 6))] []) 256,
 o 4 (.mv (tv 7))] [] [4])
 .ret)),
 [.tmp 4], false⟩

def v76 : VFun := ⟨1,
 (.seq (.region [] [o 3 (.mv (tv 0)),
 o 4 (.len false (tv 3)),
 o 2 (.mv (tv 4))] [] [0, 2])
 (.region [] [o 5 (.mv (tv 0)),
 o 6 (.mv (tv 2)),
 o 7 (.mv (tv 2)),
 o 8 (.cvI .u64 (tv 7)),
 oa 9 (.call (kf 139) [(false, (tv 8))] []) 512,
 oa 10 (.call (kf 138) [(false, (tv 5)), (false, (ki 0)), (false, (tv 6)), (false, (tv 9))] []) 576] [] [1000000])),
 [], false⟩

def l77_0 : VCode := (.seq (.seq (.region [] [o 29 (.mv (tv 5)),
 o 30 (.mv (tv 4)),
 o 31 (.len false (tv 30)),
 o 32 (.bin .lss 0 (tv 29) (tv 31))] [] [0, 3, 4, 5, 32])
 (.cond (tv 32) .skip
 (.exit 2)))
 (.seq (.block 3 (.seq (.region [] [o 35 (.mv (tv 4)),
 o 36 (.mv (tv 5)),
 o 37 (.idxA 1 (tv 35) (tv 36)),
 o 38 (.load false 1 (tv 37)),
 o 39 (.mv (tv 4)),
 o 40 (.mv (tv 5)),
 o 41 (.bin .sub 0 (tv 40) (ki 1)),
 o 42 (.idxA 1 (tv 39) (tv 41)),
 o 43 (.load false 1 (tv 42)),
 o 44 (.bin .neq 0 (tv 38) (tv 43))] [(2, 7), (3, 7), (2, 8), (3, 8)] [0, 3, 4, 5, 44])
 (.cond (tv 44) (.seq (.region [] [o 45 (.mv (tv 0)),
 o 46 (.mv (tv 3)),
 o 47 (.mv (tv 4)),
 o 48 (.mv (tv 5)),
 o 49 (.idxA 1 (tv 47) (tv 48)),
 o 50 (.load false 1 (tv 49)),
 o 51 (.idxA 1 (tv 45) (tv 46)),
 on (.store 1 (tv 51) (tv 50) [])] [] [0, 3, 4, 5])
 (.region [] [o 52 (.mv (tv 3)),
 o 53 (.bin .add 0 (tv 52) (ki 1)),
 o 3 (.mv (tv 53))] [] [0, 3, 4, 5]))
 .skip)))
 (.region [] [o 33 (.mv (tv 5)),
 o 34 (.bin .add 0 (tv 33) (ki 1)),
 o 5 (.mv (tv 34))] [] [0, 3, 4, 5])))

def l77_1 : VCode := (.seq (.seq (.region [] [o 10 (.mv (tv 3)),
 o 11 (.mv (tv 0)),
 o 12 (.len false (tv 11)),
 o 13 (.bin .lss 0 (tv 10) (tv 12))] [] [0, 3, 13])
 (.cond (tv 13) .skip
 (.exit 0)))
 (.seq (.block 1 (.seq (.region [] [o 16 (.mv (tv 0)),
 o 17 (.mv (tv 3)),
 o 18 (.idxA 1 (tv 16) (tv 17)),
 o 19 (.load false 1 (tv 18)),
 o 20 (.mv (tv 0)),
 o 21 (.mv (tv 3)),
 o 22 (.bin .sub 0 (tv 21) (ki 1)),
 o 23 (.idxA 1 (tv 20) (tv 22)),
 o 24 (.load false 1 (tv 23)),
 o 25 (.bin .eql 0 (tv 19) (tv 24))] [(2, 7), (3, 7), (2, 8), (3, 8)] [0, 3, 25])
 (.cond (tv 25) (.seq (.region [] [o 26 (.mv (tv 0)),
 o 27 (.mv (tv 3)),
 o 28 (.sl 1 (tv 26) (some (tv 27)) none none),
 o 4 (.mv (tv 28))] [] [0, 3, 4])
 (.seq (.seq (.region [] [o 5 (.mv (ki 1))] [] [0, 3, 4, 5])
 (.block 2 (.loop l77_0)))
 (.seq (.region [] [o 54 (.mv (tv 0)),
 o 55 (.mv (tv 3)),
 o 56 (.sl 1 (tv 54) (some (tv 55)) none none),
 on .bad] [] [0, 3])
 (.seq (.region [] [o 57 (.mv (tv 0)),
 o 58 (.mv (tv 3)),
 o 59 (.sl 1 (tv 57) none (some (tv 58)) none),
 o 2 (.mv (tv 59))] [] [2])
 .ret))))
 .skip)))
 (.region [] [o 14 (.mv (tv 3)),
 o 15 (.bin .add 0 (tv 14) (ki 1)),
 o 3 (.mv (tv 15))] [] [0, 3])))

def v77 : VFun := ⟨1,
 (.seq (.region [] [o 2 (.mv kn)] [] [0])
 (.seq (.seq (.region [] [o 6 (.mv (tv 0)),
 o 7 (.len false (tv 6)),
 o 8 (.bin .lss 0 (tv 7) (ki 2))] [] [0, 8])
 (.cond (tv 8) (.seq (.region [] [o 9 (.mv (tv 0)),
 o 2 (.mv (tv 9))] [] [2])
 .ret)
 .skip))
 (.seq (.seq (.region [] [o 3 (.mv (ki 1))] [] [0, 3])
 (.block 0 (.loop l77_1)))
 (.seq (.region [] [o 60 (.mv (tv 0)),
 o 2 (.mv (tv 60))] [] [2])
 .ret)))),
 [.tmp 2], false⟩

def v105 : VFun := ⟨1,
 (.seq (.region [] [o 2 (.mv kF)] [] [0])
 (.seq (.region [] [o 3 (.mv (tv 0)),
 o 4 (.mv (tv 0)),
 o 5 (.bin .neq 0 (tv 3) (tv 4)),
 o 2 (.mv (tv 5))] [] [2])
 .ret)),
 [.tmp 2], false⟩

def v248 : VFun := ⟨1,
 (.seq (.region [] [o 2 (.mv kF)] [] [0])
 (.seq (.region [] [o 3 (.mv (tv 0)),
 o 4 (.mv (tv 0)),
 o 5 (.bin .neq 0 (tv 3) (tv 4)),
 o 2 (.mv (tv 5))] [] [2])
 .ret)),
 [.tmp 2], false⟩

def v134 : VFun := ⟨2,
 (.seq (.region [] [o 4 (.mv (.k (.sc zs))),
 o 5 (.mv kF)] [] [0, 1])
 (.seq (.seq (.region [] [o 6 (.mv (tv 0)),
 o 7 (.mv (tv 1)),
 oa 8 (.call (kf 181) [(false, (tv 6)), (false, (tv 7))] []) 320,
 o 9 (.un .not (tv 8))] [] [0, 1, 9])
 (.cond (tv 9) (.seq (.region [] [o 10 (.mv (tv 0)),
 o 4 (.mv (tv 10)),
 o 5 (.mv kF)] [] [4, 5])
 .ret)
 .skip))
 (.seq (.region [] [o 11 (.mv (tv 0)),
 o 12 (.mv (tv 1)),
 o 13 (.len true (tv 12)),
 o 14 (.slS (tv 11) (some (tv 13)) none),
 o 4 (.mv (tv 14)),
 o 5 (.mv kt)] [] [4, 5])
 .ret))),
 [.tmp 4, .tmp 5], false⟩

def l135_0 : VCode := (.seq (.region [] [o 102 (.bin .lss 0 (tv 101) (tv 100))] [] [1, 8, 9, 10, 11, 12, 13, 99, 100, 101, 102])
 (.seq (.cond (tv 102) .skip
 (.exit 3))
 (.seq (.block 4 (.seq (.region [] [o 103 (.idxA 1 (tv 99) (tv 101)),
 o 104 (.load false 1 (tv 103)),
 o 15 (.mv (tv 104))] [] [1, 8, 9, 10, 11, 12, 13, 15, 99, 100, 101])
 (.seq (.region [] [o 16 (.mv (.k (.sc (.c (.int .u8 0)))))] [] [1, 8, 9, 10, 11, 12, 13, 15, 99, 100, 101])
 (.seq (.block 5 (.seq (.region [] [o 107 (.mv (tv 15)),
 o 108 (.bin .eql 0 (tv 107) (.k (.sc (.c (.int .u8 95))))),
 o 109 (.mv (tv 108)),
 og 110 (.mv (tv 8)) 109 true,
 o 111 (.pick (tv 109) (tv 110) kF),
 o 106 (.mv (tv 111))] [] [1, 8, 9, 10, 11, 12, 13, 15, 99, 100, 101, 106])
 (.cond (tv 106) (.seq (.region [] [o 12 (.mv kt)] [] [1, 8, 9, 10, 11, 12, 13, 99, 100, 101])
 (.exit 4))
 (.seq (.region [] [o 113 (.mv (tv 15)),
 o 114 (.bin .leq 0 (.k (.sc (.c (.int .u8 48)))) (tv 113)),
 o 115 (.mv (tv 114)),
 og 116 (.mv (tv 15)) 115 true,
 og 117 (.bin .leq 0 (tv 116) (.k (.sc (.c (.int .u8 57))))) 115 true,
 o 118 (.pick (tv 115) (tv 117) kF),
 o 112 (.mv (tv 118))] [] [1, 8, 9, 10, 11, 12, 13, 15, 99, 100, 101, 112])
 (.cond (tv 112) (.region [] [o 119 (.mv (tv 15)),
 o 120 (.bin .sub 0 (tv 119) (.k (.sc (.c (.int .u8 48))))),
 o 16 (.mv (tv 120))] [] [1, 8, 9, 10, 11, 12, 13, 16, 99, 100, 101])
 (.seq (.region [] [o 122 (.mv (tv 15)),
 oa 123 (.call (kf 182) [(false, (tv 122))] []) 8640,
 o 124 (.bin .leq 0 (.k (.sc (.c (.int .u8 97)))) (tv 123)),
 o 125 (.mv (tv 124)),
 og 126 (.mv (tv 15)) 125 true,
 ⟨(some 127), (.call (kf 182) [(false, (tv 126))] []), (some (125, true)), 8896, []⟩,
 og 128 (.bin .leq 0 (tv 127) (.k (.sc (.c (.int .u8 122))))) 125 true,
 o 129 (.pick (tv 125) (tv 128) kF),
 o 121 (.mv (tv 129))] [] [1, 8, 9, 10, 11, 12, 13, 15, 99, 100, 101, 121])
 (.cond (tv 121) (.region [] [o 130 (.mv (tv 15)),
 oa 131 (.call (kf 182) [(false, (tv 130))] []) 9216,
 o 132 (.bin .sub 0 (tv 131) (.k (.sc (.c (.int .u8 97))))),
 o 133 (.bin .add 0 (tv 132) (.k (.sc (.c (.int .u8 10))))),
 o 16 (.mv (tv 133))] [] [1, 8, 9, 10, 11, 12, 13, 16, 99, 100, 101])
 (.seq (.region [] [o 105 (.ifc 209 (ki 2)),
 o 6 (.mv (.k (.sc (.c (.int .u64 0))))),
 o 7 (.mv (tv 105))] [] [6, 7])
 .ret))))))))
 (.seq (.seq (.region [] [o 134 (.mv (tv 16)),
 o 135 (.mv (tv 1)),
 o 136 (.cvI .u8 (tv 135)),
 o 137 (.bin .geq 0 (tv 134) (tv 136))] [] [1, 8, 9, 10, 11, 12, 13, 16, 99, 100, 101, 137])
 (.cond (tv 137) (.seq (.region [] [o 138 (.ifc 209 (ki 2)),
 o 6 (.mv (.k (.sc (.c (.int .u64 0))))),
 o 7 (.mv (tv 138))] [] [6, 7])
 .ret)
 .skip))
 (.seq (.seq (.region [] [o 139 (.mv (tv 13)),
 o 140 (.mv (tv 10)),
 o 141 (.bin .geq 0 (tv 139) (tv 140))] [] [1, 8, 9, 10, 11, 12, 13, 16, 99, 100, 101, 141])
 (.cond (tv 141) (.seq (.region [] [o 142 (.mv (tv 11)),
 o 143 (.ifc 209 (ki 1)),
 o 6 (.mv (tv 142)),
 o 7 (.mv (tv 143))] [] [6, 7])
 .ret)
 .skip))
 (.seq (.region [] [o 144 (.mv (tv 13)),
 o 145 (.mv (tv 1)),
 o 146 (.cvI .u64 (tv 145)),
 o 147 (.bin .mul 0 (tv 144) (tv 146)),
 o 13 (.mv (tv 147))] [] [1, 8, 9, 10, 11, 12, 13, 16, 99, 100, 101])
 (.seq (.region [] [o 148 (.mv (tv 13)),
 o 149 (.mv (tv 16)),
 o 150 (.cvI .u64 (tv 149)),
 o 151 (.bin .add 0 (tv 148) (tv 150)),
 o 17 (.mv (tv 151))] [] [1, 8, 9, 10, 11, 12, 13, 17, 99, 100, 101])
 (.seq (.seq (.region [] [o 152 (.mv (tv 17)),
 o 153 (.mv (tv 13)),
 o 154 (.bin .lss 0 (tv 152) (tv 153)),
 o 155 (.mv (tv 154)),
 og 156 (.mv (tv 17)) 155 false,
 og 157 (.mv (tv 11)) 155 false,
 og 158 (.bin .gtr 0 (tv 156) (tv 157)) 155 false,
 o 159 (.pick (tv 155) kt (tv 158))] [] [1, 8, 9, 10, 11, 12, 17, 99, 100, 101, 159])
 (.cond (tv 159) (.seq (.region [] [o 160 (.mv (tv 11)),
 o 161 (.ifc 209 (ki 1)),
 o 6 (.mv (tv 160)),
 o 7 (.mv (tv 161))] [] [6, 7])
 .ret)
 .skip))
 (.region [] [o 162 (.mv (tv 17)),
 o 13 (.mv (tv 162))] [] [1, 8, 9, 10, 11, 12, 13, 99, 100, 101]))))))))))
 (.region [] [o 163 (.bin .add 0 (tv 101) (ki 1)),
 o 101 (.mv (tv 163))] [] [1, 8, 9, 10, 11, 12, 13, 99, 100, 101]))))

def v135 : VFun := ⟨3,
 (.seq (.region [] [o 6 (.mv (.k (.sc (.c (.int .u64 0))))),
 o 7 (.mv (.k (.sc (.c .nilif))))] [] [0, 1, 2])
 (.seq (.seq (.region [] [o 18 (.mv (tv 0)),
 o 19 (.bin .eql 0 (tv 18) (.k (.sc zs)))] [] [0, 1, 2, 19])
 (.cond (tv 19) (.seq (.region [] [o 20 (.ifc 209 (ki 2)),
 o 6 (.mv (.k (.sc (.c (.int .u64 0))))),
 o 7 (.mv (tv 20))] [] [6, 7])
 .ret)
 .skip))
 (.seq (.region [] [o 21 (.mv (tv 1)),
 o 22 (.bin .eql 0 (tv 21) (ki 0)),
 o 8 (.mv (tv 22))] [] [0, 1, 2, 8])
 (.seq (.region [] [o 23 (.mv (tv 0)),
 o 9 (.mv (tv 23))] [] [0, 1, 2, 8, 9])
 (.seq (.block 0 (.seq (.region [] [o 26 (.mv (tv 1)),
 o 27 (.bin .leq 0 (ki 2) (tv 26)),
 o 28 (.mv (tv 27)),
 og 29 (.mv (tv 1)) 28 true,
 og 30 (.bin .leq 0 (tv 29) (ki 36)) 28 true,
 o 31 (.pick (tv 28) (tv 30) kF),
 o 25 (.mv (tv 31))] [] [0, 1, 2, 8, 9, 25])
 (.cond (tv 25) .skip
 (.seq (.region [] [o 33 (.mv (tv 1)),
 o 34 (.bin .eql 0 (tv 33) (ki 0)),
 o 32 (.mv (tv 34))] [] [0, 2, 8, 9, 32])
 (.cond (tv 32) (.seq (.region [] [o 1 (.mv (ki 10))] [] [0, 1, 2, 8, 9])
 (.seq (.region [] [o 35 (.mv (tv 0)),
 o 36 (.idxS (tv 35) (ki 0)),
 o 37 (.bin .eql 0 (tv 36) (.k (.sc (.c (.int .u8 48)))))] [] [0, 1, 2, 8, 9, 37])
 (.cond (tv 37) (.block 1 (.seq (.region [] [o 41 (.mv (tv 0)),
 o 42 (.len true (tv 41)),
 o 43 (.bin .geq 0 (tv 42) (ki 3)),
 o 44 (.mv (tv 43)),
 og 45 (.mv (tv 0)) 44 true,
 og 46 (.idxS (tv 45) (ki 1)) 44 true,
 ⟨(some 47), (.call (kf 182) [(false, (tv 46))] []), (some (44, true)), 2112, []⟩,
 og 48 (.bin .eql 0 (tv 47) (.k (.sc (.c (.int .u8 98))))) 44 true,
 o 49 (.pick (tv 44) (tv 48) kF),
 o 40 (.mv (tv 49))] [] [0, 2, 8, 9, 40])
 (.cond (tv 40) (.seq (.region [] [o 1 (.mv (ki 2))] [] [0, 1, 2, 8, 9])
 (.region [] [o 50 (.mv (tv 0)),
 o 51 (.slS (tv 50) (some (ki 2)) none),
 o 0 (.mv (tv 51))] [] [0, 1, 2, 8, 9]))
 (.seq (.region [] [o 53 (.mv (tv 0)),
 o 54 (.len true (tv 53)),
 o 55 (.bin .geq 0 (tv 54) (ki 3)),
 o 56 (.mv (tv 55)),
 og 57 (.mv (tv 0)) 56 true,
 og 58 (.idxS (tv 57) (ki 1)) 56 true,
 ⟨(some 59), (.call (kf 182) [(false, (tv 58))] []), (some (56, true)), 3008, []⟩,
 og 60 (.bin .eql 0 (tv 59) (.k (.sc (.c (.int .u8 111))))) 56 true,
 o 61 (.pick (tv 56) (tv 60) kF),
 o 52 (.mv (tv 61))] [] [0, 2, 8, 9, 52])
 (.cond (tv 52) (.seq (.region [] [o 1 (.mv (ki 8))] [] [0, 1, 2, 8, 9])
 (.region [] [o 62 (.mv (tv 0)),
 o 63 (.slS (tv 62) (some (ki 2)) none),
 o 0 (.mv (tv 63))] [] [0, 1, 2, 8, 9]))
 (.seq (.region [] [o 65 (.mv (tv 0)),
 o 66 (.len true (tv 65)),
 o 67 (.bin .geq 0 (tv 66) (ki 3)),
 o 68 (.mv (tv 67)),
 og 69 (.mv (tv 0)) 68 true,
 og 70 (.idxS (tv 69) (ki 1)) 68 true,
 ⟨(some 71), (.call (kf 182) [(false, (tv 70))] []), (some (68, true)), 3904, []⟩,
 og 72 (.bin .eql 0 (tv 71) (.k (.sc (.c (.int .u8 120))))) 68 true,
 o 73 (.pick (tv 68) (tv 72) kF),
 o 64 (.mv (tv 73))] [] [0, 2, 8, 9, 64])
 (.cond (tv 64) (.seq (.region [] [o 1 (.mv (ki 16))] [] [0, 1, 2, 8, 9])
 (.region [] [o 74 (.mv (tv 0)),
 o 75 (.slS (tv 74) (some (ki 2)) none),
 o 0 (.mv (tv 75))] [] [0, 1, 2, 8, 9]))
 (.seq (.region [] [o 1 (.mv (ki 8))] [] [0, 1, 2, 8, 9])
 (.region [] [o 38 (.mv (tv 0)),
 o 39 (.slS (tv 38) (some (ki 1)) none),
 o 0 (.mv (tv 39))] [] [0, 1, 2, 8, 9])))))))))
 .skip)))
 (.seq (.region [] [o 24 (.ifc 209 (ki 3)),
 o 6 (.mv (.k (.sc (.c (.int .u64 0))))),
 o 7 (.mv (tv 24))] [] [6, 7])
 .ret))))))
 (.seq (.seq (.region [] [o 76 (.mv (tv 2)),
 o 77 (.bin .eql 0 (tv 76) (ki 0))] [] [0, 1, 2, 8, 9, 77])
 (.cond (tv 77) (.region [] [o 2 (.mv (ki 64))] [] [0, 1, 2, 8, 9])
 (.seq (.region [] [o 78 (.mv (tv 2)),
 o 79 (.bin .lss 0 (tv 78) (ki 0)),
 o 80 (.mv (tv 79)),
 og 81 (.mv (tv 2)) 80 false,
 og 82 (.bin .gtr 0 (tv 81) (ki 64)) 80 false,
 o 83 (.pick (tv 80) kt (tv 82))] [] [0, 1, 2, 8, 9, 83])
 (.cond (tv 83) (.seq (.region [] [o 84 (.ifc 209 (ki 4)),
 o 6 (.mv (.k (.sc (.c (.int .u64 0))))),
 o 7 (.mv (tv 84))] [] [6, 7])
 .ret)
 .skip))))
 (.seq (.region [] [o 10 (.mv (.k (.sc (.c (.int .u64 0)))))] [] [0, 1, 2, 8, 9])
 (.seq (.seq (.region [] [o 85 (.mv (tv 1))] [] [0, 1, 2, 8, 9, 85])
 (.block 2 (.seq (.region [] [o 91 (.bin .eql 0 (tv 85) (ki 10)),
 o 90 (.mv (tv 91))] [] [0, 1, 2, 8, 9, 85, 90])
 (.cond (tv 90) (.region [] [o 10 (.mv (.k (.sc (.c (.int .u64 1844674407370955162)))))] [] [0, 1, 2, 8, 9, 10])
 (.seq (.region [] [o 93 (.bin .eql 0 (tv 85) (ki 16)),
 o 92 (.mv (tv 93))] [] [0, 1, 2, 8, 9, 92])
 (.cond (tv 92) (.region [] [o 10 (.mv (.k (.sc (.c (.int .u64 1152921504606846976)))))] [] [0, 1, 2, 8, 9, 10])
 (.region [] [o 86 (.mv (tv 1)),
 o 87 (.cvI .u64 (tv 86)),
 o 88 (.bin .quo 0 (.k (.sc (.c (.int .u64 18446744073709551615)))) (tv 87)),
 o 89 (.bin .add 0 (tv 88) (.k (.sc (.c (.int .u64 1))))),
 o 10 (.mv (tv 89))] [] [0, 1, 2, 8, 9, 10])))))))
 (.seq (.region [] [o 94 (.mv (tv 2)),
 o 95 (.cvI .u64 (tv 94)),
 o 96 (.bin .shl 0 (.k (.sc (.c (.int .u64 1)))) (tv 95)),
 o 97 (.bin .sub 0 (tv 96) (.k (.sc (.c (.int .u64 1))))),
 o 11 (.mv (tv 97))] [] [0, 1, 8, 9, 10, 11])
 (.seq (.region [] [o 12 (.mv kF)] [] [0, 1, 8, 9, 10, 11, 12])
 (.seq (.region [] [o 13 (.mv (.k (.sc (.c (.int .u64 0)))))] [] [0, 1, 8, 9, 10, 11, 12, 13])
 (.seq (.seq (.region [] [o 98 (.mv (tv 0)),
 o 99 (.cvB (tv 98)),
 o 100 (.len false (tv 99)),
 o 101 (.mv (ki 0))] [] [1, 8, 9, 10, 11, 12, 13, 99, 100, 101])
 (.block 3 (.loop l135_0)))
 (.seq (.seq (.region [] [o 164 (.mv (tv 12)),
 o 165 (.mv (tv 164)),
 og 166 (.mv (tv 9)) 165 true,
 ⟨(some 167), (.call (kf 183) [(false, (tv 166))] []), (some (165, true)), 12416, []⟩,
 og 168 (.un .not (tv 167)) 165 true,
 o 169 (.pick (tv 165) (tv 168) kF)] [] [13, 169])
 (.cond (tv 169) (.seq (.region [] [o 170 (.ifc 209 (ki 2)),
 o 6 (.mv (.k (.sc (.c (.int .u64 0))))),
 o 7 (.mv (tv 170))] [] [6, 7])
 .ret)
 .skip))
 (.seq (.region [] [o 171 (.mv (tv 13)),
 o 6 (.mv (tv 171)),
 o 7 (.mv (.k (.sc (.c .nilif))))] [] [6, 7])
 .ret)))))))))))))),
 [.tmp 6, .tmp 7], false⟩

set_option maxRecDepth 100000 in
theorem m171 : mFun Go.Proofs.Tryz.prog 171 v171 = true := by kernel_rfl
set_option maxRecDepth 100000 in
theorem m172 : mFun Go.Proofs.Tryz.prog 172 v172 = true := by kernel_rfl
set_option maxRecDepth 100000 in
theorem m143 : mFun Go.Proofs.Tryz.prog 143 v143 = true := by kernel_rfl
set_option maxRecDepth 100000 in
theorem m146 : mFun Go.Proofs.Tryz.prog 146 v146 = true := by kernel_rfl
set_option maxRecDepth 100000 in
theorem m147 : mFun Go.Proofs.Tryz.prog 147 v147 = true := by kernel_rfl
set_option maxRecDepth 100000 in
theorem m141 : mFun Go.Proofs.Tryz.prog 141 v141 = true := by kernel_rfl
set_option maxRecDepth 100000 in
theorem m142 : mFun Go.Proofs.Tryz.prog 142 v142 = true := by kernel_rfl
set_option maxRecDepth 100000 in
theorem m107 : mFun Go.Proofs.Tryz.prog 107 v107 = true := by kernel_rfl
set_option maxRecDepth 100000 in
theorem m173 : mFun Go.Proofs.Tryz.prog 173 v173 = true := by kernel_rfl
set_option maxRecDepth 100000 in
theorem m174 : mFun Go.Proofs.Tryz.prog 174 v174 = true := by kernel_rfl
set_option maxRecDepth 100000 in
theorem m176 : mFun Go.Proofs.Tryz.prog 176 v176 = true := by kernel_rfl
set_option maxRecDepth 100000 in
theorem m149 : mFun Go.Proofs.Tryz.prog 149 v149 = true := by kernel_rfl
set_option maxRecDepth 100000 in
theorem m114 : mFun Go.Proofs.Tryz.prog 114 v114 = true := by kernel_rfl
set_option maxRecDepth 100000 in
theorem m177 : mFun Go.Proofs.Tryz.prog 177 v177 = true := by kernel_rfl
set_option maxRecDepth 100000 in
theorem m178 : mFun Go.Proofs.Tryz.prog 178 v178 = true := by kernel_rfl
set_option maxRecDepth 100000 in
theorem m180 : mFun Go.Proofs.Tryz.prog 180 v180 = true := by kernel_rfl
set_option maxRecDepth 100000 in
theorem m92 : mFun Go.Proofs.Tryz.prog 92 v92 = true := by kernel_rfl
set_option maxRecDepth 100000 in
theorem m83 : mFun Go.Proofs.Tryz.prog 83 v83 = true := by kernel_rfl
set_option maxRecDepth 100000 in
theorem m29 : mFun Go.Proofs.Tryz.prog 29 v29 = true := by kernel_rfl
set_option maxRecDepth 100000 in
theorem m217 : mFun Go.Proofs.Tryz.prog 217 v217 = true := by kernel_rfl
set_option maxRecDepth 100000 in
theorem m218 : mFun Go.Proofs.Tryz.prog 218 v218 = true := by kernel_rfl
set_option maxRecDepth 100000 in
theorem m219 : mFun Go.Proofs.Tryz.prog 219 v219 = true := by kernel_rfl
set_option maxRecDepth 100000 in
theorem m220 : mFun Go.Proofs.Tryz.prog 220 v220 = true := by kernel_rfl
set_option maxRecDepth 100000 in
theorem m221 : mFun Go.Proofs.Tryz.prog 221 v221 = true := by kernel_rfl
set_option maxRecDepth 100000 in
theorem m222 : mFun Go.Proofs.Tryz.prog 222 v222 = true := by kernel_rfl
set_option maxRecDepth 100000 in
theorem m224 : mFun Go.Proofs.Tryz.prog 224 v224 = true := by kernel_rfl
set_option maxRecDepth 100000 in
theorem m225 : mFun Go.Proofs.Tryz.prog 225 v225 = true := by kernel_rfl
set_option maxRecDepth 100000 in
theorem m226 : mFun Go.Proofs.Tryz.prog 226 v226 = true := by kernel_rfl
set_option maxRecDepth 100000 in
theorem m227 : mFun Go.Proofs.Tryz.prog 227 v227 = true := by kernel_rfl
set_option maxRecDepth 100000 in
theorem m206 : mFun Go.Proofs.Tryz.prog 206 v206 = true := by kernel_rfl
set_option maxRecDepth 100000 in
theorem m208 : mFun Go.Proofs.Tryz.prog 208 v208 = true := by kernel_rfl
set_option maxRecDepth 100000 in
theorem m207 : mFun Go.Proofs.Tryz.prog 207 v207 = true := by kernel_rfl
set_option maxRecDepth 100000 in
theorem m209 : mFun Go.Proofs.Tryz.prog 209 v209 = true := by kernel_rfl
set_option maxRecDepth 100000 in
theorem m203 : mFun Go.Proofs.Tryz.prog 203 v203 = true := by kernel_rfl
set_option maxRecDepth 100000 in
theorem m204 : mFun Go.Proofs.Tryz.prog 204 v204 = true := by kernel_rfl
set_option maxRecDepth 100000 in
theorem m228 : mFun Go.Proofs.Tryz.prog 228 v228 = true := by kernel_rfl
set_option maxRecDepth 100000 in
theorem m229 : mFun Go.Proofs.Tryz.prog 229 v229 = true := by kernel_rfl
set_option maxRecDepth 100000 in
theorem m230 : mFun Go.Proofs.Tryz.prog 230 v230 = true := by kernel_rfl
set_option maxRecDepth 100000 in
theorem m231 : mFun Go.Proofs.Tryz.prog 231 v231 = true := by kernel_rfl
set_option maxRecDepth 100000 in
theorem m232 : mFun Go.Proofs.Tryz.prog 232 v232 = true := by kernel_rfl
set_option maxRecDepth 100000 in
theorem m162 : mFun Go.Proofs.Tryz.prog 162 v162 = true := by kernel_rfl
set_option maxRecDepth 100000 in
theorem m179 : mFun Go.Proofs.Tryz.prog 179 v179 = true := by kernel_rfl
set_option maxRecDepth 100000 in
theorem m78 : mFun Go.Proofs.Tryz.prog 78 v78 = true := by kernel_rfl
set_option maxRecDepth 100000 in
theorem m249 : mFun Go.Proofs.Tryz.prog 249 v249 = true := by kernel_rfl
set_option maxRecDepth 100000 in
theorem m250 : mFun Go.Proofs.Tryz.prog 250 v250 = true := by kernel_rfl
set_option maxRecDepth 100000 in
theorem m251 : mFun Go.Proofs.Tryz.prog 251 v251 = true := by kernel_rfl
set_option maxRecDepth 100000 in
theorem m252 : mFun Go.Proofs.Tryz.prog 252 v252 = true := by kernel_rfl
set_option maxRecDepth 100000 in
theorem m253 : mFun Go.Proofs.Tryz.prog 253 v253 = true := by kernel_rfl
set_option maxRecDepth 100000 in
theorem m254 : mFun Go.Proofs.Tryz.prog 254 v254 = true := by kernel_rfl
set_option maxRecDepth 100000 in
theorem m255 : mFun Go.Proofs.Tryz.prog 255 v255 = true := by kernel_rfl
set_option maxRecDepth 100000 in
theorem m256 : mFun Go.Proofs.Tryz.prog 256 v256 = true := by kernel_rfl
set_option maxRecDepth 100000 in
theorem m246 : mFun Go.Proofs.Tryz.prog 246 v246 = true := by kernel_rfl
set_option maxRecDepth 100000 in
theorem m117 : mFun Go.Proofs.Tryz.prog 117 v117 = true := by kernel_rfl
set_option maxRecDepth 100000 in
theorem m28 : mFun Go.Proofs.Tryz.prog 28 v28 = true := by kernel_rfl
set_option maxRecDepth 100000 in
theorem m163 : mFun Go.Proofs.Tryz.prog 163 v163 = true := by kernel_rfl
set_option maxRecDepth 100000 in
theorem m258 : mFun Go.Proofs.Tryz.prog 258 v258 = true := by kernel_rfl
set_option maxRecDepth 100000 in
theorem m55 : mFun Go.Proofs.Tryz.prog 55 v55 = true := by kernel_rfl
set_option maxRecDepth 100000 in
theorem m215 : mFun Go.Proofs.Tryz.prog 215 v215 = true := by kernel_rfl
set_option maxRecDepth 100000 in
theorem m59 : mFun Go.Proofs.Tryz.prog 59 v59 = true := by kernel_rfl
set_option maxRecDepth 100000 in
theorem m216 : mFun Go.Proofs.Tryz.prog 216 v216 = true := by kernel_rfl
set_option maxRecDepth 100000 in
theorem m263 : mFun Go.Proofs.Tryz.prog 263 v263 = true := by kernel_rfl
set_option maxRecDepth 100000 in
theorem m164 : mFun Go.Proofs.Tryz.prog 164 v164 = true := by kernel_rfl
set_option maxRecDepth 100000 in
theorem m73 : mFun Go.Proofs.Tryz.prog 73 v73 = true := by kernel_rfl
set_option maxRecDepth 100000 in
theorem m74 : mFun Go.Proofs.Tryz.prog 74 v74 = true := by kernel_rfl
set_option maxRecDepth 100000 in
theorem m75 : mFun Go.Proofs.Tryz.prog 75 v75 = true := by kernel_rfl
set_option maxRecDepth 100000 in
theorem m76 : mFun Go.Proofs.Tryz.prog 76 v76 = true := by kernel_rfl
set_option maxRecDepth 100000 in
theorem m77 : mFun Go.Proofs.Tryz.prog 77 v77 = true := by kernel_rfl
set_option maxRecDepth 100000 in
theorem m105 : mFun Go.Proofs.Tryz.prog 105 v105 = true := by kernel_rfl
set_option maxRecDepth 100000 in
theorem m248 : mFun Go.Proofs.Tryz.prog 248 v248 = true := by kernel_rfl
set_option maxRecDepth 100000 in
theorem m134 : mFun Go.Proofs.Tryz.prog 134 v134 = true := by kernel_rfl
set_option maxRecDepth 100000 in
theorem m135 : mFun Go.Proofs.Tryz.prog 135 v135 = true := by kernel_rfl

end Go.Vs.Tryz
