/- Functions of the program in the language of the value semantics, part 2 (printed by a program of mine), and that they match. (Parts of one proof, put together.) -/
import Derived.Test.YtccmnfpbcmccpaaGreatDoorM4l
import Derived.Test.YtccmnfpbcmccpaaGreatDoorProg
import Derived.KernelRfl
set_option linter.unusedSimpArgs false
set_option linter.unusedVariables false
set_option linter.deprecated false

/- Functions of the program in the language of the value semantics, part 2 (printed by a program of mine), and that they match. -/
namespace Go.Vs.Tryz
open Go Go.Vs

def v146 : VFun := ⟨2,
 (.seq (.region [] [oa 2 (.box (tv 0)) 64,
 oa 3 (.box (tv 1)) 128,
 o 4 (.mv (ki 0))] [] [2, 3])
 (.seq (.region [] [o 6 (.fld 0 (tv 2)),
 o 7 (.load false 1 (tv 6)),
 o 8 (.fld 0 (tv 3)),
 o 9 (.load false 1 (tv 8)),
 oa 10 (.call (kf 198) [(false, (tv 7)), (false, (tv 9))] []) 512,
 o 11 (.fld 1 (tv 2)),
 o 12 (.load false 1 (tv 11)),
 o 13 (.fld 1 (tv 3)),
 o 14 (.load false 1 (tv 13)),
 oa 15 (.call (kf 199) [(false, (tv 12)), (false, (tv 14))] []) 832,
 o 16 (.fld 2 (tv 2)),
 o 17 (.load false 1 (tv 16)),
 o 18 (.fld 2 (tv 3)),
 o 19 (.load false 1 (tv 18)),
 oa 20 (.call (kf 198) [(false, (tv 17)), (false, (tv 19))] []) 1152,
 o 21 (.fld 3 (tv 2)),
 o 22 (.load false 1 (tv 21)),
 o 23 (.fld 3 (tv 3)),
 o 24 (.load false 1 (tv 23)),
 oa 25 (.call (kf 198) [(false, (tv 22)), (false, (tv 24))] []) 1472,
 o 26 (.fld 4 (tv 2)),
 o 27 (.load false 1 (tv 26)),
 o 28 (.len false (tv 27)),
 o 29 (.fld 4 (tv 3)),
 o 30 (.load false 1 (tv 29)),
 o 31 (.len false (tv 30)),
 oa 32 (.call (kf 198) [(false, (tv 28)), (false, (tv 31))] []) 1920,
 oa 33 (.mkSl 1 [(tv 10), (tv 15), (tv 20), (tv 25), (tv 32)]) 1984,
 oa 34 (.call (kf 197) [(false, (tv 33))] []) 2048,
 o 5 (.mv (tv 34))] [(0, 2), (1, 2), (0, 3), (1, 3), (0, 5), (1, 5), (2, 5), (3, 5), (4, 5), (0, 6), (1, 6), (2, 6), (3, 6), (4, 6), (0, 7), (1, 7), (2, 7), (3, 7), (4, 7), (5, 7), (6, 7), (0, 8), (1, 8), (2, 8), (3, 8), (4, 8), (5, 8), (6, 8), (0, 10), (1, 10), (2, 10), (3, 10), (4, 10), (5, 10), (6, 10), (7, 10), (8, 10), (9, 10), (0, 11), (1, 11), (2, 11), (3, 11), (4, 11), (5, 11), (6, 11), (7, 11), (8, 11), (9, 11), (0, 12), (1, 12), (2, 12), (3, 12), (4, 12), (5, 12), (6, 12), (7, 12), (8, 12), (9, 12), (10, 12), (11, 12), (0, 13), (1, 13), (2, 13), (3, 13), (4, 13), (5, 13), (6, 13), (7, 13), (8, 13), (9, 13), (10, 13), (11, 13), (0, 15), (1, 15), (2, 15), (3, 15), (4, 15), (5, 15), (6, 15), (7, 15), (8, 15), (9, 15), (10, 15), (11, 15), (12, 15), (13, 15), (14, 15), (0, 16), (1, 16), (2, 16), (3, 16), (4, 16), (5, 16), (6, 16), (7, 16), (8, 16), (9, 16), (10, 16), (11, 16), (12, 16), (13, 16), (14, 16), (0, 17), (1, 17), (2, 17), (3, 17), (4, 17), (5, 17), (6, 17), (7, 17), (8, 17), (9, 17), (10, 17), (11, 17), (12, 17), (13, 17), (14, 17), (15, 17), (16, 17), (0, 18), (1, 18), (2, 18), (3, 18), (4, 18), (5, 18), (6, 18), (7, 18), (8, 18), (9, 18), (10, 18), (11, 18), (12, 18), (13, 18), (14, 18), (15, 18), (16, 18), (0, 20), (1, 20), (2, 20), (3, 20), (4, 20), (5, 20), (6, 20), (7, 20), (8, 20), (9, 20), (10, 20), (11, 20), (12, 20), (13, 20), (14, 20), (15, 20), (16, 20), (17, 20), (18, 20), (19, 20), (0, 21), (1, 21), (2, 21), (3, 21), (4, 21), (5, 21), (6, 21), (7, 21), (8, 21), (9, 21), (10, 21), (11, 21), (12, 21), (13, 21), (14, 21), (15, 21), (16, 21), (17, 21), (18, 21), (19, 21), (0, 22), (1, 22), (2, 22), (3, 22), (4, 22), (5, 22), (6, 22), (7, 22), (8, 22), (9, 22), (10, 22), (11, 22), (12, 22), (13, 22), (14, 22), (15, 22), (16, 22), (17, 22), (18, 22), (19, 22), (0, 23), (1, 23), (2, 23), (3, 23), (4, 23), (5, 23), (6, 23), (7, 23), (8, 23), (9, 23), (10, 23), (11, 23), (12, 23), (13, 23), (14, 23), (15, 23), (16, 23), (17, 23), (18, 23), (19, 23), (20, 23), (21, 23), (22, 23), (0, 24), (1, 24), (2, 24), (3, 24), (4, 24), (5, 24), (6, 24), (7, 24), (8, 24), (9, 24), (10, 24), (11, 24), (12, 24), (13, 24), (14, 24), (15, 24), (16, 24), (17, 24), (18, 24), (19, 24), (20, 24), (21, 24), (22, 24), (0, 25), (1, 25), (2, 25), (3, 25), (4, 25), (5, 25), (6, 25), (7, 25), (8, 25), (9, 25), (10, 25), (11, 25), (12, 25), (13, 25), (14, 25), (15, 25), (16, 25), (17, 25), (18, 25), (19, 25), (20, 25), (21, 25), (22, 25)] [2, 3, 5])
 (.seq (.seq (.region [1984] [o 35 (.mv (tv 5)),
 o 36 (.bin .neq 0 (tv 35) (ki 0))] [] [2, 3, 5, 36])
 (.cond (tv 36) (.seq (.region [] [o 37 (.mv (tv 5)),
 o 4 (.mv (tv 37))] [] [4])
 .ret)
 .skip))
 (.seq (.region [] [o 38 (.fld 4 (tv 2)),
 o 39 (.load false 1 (tv 38)),
 o 40 (.fld 4 (tv 3)),
 o 41 (.load false 1 (tv 40)),
 oa 42 (.call (kf 200) [(false, (tv 39)), (false, (tv 41)), (true, (kf 146))] []) 2688,
 o 4 (.mv (tv 42))] [] [4])
 .ret)))),
 [.tmp 4], false⟩

def l147_0 : VCode := (.seq (.region [] [o 9 (.bin .lss 0 (tv 8) (tv 7))] [] [0, 1, 7, 8, 9])
 (.seq (.cond (tv 9) .skip
 (.exit 0))
 (.seq (.block 1 (.seq (.region [] [o 10 (.mv (tv 8)),
 o 5 (.mv (tv 10))] [] [0, 1, 5, 7, 8])
 (.seq (.region [] [o 11 (.mv (tv 1)),
 o 12 (.mv (tv 0)),
 o 13 (.mv (tv 5)),
 o 14 (.idxA 1 (tv 12) (tv 13)),
 o 15 (.load false 1 (tv 14)),
 oa 16 (.call (tv 11) [(false, (tv 15))] []) 832] [] [0, 1, 5, 7, 8, 16])
 (.cond (tv 16) (.seq (.region [] [o 17 (.mv (tv 5)),
 o 4 (.mv (tv 17))] [] [4])
 .ret)
 .skip))))
 (.region [864, 865, 866] [o 18 (.bin .add 0 (tv 8) (ki 1)),
 o 8 (.mv (tv 18))] [] [0, 1, 7, 8]))))

def v147 : VFun := ⟨2,
 (.seq (.region [] [o 4 (.mv (ki 0))] [] [0, 1])
 (.seq (.seq (.region [] [o 6 (.mv (tv 0)),
 o 7 (.len false (tv 6)),
 o 8 (.mv (ki 0))] [] [0, 1, 7, 8])
 (.block 0 (.loop l147_0)))
 (.seq (.region [] [o 4 (.mv (ki (-1)))] [] [4])
 .ret))),
 [.tmp 4], false⟩

def l148_0 : VCode := (.seq (.region [] [o 9 (.bin .lss 0 (tv 8) (tv 7))] [] [0, 1, 7, 8, 9])
 (.seq (.cond (tv 9) .skip
 (.exit 0))
 (.seq (.block 1 (.seq (.region [] [o 10 (.mv (tv 8)),
 o 5 (.mv (tv 10))] [] [0, 1, 5, 7, 8])
 (.seq (.region [] [o 11 (.mv (tv 1)),
 o 12 (.mv (tv 0)),
 o 13 (.mv (tv 5)),
 o 14 (.idxA 11 (tv 12) (tv 13)),
 o 15 (.load true 11 (tv 14)),
 oa 16 (.call (tv 11) [(false, (tv 15))] []) 832] [] [0, 1, 5, 7, 8, 16])
 (.cond (tv 16) (.seq (.region [] [o 17 (.mv (tv 5)),
 o 4 (.mv (tv 17))] [] [4])
 .ret)
 .skip))))
 (.region [864, 865, 866] [o 18 (.bin .add 0 (tv 8) (ki 1)),
 o 8 (.mv (tv 18))] [] [0, 1, 7, 8]))))

def v148 : VFun := ⟨2,
 (.seq (.region [] [o 4 (.mv (ki 0))] [] [0, 1])
 (.seq (.seq (.region [] [o 6 (.mv (tv 0)),
 o 7 (.len false (tv 6)),
 o 8 (.mv (ki 0))] [] [0, 1, 7, 8])
 (.block 0 (.loop l148_0)))
 (.seq (.region [] [o 4 (.mv (ki (-1)))] [] [4])
 .ret))),
 [.tmp 4], false⟩

def v150 : VFun := ⟨1,
 (.seq (.region [] [oa 1 (.box (tv 0)) 64,
 o 2 (.mv (.k (.sc (.c .nilfn))))] [] [1])
 (.seq (.region [] [o 3 (.fn 151 [(tv 1)]),
 o 2 (.mv (tv 3))] [] [2])
 .ret)),
 [.tmp 2], true⟩

def v153 : VFun := ⟨1,
 (.seq (.region [] [oa 1 (.box (tv 0)) 64,
 o 2 (.mv kF)] [] [1])
 (.seq (.region [] [o 3 (.fld 0 (tv 1)),
 o 4 (.load false 1 (tv 3)),
 o 5 (.bin .eql 0 (tv 4) (ki 5)),
 o 6 (.mv (tv 5)),
 og 7 (.fld 4 (tv 1)) 6 true,
 og 8 (.load false 1 (tv 7)) 6 true,
 og 9 (.idxA 11 (tv 8) (ki 0)) 6 true,
 og 10 (.fld 0 (tv 9)) 6 true,
 og 11 (.load false 1 (tv 10)) 6 true,
 og 12 (.bin .eql 0 (tv 11) (ki 4)) 6 true,
 o 13 (.pick (tv 6) (tv 12) kF),
 o 2 (.mv (tv 13))] [] [2])
 .ret)),
 [.tmp 2], false⟩

def v154 : VFun := ⟨1,
 (.seq (.region [] [oa 1 (.box (tv 0)) 64,
 oa 2 (.new [zi, zi, zs, zi, .nil, .nil, zi, zs, zi, zi, .nil] []) 128,
 o 3 (.mv kF)] [] [1, 2])
 (.seq (.region [] [o 5 (.fld 4 (tv 1)),
 o 6 (.load false 1 (tv 5)),
 o 7 (.idxA 11 (tv 6) (ki 0)),
 o 8 (.load true 11 (tv 7)),
 oa 4 (.new [zi, zi, zs, zi, .nil, .nil, zi, zs, zi, zi, .nil] []) 512,
 on (.store 11 (tv 4) (tv 8) [])] [] [1, 2, 4])
 (.seq (.region [] [o 9 (.fld 4 (tv 4)),
 o 10 (.load false 1 (tv 9)),
 o 11 (.idxA 11 (tv 10) (ki 0)),
 o 12 (.load true 11 (tv 11)),
 o 13 (.fld 2 (tv 4)),
 o 14 (.load false 1 (tv 13)),
 o 15 (.fld 4 (tv 1)),
 o 16 (.load false 1 (tv 15)),
 o 17 (.idxA 11 (tv 16) (ki 1)),
 o 18 (.load true 11 (tv 17)),
 oa 19 (.call (kf 155) [(false, (tv 12)), (false, (tv 14)), (false, (tv 18))] []) 1280,
 on (.store 11 (tv 2) (tv 19) []),
 o 3 (.mv kt)] [(0, 4), (1, 4), (2, 4), (3, 4), (0, 5), (1, 5), (2, 5), (3, 5), (0, 6), (1, 6), (2, 6), (3, 6), (4, 6), (5, 6), (0, 7), (1, 7), (2, 7), (3, 7), (4, 7), (5, 7), (0, 8), (1, 8), (2, 8), (3, 8), (4, 8), (5, 8), (0, 9), (1, 9), (2, 9), (3, 9), (4, 9), (5, 9)] [2, 3])
 .ret))),
 [.cell 2 true 11, .tmp 3], false⟩

def v156 : VFun := ⟨1,
 (.seq (.region [] [oa 1 (.box (tv 0)) 64,
 oa 2 (.new [zi, zi, zs, zi, .nil, .nil, zi, zs, zi, zi, .nil] []) 128,
 o 3 (.mv kF)] [] [1, 2])
 (.seq (.region [] [o 4 (.fld 4 (tv 1)),
 o 5 (.load false 1 (tv 4)),
 o 6 (.idxA 11 (tv 5) (ki 1)),
 o 7 (.load true 11 (tv 6)),
 o 8 (.fld 2 (tv 1)),
 o 9 (.load false 1 (tv 8)),
 o 10 (.fld 4 (tv 1)),
 o 11 (.load false 1 (tv 10)),
 o 12 (.idxA 11 (tv 11) (ki 0)),
 o 13 (.load true 11 (tv 12)),
 oa 14 (.call (kf 155) [(false, (tv 7)), (false, (tv 9)), (false, (tv 13))] []) 896,
 on (.store 11 (tv 2) (tv 14) []),
 o 3 (.mv kt)] [(0, 4), (1, 4), (2, 4), (3, 4), (0, 5), (1, 5), (2, 5), (3, 5), (0, 6), (1, 6), (2, 6), (3, 6), (4, 6), (5, 6), (0, 7), (1, 7), (2, 7), (3, 7), (4, 7), (5, 7), (0, 8), (1, 8), (2, 8), (3, 8), (4, 8), (5, 8), (0, 9), (1, 9), (2, 9), (3, 9), (4, 9), (5, 9)] [2, 3])
 .ret)),
 [.cell 2 true 11, .tmp 3], false⟩

def v157 : VFun := ⟨1,
 (.seq (.region [] [oa 1 (.box (tv 0)) 64,
 oa 2 (.new [zi, zi, zs, zi, .nil, .nil, zi, zs, zi, zi, .nil] []) 128,
 o 3 (.mv kF)] [] [1, 2])
 (.seq (.region [] [o 5 (.load true 11 (tv 1)),
 oa 4 (.new [zi, zi, zs, zi, .nil, .nil, zi, zs, zi, zi, .nil] []) 320,
 on (.store 11 (tv 4) (tv 5) [])] [] [1, 2, 4])
 (.seq (.region [] [o 6 (.fld 4 (tv 1)),
 o 7 (.load false 1 (tv 6)),
 o 8 (.idxA 11 (tv 7) (ki 0)),
 o 9 (.load true 11 (tv 8)),
 o 10 (.fld 4 (tv 1)),
 o 11 (.load false 1 (tv 10)),
 o 12 (.idxA 11 (tv 11) (ki 0)),
 o 13 (.load true 11 (tv 12)),
 oa 14 (.mkSl 11 [(tv 9), (tv 13)]) 960,
 o 15 (.fld 4 (tv 4)),
 on (.store 1 (tv 15) (tv 14) [])] [(0, 4), (1, 4), (2, 4), (3, 4), (0, 5), (1, 5), (2, 5), (3, 5), (0, 6), (1, 6), (2, 6), (3, 6), (0, 7), (1, 7), (2, 7), (3, 7)] [1, 2, 4])
 (.seq (.region [] [o 16 (.fld 4 (tv 1)),
 o 17 (.load false 1 (tv 16)),
 o 18 (.idxA 11 (tv 17) (ki 1)),
 o 19 (.load true 11 (tv 18)),
 o 20 (.fld 2 (tv 1)),
 o 21 (.load false 1 (tv 20)),
 o 22 (.load true 11 (tv 4)),
 oa 23 (.call (kf 155) [(false, (tv 19)), (false, (tv 21)), (false, (tv 22))] []) 1600,
 on (.store 11 (tv 2) (tv 23) []),
 o 3 (.mv kt)] [(0, 4), (1, 4), (2, 4), (3, 4), (0, 5), (1, 5), (2, 5), (3, 5), (0, 6), (1, 6), (2, 6), (3, 6), (4, 6), (5, 6)] [2, 3])
 .ret)))),
 [.cell 2 true 11, .tmp 3], false⟩

def v158 : VFun := ⟨1,
 (.seq (.region [] [oa 1 (.box (tv 0)) 64,
 o 2 (.mv kF)] [] [1])
 (.seq (.region [] [o 3 (.fld 0 (tv 1)),
 o 4 (.load false 1 (tv 3)),
 o 5 (.bin .eql 0 (tv 4) (ki 8)),
 o 6 (.mv (tv 5)),
 og 7 (.fld 4 (tv 1)) 6 true,
 og 8 (.load false 1 (tv 7)) 6 true,
 og 9 (.idxA 11 (tv 8) (ki 0)) 6 true,
 og 10 (.load true 11 (tv 9)) 6 true,
 ⟨(some 11), (.call (kf 55) [(false, (tv 10))] []), (some (6, true)), 704, []⟩,
 o 12 (.pick (tv 6) (tv 11) kF),
 o 2 (.mv (tv 12))] [] [2])
 .ret)),
 [.tmp 2], false⟩

def l80_0 : VCode := (.seq (.seq (.region [] [o 7 (.mv (tv 2)),
 o 8 (.mv (tv 3)),
 o 9 (.bin .lss 0 (tv 7) (tv 8))] [] [0, 2, 3, 9])
 (.cond (tv 9) .skip
 (.exit 0)))
 (.seq (.block 1 (.region [] [o 14 (.mv (tv 0)),
 o 15 (.mv (tv 2)),
 o 16 (.mv (tv 0)),
 o 17 (.mv (tv 3)),
 o 18 (.mv (tv 0)),
 o 19 (.mv (tv 3)),
 o 20 (.idxA 11 (tv 18) (tv 19)),
 o 21 (.load true 11 (tv 20)),
 o 22 (.mv (tv 0)),
 o 23 (.mv (tv 2)),
 o 24 (.idxA 11 (tv 22) (tv 23)),
 o 25 (.load true 11 (tv 24)),
 o 26 (.idxA 11 (tv 14) (tv 15)),
 on (.store 11 (tv 26) (tv 21) []),
 o 27 (.idxA 11 (tv 16) (tv 17)),
 on (.store 11 (tv 27) (tv 25) [])] [(6, 10), (7, 10), (6, 11), (7, 11)] [0, 2, 3]))
 (.region [] [o 10 (.mv (tv 2)),
 o 11 (.bin .add 0 (tv 10) (ki 1)),
 o 12 (.mv (tv 3)),
 o 13 (.bin .sub 0 (tv 12) (ki 1)),
 o 2 (.mv (tv 11)),
 o 3 (.mv (tv 13))] [] [0, 2, 3])))

def v80 : VFun := ⟨1,
 (.seq (.region [] [o 4 (.mv (tv 0)),
 o 5 (.len false (tv 4)),
 o 6 (.bin .sub 0 (tv 5) (ki 1)),
 o 2 (.mv (ki 0)),
 o 3 (.mv (tv 6))] [] [0, 2, 3])
 (.block 0 (.loop l80_0))),
 [], false⟩

def v198 : VFun := ⟨2,
 (.seq (.region [] [o 4 (.mv (ki 0))] [] [0, 1])
 (.seq (.region [] [o 7 (.mv (tv 0)),
 oa 8 (.call (kf 218) [(false, (tv 7))] []) 192,
 o 5 (.mv (tv 8))] [] [0, 1, 5])
 (.seq (.region [] [o 9 (.mv (tv 1)),
 oa 10 (.call (kf 218) [(false, (tv 9))] []) 384,
 o 6 (.mv (tv 10))] [] [0, 1, 5, 6])
 (.seq (.seq (.region [] [o 11 (.mv (tv 5))] [] [0, 1, 6, 11])
 (.cond (tv 11) (.seq (.seq (.region [] [o 12 (.mv (tv 6))] [] [12])
 (.cond (tv 12) (.seq (.region [] [o 4 (.mv (ki 0))] [] [4])
 .ret)
 .skip))
 (.seq (.region [] [o 4 (.mv (ki (-1)))] [] [4])
 .ret))
 .skip))
 (.seq (.seq (.region [] [o 13 (.mv (tv 6))] [] [0, 1, 13])
 (.cond (tv 13) (.seq (.region [] [o 4 (.mv (ki 1))] [] [4])
 .ret)
 .skip))
 (.seq (.seq (.region [] [o 14 (.mv (tv 0)),
 o 15 (.mv (tv 1)),
 o 16 (.bin .lss 0 (tv 14) (tv 15))] [] [0, 1, 16])
 (.cond (tv 16) (.seq (.region [] [o 4 (.mv (ki (-1)))] [] [4])
 .ret)
 .skip))
 (.seq (.seq (.region [] [o 17 (.mv (tv 0)),
 o 18 (.mv (tv 1)),
 o 19 (.bin .gtr 0 (tv 17) (tv 18))] [] [19])
 (.cond (tv 19) (.seq (.region [] [o 4 (.mv (ki 1))] [] [4])
 .ret)
 .skip))
 (.seq (.region [] [o 4 (.mv (ki 0))] [] [4])
 .ret)))))))),
 [.tmp 4], false⟩

def v199 : VFun := ⟨2,
 (.seq (.region [] [o 4 (.mv (ki 0))] [] [0, 1])
 (.seq (.region [] [o 7 (.mv (tv 0)),
 oa 8 (.call (kf 219) [(false, (tv 7))] []) 192,
 o 5 (.mv (tv 8))] [] [0, 1, 5])
 (.seq (.region [] [o 9 (.mv (tv 1)),
 oa 10 (.call (kf 219) [(false, (tv 9))] []) 384,
 o 6 (.mv (tv 10))] [] [0, 1, 5, 6])
 (.seq (.seq (.region [] [o 11 (.mv (tv 5))] [] [0, 1, 6, 11])
 (.cond (tv 11) (.seq (.seq (.region [] [o 12 (.mv (tv 6))] [] [12])
 (.cond (tv 12) (.seq (.region [] [o 4 (.mv (ki 0))] [] [4])
 .ret)
 .skip))
 (.seq (.region [] [o 4 (.mv (ki (-1)))] [] [4])
 .ret))
 .skip))
 (.seq (.seq (.region [] [o 13 (.mv (tv 6))] [] [0, 1, 13])
 (.cond (tv 13) (.seq (.region [] [o 4 (.mv (ki 1))] [] [4])
 .ret)
 .skip))
 (.seq (.seq (.region [] [o 14 (.mv (tv 0)),
 o 15 (.mv (tv 1)),
 o 16 (.bin .lss 0 (tv 14) (tv 15))] [] [0, 1, 16])
 (.cond (tv 16) (.seq (.region [] [o 4 (.mv (ki (-1)))] [] [4])
 .ret)
 .skip))
 (.seq (.seq (.region [] [o 17 (.mv (tv 0)),
 o 18 (.mv (tv 1)),
 o 19 (.bin .gtr 0 (tv 17) (tv 18))] [] [19])
 (.cond (tv 19) (.seq (.region [] [o 4 (.mv (ki 1))] [] [4])
 .ret)
 .skip))
 (.seq (.region [] [o 4 (.mv (ki 0))] [] [4])
 .ret)))))))),
 [.tmp 4], false⟩

def l197_0 : VCode := (.seq (.region [] [o 9 (.bin .lss 0 (tv 8) (tv 7))] [] [3, 6, 7, 8, 9])
 (.seq (.cond (tv 9) .skip
 (.exit 0))
 (.seq (.block 1 (.seq (.region [] [o 10 (.idxA 1 (tv 6) (tv 8)),
 o 11 (.load false 1 (tv 10)),
 o 5 (.mv (tv 11))] [] [3, 5, 6, 7, 8])
 (.seq (.region [] [o 12 (.mv (tv 5)),
 o 13 (.mv (tv 3)),
 o 14 (.bin .neq 0 (tv 12) (tv 13))] [] [3, 5, 6, 7, 8, 14])
 (.cond (tv 14) (.seq (.region [] [o 15 (.mv (tv 5)),
 o 2 (.mv (tv 15))] [] [2])
 .ret)
 .skip))))
 (.region [] [o 16 (.bin .add 0 (tv 8) (ki 1)),
 o 8 (.mv (tv 16))] [] [3, 6, 7, 8]))))

def v197 : VFun := ⟨1,
 (.seq (.region [] [o 2 (.mv (ki 0))] [] [0])
 (.seq (.region [] [o 3 (.mv (ki 0))] [] [0, 3])
 (.seq (.seq (.region [] [o 6 (.mv (tv 0)),
 o 7 (.len false (tv 6)),
 o 8 (.mv (ki 0))] [] [3, 6, 7, 8])
 (.block 0 (.loop l197_0)))
 (.seq (.region [] [o 17 (.mv (tv 3)),
 o 2 (.mv (tv 17))] [] [2])
 .ret)))),
 [.tmp 2], false⟩

def l200_0 : VCode := (.seq (.region [] [o 14 (.bin .lss 0 (tv 13) (tv 12))] [] [0, 1, 2, 11, 12, 13, 14])
 (.seq (.cond (tv 14) .skip
 (.exit 0))
 (.seq (.block 1 (.seq (.region [] [o 15 (.mv (tv 13)),
 o 16 (.idxA 5 (tv 11) (tv 13)),
 o 17 (.load true 5 (tv 16)),
 oa 8 (.new [zi, zs, zi, zi, .nil] []) 576,
 o 7 (.mv (tv 15)),
 on (.store 5 (tv 8) (tv 17) [])] [] [0, 1, 2, 7, 8, 11, 12, 13])
 (.seq (.seq (.region [] [o 18 (.mv (tv 7)),
 o 19 (.mv (tv 1)),
 o 20 (.len false (tv 19)),
 o 21 (.bin .geq 0 (tv 18) (tv 20))] [] [0, 1, 2, 7, 8, 11, 12, 13, 21])
 (.cond (tv 21) (.seq (.region [] [o 6 (.mv (ki 1))] [] [6])
 .ret)
 .skip))
 (.seq (.region [] [o 22 (.mv (tv 1)),
 o 23 (.mv (tv 7)),
 o 24 (.idxA 5 (tv 22) (tv 23)),
 o 25 (.load true 5 (tv 24)),
 oa 9 (.new [zi, zs, zi, zi, .nil] []) 1344,
 on (.store 5 (tv 9) (tv 25) [])] [] [0, 1, 2, 8, 9, 11, 12, 13])
 (.seq (.region [] [o 26 (.mv (tv 2)),
 o 27 (.load true 5 (tv 8)),
 o 28 (.load true 5 (tv 9)),
 oa 29 (.call (tv 26) [(false, (tv 27)), (false, (tv 28))] []) 1664,
 o 10 (.mv (tv 29))] [] [0, 1, 2, 10, 11, 12, 13])
 (.seq (.region [576, 1344] [o 30 (.mv (tv 10)),
 o 31 (.bin .neq 0 (tv 30) (ki 0))] [] [0, 1, 2, 10, 11, 12, 13, 31])
 (.cond (tv 31) (.seq (.region [] [o 32 (.mv (tv 10)),
 o 6 (.mv (tv 32))] [] [6])
 .ret)
 .skip)))))))
 (.region [576, 1344, 1696, 1697, 1698] [o 33 (.bin .add 0 (tv 13) (ki 1)),
 o 13 (.mv (tv 33))] [] [0, 1, 2, 11, 12, 13]))))

def v200 : VFun := ⟨3,
 (.seq (.region [] [o 6 (.mv (ki 0))] [] [0, 1, 2])
 (.seq (.seq (.region [] [o 11 (.mv (tv 0)),
 o 12 (.len false (tv 11)),
 o 13 (.mv (ki 0))] [] [0, 1, 2, 11, 12, 13])
 (.block 0 (.loop l200_0)))
 (.seq (.seq (.region [] [o 34 (.mv (tv 0)),
 o 35 (.len false (tv 34)),
 o 36 (.mv (tv 1)),
 o 37 (.len false (tv 36)),
 o 38 (.bin .lss 0 (tv 35) (tv 37))] [] [38])
 (.cond (tv 38) (.seq (.region [] [o 6 (.mv (ki (-1)))] [] [6])
 .ret)
 .skip))
 (.seq (.region [] [o 6 (.mv (ki 0))] [] [6])
 .ret)))),
 [.tmp 6], false⟩

def v151 : VFun := ⟨2,
 (.seq (.region [] [oa 2 (.box (tv 0)) 64,
 o 3 (.mv kF)] [] [1, 2])
 (.seq (.region [] [o 4 (.fld 0 (tv 2)),
 o 5 (.load false 1 (tv 4)),
 o 6 (.load false 1 (tv 1)),
 o 7 (.bin .eql 0 (tv 5) (tv 6)),
 o 3 (.mv (tv 7))] [] [3])
 .ret)),
 [.tmp 3], false⟩

def v155 : VFun := ⟨3,
 (.seq (.region [] [oa 3 (.box (tv 0)) 64,
 oa 5 (.box (tv 2)) 128,
 oa 6 (.new [zi, zi, zs, zi, .nil, .nil, zi, zs, zi, zi, .nil] []) 192] [] [1, 3, 5, 6])
 (.seq (.region [] [o 7 (.mv (tv 1)),
 o 8 (.load true 11 (tv 5)),
 o 9 (.load true 11 (tv 5)),
 oa 10 (.call (kf 201) [(false, (tv 9))] []) 448,
 o 11 (.build [zs, zi, zi, zs, zi, .nil, .nil, zi, zs, zi, zi, .nil, .nil] [(0, 1, (tv 7)), (1, 11, (tv 8)), (12, 1, (tv 10))]),
 o 12 (.load true 11 (tv 3)),
 oa 13 (.call (kf 202) [(false, (tv 11)), (false, (tv 12))] []) 640,
 on (.store 11 (tv 6) (tv 13) [])] [(1, 2), (1, 3), (1, 5), (2, 5), (3, 5)] [6])
 .ret)),
 [.cell 6 true 11], false⟩

def v218 : VFun := ⟨1,
 (.seq (.region [] [o 2 (.mv kF)] [] [0])
 (.seq (.region [] [o 3 (.mv (tv 0)),
 o 4 (.mv (tv 0)),
 o 5 (.bin .neq 0 (tv 3) (tv 4)),
 o 2 (.mv (tv 5))] [] [2])
 .ret)),
 [.tmp 2], false⟩

def v219 : VFun := ⟨1,
 (.seq (.region [] [o 2 (.mv kF)] [] [0])
 (.seq (.region [] [o 3 (.mv (tv 0)),
 o 4 (.mv (tv 0)),
 o 5 (.bin .neq 0 (tv 3) (tv 4)),
 o 2 (.mv (tv 5))] [] [2])
 .ret)),
 [.tmp 2], false⟩

def l201_0 : VCode := (.seq (.region [] [o 30 (.bin .lss 0 (tv 29) (tv 28))] [] [1, 3, 6, 16, 17, 18, 27, 28, 29, 30])
 (.seq (.cond (tv 30) .skip
 (.exit 2))
 (.seq (.block 3 (.seq (.region [] [o 31 (.idxA 1 (tv 27) (tv 29)),
 o 32 (.load false 1 (tv 31)),
 o 8 (.mv (tv 32))] [] [1, 3, 6, 8, 16, 17, 18, 27, 28, 29])
 (.seq (.region [] [o 33 (.mv (tv 6)),
 o 34 (.mv (tv 8)),
 oa 35 (.call (kf 221) [(false, (tv 33)), (false, (tv 34))] []) 2304,
 o 36 (.un .not (tv 35)),
 o 37 (.mv (tv 36)),
 og 38 (.mv (tv 3)) 37 true,
 og 39 (.mv (tv 8)) 37 true,
 ⟨(some 40), (.call (kf 221) [(false, (tv 38)), (false, (tv 39))] []), (some (37, true)), 2624, []⟩,
 og 41 (.un .not (tv 40)) 37 true,
 o 42 (.pick (tv 37) (tv 41) kF)] [] [1, 3, 6, 8, 16, 17, 18, 27, 28, 29, 42])
 (.cond (tv 42) (.region [] [o 43 (.mv (tv 3)),
 o 44 (.mv (tv 8)),
 oa 45 (.mkSl 1 [(tv 44)]) 2944,
 o 46 (.app 1 16 false (tv 43) (tv 45)),
 o 3 (.mv (tv 46))] [] [1, 3, 6, 16, 17, 18, 27, 28, 29])
 .skip))))
 (.region [2944] [o 47 (.bin .add 0 (tv 29) (ki 1)),
 o 29 (.mv (tv 47))] [] [1, 3, 6, 16, 17, 18, 27, 28, 29]))))

def l201_1 : VCode := (.seq (.region [] [o 19 (.bin .lss 0 (tv 18) (tv 17))] [] [1, 3, 16, 17, 18, 19])
 (.seq (.cond (tv 19) .skip
 (.exit 0))
 (.seq (.block 1 (.seq (.region [] [o 20 (.mv (tv 18)),
 o 21 (.idxA 11 (tv 16) (tv 18)),
 o 22 (.load true 11 (tv 21)),
 oa 5 (.new [zi, zi, zs, zi, .nil, .nil, zi, zs, zi, zi, .nil] []) 1216,
 o 4 (.mv (tv 20)),
 on (.store 11 (tv 5) (tv 22) [])] [] [1, 3, 4, 5, 16, 17, 18])
 (.seq (.region [] [o 23 (.load true 11 (tv 1)),
 o 24 (.mv (tv 4)),
 oa 25 (.call (kf 220) [(false, (tv 23)), (false, (tv 24))] []) 1536,
 o 6 (.mv (tv 25))] [] [1, 3, 5, 6, 16, 17, 18])
 (.seq (.region [] [o 26 (.load true 11 (tv 5)),
 oa 27 (.call (kf 201) [(false, (tv 26))] []) 1728,
 o 28 (.len false (tv 27)),
 o 29 (.mv (ki 0))] [] [1, 3, 6, 16, 17, 18, 27, 28, 29])
 (.block 2 (.loop l201_0))))))
 (.region [1216] [o 48 (.bin .add 0 (tv 18) (ki 1)),
 o 18 (.mv (tv 48))] [] [1, 3, 16, 17, 18]))))

def v201 : VFun := ⟨1,
 (.seq (.region [] [oa 1 (.box (tv 0)) 64,
 o 2 (.mv kn)] [] [1])
 (.seq (.seq (.region [] [o 9 (.fld 0 (tv 1)),
 o 10 (.load false 1 (tv 9)),
 o 11 (.bin .eql 0 (tv 10) (ki 1))] [] [1, 11])
 (.cond (tv 11) (.seq (.region [] [o 12 (.fld 2 (tv 1)),
 o 13 (.load false 1 (tv 12)),
 oa 14 (.mkSl 1 [(tv 13)]) 512,
 o 2 (.mv (tv 14))] [] [2])
 .ret)
 .skip))
 (.seq (.region [] [⟨(some 3), (.mv kn), none, 640, [(0, 1)]⟩] [] [1, 3])
 (.seq (.seq (.region [] [o 15 (.load true 11 (tv 1)),
 oa 16 (.call (kf 99) [(false, (tv 15))] []) 768,
 o 17 (.len false (tv 16)),
 o 18 (.mv (ki 0))] [] [1, 3, 16, 17, 18])
 (.block 0 (.loop l201_1)))
 (.seq (.region [] [o 49 (.mv (tv 3)),
 o 2 (.mv (tv 49))] [] [2])
 .ret))))),
 [.tmp 2], false⟩

def l202_0 : VCode := (.seq (.region [] [o 39 (.bin .lss 0 (tv 38) (tv 37))] [] [2, 3, 4, 36, 37, 38, 39])
 (.seq (.cond (tv 39) .skip
 (.exit 1))
 (.seq (.block 2 (.seq (.region [] [o 40 (.mv (tv 38)),
 o 41 (.idxA 14 (tv 36) (tv 38)),
 o 42 (.load true 14 (tv 41)),
 oa 6 (.new [zi, zs, .nil, zi, zi, zs, zi, .nil, .nil, zi, zs, zi, zi, .nil] []) 2752,
 o 5 (.mv (tv 40)),
 on (.store 14 (tv 6) (tv 42) [])] [] [2, 3, 4, 5, 6, 36, 37, 38])
 (.region [] [o 43 (.fld 5 (tv 3)),
 o 44 (.load false 1 (tv 43)),
 o 45 (.mv (tv 5)),
 o 46 (.load true 13 (tv 2)),
 o 47 (.load true 14 (tv 6)),
 oa 48 (.call (kf 224) [(false, (tv 46)), (false, (tv 47))] []) 3264,
 o 49 (.idxA 14 (tv 44) (tv 45)),
 on (.store 14 (tv 49) (tv 48) [])] [(0, 3), (1, 3), (0, 4), (1, 4), (3, 4), (0, 5), (1, 5)] [2, 3, 4, 36, 37, 38])))
 (.region [2752] [o 50 (.bin .add 0 (tv 38) (ki 1)),
 o 38 (.mv (tv 50))] [] [2, 3, 4, 36, 37, 38]))))

def l202_1 : VCode := (.seq (.region [] [o 56 (.bin .lss 0 (tv 55) (tv 54))] [] [2, 3, 4, 7, 53, 54, 55, 56])
 (.seq (.cond (tv 56) .skip
 (.exit 3))
 (.seq (.block 4 (.seq (.region [] [o 57 (.mv (tv 55)),
 o 58 (.idxA 11 (tv 53) (tv 55)),
 o 59 (.load true 11 (tv 58)),
 oa 9 (.new [zi, zi, zs, zi, .nil, .nil, zi, zs, zi, zi, .nil] []) 4224,
 o 8 (.mv (tv 57)),
 on (.store 11 (tv 9) (tv 59) [])] [] [2, 3, 4, 7, 8, 9, 53, 54, 55])
 (.seq (.region [] [o 60 (.load true 11 (tv 3)),
 o 61 (.mv (tv 8)),
 oa 62 (.call (kf 220) [(false, (tv 60)), (false, (tv 61))] []) 4544,
 o 63 (.fld 0 (tv 2)),
 o 64 (.load false 1 (tv 63)),
 oa 65 (.call (kf 221) [(false, (tv 62)), (false, (tv 64))] []) 4736,
 o 66 (.un .not (tv 65))] [(0, 3), (2, 3), (0, 4), (2, 4)] [2, 3, 4, 7, 8, 9, 53, 54, 55, 66])
 (.cond (tv 66) (.region [] [o 67 (.mv (tv 7)),
 o 68 (.mv (tv 8)),
 o 69 (.load true 13 (tv 2)),
 o 70 (.load true 11 (tv 9)),
 oa 71 (.call (kf 202) [(false, (tv 69)), (false, (tv 70))] []) 5120,
 o 72 (.idxA 11 (tv 67) (tv 68)),
 on (.store 11 (tv 72) (tv 71) [])] [] [2, 3, 4, 7, 53, 54, 55])
 .skip))))
 (.region [4224] [o 73 (.bin .add 0 (tv 55) (ki 1)),
 o 55 (.mv (tv 73))] [] [2, 3, 4, 7, 53, 54, 55]))))

def v202 : VFun := ⟨2,
 (.seq (.region [] [oa 2 (.box (tv 0)) 64,
 oa 3 (.box (tv 1)) 128,
 oa 4 (.new [zi, zi, zs, zi, .nil, .nil, zi, zs, zi, zi, .nil] []) 192] [] [2, 3, 4])
 (.seq (.seq (.region [] [o 10 (.fld 0 (tv 3)),
 o 11 (.load false 1 (tv 10))] [] [2, 3, 4, 11])
 (.block 0 (.seq (.region [] [o 13 (.bin .eql 0 (tv 11) (ki 1)),
 o 12 (.mv (tv 13))] [] [2, 3, 4, 11, 12])
 (.cond (tv 12) (.seq (.seq (.region [] [o 14 (.fld 2 (tv 3)),
 o 15 (.load false 1 (tv 14)),
 o 16 (.fld 0 (tv 2)),
 o 17 (.load false 1 (tv 16)),
 o 18 (.bin .eql 0 (tv 15) (tv 17))] [] [2, 3, 4, 18])
 (.cond (tv 18) (.seq (.region [] [o 19 (.fld 1 (tv 2)),
 o 20 (.load true 11 (tv 19)),
 on (.store 11 (tv 4) (tv 20) [])] [] [4])
 .ret)
 .skip))
 (.seq (.region [] [o 21 (.load true 11 (tv 3)),
 on (.store 11 (tv 4) (tv 21) [])] [] [4])
 .ret))
 (.seq (.seq (.region [] [o 23 (.bin .eql 0 (tv 11) (ki 4)),
 o 22 (.mv (tv 23))] [] [2, 3, 4, 11, 22])
 (.cond (tv 22) .skip
 (.seq (.region [] [o 24 (.bin .eql 0 (tv 11) (ki 6)),
 o 22 (.mv (tv 24))] [] [2, 3, 4, 11, 22])
 (.cond (tv 22) .skip
 (.region [] [o 25 (.bin .eql 0 (tv 11) (ki 7)),
 o 22 (.mv (tv 25))] [] [2, 3, 4, 11, 22])))))
 (.cond (tv 22) (.region [] [o 26 (.load true 13 (tv 2)),
 o 27 (.load true 11 (tv 3)),
 oa 28 (.call (kf 222) [(false, (tv 26)), (false, (tv 27))] []) 1664,
 on (.store 11 (tv 3) (tv 28) [])] [] [2, 3, 4])
 (.seq (.region [] [o 30 (.bin .eql 0 (tv 11) (ki 8)),
 o 29 (.mv (tv 30))] [] [2, 3, 4, 29])
 (.cond (tv 29) (.seq (.region [] [o 31 (.fld 5 (tv 3)),
 o 32 (.load false 1 (tv 31)),
 oa 33 (.call (kf 223) [(false, (tv 32))] []) 2048,
 o 34 (.fld 5 (tv 3)),
 on (.store 1 (tv 34) (tv 33) [])] [] [2, 3, 4])
 (.seq (.region [] [o 35 (.fld 5 (tv 3)),
 o 36 (.load false 1 (tv 35)),
 o 37 (.len false (tv 36)),
 o 38 (.mv (ki 0))] [] [2, 3, 4, 36, 37, 38])
 (.block 1 (.loop l202_0))))
 .skip))))))))
 (.seq (.region [] [o 51 (.load true 11 (tv 3)),
 oa 52 (.call (kf 99) [(false, (tv 51))] []) 3648,
 o 7 (.mv (tv 52))] [] [2, 3, 4, 7])
 (.seq (.seq (.region [] [o 53 (.mv (tv 7)),
 o 54 (.len false (tv 53)),
 o 55 (.mv (ki 0))] [] [2, 3, 4, 7, 53, 54, 55])
 (.block 3 (.loop l202_1)))
 (.seq (.region [] [o 74 (.load true 11 (tv 3)),
 o 75 (.mv (tv 7)),
 oa 76 (.call (kf 102) [(false, (tv 74)), (false, (tv 75))] []) 5568,
 on (.store 11 (tv 4) (tv 76) [])] [] [4])
 .ret))))),
 [.cell 4 true 11], false⟩

def v220 : VFun := ⟨2,
 (.seq (.region [] [oa 2 (.box (tv 0)) 64,
 o 4 (.mv kn)] [] [1, 2])
 (.seq (.seq (.region [] [o 8 (.load true 11 (tv 2)),
 o 9 (.mv (tv 1)),
 oa 10 (.mkSl 1 [(tv 9)]) 320,
 oa 11 (.call (kf 237) [(false, (tv 8)), (false, (tv 10))] []) 384,
 o 7 (.mv (tv 11)),
 o 12 (.ext 0 (tv 7)),
 o 13 (.ext 1 (tv 7)),
 oa 5 (.new [zi, zi, zs, zi, .nil, .nil, zi, zs, zi, zi, .nil] []) 640,
 on (.store 11 (tv 5) (tv 12) []),
 o 6 (.mv (tv 13))] [] [1, 2, 6])
 (.seq (.region [320, 640] [o 14 (.mv (tv 6)),
 o 15 (.un .not (tv 14))] [] [1, 2, 15])
 (.cond (tv 15) (.seq (.region [] [o 4 (.mv kn)] [] [4])
 .ret)
 .skip)))
 (.seq (.seq (.region [] [o 16 (.fld 0 (tv 2)),
 o 17 (.load false 1 (tv 16)),
 o 18 (.bin .eql 0 (tv 17) (ki 8)),
 o 19 (.mv (tv 18)),
 og 20 (.mv (tv 1)) 19 true,
 og 21 (.fld 4 (tv 2)) 19 true,
 og 22 (.load false 1 (tv 21)) 19 true,
 og 23 (.len false (tv 22)) 19 true,
 og 24 (.bin .geq 0 (tv 20) (tv 23)) 19 true,
 o 25 (.pick (tv 19) (tv 24) kF)] [] [1, 2, 25])
 (.cond (tv 25) (.seq (.region [] [o 26 (.fld 5 (tv 2)),
 o 27 (.load false 1 (tv 26)),
 o 28 (.mv (tv 1)),
 o 29 (.fld 4 (tv 2)),
 o 30 (.load false 1 (tv 29)),
 o 31 (.len false (tv 30)),
 o 32 (.bin .sub 0 (tv 28) (tv 31)),
 o 33 (.idxA 14 (tv 27) (tv 32)),
 o 34 (.fld 2 (tv 33)),
 o 35 (.load false 1 (tv 34)),
 o 4 (.mv (tv 35))] [] [4])
 .ret)
 .skip))
 (.seq (.region [] [o 36 (.load true 11 (tv 2)),
 o 37 (.mv (tv 1)),
 oa 38 (.mkSl 1 [(tv 37)]) 2496,
 oa 39 (.call (kf 238) [(false, (tv 36)), (false, (tv 38))] []) 2560,
 o 4 (.mv (tv 39))] [] [4])
 .ret)))),
 [.tmp 4], false⟩

def v221 : VFun := ⟨2,
 (.seq (.region [] [o 4 (.mv kF)] [] [0, 1])
 (.seq (.region [] [o 5 (.mv (tv 0)),
 o 6 (.mv (tv 1)),
 oa 7 (.call (kf 239) [(false, (tv 5)), (false, (tv 6))] []) 256,
 o 8 (.bin .geq 0 (tv 7) (ki 0)),
 o 4 (.mv (tv 8))] [] [4])
 .ret)),
 [.tmp 4], false⟩

def l222_0 : VCode := (.seq (.seq (.region [] [o 48 (.mv (tv 8)),
 o 49 (.mv (tv 5)),
 o 50 (.len false (tv 49)),
 o 51 (.bin .lss 0 (tv 48) (tv 50))] [] [3, 4, 5, 7, 8, 51])
 (.cond (tv 51) .skip
 (.exit 0)))
 (.seq (.block 1 (.region [] [o 54 (.mv (tv 5)),
 o 55 (.mv (tv 8)),
 o 56 (.mv (tv 5)),
 o 57 (.mv (tv 8)),
 o 58 (.idxA 11 (tv 56) (tv 57)),
 o 59 (.load true 11 (tv 58)),
 o 60 (.fld 2 (tv 3)),
 o 61 (.load false 1 (tv 60)),
 o 62 (.mv (tv 7)),
 oa 63 (.call (kf 243) [(false, (tv 59)), (false, (tv 61)), (false, (tv 62))] []) 3968,
 o 64 (.idxA 11 (tv 54) (tv 55)),
 on (.store 11 (tv 64) (tv 63) [])] [(4, 6), (5, 6), (4, 7), (5, 7)] [3, 4, 5, 7, 8]))
 (.region [] [o 52 (.mv (tv 8)),
 o 53 (.bin .add 0 (tv 52) (ki 1)),
 o 8 (.mv (tv 53))] [] [3, 4, 5, 7, 8])))

def v222 : VFun := ⟨2,
 (.seq (.region [] [oa 2 (.box (tv 0)) 64,
 oa 3 (.box (tv 1)) 128,
 oa 4 (.new [zi, zi, zs, zi, .nil, .nil, zi, zs, zi, zi, .nil] []) 192] [] [2, 3, 4])
 (.seq (.region [] [o 9 (.fld 4 (tv 3)),
 o 10 (.load false 1 (tv 9)),
 oa 11 (.call (kf 149) [(false, (tv 10))] []) 384,
 o 5 (.mv (tv 11))] [] [2, 3, 4, 5])
 (.seq (.region [] [o 6 (.mv (ki 0))] [] [2, 3, 4, 5, 6])
 (.seq (.seq (.region [] [o 12 (.fld 0 (tv 3)),
 o 13 (.load false 1 (tv 12)),
 o 14 (.bin .eql 0 (tv 13) (ki 6))] [] [2, 3, 4, 5, 6, 14])
 (.cond (tv 14) (.region [] [o 6 (.mv (ki 1))] [] [2, 3, 4, 5, 6])
 .skip))
 (.seq (.seq (.region [] [o 15 (.fld 2 (tv 3)),
 o 16 (.load false 1 (tv 15)),
 o 17 (.fld 0 (tv 2)),
 o 18 (.load false 1 (tv 17)),
 o 19 (.bin .eql 0 (tv 16) (tv 18)),
 o 20 (.mv (tv 19)),
 og 21 (.mv (tv 6)) 20 false,
 og 22 (.mv (tv 5)) 20 false,
 og 23 (.len false (tv 22)) 20 false,
 og 24 (.bin .geq 0 (tv 21) (tv 23)) 20 false,
 o 25 (.pick (tv 20) kt (tv 24)),
 o 26 (.mv (tv 25)),
 og 27 (.load true 13 (tv 2)) 26 false,
 og 28 (.fld 2 (tv 3)) 26 false,
 og 29 (.load false 1 (tv 28)) 26 false,
 og 30 (.mv (tv 5)) 26 false,
 og 31 (.mv (tv 6)) 26 false,
 og 32 (.sl 11 (tv 30) (some (tv 31)) none none) 26 false,
 ⟨(some 33), (.call (kf 240) [(false, (tv 27)), (false, (tv 29)), (false, (tv 32))] []), (some (26, false)), 1984, []⟩,
 og 34 (.un .not (tv 33)) 26 false,
 o 35 (.pick (tv 26) kt (tv 34))] [(0, 2), (1, 2), (0, 3), (1, 3), (12, 13), (12, 14), (12, 17), (13, 17), (14, 17)] [2, 3, 4, 5, 6, 35])
 (.cond (tv 35) (.seq (.region [] [o 36 (.load true 11 (tv 3)),
 on (.store 11 (tv 4) (tv 36) [])] [] [4])
 .ret)
 .skip))
 (.seq (.region [] [o 37 (.load true 11 (tv 3)),
 oa 38 (.call (kf 242) [(false, (tv 37))] []) 2368,
 o 39 (.fld 12 (tv 2)),
 o 40 (.load false 1 (tv 39)),
 o 41 (.app 1 16 false (tv 38) (tv 40)),
 o 42 (.fld 0 (tv 2)),
 o 43 (.load false 1 (tv 42)),
 oa 44 (.mkSl 1 [(tv 43)]) 2752,
 o 45 (.app 1 16 false (tv 41) (tv 44)),
 oa 46 (.call (kf 241) [(false, (tv 45))] []) 2880,
 o 7 (.mv (tv 46))] [(0, 2), (1, 2), (0, 3), (1, 3), (0, 5), (1, 5), (2, 5), (3, 5), (4, 5), (0, 6), (1, 6), (2, 6), (3, 6), (4, 6), (0, 7), (1, 7), (2, 7), (3, 7), (4, 7)] [3, 4, 5, 6, 7])
 (.seq (.seq (.region [64, 2752] [o 47 (.mv (tv 6)),
 o 8 (.mv (tv 47))] [] [3, 4, 5, 7, 8])
 (.block 0 (.loop l222_0)))
 (.seq (.region [] [o 65 (.mv (tv 7)),
 o 66 (.mv (tv 5)),
 o 67 (.fld 2 (tv 3)),
 on (.store 1 (tv 67) (tv 65) []),
 o 68 (.fld 4 (tv 3)),
 on (.store 1 (tv 68) (tv 66) [])] [] [3, 4])
 (.seq (.region [] [o 69 (.load true 11 (tv 3)),
 on (.store 11 (tv 4) (tv 69) [])] [] [4])
 .ret))))))))),
 [.cell 4 true 11], false⟩

def l237_0 : VCode := (.seq (.region [] [o 12 (.bin .lss 0 (tv 11) (tv 10))] [] [2, 4, 9, 10, 11, 12])
 (.seq (.cond (tv 12) .skip
 (.exit 0))
 (.seq (.block 1 (.seq (.region [] [o 13 (.idxA 1 (tv 9) (tv 11)),
 o 14 (.load false 1 (tv 13)),
 o 7 (.mv (tv 14))] [] [2, 4, 7, 9, 10, 11])
 (.seq (.region [] [o 15 (.load true 11 (tv 2)),
 oa 16 (.call (kf 99) [(false, (tv 15))] []) 768,
 o 8 (.mv (tv 16))] [] [2, 4, 7, 8, 9, 10, 11])
 (.seq (.seq (.region [] [o 17 (.mv (tv 7)),
 o 18 (.bin .lss 0 (tv 17) (ki 0)),
 o 19 (.mv (tv 18)),
 og 20 (.mv (tv 7)) 19 false,
 og 21 (.mv (tv 8)) 19 false,
 og 22 (.len false (tv 21)) 19 false,
 og 23 (.bin .geq 0 (tv 20) (tv 22)) 19 false,
 o 24 (.pick (tv 19) kt (tv 23))] [] [2, 4, 7, 8, 9, 10, 11, 24])
 (.cond (tv 24) (.seq (.region [] [o 25 (.build [zi, zi, zs, zi, .nil, .nil, zi, zs, zi, zi, .nil] []),
 on (.store 11 (tv 4) (tv 25) []),
 o 5 (.mv kF)] [] [4, 5])
 .ret)
 .skip))
 (.region [] [o 26 (.mv (tv 8)),
 o 27 (.mv (tv 7)),
 o 28 (.idxA 11 (tv 26) (tv 27)),
 o 29 (.load true 11 (tv 28)),
 on (.store 11 (tv 2) (tv 29) [])] [] [2, 4, 9, 10, 11])))))
 (.region [800, 801, 802] [o 30 (.bin .add 0 (tv 11) (ki 1)),
 o 11 (.mv (tv 30))] [] [2, 4, 9, 10, 11]))))

def v237 : VFun := ⟨2,
 (.seq (.region [] [oa 2 (.box (tv 0)) 64,
 oa 4 (.new [zi, zi, zs, zi, .nil, .nil, zi, zs, zi, zi, .nil] []) 128,
 o 5 (.mv kF)] [] [1, 2, 4])
 (.seq (.seq (.region [] [o 9 (.mv (tv 1)),
 o 10 (.len false (tv 9)),
 o 11 (.mv (ki 0))] [] [2, 4, 9, 10, 11])
 (.block 0 (.loop l237_0)))
 (.seq (.region [] [o 31 (.load true 11 (tv 2)),
 on (.store 11 (tv 4) (tv 31) []),
 o 5 (.mv kt)] [] [4, 5])
 .ret))),
 [.cell 4 true 11, .tmp 5], false⟩

def l238_0 : VCode := (.seq (.region [] [o 31 (.bin .lss 0 (tv 30) (tv 29))] [] [2, 7, 9, 20, 21, 22, 28, 29, 30, 31])
 (.seq (.cond (tv 31) .skip
 (.exit 2))
 (.seq (.block 3 (.seq (.region [] [o 32 (.idxA 1 (tv 28) (tv 30)),
 o 33 (.load false 1 (tv 32)),
 oa 11 (.new [zs] []) 1984,
 on (.store 1 (tv 11) (tv 33) [])] [] [2, 7, 9, 11, 20, 21, 22, 28, 29, 30])
 (.seq (.region [] [o 34 (.mv (tv 7)),
 o 35 (.fn 257 [(tv 11)]),
 oa 36 (.call (kf 256) [(true, (tv 34)), (true, (tv 35))] []) 2240,
 o 7 (.mv (tv 36))] [] [2, 7, 9, 11, 20, 21, 22, 28, 29, 30])
 (.region [] [o 37 (.mv (tv 7)),
 o 38 (.load false 1 (tv 11)),
 oa 39 (.mkSl 1 [(tv 38)]) 2496,
 o 40 (.app 1 16 false (tv 37) (tv 39)),
 o 7 (.mv (tv 40))] [] [2, 7, 9, 20, 21, 22, 28, 29, 30]))))
 (.region [1984, 2272, 2273, 2274, 2496] [o 41 (.bin .add 0 (tv 30) (ki 1)),
 o 30 (.mv (tv 41))] [] [2, 7, 9, 20, 21, 22, 28, 29, 30]))))

def l238_1 : VCode := (.seq (.region [] [o 23 (.bin .lss 0 (tv 22) (tv 21))] [] [2, 7, 20, 21, 22, 23])
 (.seq (.cond (tv 23) .skip
 (.exit 0))
 (.seq (.block 1 (.seq (.region [] [o 24 (.idxA 1 (tv 20) (tv 22)),
 o 25 (.load false 1 (tv 24)),
 o 9 (.mv (tv 25))] [] [2, 7, 9, 20, 21, 22])
 (.seq (.seq (.region [] [o 26 (.load true 11 (tv 2)),
 o 27 (.mv (tv 9)),
 oa 28 (.call (kf 255) [(false, (tv 26)), (false, (tv 27))] []) 1600,
 o 29 (.len false (tv 28)),
 o 30 (.mv (ki 0))] [] [2, 7, 9, 20, 21, 22, 28, 29, 30])
 (.block 2 (.loop l238_0)))
 (.region [] [o 42 (.load true 11 (tv 2)),
 oa 43 (.call (kf 99) [(false, (tv 42))] []) 2880,
 o 44 (.mv (tv 9)),
 o 45 (.idxA 11 (tv 43) (tv 44)),
 o 46 (.load true 11 (tv 45)),
 on (.store 11 (tv 2) (tv 46) [])] [] [2, 7, 20, 21, 22]))))
 (.region [2912, 2913, 2914] [o 47 (.bin .add 0 (tv 22) (ki 1)),
 o 22 (.mv (tv 47))] [] [2, 7, 20, 21, 22]))))

def v238 : VFun := ⟨2,
 (.seq (.region [] [oa 2 (.box (tv 0)) 64,
 o 4 (.mv kn)] [] [1, 2])
 (.seq (.seq (.region [] [o 13 (.load true 11 (tv 2)),
 o 14 (.mv (tv 1)),
 oa 15 (.call (kf 237) [(false, (tv 13)), (false, (tv 14))] []) 320,
 o 12 (.mv (tv 15)),
 o 16 (.ext 0 (tv 12)),
 o 17 (.ext 1 (tv 12)),
 oa 5 (.new [zi, zi, zs, zi, .nil, .nil, zi, zs, zi, zi, .nil] []) 576,
 on (.store 11 (tv 5) (tv 16) []),
 o 6 (.mv (tv 17))] [] [1, 2, 6])
 (.seq (.region [576] [o 18 (.mv (tv 6)),
 o 19 (.un .not (tv 18))] [] [1, 2, 19])
 (.cond (tv 19) (.seq (.region [] [o 4 (.mv kn)] [] [4])
 .ret)
 .skip)))
 (.seq (.region [] [⟨(some 7), (.mv kn), none, 960, [(0, 1)]⟩] [] [1, 2, 7])
 (.seq (.seq (.region [] [o 20 (.mv (tv 1)),
 o 21 (.len false (tv 20)),
 o 22 (.mv (ki 0))] [] [2, 7, 20, 21, 22])
 (.block 0 (.loop l238_1)))
 (.seq (.region [] [o 48 (.mv (tv 7)),
 o 4 (.mv (tv 48))] [] [4])
 .ret))))),
 [.tmp 4], false⟩

def l239_0 : VCode := (.seq (.region [] [o 9 (.bin .lss 0 (tv 8) (tv 7))] [] [0, 1, 7, 8, 9])
 (.seq (.cond (tv 9) .skip
 (.exit 0))
 (.seq (.block 1 (.seq (.region [] [o 10 (.mv (tv 8)),
 o 5 (.mv (tv 10))] [] [0, 1, 5, 7, 8])
 (.seq (.region [] [o 11 (.mv (tv 1)),
 o 12 (.mv (tv 0)),
 o 13 (.mv (tv 5)),
 o 14 (.idxA 1 (tv 12) (tv 13)),
 o 15 (.load false 1 (tv 14)),
 o 16 (.bin .eql 0 (tv 11) (tv 15))] [] [0, 1, 5, 7, 8, 16])
 (.cond (tv 16) (.seq (.region [] [o 17 (.mv (tv 5)),
 o 4 (.mv (tv 17))] [] [4])
 .ret)
 .skip))))
 (.region [] [o 18 (.bin .add 0 (tv 8) (ki 1)),
 o 8 (.mv (tv 18))] [] [0, 1, 7, 8]))))

def v239 : VFun := ⟨2,
 (.seq (.region [] [o 4 (.mv (ki 0))] [] [0, 1])
 (.seq (.seq (.region [] [o 6 (.mv (tv 0)),
 o 7 (.len false (tv 6)),
 o 8 (.mv (ki 0))] [] [0, 1, 7, 8])
 (.block 0 (.loop l239_0)))
 (.seq (.region [] [o 4 (.mv (ki (-1)))] [] [4])
 .ret))),
 [.tmp 4], false⟩

def v240 : VFun := ⟨3,
 (.seq (.region [] [oa 3 (.box (tv 0)) 64,
 o 6 (.mv kF)] [] [1, 2, 3])
 (.seq (.seq (.region [] [o 7 (.fld 12 (tv 3)),
 o 8 (.load false 1 (tv 7)),
 o 9 (.mv (tv 1)),
 oa 10 (.call (kf 221) [(false, (tv 8)), (false, (tv 9))] []) 384,
 o 11 (.un .not (tv 10))] [] [2, 3, 11])
 (.cond (tv 11) (.seq (.region [] [o 6 (.mv kF)] [] [6])
 .ret)
 .skip))
 (.seq (.region [] [o 12 (.mv (tv 2)),
 o 13 (.fn 258 [(tv 3)]),
 oa 14 (.call (kf 98) [(false, (tv 12)), (true, (tv 13))] []) 704,
 o 6 (.mv (tv 14))] [] [6])
 .ret))),
 [.tmp 6], false⟩

def v255 : VFun := ⟨2,
 (.seq (.region [] [oa 2 (.box (tv 0)) 64,
 o 4 (.mv kn)] [] [1, 2])
 (.seq (.seq (.region [] [o 5 (.fld 0 (tv 2)),
 o 6 (.load false 1 (tv 5))] [] [1, 2, 6])
 (.block 0 (.seq (.seq (.region [] [o 8 (.bin .eql 0 (tv 6) (ki 4)),
 o 7 (.mv (tv 8))] [] [1, 2, 6, 7])
 (.cond (tv 7) .skip
 (.region [] [o 9 (.bin .eql 0 (tv 6) (ki 7)),
 o 7 (.mv (tv 9))] [] [1, 2, 6, 7])))
 (.cond (tv 7) (.seq (.region [] [o 10 (.fld 2 (tv 2)),
 o 11 (.load false 1 (tv 10)),
 oa 12 (.mkSl 1 [(tv 11)]) 704,
 o 4 (.mv (tv 12))] [] [4])
 .ret)
 (.seq (.region [] [o 14 (.bin .eql 0 (tv 6) (ki 6)),
 o 13 (.mv (tv 14))] [] [1, 2, 6, 13])
 (.cond (tv 13) (.seq (.region [] [o 15 (.mv (tv 1)),
 o 16 (.bin .eql 0 (tv 15) (ki 1))] [] [2, 16])
 (.cond (tv 16) (.seq (.region [] [o 17 (.fld 2 (tv 2)),
 o 18 (.load false 1 (tv 17)),
 oa 19 (.mkSl 1 [(tv 18)]) 1216,
 o 4 (.mv (tv 19))] [] [4])
 .ret)
 .skip))
 (.seq (.region [] [o 21 (.bin .eql 0 (tv 6) (ki 8)),
 o 20 (.mv (tv 21))] [] [1, 2, 20])
 (.cond (tv 20) (.seq (.region [] [o 22 (.mv (tv 1)),
 o 23 (.fld 4 (tv 2)),
 o 24 (.load false 1 (tv 23)),
 o 25 (.len false (tv 24)),
 o 26 (.bin .geq 0 (tv 22) (tv 25))] [] [1, 2, 26])
 (.cond (tv 26) (.seq (.region [] [o 27 (.fld 5 (tv 2)),
 o 28 (.load false 1 (tv 27)),
 o 29 (.mv (tv 1)),
 o 30 (.fld 4 (tv 2)),
 o 31 (.load false 1 (tv 30)),
 o 32 (.len false (tv 31)),
 o 33 (.bin .sub 0 (tv 29) (tv 32)),
 o 34 (.idxA 14 (tv 28) (tv 33)),
 o 35 (.fld 2 (tv 34)),
 o 36 (.load false 1 (tv 35)),
 o 4 (.mv (tv 36))] [] [4])
 .ret)
 .skip))
 .skip))))))))
 (.seq (.region [] [o 4 (.mv kn)] [] [4])
 .ret))),
 [.tmp 4], false⟩

def l256_0 : VCode := (.seq (.seq (.region [] [o 16 (.mv (tv 6)),
 o 17 (.mv (tv 0)),
 o 18 (.len false (tv 17)),
 o 19 (.bin .lss 0 (tv 16) (tv 18))] [] [0, 1, 5, 6, 19])
 (.cond (tv 19) .skip
 (.exit 0)))
 (.seq (.block 1 (.seq (.region [] [o 22 (.mv (tv 0)),
 o 23 (.mv (tv 6)),
 o 24 (.idxA 1 (tv 22) (tv 23)),
 o 25 (.load false 1 (tv 24)),
 o 7 (.mv (tv 25))] [] [0, 1, 5, 6, 7])
 (.seq (.region [] [o 26 (.mv (tv 1)),
 o 27 (.mv (tv 7)),
 oa 28 (.call (tv 26) [(false, (tv 27))] []) 1536,
 o 29 (.un .not (tv 28))] [] [0, 1, 5, 6, 7, 29])
 (.cond (tv 29) (.seq (.region [] [o 30 (.mv (tv 0)),
 o 31 (.mv (tv 5)),
 o 32 (.mv (tv 7)),
 o 33 (.idxA 1 (tv 30) (tv 31)),
 on (.store 1 (tv 33) (tv 32) [])] [] [0, 1, 5, 6])
 (.region [] [o 34 (.mv (tv 5)),
 o 35 (.bin .add 0 (tv 34) (ki 1)),
 o 5 (.mv (tv 35))] [] [0, 1, 5, 6]))
 .skip))))
 (.region [1568, 1569, 1570] [o 20 (.mv (tv 6)),
 o 21 (.bin .add 0 (tv 20) (ki 1)),
 o 6 (.mv (tv 21))] [] [0, 1, 5, 6])))

def v256 : VFun := ⟨2,
 (.seq (.region [] [o 4 (.mv kn)] [] [0, 1])
 (.seq (.region [] [o 8 (.mv (tv 0)),
 o 9 (.mv (tv 1)),
 oa 10 (.call (kf 147) [(false, (tv 8)), (true, (tv 9))] []) 256,
 o 5 (.mv (tv 10))] [] [0, 1, 5])
 (.seq (.seq (.region [] [o 11 (.mv (tv 5)),
 o 12 (.bin .eql 0 (tv 11) (ki (-1)))] [] [0, 1, 5, 12])
 (.cond (tv 12) (.seq (.region [] [o 13 (.mv (tv 0)),
 o 4 (.mv (tv 13))] [] [4])
 .ret)
 .skip))
 (.seq (.seq (.region [] [o 14 (.mv (tv 5)),
 o 15 (.bin .add 0 (tv 14) (ki 1)),
 o 6 (.mv (tv 15))] [] [0, 1, 5, 6])
 (.block 0 (.loop l256_0)))
 (.seq (.region [] [o 36 (.mv (tv 0)),
 o 37 (.mv (tv 5)),
 o 38 (.sl 1 (tv 36) (some (tv 37)) none none),
 on (.clr 1 [zs] (tv 38))] [] [0, 5])
 (.seq (.region [] [o 39 (.mv (tv 0)),
 o 40 (.mv (tv 5)),
 o 41 (.sl 1 (tv 39) none (some (tv 40)) none),
 o 4 (.mv (tv 41))] [] [4])
 .ret)))))),
 [.tmp 4], true⟩

set_option maxRecDepth 100000 in
theorem m146 : mFun Go.Proofs.Tryz.prog 146 v146 = true := by kernel_rfl
set_option maxRecDepth 100000 in
theorem m147 : mFun Go.Proofs.Tryz.prog 147 v147 = true := by kernel_rfl
set_option maxRecDepth 100000 in
theorem m148 : mFun Go.Proofs.Tryz.prog 148 v148 = true := by kernel_rfl
set_option maxRecDepth 100000 in
theorem m150 : mFun Go.Proofs.Tryz.prog 150 v150 = true := by kernel_rfl
set_option maxRecDepth 100000 in
theorem m153 : mFun Go.Proofs.Tryz.prog 153 v153 = true := by kernel_rfl
set_option maxRecDepth 100000 in
theorem m154 : mFun Go.Proofs.Tryz.prog 154 v154 = true := by kernel_rfl
set_option maxRecDepth 100000 in
theorem m156 : mFun Go.Proofs.Tryz.prog 156 v156 = true := by kernel_rfl
set_option maxRecDepth 100000 in
theorem m157 : mFun Go.Proofs.Tryz.prog 157 v157 = true := by kernel_rfl
set_option maxRecDepth 100000 in
theorem m158 : mFun Go.Proofs.Tryz.prog 158 v158 = true := by kernel_rfl
set_option maxRecDepth 100000 in
theorem m80 : mFun Go.Proofs.Tryz.prog 80 v80 = true := by kernel_rfl
set_option maxRecDepth 100000 in
theorem m198 : mFun Go.Proofs.Tryz.prog 198 v198 = true := by kernel_rfl
set_option maxRecDepth 100000 in
theorem m199 : mFun Go.Proofs.Tryz.prog 199 v199 = true := by kernel_rfl
set_option maxRecDepth 100000 in
theorem m197 : mFun Go.Proofs.Tryz.prog 197 v197 = true := by kernel_rfl
set_option maxRecDepth 100000 in
theorem m200 : mFun Go.Proofs.Tryz.prog 200 v200 = true := by kernel_rfl
set_option maxRecDepth 100000 in
theorem m151 : mFun Go.Proofs.Tryz.prog 151 v151 = true := by kernel_rfl
set_option maxRecDepth 100000 in
theorem m155 : mFun Go.Proofs.Tryz.prog 155 v155 = true := by kernel_rfl
set_option maxRecDepth 100000 in
theorem m218 : mFun Go.Proofs.Tryz.prog 218 v218 = true := by kernel_rfl
set_option maxRecDepth 100000 in
theorem m219 : mFun Go.Proofs.Tryz.prog 219 v219 = true := by kernel_rfl
set_option maxRecDepth 100000 in
theorem m201 : mFun Go.Proofs.Tryz.prog 201 v201 = true := by kernel_rfl
set_option maxRecDepth 100000 in
theorem m202 : mFun Go.Proofs.Tryz.prog 202 v202 = true := by kernel_rfl
set_option maxRecDepth 100000 in
theorem m220 : mFun Go.Proofs.Tryz.prog 220 v220 = true := by kernel_rfl
set_option maxRecDepth 100000 in
theorem m221 : mFun Go.Proofs.Tryz.prog 221 v221 = true := by kernel_rfl
set_option maxRecDepth 100000 in
theorem m222 : mFun Go.Proofs.Tryz.prog 222 v222 = true := by kernel_rfl
set_option maxRecDepth 100000 in
theorem m237 : mFun Go.Proofs.Tryz.prog 237 v237 = true := by kernel_rfl
set_option maxRecDepth 100000 in
theorem m238 : mFun Go.Proofs.Tryz.prog 238 v238 = true := by kernel_rfl
set_option maxRecDepth 100000 in
theorem m239 : mFun Go.Proofs.Tryz.prog 239 v239 = true := by kernel_rfl
set_option maxRecDepth 100000 in
theorem m240 : mFun Go.Proofs.Tryz.prog 240 v240 = true := by kernel_rfl
set_option maxRecDepth 100000 in
theorem m255 : mFun Go.Proofs.Tryz.prog 255 v255 = true := by kernel_rfl
set_option maxRecDepth 100000 in
theorem m256 : mFun Go.Proofs.Tryz.prog 256 v256 = true := by kernel_rfl

end Go.Vs.Tryz
