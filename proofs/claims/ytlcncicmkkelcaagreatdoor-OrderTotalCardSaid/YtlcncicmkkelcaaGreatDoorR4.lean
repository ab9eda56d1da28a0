/- Functions of the program in the language of the value semantics, part 3 (printed by a program of mine), and that they match. (Parts of one proof, put together.) -/
import Derived.Test.YtlcncicmkkelcaaGreatDoorM3
import Derived.Test.YtlcncicmkkelcaaGreatDoorProg
import Derived.KernelRfl
import Derived.Test.YtlcncicmkkelcaaGreatDoorT1
import Derived.Test.YtlcncicmkkelcaaGreatDoorT2
import Derived.Lib.Strings
import Derived.Lib.Walk
import Derived.Lib.BufferWrite
import Derived.Lib.UnsafeStr
import Derived.Lib.Hide
import Derived.Laws.MakeOwn
import Derived.WalkKit
set_option linter.unusedSimpArgs false
set_option linter.unusedVariables false
set_option linter.deprecated false

/- Functions of the program in the language of the value semantics, part 3 (printed by a program of mine), and that they match. -/
namespace Go.Vs.Tryz
open Go Go.Vs

def v217 : VFun := ⟨1,
 (.seq (.region [] [o 2 (.mv kF)] [] [0])
 (.seq (.region [] [o 3 (.mv (tv 0)),
 oa 4 (.call (kf 249) [(false, (tv 3))] []) 192,
 o 5 (.mv (tv 4)),
 og 6 (.mv (tv 0)) 5 false,
 ⟨(some 7), (.call (kf 250) [(false, (tv 6))] []), (some (5, false)), 384, []⟩,
 o 8 (.pick (tv 5) kt (tv 7)),
 o 9 (.mv (tv 8)),
 og 10 (.mv (tv 0)) 9 false,
 ⟨(some 11), (.call (kf 251) [(false, (tv 10))] []), (some (9, false)), 640, []⟩,
 o 12 (.pick (tv 9) kt (tv 11)),
 o 13 (.mv (tv 12)),
 og 14 (.mv (tv 0)) 13 false,
 og 15 (.bin .eql 0 (tv 14) (.k (.sc (.c (.int .u8 95))))) 13 false,
 o 16 (.pick (tv 13) kt (tv 15)),
 o 2 (.mv (tv 16))] [] [2])
 .ret)),
 [.tmp 2], false⟩

def v218 : VFun := ⟨1,
 (.seq (.region [] [o 2 (.mv (ki 0))] [] [0])
 (.seq (.block 0 (.seq (.region [] [o 4 (.mv (tv 0)),
 oa 5 (.call (kf 252) [(false, (tv 4))] []) 192,
 o 3 (.mv (tv 5))] [] [0, 3])
 (.cond (tv 3) (.seq (.region [] [o 2 (.mv (ki 4))] [] [2])
 .ret)
 (.seq (.region [] [o 7 (.mv (tv 0)),
 oa 8 (.call (kf 253) [(false, (tv 7))] []) 448,
 o 6 (.mv (tv 8))] [] [0, 6])
 (.cond (tv 6) (.seq (.region [] [o 2 (.mv (ki 1))] [] [2])
 .ret)
 (.seq (.region [] [o 10 (.mv (tv 0)),
 oa 11 (.call (kf 254) [(false, (tv 10))] []) 704,
 o 9 (.mv (tv 11))] [] [0, 9])
 (.cond (tv 9) (.seq (.region [] [o 2 (.mv (ki 2))] [] [2])
 .ret)
 (.seq (.region [] [o 13 (.mv (tv 0)),
 oa 14 (.call (kf 255) [(false, (tv 13))] []) 960,
 o 12 (.mv (tv 14))] [] [0, 12])
 (.cond (tv 12) (.seq (.region [] [o 2 (.mv (ki 3))] [] [2])
 .ret)
 (.seq (.region [] [o 16 (.mv (tv 0)),
 oa 17 (.call (kf 256) [(false, (tv 16))] []) 1216,
 o 15 (.mv (tv 17))] [] [15])
 (.cond (tv 15) (.seq (.region [] [o 2 (.mv (ki 5))] [] [2])
 .ret)
 .skip)))))))))))
 (.seq (.region [] [o 2 (.mv (ki 0))] [] [2])
 .ret))),
 [.tmp 2], false⟩

def v219 : VFun := ⟨1,
 (.seq (.region [] [o 2 (.mv (ki 0))] [] [0])
 (.seq (.seq (.region [] [o 3 (.mv (tv 0)),
 o 4 (.nn (tv 3)),
 o 5 (.fld 1 (tv 4)),
 o 6 (.load false 1 (tv 5)),
 o 7 (.mv (tv 0)),
 o 8 (.nn (tv 7)),
 o 9 (.fld 0 (tv 8)),
 o 10 (.load false 1 (tv 9)),
 o 11 (.len false (tv 10)),
 o 12 (.bin .lss 0 (tv 6) (tv 11))] [(1, 5), (2, 5), (3, 5), (1, 6), (2, 6), (3, 6), (1, 7), (2, 7), (3, 7), (1, 8), (2, 8), (3, 8)] [0, 12])
 (.cond (tv 12) (.seq (.region [] [o 13 (.mv (tv 0)),
 o 14 (.nn (tv 13)),
 o 15 (.fld 0 (tv 14)),
 o 16 (.load false 1 (tv 15)),
 o 17 (.mv (tv 0)),
 o 18 (.nn (tv 17)),
 o 19 (.fld 1 (tv 18)),
 o 20 (.load false 1 (tv 19)),
 o 21 (.idxA 3 (tv 16) (tv 20)),
 o 22 (.fld 2 (tv 21)),
 o 23 (.load false 1 (tv 22)),
 o 2 (.mv (tv 23))] [(1, 5), (2, 5), (3, 5), (1, 6), (2, 6), (3, 6), (1, 7), (2, 7), (3, 7)] [2])
 .ret)
 .skip))
 (.seq (.region [] [o 2 (.mv (ki 0))] [] [2])
 .ret))),
 [.tmp 2], false⟩

def v222 : VFun := ⟨2,
 (.seq (.region [] [o 4 (.mv (tv 0)),
 o 5 (.mv (tv 1)),
 oa 6 (.call (kf 220) [(true, (tv 4)), (false, (tv 5))] []) 192,
 o 7 (.un .not (tv 6))] [] [0, 7])
 (.cond (tv 7) (.region [] [o 8 (.mv (tv 0)),
 oa 9 (.call (kf 170) [(true, (tv 8))] []) 384] [] [1000000])
 .skip)),
 [], false⟩

def v221 : VFun := ⟨2,
 (.seq (.region [] [o 4 (.mv (.k (.sc zs)))] [] [0, 1])
 (.seq (.seq (.region [] [o 5 (.mv (tv 0)),
 o 6 (.mv (tv 1)),
 oa 7 (.call (kf 228) [(true, (tv 5)), (false, (tv 6))] []) 256,
 o 8 (.un .not (tv 7))] [] [0, 8])
 (.cond (tv 8) (.seq (.region [] [o 9 (.mv (tv 0)),
 oa 10 (.call (kf 170) [(true, (tv 9))] []) 448] [] [1000000])
 (.seq (.region [] [o 4 (.mv (.k (.sc zs)))] [] [4])
 .ret))
 .skip))
 (.seq (.region [] [o 11 (.mv (tv 0)),
 o 12 (.nn (tv 11)),
 o 13 (.fld 1 (tv 12)),
 o 14 (.load false 1 (tv 13)),
 o 15 (.bin .add 0 (tv 14) (ki 1)),
 o 16 (.nn (tv 11)),
 o 17 (.fld 1 (tv 16)),
 on (.store 1 (tv 17) (tv 15) [])] [] [0])
 (.seq (.region [] [o 18 (.mv (tv 0)),
 o 19 (.nn (tv 18)),
 o 20 (.fld 0 (tv 19)),
 o 21 (.load false 1 (tv 20)),
 o 22 (.mv (tv 0)),
 o 23 (.nn (tv 22)),
 o 24 (.fld 1 (tv 23)),
 o 25 (.load false 1 (tv 24)),
 o 26 (.bin .sub 0 (tv 25) (ki 1)),
 o 27 (.idxA 3 (tv 21) (tv 26)),
 o 28 (.fld 1 (tv 27)),
 o 29 (.load false 1 (tv 28)),
 o 4 (.mv (tv 29))] [(1, 5), (2, 5), (3, 5), (1, 6), (2, 6), (3, 6), (1, 7), (2, 7), (3, 7)] [4])
 .ret)))),
 [.tmp 4], false⟩

def v228 : VFun := ⟨2,
 (.seq (.region [] [o 4 (.mv kF)] [] [0, 1])
 (.seq (.region [] [o 5 (.mv (tv 0)),
 o 6 (.nn (tv 5)),
 o 7 (.fld 2 (tv 6)),
 o 8 (.load false 1 (tv 7)),
 o 9 (.un .not (tv 8)),
 o 10 (.mv (tv 9)),
 og 11 (.mv (tv 0)) 10 true,
 og 12 (.nn (tv 11)) 10 true,
 og 13 (.fld 1 (tv 12)) 10 true,
 og 14 (.load false 1 (tv 13)) 10 true,
 og 15 (.mv (tv 0)) 10 true,
 og 16 (.nn (tv 15)) 10 true,
 og 17 (.fld 0 (tv 16)) 10 true,
 og 18 (.load false 1 (tv 17)) 10 true,
 og 19 (.len false (tv 18)) 10 true,
 og 20 (.bin .lss 0 (tv 14) (tv 19)) 10 true,
 o 21 (.pick (tv 10) (tv 20) kF),
 o 22 (.mv (tv 21)),
 og 23 (.mv (tv 0)) 22 true,
 og 24 (.nn (tv 23)) 22 true,
 og 25 (.fld 0 (tv 24)) 22 true,
 og 26 (.load false 1 (tv 25)) 22 true,
 og 27 (.mv (tv 0)) 22 true,
 og 28 (.nn (tv 27)) 22 true,
 og 29 (.fld 1 (tv 28)) 22 true,
 og 30 (.load false 1 (tv 29)) 22 true,
 og 31 (.idxA 3 (tv 26) (tv 30)) 22 true,
 og 32 (.fld 0 (tv 31)) 22 true,
 og 33 (.load false 1 (tv 32)) 22 true,
 og 34 (.mv (tv 1)) 22 true,
 og 35 (.bin .eql 0 (tv 33) (tv 34)) 22 true,
 o 36 (.pick (tv 22) (tv 35) kF),
 o 4 (.mv (tv 36))] [(7, 11), (8, 11), (9, 11), (7, 12), (8, 12), (9, 12), (7, 13), (8, 13), (9, 13), (7, 14), (8, 14), (9, 14), (19, 23), (20, 23), (21, 23), (19, 24), (20, 24), (21, 24), (19, 25), (20, 25), (21, 25)] [4])
 .ret)),
 [.tmp 4], false⟩

def v229 : VFun := ⟨1,
 (.seq (.region [] [o 2 (.mv kF)] [] [0])
 (.seq (.region [] [o 3 (.mv (tv 0)),
 oa 4 (.call (kf 228) [(true, (tv 3)), (false, (ki 1))] []) 192,
 o 5 (.mv (tv 4)),
 og 6 (.mv (tv 0)) 5 false,
 ⟨(some 7), (.call (kf 228) [(true, (tv 6)), (false, (ki 2))] []), (some (5, false)), 384, []⟩,
 o 8 (.pick (tv 5) kt (tv 7)),
 o 9 (.mv (tv 8)),
 og 10 (.mv (tv 0)) 9 false,
 ⟨(some 11), (.call (kf 173) [(true, (tv 10)), (false, (.k (.sc (.c (.str [40])))))] []), (some (9, false)), 640, []⟩,
 o 12 (.pick (tv 9) kt (tv 11)),
 o 2 (.mv (tv 12))] [] [2])
 .ret)),
 [.tmp 2], false⟩

def v230 : VFun := ⟨1,
 (.seq (.region [] [oa 2 (.new [zi, zs, zi, zi, .nil] []) 64] [] [0, 2])
 (.seq (.block 0 (.seq (.region [] [o 5 (.mv (tv 0)),
 oa 6 (.call (kf 228) [(true, (tv 5)), (false, (ki 1))] []) 192,
 o 4 (.mv (tv 6))] [] [0, 2, 4])
 (.cond (tv 4) (.seq (.region [] [o 7 (.mv (tv 0)),
 oa 8 (.call (kf 221) [(true, (tv 7)), (false, (ki 1))] []) 384,
 oa 9 (.call (kf 258) [(false, (tv 8))] []) 448,
 on (.store 5 (tv 2) (tv 9) [])] [] [2])
 .ret)
 (.seq (.region [] [o 11 (.mv (tv 0)),
 oa 12 (.call (kf 228) [(true, (tv 11)), (false, (ki 2))] []) 640,
 o 10 (.mv (tv 12))] [] [0, 2, 10])
 (.cond (tv 10) (.seq (.region [] [o 13 (.mv (tv 0)),
 oa 14 (.call (kf 221) [(true, (tv 13)), (false, (ki 2))] []) 832,
 oa 15 (.call (kf 100) [(false, (tv 14)), (false, kn)] []) 896,
 on (.store 5 (tv 2) (tv 15) [])] [] [2])
 .ret)
 .skip)))))
 (.seq (.region [] [o 16 (.mv (tv 0)),
 oa 17 (.call (kf 222) [(true, (tv 16)), (false, (.k (.sc (.c (.str [40])))))] []) 1088] [] [0, 2])
 (.seq (.seq (.region [] [o 18 (.mv (tv 0)),
 o 19 (.nn (tv 18)),
 o 20 (.fld 2 (tv 19)),
 o 21 (.load false 1 (tv 20))] [] [0, 2, 21])
 (.cond (tv 21) (.seq (.region [] [o 22 (.build [zi, zs, zi, zi, .nil] []),
 on (.store 5 (tv 2) (tv 22) [])] [] [2])
 .ret)
 .skip))
 (.seq (.region [] [o 23 (.mv (tv 0)),
 oa 24 (.call (kf 231) [(true, (tv 23))] []) 1600,
 oa 3 (.new [zi, zs, zi, zi, .nil] []) 1664,
 on (.store 5 (tv 3) (tv 24) [])] [] [0, 2, 3])
 (.seq (.region [] [o 25 (.mv (tv 0)),
 oa 26 (.call (kf 222) [(true, (tv 25)), (false, (.k (.sc (.c (.str [41])))))] []) 1856] [] [2, 3])
 (.seq (.region [] [o 27 (.load true 5 (tv 3)),
 on (.store 5 (tv 2) (tv 27) [])] [] [2])
 .ret))))))),
 [.cell 2 true 5], false⟩

def v220 : VFun := ⟨2,
 (.seq (.region [] [o 4 (.mv kF)] [] [0, 1])
 (.seq (.seq (.region [] [o 5 (.mv (tv 0)),
 o 6 (.mv (tv 1)),
 oa 7 (.call (kf 173) [(true, (tv 5)), (false, (tv 6))] []) 256] [] [0, 7])
 (.cond (tv 7) (.seq (.region [] [o 8 (.mv (tv 0)),
 o 9 (.nn (tv 8)),
 o 10 (.fld 1 (tv 9)),
 o 11 (.load false 1 (tv 10)),
 o 12 (.bin .add 0 (tv 11) (ki 1)),
 o 13 (.nn (tv 8)),
 o 14 (.fld 1 (tv 13)),
 on (.store 1 (tv 14) (tv 12) [])] [] [1000000])
 (.seq (.region [] [o 4 (.mv kt)] [] [4])
 .ret))
 .skip))
 (.seq (.region [] [o 4 (.mv kF)] [] [4])
 .ret))),
 [.tmp 4], false⟩

def l231_0 : VCode := (.seq (.seq (.region [] [o 9 (.mv (tv 0)),
 oa 10 (.call (kf 229) [(true, (tv 9))] []) 640] [] [0, 2, 3, 10])
 (.cond (tv 10) .skip
 (.exit 0)))
 (.block 1 (.region [960] [o 11 (.fld 4 (tv 3)),
 o 12 (.load false 1 (tv 11)),
 o 13 (.mv (tv 0)),
 oa 14 (.call (kf 230) [(true, (tv 13))] []) 896,
 oa 15 (.mkSl 5 [(tv 14)]) 960,
 o 16 (.app 5 64 false (tv 12) (tv 15)),
 o 17 (.fld 4 (tv 3)),
 on (.store 1 (tv 17) (tv 16) [])] [(0, 3), (1, 3), (0, 4), (1, 4)] [0, 2, 3])))

def v231 : VFun := ⟨1,
 (.seq (.region [] [oa 2 (.new [zi, zs, zi, zi, .nil] []) 64] [] [0, 2])
 (.seq (.region [] [oa 3 (.new [zi, zs, zi, zi, .nil] []) 128] [] [0, 2, 3])
 (.seq (.seq (.region [] [o 4 (.mv (tv 0)),
 oa 5 (.call (kf 228) [(true, (tv 4)), (false, (ki 2))] []) 256] [] [0, 2, 3, 5])
 (.cond (tv 5) (.seq (.region [] [o 6 (.mv (tv 0)),
 oa 7 (.call (kf 221) [(true, (tv 6)), (false, (ki 2))] []) 384,
 oa 8 (.call (kf 100) [(false, (tv 7)), (true, kn)] []) 448,
 ⟨none, (.store 5 (tv 3) (tv 8) [(4, 5)]), none, 512, []⟩] [] [0, 2, 3])
 (.block 0 (.loop l231_0)))
 (.region [] [o 18 (.mv (tv 0)),
 oa 19 (.call (kf 230) [(true, (tv 18))] []) 1280,
 ⟨none, (.store 5 (tv 3) (tv 19) [(4, 5)]), none, 1344, []⟩] [] [0, 2, 3])))
 (.seq (.seq (.region [] [o 20 (.mv (tv 0)),
 oa 21 (.call (kf 220) [(true, (tv 20)), (false, (.k (.sc (.c (.str [45, 62])))))] []) 1472] [] [0, 2, 3, 21])
 (.cond (tv 21) (.seq (.region [] [o 22 (.ldD true 5 (tv 3)),
 o 23 (.mv (tv 0)),
 oa 24 (.call (kf 231) [(true, (tv 23))] []) 1664,
 oa 25 (.call (kf 128) [(false, (tv 22)), (false, (tv 24))] []) 1728,
 on (.store 5 (tv 2) (tv 25) [])] [(0, 2)] [2])
 .ret)
 .skip))
 (.seq (.region [] [o 26 (.ldD true 5 (tv 3)),
 on (.store 5 (tv 2) (tv 26) [])] [] [2])
 .ret))))),
 [.cell 2 true 5], false⟩

def l232_0 : VCode := (.seq (.seq (.region [] [o 5 (.mv (tv 4)),
 o 6 (.fld 4 (tv 1)),
 o 7 (.load false 1 (tv 6)),
 o 8 (.len false (tv 7)),
 o 9 (.bin .lss 0 (tv 5) (tv 8))] [] [1, 3, 4, 9])
 (.cond (tv 9) .skip
 (.exit 0)))
 (.seq (.block 1 (.region [] [o 12 (.mv (tv 3)),
 o 13 (.fld 4 (tv 1)),
 o 14 (.load false 1 (tv 13)),
 o 15 (.mv (tv 4)),
 o 16 (.idxA 5 (tv 14) (tv 15)),
 o 17 (.load true 5 (tv 16)),
 oa 18 (.call (kf 232) [(false, (tv 17))] []) 1024,
 o 19 (.bin .add 0 (ki 1) (tv 18)),
 o 20 (.mx (tv 12) (tv 19)),
 o 3 (.mv (tv 20))] [] [1, 3, 4]))
 (.region [] [o 10 (.mv (tv 4)),
 o 11 (.bin .add 0 (tv 10) (ki 1)),
 o 4 (.mv (tv 11))] [] [1, 3, 4])))

def v232 : VFun := ⟨1,
 (.seq (.region [] [oa 1 (.box (tv 0)) 64,
 o 2 (.mv (ki 0))] [] [1])
 (.seq (.region [] [o 3 (.mv (ki 0))] [] [1, 3])
 (.seq (.seq (.region [] [o 4 (.mv (ki 0))] [] [1, 3, 4])
 (.block 0 (.loop l232_0)))
 (.seq (.region [] [o 21 (.mv (tv 3)),
 o 2 (.mv (tv 21))] [] [2])
 .ret)))),
 [.tmp 2], false⟩

def v248 : VFun := ⟨1,
 (.seq (.region [] [o 2 (.mv kF)] [] [0])
 (.seq (.region [] [o 3 (.mv (tv 0)),
 o 4 (.mv (tv 0)),
 o 5 (.bin .neq 0 (tv 3) (tv 4)),
 o 2 (.mv (tv 5))] [] [2])
 .ret)),
 [.tmp 2], false⟩

def v249 : VFun := ⟨1,
 (.seq (.region [] [o 2 (.mv kF)] [] [0])
 (.seq (.region [] [o 3 (.mv (tv 0)),
 o 4 (.bin .geq 0 (tv 3) (.k (.sc (.c (.int .u8 97))))),
 o 5 (.mv (tv 4)),
 og 6 (.mv (tv 0)) 5 true,
 og 7 (.bin .leq 0 (tv 6) (.k (.sc (.c (.int .u8 122))))) 5 true,
 o 8 (.pick (tv 5) (tv 7) kF),
 o 2 (.mv (tv 8))] [] [2])
 .ret)),
 [.tmp 2], false⟩

def v250 : VFun := ⟨1,
 (.seq (.region [] [o 2 (.mv kF)] [] [0])
 (.seq (.region [] [o 3 (.mv (tv 0)),
 o 4 (.bin .geq 0 (tv 3) (.k (.sc (.c (.int .u8 65))))),
 o 5 (.mv (tv 4)),
 og 6 (.mv (tv 0)) 5 true,
 og 7 (.bin .leq 0 (tv 6) (.k (.sc (.c (.int .u8 90))))) 5 true,
 o 8 (.pick (tv 5) (tv 7) kF),
 o 2 (.mv (tv 8))] [] [2])
 .ret)),
 [.tmp 2], false⟩

def v251 : VFun := ⟨1,
 (.seq (.region [] [o 2 (.mv kF)] [] [0])
 (.seq (.region [] [o 3 (.mv (tv 0)),
 o 4 (.bin .geq 0 (tv 3) (.k (.sc (.c (.int .u8 48))))),
 o 5 (.mv (tv 4)),
 og 6 (.mv (tv 0)) 5 true,
 og 7 (.bin .leq 0 (tv 6) (.k (.sc (.c (.int .u8 57))))) 5 true,
 o 8 (.pick (tv 5) (tv 7) kF),
 o 2 (.mv (tv 8))] [] [2])
 .ret)),
 [.tmp 2], false⟩

def l252_0 : VCode := (.seq (.seq (.region [] [o 6 (.mv (tv 4)),
 o 7 (.mv (tv 3)),
 o 8 (.len false (tv 7)),
 o 9 (.bin .lss 0 (tv 6) (tv 8))] [] [0, 3, 4, 9])
 (.cond (tv 9) .skip
 (.exit 0)))
 (.seq (.block 1 (.seq (.region [] [o 12 (.mv (tv 3)),
 o 13 (.mv (tv 4)),
 o 14 (.idxA 1 (tv 12) (tv 13)),
 o 15 (.load false 1 (tv 14)),
 o 16 (.mv (tv 0)),
 o 17 (.bin .eql 0 (tv 15) (tv 16))] [] [0, 3, 4, 17])
 (.cond (tv 17) (.seq (.region [] [o 2 (.mv kt)] [] [2])
 .ret)
 .skip)))
 (.region [] [o 10 (.mv (tv 4)),
 o 11 (.bin .add 0 (tv 10) (ki 1)),
 o 4 (.mv (tv 11))] [] [0, 3, 4])))

def v252 : VFun := ⟨1,
 (.seq (.region [] [o 2 (.mv kF)] [] [0])
 (.seq (.region [] [oa 5 (.mkSl 1 [(.k (.sc (.c (.str [100, 97, 116, 97])))), (.k (.sc (.c (.str [108, 101, 116])))), (.k (.sc (.c (.str [114, 101, 99])))), (.k (.sc (.c (.str [105, 110])))), (.k (.sc (.c (.str [99, 97, 115, 101])))), (.k (.sc (.c (.str [111, 102])))), (.k (.sc (.c (.str [101, 110, 100]))))]) 128,
 o 3 (.mv (tv 5))] [] [0, 3])
 (.seq (.seq (.region [] [o 4 (.mv (ki 0))] [] [0, 3, 4])
 (.block 0 (.loop l252_0)))
 (.seq (.region [] [o 2 (.mv kF)] [] [2])
 .ret)))),
 [.tmp 2], false⟩

def v253 : VFun := ⟨1,
 (.seq (.region [] [o 2 (.mv kF)] [] [0])
 (.seq (.region [] [o 3 (.mv (tv 0)),
 oa 4 (.call (kf 263) [(false, (tv 3))] []) 192,
 o 5 (.mv (tv 4)),
 og 6 (.mv (tv 0)) 5 true,
 og 7 (.idxS (tv 6) (ki 0)) 5 true,
 ⟨(some 8), (.call (kf 249) [(false, (tv 7))] []), (some (5, true)), 448, []⟩,
 o 9 (.pick (tv 5) (tv 8) kF),
 o 10 (.mv (tv 9)),
 og 11 (.mv (tv 0)) 10 true,
 og 12 (.len true (tv 11)) 10 true,
 og 13 (.bin .leq 0 (tv 12) (ki 12)) 10 true,
 o 14 (.pick (tv 10) (tv 13) kF),
 o 15 (.mv (tv 14)),
 og 16 (.mv (tv 0)) 15 true,
 ⟨(some 17), (.call (kf 252) [(false, (tv 16))] []), (some (15, true)), 1024, []⟩,
 og 18 (.un .not (tv 17)) 15 true,
 o 19 (.pick (tv 15) (tv 18) kF),
 o 2 (.mv (tv 19))] [] [2])
 .ret)),
 [.tmp 2], false⟩

def v254 : VFun := ⟨1,
 (.seq (.region [] [o 2 (.mv kF)] [] [0])
 (.seq (.region [] [o 3 (.mv (tv 0)),
 oa 4 (.call (kf 263) [(false, (tv 3))] []) 192,
 o 5 (.mv (tv 4)),
 og 6 (.mv (tv 0)) 5 true,
 og 7 (.idxS (tv 6) (ki 0)) 5 true,
 ⟨(some 8), (.call (kf 250) [(false, (tv 7))] []), (some (5, true)), 448, []⟩,
 o 9 (.pick (tv 5) (tv 8) kF),
 o 10 (.mv (tv 9)),
 og 11 (.mv (tv 0)) 10 true,
 og 12 (.len true (tv 11)) 10 true,
 og 13 (.bin .leq 0 (tv 12) (ki 12)) 10 true,
 o 14 (.pick (tv 10) (tv 13) kF),
 o 2 (.mv (tv 14))] [] [2])
 .ret)),
 [.tmp 2], false⟩

def l255_0 : VCode := (.seq (.seq (.region [] [o 21 (.mv (tv 3)),
 o 22 (.mv (tv 0)),
 o 23 (.len true (tv 22)),
 o 24 (.bin .lss 0 (tv 21) (tv 23))] [] [0, 3, 24])
 (.cond (tv 24) .skip
 (.exit 0)))
 (.seq (.block 1 (.seq (.region [] [o 27 (.mv (tv 0)),
 o 28 (.mv (tv 3)),
 o 29 (.idxS (tv 27) (tv 28)),
 oa 30 (.call (kf 251) [(false, (tv 29))] []) 1792,
 o 31 (.un .not (tv 30))] [] [0, 3, 31])
 (.cond (tv 31) (.seq (.region [] [o 2 (.mv kF)] [] [2])
 .ret)
 .skip)))
 (.region [] [o 25 (.mv (tv 3)),
 o 26 (.bin .add 0 (tv 25) (ki 1)),
 o 3 (.mv (tv 26))] [] [0, 3])))

def v255 : VFun := ⟨1,
 (.seq (.region [] [o 2 (.mv kF)] [] [0])
 (.seq (.seq (.region [] [o 4 (.mv (tv 0)),
 o 5 (.bin .eql 0 (tv 4) (.k (.sc zs))),
 o 6 (.mv (tv 5)),
 og 7 (.mv (tv 0)) 6 false,
 og 8 (.len true (tv 7)) 6 false,
 og 9 (.bin .gtr 0 (tv 8) (ki 9)) 6 false,
 o 10 (.pick (tv 6) kt (tv 9)),
 o 11 (.mv (tv 10)),
 og 12 (.mv (tv 0)) 11 false,
 og 13 (.idxS (tv 12) (ki 0)) 11 false,
 og 14 (.bin .eql 0 (tv 13) (.k (.sc (.c (.int .u8 48))))) 11 false,
 og 15 (.mv (tv 14)) 11 false,
 og 16 (.mv (tv 0)) 15 true,
 og 17 (.len true (tv 16)) 15 true,
 og 18 (.bin .gtr 0 (tv 17) (ki 1)) 15 true,
 og 19 (.pick (tv 15) (tv 18) kF) 11 false,
 o 20 (.pick (tv 11) kt (tv 19))] [] [0, 20])
 (.cond (tv 20) (.seq (.region [] [o 2 (.mv kF)] [] [2])
 .ret)
 .skip))
 (.seq (.seq (.region [] [o 3 (.mv (ki 0))] [] [0, 3])
 (.block 0 (.loop l255_0)))
 (.seq (.region [] [o 2 (.mv kt)] [] [2])
 .ret)))),
 [.tmp 2], false⟩

def l256_0 : VCode := (.seq (.seq (.region [] [o 6 (.mv (tv 3)),
 o 7 (.bin .lss 0 (tv 6) (ki 11))] [] [0, 3, 7])
 (.cond (tv 7) .skip
 (.exit 0)))
 (.seq (.block 1 (.seq (.region [] [o 10 (.mv (tv 0)),
 o 11 (.mv (tv 3)),
 o 12 (.mv (tv 3)),
 o 13 (.bin .add 0 (tv 12) (ki 1)),
 o 14 (.slS (.k (.sc (.c (.str [92, 46, 61, 59, 58, 124, 40, 41, 123, 125, 63])))) (some (tv 11)) (some (tv 13))),
 o 15 (.bin .eql 0 (tv 10) (tv 14))] [] [0, 3, 15])
 (.cond (tv 15) (.seq (.region [] [o 2 (.mv kt)] [] [2])
 .ret)
 .skip)))
 (.region [] [o 8 (.mv (tv 3)),
 o 9 (.bin .add 0 (tv 8) (ki 1)),
 o 3 (.mv (tv 9))] [] [0, 3])))

def v256 : VFun := ⟨1,
 (.seq (.region [] [o 2 (.mv kF)] [] [0])
 (.seq (.seq (.region [] [o 4 (.mv (tv 0)),
 o 5 (.bin .eql 0 (tv 4) (.k (.sc (.c (.str [45, 62])))))] [] [0, 5])
 (.cond (tv 5) (.seq (.region [] [o 2 (.mv kt)] [] [2])
 .ret)
 .skip))
 (.seq (.seq (.region [] [o 3 (.mv (ki 0))] [] [0, 3])
 (.block 0 (.loop l256_0)))
 (.seq (.region [] [o 2 (.mv kF)] [] [2])
 .ret)))),
 [.tmp 2], false⟩

def v258 : VFun := ⟨1,
 (.seq (.region [] [oa 2 (.new [zi, zs, zi, zi, .nil] []) 64] [] [0, 2])
 (.seq (.region [] [o 3 (.mv (tv 0)),
 o 4 (.build [zi, zs, zi, zi, .nil] [(0, 1, (ki 5)), (1, 1, (tv 3))]),
 on (.store 5 (tv 2) (tv 4) [])] [] [2])
 .ret)),
 [.cell 2 true 5], false⟩

def l263_0 : VCode := (.seq (.seq (.region [] [o 4 (.mv (tv 3)),
 o 5 (.mv (tv 0)),
 o 6 (.len true (tv 5)),
 o 7 (.bin .lss 0 (tv 4) (tv 6))] [] [0, 3, 7])
 (.cond (tv 7) .skip
 (.exit 0)))
 (.seq (.block 1 (.seq (.region [] [o 10 (.mv (tv 0)),
 o 11 (.mv (tv 3)),
 o 12 (.idxS (tv 10) (tv 11)),
 oa 13 (.call (kf 217) [(false, (tv 12))] []) 640,
 o 14 (.un .not (tv 13))] [] [0, 3, 14])
 (.cond (tv 14) (.seq (.region [] [o 2 (.mv kF)] [] [2])
 .ret)
 .skip)))
 (.region [] [o 8 (.mv (tv 3)),
 o 9 (.bin .add 0 (tv 8) (ki 1)),
 o 3 (.mv (tv 9))] [] [0, 3])))

def v263 : VFun := ⟨1,
 (.seq (.region [] [o 2 (.mv kF)] [] [0])
 (.seq (.seq (.region [] [o 3 (.mv (ki 0))] [] [0, 3])
 (.block 0 (.loop l263_0)))
 (.seq (.region [] [o 15 (.mv (tv 0)),
 o 16 (.bin .neq 0 (tv 15) (.k (.sc zs))),
 o 2 (.mv (tv 16))] [] [2])
 .ret))),
 [.tmp 2], false⟩

set_option maxRecDepth 100000 in
theorem m217 : mFun Go.Proofs.Tryz.prog 217 v217 = true := by kernel_rfl
set_option maxRecDepth 100000 in
theorem m218 : mFun Go.Proofs.Tryz.prog 218 v218 = true := by kernel_rfl
set_option maxRecDepth 100000 in
theorem m219 : mFun Go.Proofs.Tryz.prog 219 v219 = true := by kernel_rfl
set_option maxRecDepth 100000 in
theorem m222 : mFun Go.Proofs.Tryz.prog 222 v222 = true := by kernel_rfl
set_option maxRecDepth 100000 in
theorem m221 : mFun Go.Proofs.Tryz.prog 221 v221 = true := by kernel_rfl
set_option maxRecDepth 100000 in
theorem m228 : mFun Go.Proofs.Tryz.prog 228 v228 = true := by kernel_rfl
set_option maxRecDepth 100000 in
theorem m229 : mFun Go.Proofs.Tryz.prog 229 v229 = true := by kernel_rfl
set_option maxRecDepth 100000 in
theorem m230 : mFun Go.Proofs.Tryz.prog 230 v230 = true := by kernel_rfl
set_option maxRecDepth 100000 in
theorem m220 : mFun Go.Proofs.Tryz.prog 220 v220 = true := by kernel_rfl
set_option maxRecDepth 100000 in
theorem m231 : mFun Go.Proofs.Tryz.prog 231 v231 = true := by kernel_rfl
set_option maxRecDepth 100000 in
theorem m232 : mFun Go.Proofs.Tryz.prog 232 v232 = true := by kernel_rfl
set_option maxRecDepth 100000 in
theorem m248 : mFun Go.Proofs.Tryz.prog 248 v248 = true := by kernel_rfl
set_option maxRecDepth 100000 in
theorem m249 : mFun Go.Proofs.Tryz.prog 249 v249 = true := by kernel_rfl
set_option maxRecDepth 100000 in
theorem m250 : mFun Go.Proofs.Tryz.prog 250 v250 = true := by kernel_rfl
set_option maxRecDepth 100000 in
theorem m251 : mFun Go.Proofs.Tryz.prog 251 v251 = true := by kernel_rfl
set_option maxRecDepth 100000 in
theorem m252 : mFun Go.Proofs.Tryz.prog 252 v252 = true := by kernel_rfl
set_option maxRecDepth 100000 in
theorem m253 : mFun Go.Proofs.Tryz.prog 253 v253 = true := by kernel_rfl
set_option maxRecDepth 100000 in
theorem m254 : mFun Go.Proofs.Tryz.prog 254 v254 = true := by kernel_rfl
set_option maxRecDepth 100000 in
theorem m255 : mFun Go.Proofs.Tryz.prog 255 v255 = true := by kernel_rfl
set_option maxRecDepth 100000 in
theorem m256 : mFun Go.Proofs.Tryz.prog 256 v256 = true := by kernel_rfl
set_option maxRecDepth 100000 in
theorem m258 : mFun Go.Proofs.Tryz.prog 258 v258 = true := by kernel_rfl
set_option maxRecDepth 100000 in
theorem m263 : mFun Go.Proofs.Tryz.prog 263 v263 = true := by kernel_rfl

end Go.Vs.Tryz

/- The tables. -/
namespace Go.Vs.Tryz
open Go Go.Vs

def tab : List (Nat × VFun) := [(4, v4), (12, v12), (13, v13), (14, v14), (17, v17), (15, v15), (18, v18), (47, v47), (46, v46), (48, v48), (49, v49), (41, v41), (44, v44), (23, v23), (50, v50), (52, v52), (53, v53), (51, v51), (65, v65), (40, v40), (54, v54), (57, v57), (58, v58), (63, v63), (66, v66), (100, v100), (62, v62), (99, v99), (28, v28), (71, v71), (101, v101), (34, v34), (103, v103), (70, v70), (102, v102), (104, v104), (27, v27), (124, v124), (97, v97), (32, v32), (96, v96), (56, v56), (55, v55), (60, v60), (59, v59), (61, v61), (110, v110), (111, v111), (112, v112), (113, v113), (114, v114), (115, v115), (116, v116), (79, v79), (117, v117), (118, v118), (84, v84), (125, v125), (69, v69), (126, v126), (109, v109), (150, v150), (73, v73), (74, v74), (75, v75), (76, v76), (77, v77), (129, v129), (155, v155), (128, v128), (151, v151), (152, v152), (153, v153), (154, v154), (92, v92), (83, v83), (29, v29), (106, v106), (107, v107), (108, v108), (105, v105), (157, v157), (158, v158), (159, v159), (160, v160), (161, v161), (162, v162), (163, v163), (164, v164), (147, v147), (212, v212), (211, v211), (134, v134), (135, v135), (136, v136), (137, v137), (139, v139), (138, v138), (167, v167), (168, v168), (173, v173), (174, v174), (176, v176), (213, v213), (78, v78), (26, v26), (156, v156), (214, v214), (215, v215), (216, v216), (247, v247), (181, v181), (182, v182), (184, v184), (188, v188), (202, v202), (192, v192), (217, v217), (218, v218), (219, v219), (222, v222), (221, v221), (228, v228), (229, v229), (230, v230), (220, v220), (231, v231), (232, v232), (248, v248), (249, v249), (250, v250), (251, v251), (252, v252), (253, v253), (254, v254), (255, v255), (256, v256), (258, v258), (263, v263)]
def T : FuncId → Option VFun := get? tab

set_option maxRecDepth 100000 in
theorem T_ok : ∀ f vf, T f = some vf → mFun Go.Proofs.Tryz.prog f vf = true := AllT.get (l := tab) ⟨m4, m12, m13, m14, m17, m15, m18, m47, m46, m48, m49, m41, m44, m23, m50, m52, m53, m51, m65, m40, m54, m57, m58, m63, m66, m100, m62, m99, m28, m71, m101, m34, m103, m70, m102, m104, m27, m124, m97, m32, m96, m56, m55, m60, m59, m61, m110, m111, m112, m113, m114, m115, m116, m79, m117, m118, m84, m125, m69, m126, m109, m150, m73, m74, m75, m76, m77, m129, m155, m128, m151, m152, m153, m154, m92, m83, m29, m106, m107, m108, m105, m157, m158, m159, m160, m161, m162, m163, m164, m147, m212, m211, m134, m135, m136, m137, m139, m138, m167, m168, m173, m174, m176, m213, m78, m26, m156, m214, m215, m216, m247, m181, m182, m184, m188, m202, m192, m217, m218, m219, m222, m221, m228, m229, m230, m220, m231, m232, m248, m249, m250, m251, m252, m253, m254, m255, m256, m258, m263, trivial⟩

def cab : List (Nat × VFun) := [(133, v133), (144, v144), (95, v95), (140, v140)]
def Tc : FuncId → Option VFun := get? cab

set_option maxRecDepth 100000 in
theorem Tc_ok : ∀ f vf, Tc f = some vf → mFun Go.Proofs.Tryz.prog f vf = true := AllT.get (l := cab) ⟨m133, m144, m95, m140, trivial⟩

theorem follows : Go.Proofs.Tryz.prog.follows .mixedOrders = true := by kernel_rfl

end Go.Vs.Tryz

/- The library's Clone of a string at this program: its contract, by a walk (lines of a worked proof of the kit, turned to this program). -/
namespace Go.Vs.Tryz
open Go Go.RowKit Go.Proofs Go.Vs

theorem info5 : (Go.Proofs.Tryz.prog.info? 5).map (fun i => (i.zero, i.size, i.bytes)) = some (some (Value.int IntKind.u8 0), 1, 1) := by kernel_rfl

theorem info_of5 : ∃ i0 : TypeInfo, Go.Proofs.Tryz.prog.info? 5 = some i0 ∧ i0.zero = some (.int .u8 0) ∧ i0.size = 1 ∧ i0.bytes = 1 := by
  have h := info5
  cases hi : Go.Proofs.Tryz.prog.info? 5 with
  | none => rw [hi] at h; cases h
  | some i =>
    rw [hi] at h
    simp only [Option.map_some, Option.some.injEq, Prod.mk.injEq] at h
    exact ⟨i, rfl, h.1, h.2.1, h.2.2⟩

set_option maxHeartbeats 4000000 in
set_option maxRecDepth 100000 in
theorem clone202 (s : ByteArray) (w : World) (hlim : s.size ≤ 281474976710656) :
    Calls Go.Proofs.Tryz.prog 233 #[.string s] w fun e w' => e = .returned (.string s) ∧ Below w.heap.size w w' := by
  by_cases h0 : s.size = 0
  · have hs : s = ⟨#[]⟩ := by
      apply ByteArray.ext
      exact Array.eq_empty_of_size_eq_zero h0
    subst hs
    go_enter Go.Proofs.Tryz.func233, Go.Proofs.Tryz.ntmps233
    go_wp2
    go_ret
    exact ⟨rfl, Below.refl _ _⟩
  · obtain ⟨i0, hi, hz0, hz1, hz2⟩ := info_of5
    have hinfo : (Go.Proofs.Tryz.prog.info? 5).map (·.size) = some 1 := by rw [hi]; simp [hz1]
    have hco : Go.Proofs.Tryz.prog.cellsOf 5 = 1 := by simp [Program.cellsOf, hi, hz1]
    obtain ⟨M, hM⟩ : ∃ M, M = madeCells (Value.int .u8 0).cells (((s.size : Nat) : Int).toNat * i0.size) := ⟨_, rfl⟩
    have hMs : M.size = s.size := by rw [hM, size_madeCells, hz1]; simp
    have hmk : ∀ W : World, (Instr.makeSlice 211 (.int .i64 (s.size : Int)) (.int .i64 (s.size : Int))).run Go.Proofs.Tryz.prog W = .ok (.slice (some ⟨W.heap.size, 0, none⟩) s.size s.size) (W.alloc (.cells M 5)) := fun W => by
      have h := run_make (P := Go.Proofs.Tryz.prog) W 211 5 i0 (.int .u8 0) Go.Proofs.Tryz.underlying211 hi hz0 .i64 .i64 (s.size : Int) (s.size : Int) (by omega) (by omega) (by rw [hz2]; omega) (by omega)
      rw [← hM] at h
      simpa using h
    clear hM
    have hcp := Lib.run_copy_row_string (P := Go.Proofs.Tryz.prog) (w.alloc (.cells M 5)) 211 9 3 5 w.heap.size 0 s.size s.size s M 5 Go.Proofs.Tryz.underlying211 hinfo (heap_alloc_new w _) (Nat.le_refl _) (by omega)
    obtain ⟨Y, hY⟩ : ∃ Y, Y = (M.toList.take 0 ++ Lib.byteCells s.data.toList ++ M.toList.drop (0 + s.size)).toArray := ⟨_, rfl⟩
    rw [← hY] at hcp
    have hYl : Y.toList = Lib.byteCells s.data.toList := by
      rw [hY, List.toList_toArray, List.take_zero, List.nil_append, List.drop_of_length_le (by rw [Array.length_toList]; omega), List.append_nil]
    have hYs : Y.size = s.size := by rw [← Array.length_toList, hYl, Lib.byteCells_length, ← Lib.size_eq]
    have hgY : ((w.alloc (.cells M 5)).setRow w.heap.size Y).heap[w.heap.size]? = some (.cells Y 5 (0, 0)) := setRow_heap _ _ M _ 5 (0, 0) (heap_alloc_new w _)
    have hne : s.data.toList ≠ [] := fun e => h0 (by rw [Lib.size_eq, e]; rfl)
    have hUS := Lib.run_unsafeString_row (P := Go.Proofs.Tryz.prog) ((w.alloc (.cells M 5)).setRow w.heap.size Y) 265 3 9 5 Go.Proofs.Tryz.underlying265 hco w.heap.size Y.size (by unfold World.shape?; rw [hgY]) s.data.toList hne (by rw [← Lib.size_eq]; omega) (by rw [← Lib.size_eq]; omega)
      (fun j x hx => Lib.cells_of_row hgY Y.size j _ (by rw [List.take_of_length_le (by rw [Array.length_toList]; exact Nat.le_refl _), hYl]; simp [Lib.byteCells, hx]))
    rw [← Lib.size_eq] at hUS
    clear hY
    go_enter Go.Proofs.Tryz.func233, Go.Proofs.Tryz.ntmps233
    go_wp2
    go_ret
    have hb1 : Below w.heap.size w (w.alloc (.cells M 5)) := (Below.refl _ w).alloc (Nat.le_refl _) _
    have hb2 : Below w.heap.size (w.alloc (.cells M 5)) ((w.alloc (.cells M 5)).setRow w.heap.size Y) := ⟨rfl, rfl, rfl, by simp, fun k hk => setRow_other _ _ _ _ (by omega)⟩
    exact ⟨rfl, Lib.below_freeze (hb1.trans hb2) (p := ⟨w.heap.size, 0, none⟩) (Nat.le_refl _) _⟩
end Go.Vs.Tryz

/- The oracle beside the tables: the library's Clone of strings, and Clone of empty slices; the package-level variables; the examples of the two chapters. -/
namespace Go.Vs.Tryz
open Go Go.Vs Go.RowKit

def tabOf (k : IntKind) (l : List Int) : List Cell := l.map fun n => .int k n
def pow10Tab : List Int := [1, 10, 100, 1000, 10000, 100000, 1000000, 10000000, 100000000, 1000000000, 10000000000, 100000000000, 1000000000000, 10000000000000, 100000000000000, 1000000000000000, 10000000000000000, 100000000000000000, 1000000000000000000, 10000000000000000000]
def de32Tab : List Int := [0, 1, 28, 2, 29, 14, 24, 3, 30, 22, 20, 15, 25, 17, 4, 8, 31, 27, 13, 23, 21, 19, 16, 7, 26, 12, 18, 6, 11, 5, 10, 9]
def de64Tab : List Int := [0, 1, 56, 2, 57, 49, 28, 3, 61, 58, 42, 50, 38, 29, 17, 4, 62, 47, 59, 36, 45, 43, 51, 22, 53, 39, 33, 30, 24, 18, 12, 5, 63, 55, 48, 27, 60, 41, 37, 16, 46, 35, 44, 21, 52, 32, 23, 11, 54, 26, 40, 15, 34, 20, 31, 10, 25, 14, 19, 9, 13, 8, 7, 6]
def errCell (s : List UInt8) : Cell := .ifc 266 true [.ro [.str s] 0]
def synText : List UInt8 := [105, 110, 118, 97, 108, 105, 100, 32, 115, 121, 110, 116, 97, 120]
def rngText : List UInt8 := [118, 97, 108, 117, 101, 32, 111, 117, 116, 32, 111, 102, 32, 114, 97, 110, 103, 101]

/-- What the package-level variables hold. -/
def gl5 : Nat → List Cell
  | 0 => [errCell synText]
  | 1 => [errCell rngText]
  | 2 => tabOf .u64 pow10Tab
  | 3 => tabOf .u8 de32Tab
  | 4 => tabOf .u8 de64Tab
  | _ => []
/-- Those of them that are read. -/
def gl0 : Nat → List Cell
  | 0 => [errCell synText]
  | 1 => [errCell rngText]
  | _ => []

def isClone (f : Nat) : Bool := f == 140 || f == 133
def isClone2 (f : Nat) : Bool := f == 144 || f == 95

def X : Oracle := fun f args objs => match objs with
  | _ :: _ => evalFn Tc (fun _ _ _ => none) gl0 3 f args objs
  | [] => match args with
    | [.sc (.c (.str l))] => bif f == 233 && Nat.ble l.length 281474976710656 then some (.sc (.c (.str l)), []) else none
    | [.sc (.c (.sl []))] => bif isClone f then some (.sc (.full []), []) else bif isClone2 f then some (.sc (.c (.sl [])), []) else none
    | _ => evalFn Tc (fun _ _ _ => none) gl0 3 f args objs

abbrev ev (n : Nat) (f : FuncId) (args : List V) (objs : List Obj) : Option (V × List Obj) := evalFn T X gl0 n f args objs

end Go.Vs.Tryz

/- The oracle beside the tables is sound. -/
namespace Go.Vs
open Go Go.RowKit

theorem keeps_below {w w' : World} {ω : Nat → Nat} {S : Nat → Prop} (hb : Below w.heap.size w w') : Keeps w ω S w' ω :=
  ⟨⟨fun b i hi v hv => by
    obtain ⟨cs, t, fr, h⟩ := cells_of_at hv
    have h' : w'.heap[b]? = some (.cells cs t fr) := (hb.block b (Array.getElem?_eq_some_iff.1 h).1).trans h
    refine ⟨?_, hi⟩
    rw [at?_block h', ← at?_block h]
    exact hv⟩, hb.size, fun b hbl _ => ⟨hb.block b hbl, rfl⟩, hb.os, hb.tape, hb.output⟩

theorem clone_empty {P : Program} {gl : Nat → List Cell} {f : FuncId} (h1 : FnOk P gl f [.sc (.e0 true)] [] (.sc .nil) []) (h2 : FnOk P gl f [.sc (.e0 false)] [] (.sc (.full [])) []) :
    FnOk P gl f [.sc (.c (.sl []))] [] (.sc (.full [])) [] := by
  refine ⟨h1.1, fun w ω β cargs hgl hargs hobj hinj => ?_⟩
  obtain ⟨l⟩ := cargs
  match l, hargs with
  | [], hargs => simp [RVs] at hargs
  | v :: _ :: _, hargs => simp [RVs] at hargs
  | [v], hargs =>
    simp only [RVs, RV1, RW, RD, and_true] at hargs
    obtain ⟨base, cap, hv, _, hcap, _⟩ := hargs
    simp only [List.length_nil] at hv
    cases base with
    | none =>
      have hr : RVs w ω β (Lof []) [.sc (.e0 true)] [v] := by
        simp only [RVs, RV1, RW, and_true]
        exact ⟨none, cap, hv, hcap, rfl⟩
      refine (h1.2 w ω β #[v] hgl hr hobj hinj).mono ?_
      rintro e w' ⟨vv, ω', β', he, hrv, hrest⟩
      refine ⟨vv, ω', β', he, ?_, hrest⟩
      simp only [RV, RV1, RW] at hrv
      subst hrv
      simp only [RV, RV1, RW, RD]
      exact ⟨⟨none, 0, rfl, by simp, by simp [maxRows], by simp⟩, none, 0, rfl⟩
    | some a =>
      have hr : RVs w ω β (Lof []) [.sc (.e0 false)] [v] := by
        simp only [RVs, RV1, RW, and_true]
        exact ⟨some a, cap, hv, hcap, rfl⟩
      exact h2.2 w ω β #[v] hgl hr hobj hinj

theorem clone_both {P : Program} {gl : Nat → List Cell} {f : FuncId} (h1 : FnOk P gl f [.sc (.e0 true)] [] (.sc (.c (.sl []))) []) (h2 : FnOk P gl f [.sc (.e0 false)] [] (.sc (.full [])) []) :
    FnOk P gl f [.sc (.c (.sl []))] [] (.sc (.c (.sl []))) [] := by
  refine ⟨h1.1, fun w ω β cargs hgl hargs hobj hinj => ?_⟩
  obtain ⟨l⟩ := cargs
  match l, hargs with
  | [], hargs => simp [RVs] at hargs
  | v :: _ :: _, hargs => simp [RVs] at hargs
  | [v], hargs =>
    simp only [RVs, RV1, RW, RD, and_true] at hargs
    obtain ⟨base, cap, hv, _, hcap, _⟩ := hargs
    simp only [List.length_nil] at hv
    cases base with
    | none =>
      have hr : RVs w ω β (Lof []) [.sc (.e0 true)] [v] := by
        simp only [RVs, RV1, RW, and_true]
        exact ⟨none, cap, hv, hcap, rfl⟩
      exact h1.2 w ω β #[v] hgl hr hobj hinj
    | some a =>
      have hr : RVs w ω β (Lof []) [.sc (.e0 false)] [v] := by
        simp only [RVs, RV1, RW, and_true]
        exact ⟨some a, cap, hv, hcap, rfl⟩
      refine (h2.2 w ω β #[v] hgl hr hobj hinj).mono ?_
      rintro e w' ⟨vv, ω', β', he, hrv, hrest⟩
      refine ⟨vv, ω', β', he, ?_, hrest⟩
      simp only [RV, RV1, RW] at hrv ⊢
      exact hrv.1

namespace Tryz

theorem ok202 {gl : Nat → List Cell} {l : List UInt8} (hl : l.length ≤ 281474976710656) : FnOk Go.Proofs.Tryz.prog gl 233 [.sc (.c (.str l))] [] (.sc (.c (.str l))) [] := by
  refine ⟨⟨_, Go.Proofs.Tryz.func233, by kernel_rfl, by kernel_rfl⟩, fun w ω β cargs hgl hargs hobj hinj => ?_⟩
  obtain ⟨l'⟩ := cargs
  match l', hargs with
  | [], hargs => simp [RVs] at hargs
  | v :: _ :: _, hargs => simp [RVs] at hargs
  | [v], hargs =>
    simp only [RVs, RV1, RW, RD, and_true] at hargs
    obtain ⟨a, rfl, ha⟩ := hargs
    refine (clone202 a w (by rw [Lib.size_eq, ha]; exact hl)).mono ?_
    rintro e w' ⟨rfl, hb⟩
    refine ⟨_, ω, β, rfl, ?_, fun k o hk => by simp [Lof] at hk, fun j k b hj => by simp [Lof] at hj, keeps_below hb, fun k b hk => by simp [Lof] at hk, fun k => by simp [Tr, Lof]⟩
    simp only [RV, RV1, RW, RD]
    exact ⟨a, rfl, ha⟩

theorem X_none : ∀ (f : FuncId) (args : List V) (objs : List Obj) (rv : V) (objs' : List Obj), (fun _ _ _ => none : Oracle) f args objs = some (rv, objs') → FnOk Go.Proofs.Tryz.prog gl0 f args objs rv objs' :=
  fun _ _ _ _ _ h => by cases h

theorem Tc_fn {n : Nat} {f : FuncId} {args : List V} {objs : List Obj} {rv : V} {objs' : List Obj} (h : evalFn Tc (fun _ _ _ => none) gl0 n f args objs = some (rv, objs')) : FnOk Go.Proofs.Tryz.prog gl0 f args objs rv objs' :=
  evalFn_ok follows Tc_ok X_none n h

theorem clone_of {f : Nat} (h : isClone f = true) : FnOk Go.Proofs.Tryz.prog gl0 f [.sc (.c (.sl []))] [] (.sc (.full [])) [] := by
  have hf : f = 140 ∨ f = 133 := by
    simp only [isClone, Bool.or_eq_true, beq_iff_eq] at h
    omega
  rcases hf with rfl | rfl
  · exact clone_empty (Tc_fn (n := 3) (by kernel_rfl)) (Tc_fn (n := 3) (by kernel_rfl))
  · exact clone_empty (Tc_fn (n := 3) (by kernel_rfl)) (Tc_fn (n := 3) (by kernel_rfl))

theorem clone2_of {f : Nat} (h : isClone2 f = true) : FnOk Go.Proofs.Tryz.prog gl0 f [.sc (.c (.sl []))] [] (.sc (.c (.sl []))) [] := by
  have hf : f = 144 ∨ f = 95 := by
    simp only [isClone2, Bool.or_eq_true, beq_iff_eq] at h
    omega
  rcases hf with rfl | rfl
  · exact clone_both (Tc_fn (n := 3) (by kernel_rfl)) (Tc_fn (n := 3) (by kernel_rfl))
  · exact clone_both (Tc_fn (n := 3) (by kernel_rfl)) (Tc_fn (n := 3) (by kernel_rfl))

theorem X_ok : ∀ (f : FuncId) (args : List V) (objs : List Obj) (rv : V) (objs' : List Obj), X f args objs = some (rv, objs') → FnOk Go.Proofs.Tryz.prog gl0 f args objs rv objs' := by
  intro f args objs rv objs' h
  unfold X at h
  split at h
  · exact Tc_fn h
  · split at h
    · rename_i l
      cases hc : (f == 233 && Nat.ble l.length 281474976710656) with
      | false => rw [hc] at h; cases h
      | true =>
        rw [hc] at h
        simp only [cond_true, Option.some.injEq, Prod.mk.injEq] at h
        simp only [Bool.and_eq_true, beq_iff_eq] at hc
        obtain ⟨rfl, rfl⟩ := h
        obtain ⟨rfl, hl⟩ := hc
        exact ok202 (Nat.le_of_ble_eq_true hl)
    · cases hc : isClone f with
      | false =>
        rw [hc] at h
        simp only [cond_false] at h
        cases hc2 : isClone2 f with
        | false => rw [hc2] at h; cases h
        | true =>
          rw [hc2] at h
          simp only [cond_true, Option.some.injEq, Prod.mk.injEq] at h
          obtain ⟨rfl, rfl⟩ := h
          exact clone2_of hc2
      | true =>
        rw [hc] at h
        simp only [cond_true, Option.some.injEq, Prod.mk.injEq] at h
        obtain ⟨rfl, rfl⟩ := h
        exact clone_of hc
    · exact Tc_fn h

/-- What the evaluator says, the program does. -/
theorem ev_ok {n : Nat} {f : FuncId} {args : List V} {objs : List Obj} {rv : V} {objs' : List Obj} (h : ev n f args objs = some (rv, objs')) : FnOk Go.Proofs.Tryz.prog gl0 f args objs rv objs' :=
  evalFn_ok follows T_ok X_ok n h
end Tryz
end Go.Vs
