/- Functions of the program in the language of the value semantics, part 2 (printed by a program of mine), and that they match. (Parts of one proof, put together.) -/
import Derived.Test.YtlfnfilcbhfdnaaGreatDoorM3
import Derived.Test.YtlfnfilcbhfdnaaGreatDoorProg
import Derived.KernelRfl
set_option linter.unusedSimpArgs false
set_option linter.unusedVariables false
set_option linter.deprecated false

/- Functions of the program in the language of the value semantics, part 2 (printed by a program of mine), and that they match. -/
namespace Go.Vs.Tryz
open Go Go.Vs

def l73_0 : VCode := (.seq (.seq (.region [] [o 5 (.fld 0 (tv 1)),
 o 6 (.load false 1 (tv 5)),
 o 7 (.bin .eql 0 (tv 6) (ki 5)),
 o 8 (.mv (tv 7)),
 og 9 (.fld 4 (tv 1)) 8 true,
 og 10 (.load false 1 (tv 9)) 8 true,
 og 11 (.len false (tv 10)) 8 true,
 og 12 (.bin .eql 0 (tv 11) (ki 2)) 8 true,
 o 13 (.pick (tv 8) (tv 12) kF)] [] [1, 2, 4, 13])
 (.cond (tv 13) .skip
 (.exit 0)))
 (.block 1 (.seq (.region [1216] [o 14 (.mv (tv 4)),
 o 15 (.fld 4 (tv 1)),
 o 16 (.load false 1 (tv 15)),
 o 17 (.idxA 11 (tv 16) (ki 1)),
 o 18 (.load true 11 (tv 17)),
 oa 19 (.mkSl 11 [(tv 18)]) 1216,
 o 20 (.app 11 152 false (tv 14) (tv 19)),
 o 4 (.mv (tv 20))] [] [1, 2, 4])
 (.region [1216] [o 21 (.fld 4 (tv 1)),
 o 22 (.load false 1 (tv 21)),
 o 23 (.idxA 11 (tv 22) (ki 0)),
 o 24 (.load true 11 (tv 23)),
 on (.store 11 (tv 1) (tv 24) [])] [] [1, 2, 4]))))

def v73 : VFun := ⟨1,
 (.seq (.region [] [oa 1 (.box (tv 0)) 64,
 oa 2 (.new [zi, zi, zs, zi, .nil, .nil, zi, zs, zi, zi, .nil] []) 128,
 o 3 (.mv kn)] [] [1, 2])
 (.seq (.region [] [⟨(some 4), (.mv kn), none, 256, [(0, 11)]⟩] [] [1, 2, 4])
 (.seq (.block 0 (.loop l73_0))
 (.seq (.region [] [o 25 (.mv (tv 4)),
 oa 26 (.call (kf 107) [(false, (tv 25))] []) 1792] [] [1, 2, 4])
 (.seq (.region [] [o 27 (.load true 11 (tv 1)),
 o 28 (.mv (tv 4)),
 on (.store 11 (tv 2) (tv 27) []),
 o 3 (.mv (tv 28))] [] [2, 3])
 .ret))))),
 [.cell 2 true 11, .tmp 3], false⟩

def v75 : VFun := ⟨2,
 (.seq (.region [] [oa 4 (.new [zi, zs, zi, zi, .nil] []) 64] [] [0, 1, 4])
 (.seq (.region [] [o 5 (.mv (tv 0)),
 o 6 (.mv (tv 1)),
 o 7 (.build [zi, zs, zi, zi, .nil] [(0, 1, (ki 3)), (3, 1, (tv 5)), (2, 1, (tv 6))]),
 on (.store 5 (tv 4) (tv 7) [])] [] [4])
 .ret)),
 [.cell 4 true 5], false⟩

def l77_0 : VCode := (.seq (.seq (.region [] [o 5 (.mv (tv 4)),
 o 6 (.mv (tv 0)),
 o 7 (.bin .lss 0 (tv 5) (tv 6))] [] [0, 3, 4, 7])
 (.cond (tv 7) .skip
 (.exit 0)))
 (.seq (.block 1 (.region [] [o 10 (.mv (tv 3)),
 o 11 (.mv (tv 4)),
 oa 12 (.call (kf 121) [(false, (tv 11))] []) 576,
 oa 13 (.mkSl 5 [(tv 12)]) 640,
 o 14 (.app 5 64 false (tv 10) (tv 13)),
 o 3 (.mv (tv 14))] [] [0, 3, 4]))
 (.region [640] [o 8 (.mv (tv 4)),
 o 9 (.bin .add 0 (tv 8) (ki 1)),
 o 4 (.mv (tv 9))] [] [0, 3, 4])))

def v77 : VFun := ⟨1,
 (.seq (.region [] [o 2 (.mv kn)] [] [0])
 (.seq (.region [] [⟨(some 3), (.mv kn), none, 128, [(0, 5)]⟩] [] [0, 3])
 (.seq (.seq (.region [] [o 4 (.mv (ki 0))] [] [0, 3, 4])
 (.block 0 (.loop l77_0)))
 (.seq (.region [] [o 15 (.mv (tv 3)),
 o 2 (.mv (tv 15))] [] [2])
 .ret)))),
 [.tmp 2], false⟩

def l76_0 : VCode := (.seq (.seq (.region [] [o 11 (.mv (tv 7)),
 o 12 (.mv (tv 5)),
 o 13 (.len false (tv 12)),
 o 14 (.bin .lss 0 (tv 11) (tv 13))] [] [1, 2, 4, 5, 6, 7, 14])
 (.cond (tv 14) .skip
 (.exit 0)))
 (.seq (.block 1 (.seq (.region [] [o 17 (.mv (tv 1)),
 o 18 (.mv (tv 5)),
 o 19 (.mv (tv 7)),
 o 20 (.idxA 1 (tv 18) (tv 19)),
 o 21 (.load false 1 (tv 20)),
 oa 22 (.call (kf 118) [(false, (tv 17)), (false, (tv 21))] []) 1152] [] [1, 2, 4, 5, 6, 7, 22])
 (.cond (tv 22) (.region [] [o 23 (.mv (tv 6)),
 o 24 (.mv (tv 5)),
 o 25 (.mv (tv 7)),
 o 26 (.idxA 1 (tv 24) (tv 25)),
 o 27 (.load false 1 (tv 26)),
 o 28 (.mv (tv 6)),
 o 29 (.len false (tv 28)),
 oa 30 (.call (kf 119) [(false, (tv 29))] []) 1664,
 o 31 (.build [zi, zi, zs, zi, zi, .nil] [(0, 1, (tv 27)), (1, 5, (tv 30))]),
 oa 32 (.mkSl 6 [(tv 31)]) 1792,
 o 33 (.app 6 72 false (tv 23) (tv 32)),
 o 6 (.mv (tv 33))] [(3, 6), (4, 6), (3, 7), (4, 7)] [1, 2, 4, 5, 6, 7])
 .skip)))
 (.region [1792] [o 15 (.mv (tv 7)),
 o 16 (.bin .add 0 (tv 15) (ki 1)),
 o 7 (.mv (tv 16))] [] [1, 2, 4, 5, 6, 7])))

def v76 : VFun := ⟨2,
 (.seq (.region [] [oa 2 (.box (tv 0)) 64,
 oa 4 (.new [zi, zi, zs, zi, zi, .nil] []) 128] [] [1, 2, 4])
 (.seq (.region [] [o 8 (.load true 5 (tv 2)),
 oa 9 (.mkSl 5 [(tv 8)]) 256,
 oa 10 (.call (kf 117) [(false, (tv 9))] []) 320,
 o 5 (.mv (tv 10))] [] [1, 2, 4, 5])
 (.seq (.region [256] [⟨(some 6), (.mv kn), none, 448, [(0, 6)]⟩] [] [1, 2, 4, 5, 6])
 (.seq (.seq (.region [] [o 7 (.mv (ki 0))] [] [1, 2, 4, 5, 6, 7])
 (.block 0 (.loop l76_0)))
 (.seq (.region [] [o 34 (.mv (tv 6)),
 o 35 (.len false (tv 34)),
 o 36 (.load true 5 (tv 2)),
 o 37 (.mv (tv 6)),
 oa 38 (.call (kf 120) [(false, (tv 36)), (false, (tv 37))] []) 2432,
 o 39 (.build [zi, zi, zs, zi, zi, .nil] [(0, 1, (tv 35)), (1, 5, (tv 38))]),
 on (.store 6 (tv 4) (tv 39) [])] [] [4])
 .ret))))),
 [.cell 4 true 6], false⟩

def v78 : VFun := ⟨3,
 (.seq (.region [] [oa 5 (.box (tv 2)) 64,
 o 6 (.mv kn)] [] [0, 1, 5])
 (.seq (.region [] [o 7 (.mv (tv 0)),
 oa 8 (.app 7 88 true kn (tv 7)) 256,
 o 9 (.mv (tv 1)),
 o 10 (.load true 6 (tv 5)),
 o 11 (.build [zs, zi, zi, zs, zi, zi, .nil] [(0, 1, (tv 9)), (1, 6, (tv 10))]),
 oa 12 (.mkSl 7 [(tv 11)]) 512,
 o 13 (.app 7 88 false (tv 8) (tv 12)),
 o 6 (.mv (tv 13))] [(1, 3), (1, 5)] [6])
 .ret)),
 [.tmp 6], false⟩

def v79 : VFun := ⟨2,
 (.seq (.region [] [oa 2 (.box (tv 0)) 64,
 oa 3 (.box (tv 1)) 128,
 oa 4 (.new [zi, zs, zi, zi, .nil] []) 192] [] [2, 3, 4])
 (.seq (.region [] [o 5 (.load true 5 (tv 2)),
 o 6 (.load true 5 (tv 3)),
 oa 7 (.mkSl 5 [(tv 5), (tv 6)]) 384,
 oa 8 (.call (kf 65) [(false, (.k (.sc (.c (.str [45, 62]))))), (false, (tv 7))] []) 448,
 on (.store 5 (tv 4) (tv 8) [])] [] [4])
 .ret)),
 [.cell 4 true 5], false⟩

def l80_0 : VCode := (.seq (.region [] [o 9 (.bin .lss 0 (tv 8) (tv 7))] [] [0, 3, 6, 7, 8, 9])
 (.seq (.cond (tv 9) .skip
 (.exit 0))
 (.seq (.block 1 (.seq (.region [] [o 10 (.mv (tv 8)),
 o 11 (.idxA 7 (tv 6) (tv 8)),
 o 12 (.load true 7 (tv 11)),
 oa 5 (.new [zs, zi, zi, zs, zi, zi, .nil] []) 640,
 o 4 (.mv (tv 10)),
 on (.store 7 (tv 5) (tv 12) [])] [] [0, 3, 4, 5, 6, 7, 8])
 (.seq (.region [] [o 13 (.mv (tv 0)),
 o 14 (.mv (tv 4)),
 o 15 (.bin .add 0 (tv 14) (ki 1)),
 o 16 (.sl 7 (tv 13) (some (tv 15)) none none),
 o 17 (.fn 123 [(tv 5)]),
 oa 18 (.call (kf 122) [(false, (tv 16)), (true, (tv 17))] []) 1152,
 o 19 (.un .not (tv 18))] [] [0, 3, 5, 6, 7, 8, 19])
 (.cond (tv 19) (.region [] [o 20 (.mv (tv 3)),
 o 21 (.load true 7 (tv 5)),
 oa 22 (.mkSl 7 [(tv 21)]) 1408,
 o 23 (.app 7 88 false (tv 20) (tv 22)),
 o 3 (.mv (tv 23))] [] [0, 3, 6, 7, 8])
 .skip))))
 (.region [640, 1408] [o 24 (.bin .add 0 (tv 8) (ki 1)),
 o 8 (.mv (tv 24))] [] [0, 3, 6, 7, 8]))))

def v80 : VFun := ⟨1,
 (.seq (.region [] [o 2 (.mv kn)] [] [0])
 (.seq (.region [] [⟨(some 3), (.mv kn), none, 128, [(0, 7)]⟩] [] [0, 3])
 (.seq (.seq (.region [] [o 6 (.mv (tv 0)),
 o 7 (.len false (tv 6)),
 o 8 (.mv (ki 0))] [] [0, 3, 6, 7, 8])
 (.block 0 (.loop l80_0)))
 (.seq (.region [] [o 25 (.mv (tv 3)),
 o 2 (.mv (tv 25))] [] [2])
 .ret)))),
 [.tmp 2], false⟩

def l81_0 : VCode := (.seq (.seq (.region [] [o 7 (.mv (tv 3)),
 o 8 (.bin .geq 0 (tv 7) (ki 0))] [] [0, 1, 3, 8])
 (.cond (tv 8) .skip
 (.exit 0)))
 (.seq (.block 1 (.seq (.region [] [o 11 (.mv (tv 0)),
 o 12 (.mv (tv 3)),
 o 13 (.load false 1 (tv 1)),
 o 14 (.mv (tv 3)),
 o 15 (.idxA 1 (tv 13) (tv 14)),
 o 16 (.load false 1 (tv 15)),
 oa 17 (.call (tv 11) [(false, (tv 12)), (false, (tv 16))] []) 832,
 o 18 (.un .not (tv 17))] [] [0, 1, 3, 18])
 (.cond (tv 18) .ret
 .skip)))
 (.region [864, 865, 866] [o 9 (.mv (tv 3)),
 o 10 (.bin .sub 0 (tv 9) (ki 1)),
 o 3 (.mv (tv 10))] [] [0, 1, 3])))

def v81 : VFun := ⟨2,
 (.seq (.region [] [o 4 (.load false 1 (tv 1)),
 o 5 (.len false (tv 4)),
 o 6 (.bin .sub 0 (tv 5) (ki 1)),
 o 3 (.mv (tv 6))] [] [0, 1, 3])
 (.block 0 (.loop l81_0))),
 [], false⟩

def l82_0 : VCode := (.seq (.seq (.region [] [o 10 (.mv (tv 6)),
 o 11 (.bin .geq 0 (tv 10) (ki 0))] [] [0, 1, 4, 6, 11])
 (.cond (tv 11) .skip
 (.exit 0)))
 (.seq (.block 1 (.seq (.region [] [o 14 (.mv (tv 0)),
 o 15 (.mv (tv 6)),
 o 16 (.idxA 7 (tv 14) (tv 15)),
 o 17 (.fld 0 (tv 16)),
 o 18 (.load false 1 (tv 17)),
 o 19 (.mv (tv 1)),
 o 20 (.bin .eql 0 (tv 18) (tv 19))] [] [0, 1, 4, 6, 20])
 (.cond (tv 20) (.seq (.region [] [o 21 (.mv (tv 0)),
 o 22 (.mv (tv 6)),
 o 23 (.idxA 7 (tv 21) (tv 22)),
 o 24 (.fld 1 (tv 23)),
 o 25 (.load true 6 (tv 24)),
 on (.store 6 (tv 4) (tv 25) []),
 o 5 (.mv kt)] [] [4, 5])
 .ret)
 .skip)))
 (.region [] [o 12 (.mv (tv 6)),
 o 13 (.bin .sub 0 (tv 12) (ki 1)),
 o 6 (.mv (tv 13))] [] [0, 1, 4, 6])))

def v82 : VFun := ⟨2,
 (.seq (.region [] [oa 4 (.new [zi, zi, zs, zi, zi, .nil] []) 64,
 o 5 (.mv kF)] [] [0, 1, 4])
 (.seq (.seq (.region [] [o 7 (.mv (tv 0)),
 o 8 (.len false (tv 7)),
 o 9 (.bin .sub 0 (tv 8) (ki 1)),
 o 6 (.mv (tv 9))] [] [0, 1, 4, 6])
 (.block 0 (.loop l82_0)))
 (.seq (.region [] [o 26 (.build [zi, zi, zs, zi, zi, .nil] []),
 on (.store 6 (tv 4) (tv 26) []),
 o 5 (.mv kF)] [] [4, 5])
 .ret))),
 [.cell 4 true 6, .tmp 5], false⟩

def v84 : VFun := ⟨1,
 (.seq (.region [] [oa 2 (.new [zi, zi, zs, zi, .nil, .nil, zi, zs, zi, zi, .nil] []) 64,
 oa 3 (.new [zi, zi] []) 128] [] [0, 2, 3])
 (.seq (.region [] [o 11 (.mv (tv 0)),
 oa 12 (.call (kf 128) [(false, (tv 11))] []) 256,
 o 10 (.mv (tv 12)),
 o 13 (.ext 0 (tv 10)),
 o 14 (.ext 1 (tv 10)),
 oa 5 (.new [zi, zi] []) 512,
 o 4 (.mv (tv 13)),
 on (.store 2 (tv 5) (tv 14) [])] [] [2, 3, 4, 5])
 (.seq (.seq (.region [] [o 15 (.fld 0 (tv 5)),
 o 16 (.load false 1 (tv 15)),
 o 17 (.bin .neq 0 (tv 16) (ki 0))] [] [2, 3, 4, 5, 17])
 (.cond (tv 17) (.seq (.region [] [o 18 (.build [zi, zi, zs, zi, .nil, .nil, zi, zs, zi, zi, .nil] []),
 o 19 (.load true 2 (tv 5)),
 on (.store 11 (tv 2) (tv 18) []),
 on (.store 2 (tv 3) (tv 19) [])] [(1, 2)] [2, 3])
 .ret)
 .skip))
 (.seq (.region [] [o 20 (.mv (tv 4)),
 oa 21 (.call (kf 129) [(false, (tv 20)), (false, (ki 0))] []) 1216,
 o 6 (.mv (tv 21))] [] [2, 3, 4, 5, 6])
 (.seq (.region [] [o 22 (.mv (tv 6)),
 oa 23 (.call (kf 130) [(true, (tv 22))] []) 1408,
 oa 7 (.new [zi, zi, zs, zi, .nil, .nil, zi, zs, zi, zi, .nil] []) 1472,
 on (.store 11 (tv 7) (tv 23) [])] [] [2, 3, 4, 5, 6, 7])
 (.seq (.seq (.region [] [o 24 (.mv (tv 6)),
 o 25 (.nn (tv 24)),
 o 26 (.fld 1 (tv 25)),
 o 27 (.load false 1 (tv 26)),
 o 28 (.mv (tv 4)),
 o 29 (.len false (tv 28)),
 o 30 (.bin .lss 0 (tv 27) (tv 29))] [] [2, 3, 5, 6, 7, 30])
 (.cond (tv 30) (.region [] [o 31 (.mv (tv 6)),
 oa 32 (.call (kf 131) [(true, (tv 31))] []) 2112] [] [2, 3, 5, 6, 7])
 .skip))
 (.seq (.seq (.region [] [o 33 (.mv (tv 6)),
 o 34 (.nn (tv 33)),
 o 35 (.fld 2 (tv 34)),
 o 36 (.load false 1 (tv 35))] [] [2, 3, 5, 6, 7, 36])
 (.cond (tv 36) (.seq (.region [] [o 37 (.build [zi, zi, zs, zi, .nil, .nil, zi, zs, zi, zi, .nil] []),
 o 38 (.mv (tv 6)),
 o 39 (.nn (tv 38)),
 o 40 (.fld 3 (tv 39)),
 o 41 (.load false 1 (tv 40)),
 o 42 (.build [zi, zi] [(0, 1, (ki 3)), (1, 1, (tv 41))]),
 on (.store 11 (tv 2) (tv 37) []),
 on (.store 2 (tv 3) (tv 42) [])] [(2, 6), (3, 6), (4, 6)] [2, 3])
 .ret)
 .skip))
 (.seq (.seq (.region [] [o 43 (.load true 11 (tv 7)),
 oa 44 (.call (kf 132) [(false, (tv 43))] []) 3008] [] [2, 3, 5, 7, 44])
 (.cond (tv 44) (.seq (.region [] [o 45 (.build [zi, zi, zs, zi, .nil, .nil, zi, zs, zi, zi, .nil] []),
 o 46 (.build [zi, zi] [(0, 1, (ki 4))]),
 on (.store 11 (tv 2) (tv 45) []),
 on (.store 2 (tv 3) (tv 46) [])] [] [2, 3])
 .ret)
 .skip))
 (.seq (.seq (.region [] [o 48 (.load true 11 (tv 7)),
 oa 49 (.call (kf 133) [(false, (tv 48))] []) 3392,
 o 47 (.mv (tv 49)),
 o 50 (.ext 0 (tv 47)),
 o 51 (.ext 1 (tv 47)),
 o 8 (.mv (tv 50)),
 o 9 (.mv (tv 51))] [] [2, 3, 5, 7, 8, 9])
 (.seq (.region [] [o 52 (.mv (tv 9))] [] [2, 3, 5, 7, 8, 52])
 (.cond (tv 52) (.seq (.region [] [o 53 (.build [zi, zi, zs, zi, .nil, .nil, zi, zs, zi, zi, .nil] []),
 o 54 (.mv (tv 8)),
 o 55 (.build [zi, zi] [(0, 1, (ki 5)), (1, 1, (tv 54))]),
 on (.store 11 (tv 2) (tv 53) []),
 on (.store 2 (tv 3) (tv 55) [])] [] [2, 3])
 .ret)
 .skip)))
 (.seq (.region [] [o 56 (.load true 11 (tv 7)),
 o 57 (.load true 2 (tv 5)),
 on (.store 11 (tv 2) (tv 56) []),
 on (.store 2 (tv 3) (tv 57) [])] [(0, 1), (1, 2)] [2, 3])
 .ret)))))))))),
 [.cell 2 true 11, .cell 3 true 2], false⟩

def l83_0 : VCode := (.seq (.region [] [o 39 (.bin .lss 0 (tv 38) (tv 37))] [] [2, 3, 4, 36, 37, 38, 39])
 (.seq (.cond (tv 39) .skip
 (.exit 1))
 (.seq (.block 2 (.seq (.region [] [o 40 (.mv (tv 38)),
 o 41 (.idxA 14 (tv 36) (tv 38)),
 o 42 (.load true 14 (tv 41)),
 oa 6 (.new [zi, zs, .nil, zi, zi, zs, zi, .nil, .nil, zi, zs, zi, zi, .nil] []) 2752,
 o 5 (.mv (tv 40)),
 on (.store 14 (tv 6) (tv 42) [])] [] [2, 3, 4, 5, 6, 36, 37, 38])
 (.region [] [o 43 (.fld 5 (tv 3)),
 o 44 (.load false 1 (tv 43)),
 o 45 (.mv (tv 5)),
 o 46 (.load true 13 (tv 2)),
 o 47 (.load true 14 (tv 6)),
 oa 48 (.call (kf 126) [(false, (tv 46)), (false, (tv 47))] []) 3264,
 o 49 (.idxA 14 (tv 44) (tv 45)),
 on (.store 14 (tv 49) (tv 48) [])] [(0, 3), (1, 3), (0, 4), (1, 4), (3, 4), (0, 5), (1, 5)] [2, 3, 4, 36, 37, 38])))
 (.region [2752] [o 50 (.bin .add 0 (tv 38) (ki 1)),
 o 38 (.mv (tv 50))] [] [2, 3, 4, 36, 37, 38]))))

def l83_1 : VCode := (.seq (.region [] [o 56 (.bin .lss 0 (tv 55) (tv 54))] [] [2, 3, 4, 7, 53, 54, 55, 56])
 (.seq (.cond (tv 56) .skip
 (.exit 3))
 (.seq (.block 4 (.seq (.region [] [o 57 (.mv (tv 55)),
 o 58 (.idxA 11 (tv 53) (tv 55)),
 o 59 (.load true 11 (tv 58)),
 oa 9 (.new [zi, zi, zs, zi, .nil, .nil, zi, zs, zi, zi, .nil] []) 4224,
 o 8 (.mv (tv 57)),
 on (.store 11 (tv 9) (tv 59) [])] [] [2, 3, 4, 7, 8, 9, 53, 54, 55])
 (.seq (.region [] [o 60 (.load true 11 (tv 3)),
 o 61 (.mv (tv 8)),
 oa 62 (.call (kf 52) [(false, (tv 60)), (false, (tv 61))] []) 4544,
 o 63 (.fld 0 (tv 2)),
 o 64 (.load false 1 (tv 63)),
 oa 65 (.call (kf 53) [(false, (tv 62)), (false, (tv 64))] []) 4736,
 o 66 (.un .not (tv 65))] [(0, 3), (2, 3), (0, 4), (2, 4)] [2, 3, 4, 7, 8, 9, 53, 54, 55, 66])
 (.cond (tv 66) (.region [] [o 67 (.mv (tv 7)),
 o 68 (.mv (tv 8)),
 o 69 (.load true 13 (tv 2)),
 o 70 (.load true 11 (tv 9)),
 oa 71 (.call (kf 83) [(false, (tv 69)), (false, (tv 70))] []) 5120,
 o 72 (.idxA 11 (tv 67) (tv 68)),
 on (.store 11 (tv 72) (tv 71) [])] [] [2, 3, 4, 7, 53, 54, 55])
 .skip))))
 (.region [4224] [o 73 (.bin .add 0 (tv 55) (ki 1)),
 o 55 (.mv (tv 73))] [] [2, 3, 4, 7, 53, 54, 55]))))

def v83 : VFun := ⟨2,
 (.seq (.region [] [oa 2 (.box (tv 0)) 64,
 oa 3 (.box (tv 1)) 128,
 oa 4 (.new [zi, zi, zs, zi, .nil, .nil, zi, zs, zi, zi, .nil] []) 192] [] [2, 3, 4])
 (.seq (.seq (.region [] [o 10 (.fld 0 (tv 3)),
 o 11 (.load false 1 (tv 10))] [] [2, 3, 4, 11])
 (.block 0 (.seq (.region [] [o 13 (.bin .eql 0 (tv 11) (ki 1)),
 o 12 (.mv (tv 13))] [] [2, 3, 4, 11, 12])
 (.cond (tv 12) (.seq (.seq (.region [] [o 14 (.fld 2 (tv 3)),
 o 15 (.load false 1 (tv 14)),
 o 16 (.fld 0 (tv 2)),
 o 17 (.load false 1 (tv 16)),
 o 18 (.bin .eql 0 (tv 15) (tv 17))] [] [2, 3, 4, 18])
 (.cond (tv 18) (.seq (.region [] [o 19 (.fld 1 (tv 2)),
 o 20 (.load true 11 (tv 19)),
 on (.store 11 (tv 4) (tv 20) [])] [] [4])
 .ret)
 .skip))
 (.seq (.region [] [o 21 (.load true 11 (tv 3)),
 on (.store 11 (tv 4) (tv 21) [])] [] [4])
 .ret))
 (.seq (.seq (.region [] [o 23 (.bin .eql 0 (tv 11) (ki 4)),
 o 22 (.mv (tv 23))] [] [2, 3, 4, 11, 22])
 (.cond (tv 22) .skip
 (.seq (.region [] [o 24 (.bin .eql 0 (tv 11) (ki 6)),
 o 22 (.mv (tv 24))] [] [2, 3, 4, 11, 22])
 (.cond (tv 22) .skip
 (.region [] [o 25 (.bin .eql 0 (tv 11) (ki 7)),
 o 22 (.mv (tv 25))] [] [2, 3, 4, 11, 22])))))
 (.cond (tv 22) (.region [] [o 26 (.load true 13 (tv 2)),
 o 27 (.load true 11 (tv 3)),
 oa 28 (.call (kf 124) [(false, (tv 26)), (false, (tv 27))] []) 1664,
 on (.store 11 (tv 3) (tv 28) [])] [] [2, 3, 4])
 (.seq (.region [] [o 30 (.bin .eql 0 (tv 11) (ki 8)),
 o 29 (.mv (tv 30))] [] [2, 3, 4, 29])
 (.cond (tv 29) (.seq (.region [] [o 31 (.fld 5 (tv 3)),
 o 32 (.load false 1 (tv 31)),
 oa 33 (.call (kf 125) [(false, (tv 32))] []) 2048,
 o 34 (.fld 5 (tv 3)),
 on (.store 1 (tv 34) (tv 33) [])] [] [2, 3, 4])
 (.seq (.region [] [o 35 (.fld 5 (tv 3)),
 o 36 (.load false 1 (tv 35)),
 o 37 (.len false (tv 36)),
 o 38 (.mv (ki 0))] [] [2, 3, 4, 36, 37, 38])
 (.block 1 (.loop l83_0))))
 .skip))))))))
 (.seq (.region [] [o 51 (.load true 11 (tv 3)),
 oa 52 (.call (kf 51) [(false, (tv 51))] []) 3648,
 o 7 (.mv (tv 52))] [] [2, 3, 4, 7])
 (.seq (.seq (.region [] [o 53 (.mv (tv 7)),
 o 54 (.len false (tv 53)),
 o 55 (.mv (ki 0))] [] [2, 3, 4, 7, 53, 54, 55])
 (.block 3 (.loop l83_1)))
 (.seq (.region [] [o 74 (.load true 11 (tv 3)),
 o 75 (.mv (tv 7)),
 oa 76 (.call (kf 127) [(false, (tv 74)), (false, (tv 75))] []) 5568,
 on (.store 11 (tv 4) (tv 76) [])] [] [4])
 .ret))))),
 [.cell 4 true 11], false⟩

def v85 : VFun := ⟨2,
 (.seq (.region [] [oa 2 (.box (tv 0)) 64,
 oa 3 (.box (tv 1)) 128,
 o 4 (.mv kF)] [] [2, 3])
 (.seq (.seq (.region [] [o 5 (.fld 0 (tv 2)),
 o 6 (.load false 1 (tv 5)),
 o 7 (.fld 0 (tv 3)),
 o 8 (.load false 1 (tv 7)),
 o 9 (.bin .neq 0 (tv 6) (tv 8)),
 o 10 (.mv (tv 9)),
 og 11 (.fld 1 (tv 2)) 10 false,
 og 12 (.load false 1 (tv 11)) 10 false,
 og 13 (.fld 1 (tv 3)) 10 false,
 og 14 (.load false 1 (tv 13)) 10 false,
 og 15 (.bin .neq 0 (tv 12) (tv 14)) 10 false,
 o 16 (.pick (tv 10) kt (tv 15)),
 o 17 (.mv (tv 16)),
 og 18 (.fld 2 (tv 2)) 17 false,
 og 19 (.load false 1 (tv 18)) 17 false,
 og 20 (.fld 2 (tv 3)) 17 false,
 og 21 (.load false 1 (tv 20)) 17 false,
 og 22 (.bin .neq 0 (tv 19) (tv 21)) 17 false,
 o 23 (.pick (tv 17) kt (tv 22)),
 o 24 (.mv (tv 23)),
 og 25 (.fld 3 (tv 2)) 24 false,
 og 26 (.load false 1 (tv 25)) 24 false,
 og 27 (.fld 3 (tv 3)) 24 false,
 og 28 (.load false 1 (tv 27)) 24 false,
 og 29 (.bin .neq 0 (tv 26) (tv 28)) 24 false,
 o 30 (.pick (tv 24) kt (tv 29))] [] [2, 3, 30])
 (.cond (tv 30) (.seq (.region [] [o 4 (.mv kF)] [] [4])
 .ret)
 .skip))
 (.seq (.region [] [o 31 (.fld 4 (tv 2)),
 o 32 (.load false 1 (tv 31)),
 o 33 (.fld 4 (tv 3)),
 o 34 (.load false 1 (tv 33)),
 oa 35 (.call (kf 134) [(false, (tv 32)), (false, (tv 34))] []) 2240,
 o 4 (.mv (tv 35))] [] [4])
 .ret))),
 [.tmp 4], false⟩

def l86_0 : VCode := (.seq (.seq (.region [] [o 11 (.mv (tv 5)),
 o 12 (.mv (tv 0)),
 o 13 (.len false (tv 12)),
 o 14 (.bin .lss 0 (tv 11) (tv 13))] [] [0, 1, 5, 14])
 (.cond (tv 14) .skip
 (.exit 0)))
 (.seq (.block 1 (.seq (.region [] [o 17 (.mv (tv 0)),
 o 18 (.mv (tv 5)),
 o 19 (.idxA 1 (tv 17) (tv 18)),
 o 20 (.load false 1 (tv 19)),
 o 21 (.mv (tv 1)),
 o 22 (.mv (tv 5)),
 o 23 (.idxA 1 (tv 21) (tv 22)),
 o 24 (.load false 1 (tv 23)),
 o 25 (.bin .neq 0 (tv 20) (tv 24))] [(2, 6), (3, 6), (2, 7), (3, 7)] [0, 1, 5, 25])
 (.cond (tv 25) (.seq (.region [] [o 4 (.mv kF)] [] [4])
 .ret)
 .skip)))
 (.region [] [o 15 (.mv (tv 5)),
 o 16 (.bin .add 0 (tv 15) (ki 1)),
 o 5 (.mv (tv 16))] [] [0, 1, 5])))

def v86 : VFun := ⟨2,
 (.seq (.region [] [o 4 (.mv kF)] [] [0, 1])
 (.seq (.seq (.region [] [o 6 (.mv (tv 0)),
 o 7 (.len false (tv 6)),
 o 8 (.mv (tv 1)),
 o 9 (.len false (tv 8)),
 o 10 (.bin .neq 0 (tv 7) (tv 9))] [] [0, 1, 10])
 (.cond (tv 10) (.seq (.region [] [o 4 (.mv kF)] [] [4])
 .ret)
 .skip))
 (.seq (.seq (.region [] [o 5 (.mv (ki 0))] [] [0, 1, 5])
 (.block 0 (.loop l86_0)))
 (.seq (.region [] [o 4 (.mv kt)] [] [4])
 .ret)))),
 [.tmp 4], false⟩

def l87_0 : VCode := (.seq (.seq (.region [] [o 11 (.mv (tv 5)),
 o 12 (.mv (tv 0)),
 o 13 (.len false (tv 12)),
 o 14 (.bin .lss 0 (tv 11) (tv 13))] [] [0, 1, 5, 14])
 (.cond (tv 14) .skip
 (.exit 0)))
 (.seq (.block 1 (.seq (.region [] [o 17 (.mv (tv 0)),
 o 18 (.mv (tv 5)),
 o 19 (.idxA 11 (tv 17) (tv 18)),
 o 20 (.load true 11 (tv 19)),
 o 21 (.mv (tv 1)),
 o 22 (.mv (tv 5)),
 o 23 (.idxA 11 (tv 21) (tv 22)),
 o 24 (.load true 11 (tv 23)),
 oa 25 (.call (kf 49) [(false, (tv 20)), (false, (tv 24))] []) 1344,
 o 26 (.un .not (tv 25))] [(2, 6), (3, 6), (2, 7), (3, 7)] [0, 1, 5, 26])
 (.cond (tv 26) (.seq (.region [] [o 4 (.mv kF)] [] [4])
 .ret)
 .skip)))
 (.region [] [o 15 (.mv (tv 5)),
 o 16 (.bin .add 0 (tv 15) (ki 1)),
 o 5 (.mv (tv 16))] [] [0, 1, 5])))

def v87 : VFun := ⟨2,
 (.seq (.region [] [o 4 (.mv kF)] [] [0, 1])
 (.seq (.seq (.region [] [o 6 (.mv (tv 0)),
 o 7 (.len false (tv 6)),
 o 8 (.mv (tv 1)),
 o 9 (.len false (tv 8)),
 o 10 (.bin .neq 0 (tv 7) (tv 9))] [] [0, 1, 10])
 (.cond (tv 10) (.seq (.region [] [o 4 (.mv kF)] [] [4])
 .ret)
 .skip))
 (.seq (.seq (.region [] [o 5 (.mv (ki 0))] [] [0, 1, 5])
 (.block 0 (.loop l87_0)))
 (.seq (.region [] [o 4 (.mv kt)] [] [4])
 .ret)))),
 [.tmp 4], false⟩

def v88 : VFun := ⟨1,
 (.seq (.region [] [o 2 (.mv kn)] [] [0])
 (.seq (.seq (.region [] [o 3 (.mv (tv 0)),
 o 4 (.bin .eql 2 (tv 3) kn)] [] [0, 4])
 (.cond (tv 4) (.seq (.region [] [o 2 (.mv kn)] [] [2])
 .ret)
 .skip))
 (.seq (.region [] [o 5 .mkE,
 o 6 (.mv (tv 0)),
 oa 7 (.appF 11 152 (tv 5) (tv 6)) 448,
 o 2 (.mv (tv 7))] [] [2])
 .ret))),
 [.tmp 2], true⟩

def l89_0 : VCode := (.seq (.region [] [o 12 (.bin .lss 0 (tv 11) (tv 10))] [] [2, 4, 9, 10, 11, 12])
 (.seq (.cond (tv 12) .skip
 (.exit 0))
 (.seq (.block 1 (.seq (.region [] [o 13 (.idxA 1 (tv 9) (tv 11)),
 o 14 (.load false 1 (tv 13)),
 o 7 (.mv (tv 14))] [] [2, 4, 7, 9, 10, 11])
 (.seq (.region [] [o 15 (.load true 11 (tv 2)),
 oa 16 (.call (kf 51) [(false, (tv 15))] []) 768,
 o 8 (.mv (tv 16))] [] [2, 4, 7, 8, 9, 10, 11])
 (.seq (.seq (.region [] [o 17 (.mv (tv 7)),
 o 18 (.bin .lss 0 (tv 17) (ki 0)),
 o 19 (.mv (tv 18)),
 og 20 (.mv (tv 7)) 19 false,
 og 21 (.mv (tv 8)) 19 false,
 og 22 (.len false (tv 21)) 19 false,
 og 23 (.bin .geq 0 (tv 20) (tv 22)) 19 false,
 o 24 (.pick (tv 19) kt (tv 23))] [] [2, 4, 7, 8, 9, 10, 11, 24])
 (.cond (tv 24) (.seq (.region [] [o 25 (.build [zi, zi, zs, zi, .nil, .nil, zi, zs, zi, zi, .nil] []),
 on (.store 11 (tv 4) (tv 25) []),
 o 5 (.mv kF)] [] [4, 5])
 .ret)
 .skip))
 (.region [] [o 26 (.mv (tv 8)),
 o 27 (.mv (tv 7)),
 o 28 (.idxA 11 (tv 26) (tv 27)),
 o 29 (.load true 11 (tv 28)),
 on (.store 11 (tv 2) (tv 29) [])] [] [2, 4, 9, 10, 11])))))
 (.region [800, 801, 802] [o 30 (.bin .add 0 (tv 11) (ki 1)),
 o 11 (.mv (tv 30))] [] [2, 4, 9, 10, 11]))))

def v89 : VFun := ⟨2,
 (.seq (.region [] [oa 2 (.box (tv 0)) 64,
 oa 4 (.new [zi, zi, zs, zi, .nil, .nil, zi, zs, zi, zi, .nil] []) 128,
 o 5 (.mv kF)] [] [1, 2, 4])
 (.seq (.seq (.region [] [o 9 (.mv (tv 1)),
 o 10 (.len false (tv 9)),
 o 11 (.mv (ki 0))] [] [2, 4, 9, 10, 11])
 (.block 0 (.loop l89_0)))
 (.seq (.region [] [o 31 (.load true 11 (tv 2)),
 on (.store 11 (tv 4) (tv 31) []),
 o 5 (.mv kt)] [] [4, 5])
 .ret))),
 [.cell 4 true 11, .tmp 5], false⟩

def l90_0 : VCode := (.seq (.region [] [o 31 (.bin .lss 0 (tv 30) (tv 29))] [] [2, 7, 9, 20, 21, 22, 28, 29, 30, 31])
 (.seq (.cond (tv 31) .skip
 (.exit 2))
 (.seq (.block 3 (.seq (.region [] [o 32 (.idxA 1 (tv 28) (tv 30)),
 o 33 (.load false 1 (tv 32)),
 oa 11 (.new [zs] []) 1984,
 on (.store 1 (tv 11) (tv 33) [])] [] [2, 7, 9, 11, 20, 21, 22, 28, 29, 30])
 (.seq (.region [] [o 34 (.mv (tv 7)),
 o 35 (.fn 137 [(tv 11)]),
 oa 36 (.call (kf 136) [(true, (tv 34)), (true, (tv 35))] []) 2240,
 o 7 (.mv (tv 36))] [] [2, 7, 9, 11, 20, 21, 22, 28, 29, 30])
 (.region [] [o 37 (.mv (tv 7)),
 o 38 (.load false 1 (tv 11)),
 oa 39 (.mkSl 1 [(tv 38)]) 2496,
 o 40 (.app 1 16 false (tv 37) (tv 39)),
 o 7 (.mv (tv 40))] [] [2, 7, 9, 20, 21, 22, 28, 29, 30]))))
 (.region [1984, 2272, 2273, 2274, 2496] [o 41 (.bin .add 0 (tv 30) (ki 1)),
 o 30 (.mv (tv 41))] [] [2, 7, 9, 20, 21, 22, 28, 29, 30]))))

def l90_1 : VCode := (.seq (.region [] [o 23 (.bin .lss 0 (tv 22) (tv 21))] [] [2, 7, 20, 21, 22, 23])
 (.seq (.cond (tv 23) .skip
 (.exit 0))
 (.seq (.block 1 (.seq (.region [] [o 24 (.idxA 1 (tv 20) (tv 22)),
 o 25 (.load false 1 (tv 24)),
 o 9 (.mv (tv 25))] [] [2, 7, 9, 20, 21, 22])
 (.seq (.seq (.region [] [o 26 (.load true 11 (tv 2)),
 o 27 (.mv (tv 9)),
 oa 28 (.call (kf 135) [(false, (tv 26)), (false, (tv 27))] []) 1600,
 o 29 (.len false (tv 28)),
 o 30 (.mv (ki 0))] [] [2, 7, 9, 20, 21, 22, 28, 29, 30])
 (.block 2 (.loop l90_0)))
 (.region [] [o 42 (.load true 11 (tv 2)),
 oa 43 (.call (kf 51) [(false, (tv 42))] []) 2880,
 o 44 (.mv (tv 9)),
 o 45 (.idxA 11 (tv 43) (tv 44)),
 o 46 (.load true 11 (tv 45)),
 on (.store 11 (tv 2) (tv 46) [])] [] [2, 7, 20, 21, 22]))))
 (.region [2912, 2913, 2914] [o 47 (.bin .add 0 (tv 22) (ki 1)),
 o 22 (.mv (tv 47))] [] [2, 7, 20, 21, 22]))))

def v90 : VFun := ⟨2,
 (.seq (.region [] [oa 2 (.box (tv 0)) 64,
 o 4 (.mv kn)] [] [1, 2])
 (.seq (.seq (.region [] [o 13 (.load true 11 (tv 2)),
 o 14 (.mv (tv 1)),
 oa 15 (.call (kf 89) [(false, (tv 13)), (false, (tv 14))] []) 320,
 o 12 (.mv (tv 15)),
 o 16 (.ext 0 (tv 12)),
 o 17 (.ext 1 (tv 12)),
 oa 5 (.new [zi, zi, zs, zi, .nil, .nil, zi, zs, zi, zi, .nil] []) 576,
 on (.store 11 (tv 5) (tv 16) []),
 o 6 (.mv (tv 17))] [] [1, 2, 6])
 (.seq (.region [576] [o 18 (.mv (tv 6)),
 o 19 (.un .not (tv 18))] [] [1, 2, 19])
 (.cond (tv 19) (.seq (.region [] [o 4 (.mv kn)] [] [4])
 .ret)
 .skip)))
 (.seq (.region [] [⟨(some 7), (.mv kn), none, 960, [(0, 1)]⟩] [] [1, 2, 7])
 (.seq (.seq (.region [] [o 20 (.mv (tv 1)),
 o 21 (.len false (tv 20)),
 o 22 (.mv (ki 0))] [] [2, 7, 20, 21, 22])
 (.block 0 (.loop l90_1)))
 (.seq (.region [] [o 48 (.mv (tv 7)),
 o 4 (.mv (tv 48))] [] [4])
 .ret))))),
 [.tmp 4], false⟩

def v91 : VFun := ⟨2,
 (.seq (.region [] [oa 2 (.box (tv 0)) 64,
 o 4 (.mv kn)] [] [1, 2])
 (.seq (.block 0 (.seq (.seq (.region [] [o 6 (.fld 0 (tv 2)),
 o 7 (.load false 1 (tv 6)),
 o 8 (.bin .eql 0 (tv 7) (ki 4)),
 o 5 (.mv (tv 8))] [] [1, 2, 5])
 (.cond (tv 5) .skip
 (.seq (.region [] [o 9 (.fld 0 (tv 2)),
 o 10 (.load false 1 (tv 9)),
 o 11 (.bin .eql 0 (tv 10) (ki 7)),
 o 5 (.mv (tv 11))] [] [1, 2, 5])
 (.cond (tv 5) .skip
 (.region [] [o 12 (.fld 0 (tv 2)),
 o 13 (.load false 1 (tv 12)),
 o 14 (.bin .eql 0 (tv 13) (ki 6)),
 o 15 (.mv (tv 14)),
 og 16 (.mv (tv 1)) 15 true,
 og 17 (.bin .eql 0 (tv 16) (ki 1)) 15 true,
 o 18 (.pick (tv 15) (tv 17) kF),
 o 5 (.mv (tv 18))] [] [1, 2, 5])))))
 (.cond (tv 5) (.seq (.region [] [o 19 (.fld 2 (tv 2)),
 o 20 (.load false 1 (tv 19)),
 oa 21 (.mkSl 1 [(tv 20)]) 1344,
 o 4 (.mv (tv 21))] [] [4])
 .ret)
 (.seq (.region [] [o 23 (.fld 0 (tv 2)),
 o 24 (.load false 1 (tv 23)),
 o 25 (.bin .eql 0 (tv 24) (ki 8)),
 o 26 (.mv (tv 25)),
 og 27 (.mv (tv 1)) 26 true,
 og 28 (.bin .gtr 0 (tv 27) (ki 0)) 26 true,
 o 29 (.pick (tv 26) (tv 28) kF),
 o 22 (.mv (tv 29))] [] [1, 2, 22])
 (.cond (tv 22) (.seq (.region [] [o 30 (.fld 5 (tv 2)),
 o 31 (.load false 1 (tv 30)),
 o 32 (.mv (tv 1)),
 o 33 (.bin .sub 0 (tv 32) (ki 1)),
 o 34 (.idxA 14 (tv 31) (tv 33)),
 o 35 (.fld 2 (tv 34)),
 o 36 (.load false 1 (tv 35)),
 o 4 (.mv (tv 36))] [] [4])
 .ret)
 .skip)))))
 (.seq (.region [] [o 4 (.mv kn)] [] [4])
 .ret))),
 [.tmp 4], false⟩

def l92_0 : VCode := (.seq (.seq (.region [] [o 20 (.mv (tv 7)),
 o 21 (.nn (tv 20)),
 o 22 (.fld 2 (tv 21)),
 o 23 (.load false 1 (tv 22)),
 o 24 (.un .not (tv 23)),
 o 25 (.mv (tv 24)),
 og 26 (.mv (tv 7)) 25 true,
 og 27 (.nn (tv 26)) 25 true,
 og 28 (.fld 1 (tv 27)) 25 true,
 og 29 (.load false 1 (tv 28)) 25 true,
 og 30 (.mv (tv 4)) 25 true,
 og 31 (.len false (tv 30)) 25 true,
 og 32 (.bin .lss 0 (tv 29) (tv 31)) 25 true,
 o 33 (.pick (tv 25) (tv 32) kF)] [] [2, 3, 4, 5, 6, 7, 33])
 (.cond (tv 33) .skip
 (.exit 0)))
 (.block 1 (.seq (.region [] [o 34 (.mv (tv 7)),
 oa 35 (.call (kf 138) [(true, (tv 34)), (false, (.k (.sc (.c (.str [100, 97, 116, 97])))))] []) 2368] [] [2, 3, 4, 5, 6, 7, 35])
 (.cond (tv 35) (.region [2688] [o 36 (.fld 0 (tv 6)),
 o 37 (.load false 1 (tv 36)),
 o 38 (.mv (tv 7)),
 oa 39 (.call (kf 139) [(true, (tv 38))] []) 2624,
 oa 40 (.mkSl 4 [(tv 39)]) 2688,
 o 41 (.app 4 72 false (tv 37) (tv 40)),
 o 42 (.fld 0 (tv 6)),
 on (.store 1 (tv 42) (tv 41) [])] [(0, 3), (1, 3), (0, 4), (1, 4)] [2, 3, 4, 5, 6, 7])
 (.region [3200] [o 43 (.fld 1 (tv 6)),
 o 44 (.load false 1 (tv 43)),
 o 45 (.mv (tv 7)),
 oa 46 (.call (kf 140) [(true, (tv 45))] []) 3136,
 oa 47 (.mkSl 20 [(tv 46)]) 3200,
 o 48 (.app 20 256 false (tv 44) (tv 47)),
 o 49 (.fld 1 (tv 6)),
 on (.store 1 (tv 49) (tv 48) [])] [(0, 3), (1, 3), (0, 4), (1, 4)] [2, 3, 4, 5, 6, 7])))))

def v92 : VFun := ⟨1,
 (.seq (.region [] [oa 2 (.new [.nil, .nil] []) 64,
 oa 3 (.new [zi, zi] []) 128] [] [0, 2, 3])
 (.seq (.region [] [o 9 (.mv (tv 0)),
 oa 10 (.call (kf 128) [(false, (tv 9))] []) 256,
 o 8 (.mv (tv 10)),
 o 11 (.ext 0 (tv 8)),
 o 12 (.ext 1 (tv 8)),
 oa 5 (.new [zi, zi] []) 512,
 o 4 (.mv (tv 11)),
 on (.store 2 (tv 5) (tv 12) [])] [] [2, 3, 4, 5])
 (.seq (.seq (.region [] [o 13 (.fld 0 (tv 5)),
 o 14 (.load false 1 (tv 13)),
 o 15 (.bin .neq 0 (tv 14) (ki 0))] [] [2, 3, 4, 5, 15])
 (.cond (tv 15) (.seq (.region [] [o 16 (.build [.nil, .nil] []),
 o 17 (.load true 2 (tv 5)),
 on (.store 2 (tv 2) (tv 16) []),
 on (.store 2 (tv 3) (tv 17) [])] [(1, 2)] [2, 3])
 .ret)
 .skip))
 (.seq (.region [] [oa 6 (.new [.nil, .nil] [(0, 4), (1, 20)]) 1152] [] [2, 3, 4, 5, 6])
 (.seq (.region [] [o 18 (.mv (tv 4)),
 oa 19 (.call (kf 129) [(false, (tv 18)), (false, (ki 0))] []) 1280,
 o 7 (.mv (tv 19))] [] [2, 3, 4, 5, 6, 7])
 (.seq (.block 0 (.loop l92_0))
 (.seq (.seq (.region [] [o 50 (.mv (tv 7)),
 o 51 (.nn (tv 50)),
 o 52 (.fld 2 (tv 51)),
 o 53 (.load false 1 (tv 52))] [] [2, 3, 5, 6, 7, 53])
 (.cond (tv 53) (.seq (.region [] [o 54 (.build [.nil, .nil] []),
 o 55 (.mv (tv 7)),
 o 56 (.nn (tv 55)),
 o 57 (.fld 3 (tv 56)),
 o 58 (.load false 1 (tv 57)),
 o 59 (.build [zi, zi] [(0, 1, (ki 3)), (1, 1, (tv 58))]),
 on (.store 2 (tv 2) (tv 54) []),
 on (.store 2 (tv 3) (tv 59) [])] [(2, 6), (3, 6), (4, 6)] [2, 3])
 .ret)
 .skip))
 (.seq (.seq (.region [] [o 60 (.ldD true 2 (tv 6)),
 oa 61 (.call (kf 141) [(false, (tv 60))] []) 4288,
 on (.store 2 (tv 5) (tv 61) [])] [] [2, 3, 5, 6])
 (.seq (.region [] [o 62 (.fld 0 (tv 5)),
 o 63 (.load false 1 (tv 62)),
 o 64 (.bin .neq 0 (tv 63) (ki 0))] [] [2, 3, 5, 6, 64])
 (.cond (tv 64) (.seq (.region [] [o 65 (.build [.nil, .nil] []),
 o 66 (.load true 2 (tv 5)),
 on (.store 2 (tv 2) (tv 65) []),
 on (.store 2 (tv 3) (tv 66) [])] [(1, 2)] [2, 3])
 .ret)
 .skip)))
 (.seq (.region [] [o 67 (.ldD true 2 (tv 6)),
 o 68 (.load true 2 (tv 5)),
 on (.store 2 (tv 2) (tv 67) []),
 on (.store 2 (tv 3) (tv 68) [])] [(0, 1), (1, 2)] [2, 3])
 .ret))))))))),
 [.cell 2 true 2, .cell 3 true 2], false⟩

def l93_0 : VCode := (.block 1 (.seq (.region [] [o 13 (.fld 0 (tv 8)),
 o 14 (.load false 1 (tv 13)),
 o 15 (.load false 1 (tv 4)),
 o 16 (.bin .eql 0 (tv 14) (tv 15)),
 o 17 (.mv (tv 16)),
 og 18 (.fld 1 (tv 8)) 17 false,
 og 19 (.load false 1 (tv 18)) 17 false,
 og 20 (.load false 1 (tv 5)) 17 false,
 og 21 (.bin .eql 0 (tv 19) (tv 20)) 17 false,
 o 22 (.pick (tv 17) kt (tv 21))] [] [4, 5, 6, 8, 22])
 (.cond (tv 22) (.seq (.region [] [o 23 (.fld 0 (tv 8)),
 o 24 (.load false 1 (tv 23)),
 o 25 (.load false 1 (tv 4)),
 o 26 (.bin .eql 0 (tv 24) (tv 25)),
 o 27 (.mv (tv 26)),
 og 28 (.fld 1 (tv 8)) 27 true,
 og 29 (.load false 1 (tv 28)) 27 true,
 og 30 (.load false 1 (tv 5)) 27 true,
 og 31 (.bin .eql 0 (tv 29) (tv 30)) 27 true,
 o 32 (.pick (tv 27) (tv 31) kF),
 on (.store 1 (tv 6) (tv 32) [])] [] [6])
 .ret)
 .skip)))

def v93 : VFun := ⟨3,
 (.seq (.region [] [oa 4 (.box (tv 1)) 64,
 oa 5 (.box (tv 2)) 128,
 oa 6 (.new [(.c (.bool false))] []) 192] [] [0, 4, 5, 6])
 (.seq (.seq (.region [] [o 9 (.mv (tv 0)),
 oa 10 (.call (kf 142) [(false, (tv 9))] []) 320] [] [4, 5, 6, 10])
 (.block 0 (.rangeB (tv 10) 201 2 true 11 12 (.region [384] [oa 8 (.new [zs, zs] []) 384,
 on (.store 2 (tv 8) (tv 12) [])] [] [4, 5, 6, 8])
 l93_0)))
 (.seq (.region [] [o 33 (.load false 1 (tv 4)),
 o 34 (.load false 1 (tv 5)),
 o 35 (.bin .eql 0 (tv 33) (tv 34)),
 on (.store 1 (tv 6) (tv 35) [])] [] [6])
 .ret))),
 [.cell 6 false 1], false⟩

def l95_0 : VCode := (.seq (.region [] [o 18 (.bin .lss 0 (tv 17) (tv 16))] [] [2, 4, 15, 16, 17, 18])
 (.seq (.cond (tv 18) .skip
 (.exit 0))
 (.seq (.block 1 (.seq (.region [] [o 19 (.mv (tv 17)),
 o 20 (.idxA 14 (tv 15) (tv 17)),
 o 21 (.load true 14 (tv 20)),
 oa 6 (.new [zi, zs, .nil, zi, zi, zs, zi, .nil, .nil, zi, zs, zi, zi, .nil] []) 1280,
 o 5 (.mv (tv 19)),
 on (.store 14 (tv 6) (tv 21) [])] [] [2, 4, 5, 6, 15, 16, 17])
 (.region [] [o 22 (.fld 5 (tv 2)),
 o 23 (.load false 1 (tv 22)),
 o 24 (.mv (tv 5)),
 o 25 (.fld 2 (tv 6)),
 o 26 (.load false 1 (tv 25)),
 o 27 (.len false (tv 26)),
 oa 28 (.mkS 1 16 [zs] (tv 27)) 1856,
 o 29 (.idxA 14 (tv 23) (tv 24)),
 o 30 (.fld 2 (tv 29)),
 on (.store 1 (tv 30) (tv 28) [])] [(0, 3), (1, 3), (0, 4), (1, 4), (0, 5), (1, 5), (0, 6), (1, 6)] [2, 4, 15, 16, 17])))
 (.region [1280, 1856] [o 31 (.bin .add 0 (tv 17) (ki 1)),
 o 17 (.mv (tv 31))] [] [2, 4, 15, 16, 17]))))

def v95 : VFun := ⟨2,
 (.seq (.region [] [oa 2 (.box (tv 0)) 64,
 oa 4 (.new [zi, zi, zs, zi, .nil, .nil, zi, zs, zi, zi, .nil] []) 128] [] [1, 2, 4])
 (.seq (.region [] [o 7 (.load true 11 (tv 2)),
 o 8 (.mv (tv 1)),
 oa 9 (.call (kf 127) [(false, (tv 7)), (false, (tv 8))] []) 320,
 on (.store 11 (tv 2) (tv 9) [])] [] [2, 4])
 (.seq (.seq (.region [] [o 10 (.fld 0 (tv 2)),
 o 11 (.load false 1 (tv 10)),
 o 12 (.bin .neq 0 (tv 11) (ki 2))] [] [2, 4, 12])
 (.cond (tv 12) (.region [] [o 13 (.fld 2 (tv 2)),
 on (.store 1 (tv 13) (.k (.sc zs)) [])] [] [2, 4])
 .skip))
 (.seq (.seq (.region [] [o 14 (.fld 5 (tv 2)),
 o 15 (.load false 1 (tv 14)),
 o 16 (.len false (tv 15)),
 o 17 (.mv (ki 0))] [] [2, 4, 15, 16, 17])
 (.block 0 (.loop l95_0)))
 (.seq (.region [] [o 32 (.load true 11 (tv 2)),
 on (.store 11 (tv 4) (tv 32) [])] [] [4])
 .ret))))),
 [.cell 4 true 11], false⟩

def v94 : VFun := ⟨2,
 (.seq (.region [] [oa 2 (.box (tv 0)) 64,
 oa 3 (.box (tv 1)) 128,
 o 4 (.mv kF)] [] [2, 3])
 (.seq (.seq (.region [] [o 6 (.fld 0 (tv 2)),
 o 7 (.load false 1 (tv 6)),
 o 8 (.fld 0 (tv 3)),
 o 9 (.load false 1 (tv 8)),
 o 10 (.bin .neq 0 (tv 7) (tv 9)),
 o 11 (.mv (tv 10)),
 og 12 (.fld 2 (tv 2)) 11 false,
 og 13 (.load false 1 (tv 12)) 11 false,
 og 14 (.fld 2 (tv 3)) 11 false,
 og 15 (.load false 1 (tv 14)) 11 false,
 og 16 (.bin .neq 0 (tv 13) (tv 15)) 11 false,
 o 17 (.pick (tv 11) kt (tv 16)),
 o 18 (.mv (tv 17)),
 og 19 (.fld 3 (tv 2)) 18 false,
 og 20 (.load false 1 (tv 19)) 18 false,
 og 21 (.fld 3 (tv 3)) 18 false,
 og 22 (.load false 1 (tv 21)) 18 false,
 og 23 (.bin .neq 0 (tv 20) (tv 22)) 18 false,
 o 24 (.pick (tv 18) kt (tv 23)),
 o 25 (.mv (tv 24)),
 og 26 (.fld 6 (tv 2)) 25 false,
 og 27 (.load true 5 (tv 26)) 25 false,
 og 28 (.fld 6 (tv 3)) 25 false,
 og 29 (.load true 5 (tv 28)) 25 false,
 ⟨(some 30), (.call (kf 112) [(false, (tv 27)), (false, (tv 29))] []), (some (25, false)), 1792, []⟩,
 og 31 (.un .not (tv 30)) 25 false,
 o 32 (.pick (tv 25) kt (tv 31))] [] [2, 3, 32])
 (.cond (tv 32) (.seq (.region [] [o 4 (.mv kF)] [] [4])
 .ret)
 .skip))
 (.seq (.region [] [o 33 (.fld 5 (tv 2)),
 o 34 (.load false 1 (tv 33)),
 o 35 (.fld 5 (tv 3)),
 o 36 (.load false 1 (tv 35)),
 oa 37 (.call (kf 143) [(false, (tv 34)), (false, (tv 36)), (true, (kf 144))] []) 2304,
 o 5 (.mv (tv 37))] [] [2, 3, 5])
 (.seq (.region [] [o 38 (.mv (tv 5)),
 o 39 (.mv (tv 38)),
 og 40 (.fld 4 (tv 2)) 39 true,
 og 41 (.load false 1 (tv 40)) 39 true,
 og 42 (.fld 4 (tv 3)) 39 true,
 og 43 (.load false 1 (tv 42)) 39 true,
 ⟨(some 44), (.call (kf 146) [(false, (tv 41)), (false, (tv 43)), (true, (kf 94))] []), (some (39, true)), 2816, []⟩,
 o 45 (.pick (tv 39) (tv 44) kF),
 o 4 (.mv (tv 45))] [] [4])
 .ret)))),
 [.tmp 4], false⟩

def v96 : VFun := ⟨1,
 (.seq (.region [] [o 2 (.mv kn)] [] [0])
 (.seq (.seq (.region [] [o 3 (.mv (tv 0)),
 o 4 (.bin .eql 2 (tv 3) kn)] [] [0, 4])
 (.cond (tv 4) (.seq (.region [] [o 2 (.mv kn)] [] [2])
 .ret)
 .skip))
 (.seq (.region [] [o 5 .mkE,
 o 6 (.mv (tv 0)),
 oa 7 (.appF 2 32 (tv 5) (tv 6)) 448,
 o 2 (.mv (tv 7))] [] [2])
 .ret))),
 [.tmp 2], true⟩

def l97_0 : VCode := (.seq (.seq (.region [] [o 9 (.mv (tv 5)),
 o 10 (.bin .geq 0 (tv 9) (ki 0))] [] [0, 1, 5, 10])
 (.cond (tv 10) .skip
 (.exit 0)))
 (.seq (.block 1 (.seq (.region [] [o 13 (.mv (tv 0)),
 o 14 (.mv (tv 5)),
 o 15 (.idxA 1 (tv 13) (tv 14)),
 o 16 (.load false 1 (tv 15)),
 o 17 (.mv (tv 1)),
 o 18 (.bin .eql 0 (tv 16) (tv 17))] [] [0, 1, 5, 18])
 (.cond (tv 18) (.seq (.region [] [o 19 (.mv (tv 5)),
 o 4 (.mv (tv 19))] [] [4])
 .ret)
 .skip)))
 (.region [] [o 11 (.mv (tv 5)),
 o 12 (.bin .sub 0 (tv 11) (ki 1)),
 o 5 (.mv (tv 12))] [] [0, 1, 5])))

def v97 : VFun := ⟨2,
 (.seq (.region [] [o 4 (.mv (ki 0))] [] [0, 1])
 (.seq (.seq (.region [] [o 6 (.mv (tv 0)),
 o 7 (.len false (tv 6)),
 o 8 (.bin .sub 0 (tv 7) (ki 1)),
 o 5 (.mv (tv 8))] [] [0, 1, 5])
 (.block 0 (.loop l97_0)))
 (.seq (.region [] [o 4 (.mv (ki (-1)))] [] [4])
 .ret))),
 [.tmp 4], false⟩

def l99_0 : VCode := (.seq (.seq (.region [] [o 9 (.mv (tv 4)),
 o 10 (.mv (tv 3)),
 o 11 (.len false (tv 10)),
 o 12 (.bin .lss 0 (tv 9) (tv 11))] [] [1, 2, 3, 4, 12])
 (.cond (tv 12) .skip
 (.exit 0)))
 (.seq (.block 1 (.region [] [o 15 (.mv (tv 3)),
 o 16 (.mv (tv 4)),
 o 17 (.mv (tv 3)),
 o 18 (.mv (tv 4)),
 o 19 (.idxA 11 (tv 17) (tv 18)),
 o 20 (.load true 11 (tv 19)),
 oa 21 (.call (kf 99) [(false, (tv 20))] []) 1088,
 o 22 (.idxA 11 (tv 15) (tv 16)),
 on (.store 11 (tv 22) (tv 21) [])] [] [1, 2, 3, 4]))
 (.region [] [o 13 (.mv (tv 4)),
 o 14 (.bin .add 0 (tv 13) (ki 1)),
 o 4 (.mv (tv 14))] [] [1, 2, 3, 4])))

def l99_1 : VCode := (.seq (.seq (.region [] [o 27 (.mv (tv 6)),
 o 28 (.fld 5 (tv 5)),
 o 29 (.load false 1 (tv 28)),
 o 30 (.len false (tv 29)),
 o 31 (.bin .lss 0 (tv 27) (tv 30))] [] [2, 5, 6, 31])
 (.cond (tv 31) .skip
 (.exit 2)))
 (.seq (.block 3 (.region [] [o 34 (.fld 5 (tv 5)),
 o 35 (.load false 1 (tv 34)),
 o 36 (.mv (tv 6)),
 o 37 (.idxA 14 (tv 35) (tv 36)),
 o 38 (.fld 0 (tv 37)),
 on (.store 1 (tv 38) (ki 0) [])] [] [2, 5, 6]))
 (.region [] [o 32 (.mv (tv 6)),
 o 33 (.bin .add 0 (tv 32) (ki 1)),
 o 6 (.mv (tv 33))] [] [2, 5, 6])))

def v99 : VFun := ⟨1,
 (.seq (.region [] [oa 1 (.box (tv 0)) 64,
 oa 2 (.new [zi, zi, zs, zi, .nil, .nil, zi, zs, zi, zi, .nil] []) 128] [] [1, 2])
 (.seq (.region [] [o 7 (.load true 11 (tv 1)),
 oa 8 (.call (kf 50) [(false, (tv 7))] []) 256,
 o 3 (.mv (tv 8))] [] [1, 2, 3])
 (.seq (.seq (.region [] [o 4 (.mv (ki 0))] [] [1, 2, 3, 4])
 (.block 0 (.loop l99_0)))
 (.seq (.region [] [o 23 (.load true 11 (tv 1)),
 o 24 (.mv (tv 3)),
 oa 25 (.call (kf 147) [(false, (tv 23)), (false, (tv 24))] []) 1600,
 oa 5 (.new [zi, zi, zs, zi, .nil, .nil, zi, zs, zi, zi, .nil] []) 1664,
 on (.store 11 (tv 5) (tv 25) [])] [] [2, 5])
 (.seq (.region [64] [o 26 (.fld 1 (tv 5)),
 on (.store 1 (tv 26) (ki 0) [])] [] [2, 5])
 (.seq (.seq (.region [] [o 6 (.mv (ki 0))] [] [2, 5, 6])
 (.block 2 (.loop l99_1)))
 (.seq (.region [] [o 39 (.load true 11 (tv 5)),
 on (.store 11 (tv 2) (tv 39) [])] [] [2])
 .ret))))))),
 [.cell 2 true 11], false⟩

def l98_0 : VCode := (.seq (.seq (.region [] [o 51 (.mv (tv 16)),
 o 52 (.mv (tv 15)),
 o 53 (.len false (tv 52)),
 o 54 (.bin .lss 0 (tv 51) (tv 53))] [] [1, 2, 3, 4, 8, 10, 11, 12, 13, 14, 15, 16, 54])
 (.cond (tv 54) .skip
 (.exit 2)))
 (.seq (.block 3 (.seq (.region [] [o 57 (.mv (tv 14)),
 o 58 (.mv (tv 13)),
 o 59 (.len false (tv 58)),
 o 60 (.mv (tv 1)),
 oa 61 (.call (kf 27) [(false, (tv 59)), (false, (tv 60))] []) 3136,
 oa 62 (.mkSl 1 [(tv 61)]) 3200,
 o 63 (.app 1 16 false (tv 57) (tv 62)),
 o 14 (.mv (tv 63))] [] [1, 2, 3, 4, 8, 10, 11, 12, 13, 14, 15, 16])
 (.region [3200] [o 64 (.mv (tv 13)),
 o 65 (.mv (tv 15)),
 o 66 (.mv (tv 16)),
 o 67 (.idxA 1 (tv 65) (tv 66)),
 o 68 (.load false 1 (tv 67)),
 oa 69 (.mkSl 1 [(tv 68)]) 3712,
 o 70 (.app 1 16 false (tv 64) (tv 69)),
 o 13 (.mv (tv 70))] [] [1, 2, 3, 4, 8, 10, 11, 12, 13, 14, 15, 16])))
 (.region [3200, 3712] [o 55 (.mv (tv 16)),
 o 56 (.bin .add 0 (tv 55) (ki 1)),
 o 16 (.mv (tv 56))] [] [1, 2, 3, 4, 8, 10, 11, 12, 13, 14, 15, 16])))

def l98_1 : VCode := (.seq (.seq (.region [] [o 38 (.mv (tv 12)),
 o 39 (.mv (tv 10)),
 o 40 (.len false (tv 39)),
 o 41 (.bin .lss 0 (tv 38) (tv 40))] [] [1, 2, 3, 4, 8, 10, 11, 12, 41])
 (.cond (tv 41) .skip
 (.exit 0)))
 (.seq (.block 1 (.seq (.region [] [o 44 (.mv (tv 2)),
 oa 45 (.app 1 16 true kn (tv 44)) 1984,
 o 46 (.mv (tv 3)),
 oa 47 (.app 1 16 true kn (tv 46)) 2112,
 o 13 (.mv (tv 45)),
 o 14 (.mv (tv 47))] [] [1, 2, 3, 4, 8, 10, 11, 12, 13, 14])
 (.seq (.region [] [o 48 (.load true 11 (tv 4)),
 o 49 (.mv (tv 12)),
 oa 50 (.call (kf 91) [(false, (tv 48)), (false, (tv 49))] []) 2432,
 o 15 (.mv (tv 50))] [] [1, 2, 3, 4, 8, 10, 11, 12, 13, 14, 15])
 (.seq (.seq (.region [] [o 16 (.mv (ki 0))] [] [1, 2, 3, 4, 8, 10, 11, 12, 13, 14, 15, 16])
 (.block 2 (.loop l98_0)))
 (.region [] [o 71 (.mv (tv 11)),
 o 72 (.mv (tv 10)),
 o 73 (.mv (tv 12)),
 o 74 (.idxA 11 (tv 72) (tv 73)),
 o 75 (.load true 11 (tv 74)),
 o 76 (.mv (tv 1)),
 o 77 (.mv (tv 13)),
 o 78 (.mv (tv 14)),
 oa 79 (.call (kf 98) [(false, (tv 75)), (false, (tv 76)), (false, (tv 77)), (false, (tv 78))] []) 4608,
 oa 80 (.mkSl 11 [(tv 79)]) 4672,
 o 81 (.app 11 152 false (tv 71) (tv 80)),
 o 11 (.mv (tv 81))] [] [1, 2, 3, 4, 8, 10, 11, 12])))))
 (.region [1984, 2112, 4672] [o 42 (.mv (tv 12)),
 o 43 (.bin .add 0 (tv 42) (ki 1)),
 o 12 (.mv (tv 43))] [] [1, 2, 3, 4, 8, 10, 11, 12])))

def l98_2 : VCode := (.seq (.seq (.region [] [o 118 (.mv (tv 20)),
 o 119 (.mv (tv 19)),
 o 120 (.len false (tv 119)),
 o 121 (.bin .lss 0 (tv 118) (tv 120))] [] [1, 2, 8, 17, 18, 19, 20, 121])
 (.cond (tv 121) .skip
 (.exit 6)))
 (.seq (.block 7 (.region [] [o 124 (.mv (tv 19)),
 o 125 (.mv (tv 20)),
 o 126 (.mv (tv 2)),
 o 127 (.len false (tv 126)),
 o 128 (.mv (tv 20)),
 o 129 (.bin .add 0 (tv 127) (tv 128)),
 o 130 (.mv (tv 1)),
 oa 131 (.call (kf 27) [(false, (tv 129)), (false, (tv 130))] []) 8320,
 o 132 (.idxA 1 (tv 124) (tv 125)),
 on (.store 1 (tv 132) (tv 131) [])] [] [1, 2, 8, 17, 18, 19, 20]))
 (.region [] [o 122 (.mv (tv 20)),
 o 123 (.bin .add 0 (tv 122) (ki 1)),
 o 20 (.mv (tv 123))] [] [1, 2, 8, 17, 18, 19, 20])))

def l98_3 : VCode := (.seq (.seq (.region [] [o 103 (.mv (tv 18)),
 o 104 (.fld 5 (tv 17)),
 o 105 (.load false 1 (tv 104)),
 o 106 (.len false (tv 105)),
 o 107 (.bin .lss 0 (tv 103) (tv 106))] [] [1, 2, 8, 17, 18, 107])
 (.cond (tv 107) .skip
 (.exit 4)))
 (.seq (.block 5 (.seq (.region [] [o 110 (.fld 5 (tv 17)),
 o 111 (.load false 1 (tv 110)),
 o 112 (.mv (tv 18)),
 o 113 (.idxA 14 (tv 111) (tv 112)),
 o 114 (.fld 2 (tv 113)),
 o 115 (.load false 1 (tv 114)),
 o 116 (.len false (tv 115)),
 oa 117 (.mkS 1 16 [zs] (tv 116)) 7424,
 o 19 (.mv (tv 117))] [] [1, 2, 8, 17, 18, 19])
 (.seq (.seq (.region [] [o 20 (.mv (ki 0))] [] [1, 2, 8, 17, 18, 19, 20])
 (.block 6 (.loop l98_2)))
 (.region [] [o 133 (.fld 5 (tv 17)),
 o 134 (.load false 1 (tv 133)),
 o 135 (.mv (tv 18)),
 o 136 (.mv (tv 19)),
 o 137 (.idxA 14 (tv 134) (tv 135)),
 o 138 (.fld 2 (tv 137)),
 on (.store 1 (tv 138) (tv 136) [])] [] [1, 2, 8, 17, 18]))))
 (.region [7424] [o 108 (.mv (tv 18)),
 o 109 (.bin .add 0 (tv 108) (ki 1)),
 o 18 (.mv (tv 109))] [] [1, 2, 8, 17, 18])))

def v98 : VFun := ⟨4,
 (.seq (.region [] [oa 4 (.box (tv 0)) 64,
 oa 8 (.new [zi, zi, zs, zi, .nil, .nil, zi, zs, zi, zi, .nil] []) 128] [] [1, 2, 3, 4, 8])
 (.seq (.seq (.region [] [o 21 (.fld 0 (tv 4)),
 o 22 (.load false 1 (tv 21)),
 o 23 (.bin .eql 0 (tv 22) (ki 1))] [] [1, 2, 3, 4, 8, 23])
 (.cond (tv 23) (.seq (.seq (.region [] [o 24 (.mv (tv 2)),
 o 25 (.fld 2 (tv 4)),
 o 26 (.load false 1 (tv 25)),
 oa 27 (.call (kf 97) [(false, (tv 24)), (false, (tv 26))] []) 576,
 o 9 (.mv (tv 27))] [] [3, 4, 8, 9])
 (.seq (.region [] [o 28 (.mv (tv 9)),
 o 29 (.bin .geq 0 (tv 28) (ki 0))] [] [3, 4, 8, 9, 29])
 (.cond (tv 29) (.region [] [o 30 (.mv (tv 3)),
 o 31 (.mv (tv 9)),
 o 32 (.idxA 1 (tv 30) (tv 31)),
 o 33 (.load false 1 (tv 32)),
 o 34 (.fld 2 (tv 4)),
 on (.store 1 (tv 34) (tv 33) [])] [] [4, 8])
 .skip)))
 (.seq (.region [] [o 35 (.load true 11 (tv 4)),
 on (.store 11 (tv 8) (tv 35) [])] [] [8])
 .ret))
 .skip))
 (.seq (.region [] [o 36 (.load true 11 (tv 4)),
 oa 37 (.call (kf 50) [(false, (tv 36))] []) 1408,
 o 10 (.mv (tv 37))] [] [1, 2, 3, 4, 8, 10])
 (.seq (.region [] [⟨(some 11), (.mv kn), none, 1536, [(0, 11)]⟩] [] [1, 2, 3, 4, 8, 10, 11])
 (.seq (.seq (.region [] [o 12 (.mv (ki 0))] [] [1, 2, 3, 4, 8, 10, 11, 12])
 (.block 0 (.loop l98_1)))
 (.seq (.region [] [o 82 (.load true 11 (tv 4)),
 o 83 (.mv (tv 11)),
 oa 84 (.call (kf 147) [(false, (tv 82)), (false, (tv 83))] []) 5184,
 oa 17 (.new [zi, zi, zs, zi, .nil, .nil, zi, zs, zi, zi, .nil] []) 5248,
 on (.store 11 (tv 17) (tv 84) [])] [] [1, 2, 4, 8, 17])
 (.seq (.seq (.region [] [o 85 (.fld 0 (tv 4)),
 o 86 (.load false 1 (tv 85)),
 o 87 (.bin .eql 0 (tv 86) (ki 4)),
 o 88 (.mv (tv 87)),
 og 89 (.fld 0 (tv 4)) 88 false,
 og 90 (.load false 1 (tv 89)) 88 false,
 og 91 (.bin .eql 0 (tv 90) (ki 6)) 88 false,
 o 92 (.pick (tv 88) kt (tv 91)),
 o 93 (.mv (tv 92)),
 og 94 (.fld 0 (tv 4)) 93 false,
 og 95 (.load false 1 (tv 94)) 93 false,
 og 96 (.bin .eql 0 (tv 95) (ki 7)) 93 false,
 o 97 (.pick (tv 93) kt (tv 96))] [] [1, 2, 8, 17, 97])
 (.cond (tv 97) (.region [64] [o 98 (.mv (tv 2)),
 o 99 (.len false (tv 98)),
 o 100 (.mv (tv 1)),
 oa 101 (.call (kf 27) [(false, (tv 99)), (false, (tv 100))] []) 6400,
 o 102 (.fld 2 (tv 17)),
 on (.store 1 (tv 102) (tv 101) [])] [] [1, 2, 8, 17])
 .skip))
 (.seq (.seq (.region [64] [o 18 (.mv (ki 0))] [] [1, 2, 8, 17, 18])
 (.block 4 (.loop l98_3)))
 (.seq (.region [] [o 139 (.load true 11 (tv 17)),
 on (.store 11 (tv 8) (tv 139) [])] [] [8])
 .ret))))))))),
 [.cell 8 true 11], false⟩

def v100 : VFun := ⟨2,
 (.seq (.region [] [o 4 (.mv (.k (.sc zs))),
 o 5 (.mv kF)] [] [0, 1])
 (.seq (.seq (.region [] [o 6 (.mv (tv 0)),
 o 7 (.mv (tv 1)),
 oa 8 (.call (kf 148) [(false, (tv 6)), (false, (tv 7))] []) 320,
 o 9 (.un .not (tv 8))] [] [0, 1, 9])
 (.cond (tv 9) (.seq (.region [] [o 10 (.mv (tv 0)),
 o 4 (.mv (tv 10)),
 o 5 (.mv kF)] [] [4, 5])
 .ret)
 .skip))
 (.seq (.region [] [o 11 (.mv (tv 0)),
 o 12 (.mv (tv 1)),
 o 13 (.len true (tv 12)),
 o 14 (.slS (tv 11) (some (tv 13)) none),
 o 4 (.mv (tv 14)),
 o 5 (.mv kt)] [] [4, 5])
 .ret))),
 [.tmp 4, .tmp 5], false⟩

def l101_0 : VCode := (.seq (.region [] [o 102 (.bin .lss 0 (tv 101) (tv 100))] [] [1, 8, 9, 10, 11, 12, 13, 99, 100, 101, 102])
 (.seq (.cond (tv 102) .skip
 (.exit 3))
 (.seq (.block 4 (.seq (.region [] [o 103 (.idxA 1 (tv 99) (tv 101)),
 o 104 (.load false 1 (tv 103)),
 o 15 (.mv (tv 104))] [] [1, 8, 9, 10, 11, 12, 13, 15, 99, 100, 101])
 (.seq (.region [] [o 16 (.mv (.k (.sc (.c (.int .u8 0)))))] [] [1, 8, 9, 10, 11, 12, 13, 15, 99, 100, 101])
 (.seq (.block 5 (.seq (.region [] [o 107 (.mv (tv 15)),
 o 108 (.bin .eql 0 (tv 107) (.k (.sc (.c (.int .u8 95))))),
 o 109 (.mv (tv 108)),
 og 110 (.mv (tv 8)) 109 true,
 o 111 (.pick (tv 109) (tv 110) kF),
 o 106 (.mv (tv 111))] [] [1, 8, 9, 10, 11, 12, 13, 15, 99, 100, 101, 106])
 (.cond (tv 106) (.seq (.region [] [o 12 (.mv kt)] [] [1, 8, 9, 10, 11, 12, 13, 99, 100, 101])
 (.exit 4))
 (.seq (.region [] [o 113 (.mv (tv 15)),
 o 114 (.bin .leq 0 (.k (.sc (.c (.int .u8 48)))) (tv 113)),
 o 115 (.mv (tv 114)),
 og 116 (.mv (tv 15)) 115 true,
 og 117 (.bin .leq 0 (tv 116) (.k (.sc (.c (.int .u8 57))))) 115 true,
 o 118 (.pick (tv 115) (tv 117) kF),
 o 112 (.mv (tv 118))] [] [1, 8, 9, 10, 11, 12, 13, 15, 99, 100, 101, 112])
 (.cond (tv 112) (.region [] [o 119 (.mv (tv 15)),
 o 120 (.bin .sub 0 (tv 119) (.k (.sc (.c (.int .u8 48))))),
 o 16 (.mv (tv 120))] [] [1, 8, 9, 10, 11, 12, 13, 16, 99, 100, 101])
 (.seq (.region [] [o 122 (.mv (tv 15)),
 oa 123 (.call (kf 149) [(false, (tv 122))] []) 8640,
 o 124 (.bin .leq 0 (.k (.sc (.c (.int .u8 97)))) (tv 123)),
 o 125 (.mv (tv 124)),
 og 126 (.mv (tv 15)) 125 true,
 ⟨(some 127), (.call (kf 149) [(false, (tv 126))] []), (some (125, true)), 8896, []⟩,
 og 128 (.bin .leq 0 (tv 127) (.k (.sc (.c (.int .u8 122))))) 125 true,
 o 129 (.pick (tv 125) (tv 128) kF),
 o 121 (.mv (tv 129))] [] [1, 8, 9, 10, 11, 12, 13, 15, 99, 100, 101, 121])
 (.cond (tv 121) (.region [] [o 130 (.mv (tv 15)),
 oa 131 (.call (kf 149) [(false, (tv 130))] []) 9216,
 o 132 (.bin .sub 0 (tv 131) (.k (.sc (.c (.int .u8 97))))),
 o 133 (.bin .add 0 (tv 132) (.k (.sc (.c (.int .u8 10))))),
 o 16 (.mv (tv 133))] [] [1, 8, 9, 10, 11, 12, 13, 16, 99, 100, 101])
 (.seq (.region [] [o 105 (.ifc 196 (ki 2)),
 o 6 (.mv (.k (.sc (.c (.int .u64 0))))),
 o 7 (.mv (tv 105))] [] [6, 7])
 .ret))))))))
 (.seq (.seq (.region [] [o 134 (.mv (tv 16)),
 o 135 (.mv (tv 1)),
 o 136 (.cvI .u8 (tv 135)),
 o 137 (.bin .geq 0 (tv 134) (tv 136))] [] [1, 8, 9, 10, 11, 12, 13, 16, 99, 100, 101, 137])
 (.cond (tv 137) (.seq (.region [] [o 138 (.ifc 196 (ki 2)),
 o 6 (.mv (.k (.sc (.c (.int .u64 0))))),
 o 7 (.mv (tv 138))] [] [6, 7])
 .ret)
 .skip))
 (.seq (.seq (.region [] [o 139 (.mv (tv 13)),
 o 140 (.mv (tv 10)),
 o 141 (.bin .geq 0 (tv 139) (tv 140))] [] [1, 8, 9, 10, 11, 12, 13, 16, 99, 100, 101, 141])
 (.cond (tv 141) (.seq (.region [] [o 142 (.mv (tv 11)),
 o 143 (.ifc 196 (ki 1)),
 o 6 (.mv (tv 142)),
 o 7 (.mv (tv 143))] [] [6, 7])
 .ret)
 .skip))
 (.seq (.region [] [o 144 (.mv (tv 13)),
 o 145 (.mv (tv 1)),
 o 146 (.cvI .u64 (tv 145)),
 o 147 (.bin .mul 0 (tv 144) (tv 146)),
 o 13 (.mv (tv 147))] [] [1, 8, 9, 10, 11, 12, 13, 16, 99, 100, 101])
 (.seq (.region [] [o 148 (.mv (tv 13)),
 o 149 (.mv (tv 16)),
 o 150 (.cvI .u64 (tv 149)),
 o 151 (.bin .add 0 (tv 148) (tv 150)),
 o 17 (.mv (tv 151))] [] [1, 8, 9, 10, 11, 12, 13, 17, 99, 100, 101])
 (.seq (.seq (.region [] [o 152 (.mv (tv 17)),
 o 153 (.mv (tv 13)),
 o 154 (.bin .lss 0 (tv 152) (tv 153)),
 o 155 (.mv (tv 154)),
 og 156 (.mv (tv 17)) 155 false,
 og 157 (.mv (tv 11)) 155 false,
 og 158 (.bin .gtr 0 (tv 156) (tv 157)) 155 false,
 o 159 (.pick (tv 155) kt (tv 158))] [] [1, 8, 9, 10, 11, 12, 17, 99, 100, 101, 159])
 (.cond (tv 159) (.seq (.region [] [o 160 (.mv (tv 11)),
 o 161 (.ifc 196 (ki 1)),
 o 6 (.mv (tv 160)),
 o 7 (.mv (tv 161))] [] [6, 7])
 .ret)
 .skip))
 (.region [] [o 162 (.mv (tv 17)),
 o 13 (.mv (tv 162))] [] [1, 8, 9, 10, 11, 12, 13, 99, 100, 101]))))))))))
 (.region [] [o 163 (.bin .add 0 (tv 101) (ki 1)),
 o 101 (.mv (tv 163))] [] [1, 8, 9, 10, 11, 12, 13, 99, 100, 101]))))

def v101 : VFun := ⟨3,
 (.seq (.region [] [o 6 (.mv (.k (.sc (.c (.int .u64 0))))),
 o 7 (.mv (.k (.sc (.c .nilif))))] [] [0, 1, 2])
 (.seq (.seq (.region [] [o 18 (.mv (tv 0)),
 o 19 (.bin .eql 0 (tv 18) (.k (.sc zs)))] [] [0, 1, 2, 19])
 (.cond (tv 19) (.seq (.region [] [o 20 (.ifc 196 (ki 2)),
 o 6 (.mv (.k (.sc (.c (.int .u64 0))))),
 o 7 (.mv (tv 20))] [] [6, 7])
 .ret)
 .skip))
 (.seq (.region [] [o 21 (.mv (tv 1)),
 o 22 (.bin .eql 0 (tv 21) (ki 0)),
 o 8 (.mv (tv 22))] [] [0, 1, 2, 8])
 (.seq (.region [] [o 23 (.mv (tv 0)),
 o 9 (.mv (tv 23))] [] [0, 1, 2, 8, 9])
 (.seq (.block 0 (.seq (.region [] [o 26 (.mv (tv 1)),
 o 27 (.bin .leq 0 (ki 2) (tv 26)),
 o 28 (.mv (tv 27)),
 og 29 (.mv (tv 1)) 28 true,
 og 30 (.bin .leq 0 (tv 29) (ki 36)) 28 true,
 o 31 (.pick (tv 28) (tv 30) kF),
 o 25 (.mv (tv 31))] [] [0, 1, 2, 8, 9, 25])
 (.cond (tv 25) .skip
 (.seq (.region [] [o 33 (.mv (tv 1)),
 o 34 (.bin .eql 0 (tv 33) (ki 0)),
 o 32 (.mv (tv 34))] [] [0, 2, 8, 9, 32])
 (.cond (tv 32) (.seq (.region [] [o 1 (.mv (ki 10))] [] [0, 1, 2, 8, 9])
 (.seq (.region [] [o 35 (.mv (tv 0)),
 o 36 (.idxS (tv 35) (ki 0)),
 o 37 (.bin .eql 0 (tv 36) (.k (.sc (.c (.int .u8 48)))))] [] [0, 1, 2, 8, 9, 37])
 (.cond (tv 37) (.block 1 (.seq (.region [] [o 41 (.mv (tv 0)),
 o 42 (.len true (tv 41)),
 o 43 (.bin .geq 0 (tv 42) (ki 3)),
 o 44 (.mv (tv 43)),
 og 45 (.mv (tv 0)) 44 true,
 og 46 (.idxS (tv 45) (ki 1)) 44 true,
 ⟨(some 47), (.call (kf 149) [(false, (tv 46))] []), (some (44, true)), 2112, []⟩,
 og 48 (.bin .eql 0 (tv 47) (.k (.sc (.c (.int .u8 98))))) 44 true,
 o 49 (.pick (tv 44) (tv 48) kF),
 o 40 (.mv (tv 49))] [] [0, 2, 8, 9, 40])
 (.cond (tv 40) (.seq (.region [] [o 1 (.mv (ki 2))] [] [0, 1, 2, 8, 9])
 (.region [] [o 50 (.mv (tv 0)),
 o 51 (.slS (tv 50) (some (ki 2)) none),
 o 0 (.mv (tv 51))] [] [0, 1, 2, 8, 9]))
 (.seq (.region [] [o 53 (.mv (tv 0)),
 o 54 (.len true (tv 53)),
 o 55 (.bin .geq 0 (tv 54) (ki 3)),
 o 56 (.mv (tv 55)),
 og 57 (.mv (tv 0)) 56 true,
 og 58 (.idxS (tv 57) (ki 1)) 56 true,
 ⟨(some 59), (.call (kf 149) [(false, (tv 58))] []), (some (56, true)), 3008, []⟩,
 og 60 (.bin .eql 0 (tv 59) (.k (.sc (.c (.int .u8 111))))) 56 true,
 o 61 (.pick (tv 56) (tv 60) kF),
 o 52 (.mv (tv 61))] [] [0, 2, 8, 9, 52])
 (.cond (tv 52) (.seq (.region [] [o 1 (.mv (ki 8))] [] [0, 1, 2, 8, 9])
 (.region [] [o 62 (.mv (tv 0)),
 o 63 (.slS (tv 62) (some (ki 2)) none),
 o 0 (.mv (tv 63))] [] [0, 1, 2, 8, 9]))
 (.seq (.region [] [o 65 (.mv (tv 0)),
 o 66 (.len true (tv 65)),
 o 67 (.bin .geq 0 (tv 66) (ki 3)),
 o 68 (.mv (tv 67)),
 og 69 (.mv (tv 0)) 68 true,
 og 70 (.idxS (tv 69) (ki 1)) 68 true,
 ⟨(some 71), (.call (kf 149) [(false, (tv 70))] []), (some (68, true)), 3904, []⟩,
 og 72 (.bin .eql 0 (tv 71) (.k (.sc (.c (.int .u8 120))))) 68 true,
 o 73 (.pick (tv 68) (tv 72) kF),
 o 64 (.mv (tv 73))] [] [0, 2, 8, 9, 64])
 (.cond (tv 64) (.seq (.region [] [o 1 (.mv (ki 16))] [] [0, 1, 2, 8, 9])
 (.region [] [o 74 (.mv (tv 0)),
 o 75 (.slS (tv 74) (some (ki 2)) none),
 o 0 (.mv (tv 75))] [] [0, 1, 2, 8, 9]))
 (.seq (.region [] [o 1 (.mv (ki 8))] [] [0, 1, 2, 8, 9])
 (.region [] [o 38 (.mv (tv 0)),
 o 39 (.slS (tv 38) (some (ki 1)) none),
 o 0 (.mv (tv 39))] [] [0, 1, 2, 8, 9])))))))))
 .skip)))
 (.seq (.region [] [o 24 (.ifc 196 (ki 3)),
 o 6 (.mv (.k (.sc (.c (.int .u64 0))))),
 o 7 (.mv (tv 24))] [] [6, 7])
 .ret))))))
 (.seq (.seq (.region [] [o 76 (.mv (tv 2)),
 o 77 (.bin .eql 0 (tv 76) (ki 0))] [] [0, 1, 2, 8, 9, 77])
 (.cond (tv 77) (.region [] [o 2 (.mv (ki 64))] [] [0, 1, 2, 8, 9])
 (.seq (.region [] [o 78 (.mv (tv 2)),
 o 79 (.bin .lss 0 (tv 78) (ki 0)),
 o 80 (.mv (tv 79)),
 og 81 (.mv (tv 2)) 80 false,
 og 82 (.bin .gtr 0 (tv 81) (ki 64)) 80 false,
 o 83 (.pick (tv 80) kt (tv 82))] [] [0, 1, 2, 8, 9, 83])
 (.cond (tv 83) (.seq (.region [] [o 84 (.ifc 196 (ki 4)),
 o 6 (.mv (.k (.sc (.c (.int .u64 0))))),
 o 7 (.mv (tv 84))] [] [6, 7])
 .ret)
 .skip))))
 (.seq (.region [] [o 10 (.mv (.k (.sc (.c (.int .u64 0)))))] [] [0, 1, 2, 8, 9])
 (.seq (.seq (.region [] [o 85 (.mv (tv 1))] [] [0, 1, 2, 8, 9, 85])
 (.block 2 (.seq (.region [] [o 91 (.bin .eql 0 (tv 85) (ki 10)),
 o 90 (.mv (tv 91))] [] [0, 1, 2, 8, 9, 85, 90])
 (.cond (tv 90) (.region [] [o 10 (.mv (.k (.sc (.c (.int .u64 1844674407370955162)))))] [] [0, 1, 2, 8, 9, 10])
 (.seq (.region [] [o 93 (.bin .eql 0 (tv 85) (ki 16)),
 o 92 (.mv (tv 93))] [] [0, 1, 2, 8, 9, 92])
 (.cond (tv 92) (.region [] [o 10 (.mv (.k (.sc (.c (.int .u64 1152921504606846976)))))] [] [0, 1, 2, 8, 9, 10])
 (.region [] [o 86 (.mv (tv 1)),
 o 87 (.cvI .u64 (tv 86)),
 o 88 (.bin .quo 0 (.k (.sc (.c (.int .u64 18446744073709551615)))) (tv 87)),
 o 89 (.bin .add 0 (tv 88) (.k (.sc (.c (.int .u64 1))))),
 o 10 (.mv (tv 89))] [] [0, 1, 2, 8, 9, 10])))))))
 (.seq (.region [] [o 94 (.mv (tv 2)),
 o 95 (.cvI .u64 (tv 94)),
 o 96 (.bin .shl 0 (.k (.sc (.c (.int .u64 1)))) (tv 95)),
 o 97 (.bin .sub 0 (tv 96) (.k (.sc (.c (.int .u64 1))))),
 o 11 (.mv (tv 97))] [] [0, 1, 8, 9, 10, 11])
 (.seq (.region [] [o 12 (.mv kF)] [] [0, 1, 8, 9, 10, 11, 12])
 (.seq (.region [] [o 13 (.mv (.k (.sc (.c (.int .u64 0)))))] [] [0, 1, 8, 9, 10, 11, 12, 13])
 (.seq (.seq (.region [] [o 98 (.mv (tv 0)),
 o 99 (.cvB (tv 98)),
 o 100 (.len false (tv 99)),
 o 101 (.mv (ki 0))] [] [1, 8, 9, 10, 11, 12, 13, 99, 100, 101])
 (.block 3 (.loop l101_0)))
 (.seq (.seq (.region [] [o 164 (.mv (tv 12)),
 o 165 (.mv (tv 164)),
 og 166 (.mv (tv 9)) 165 true,
 ⟨(some 167), (.call (kf 150) [(false, (tv 166))] []), (some (165, true)), 12416, []⟩,
 og 168 (.un .not (tv 167)) 165 true,
 o 169 (.pick (tv 165) (tv 168) kF)] [] [13, 169])
 (.cond (tv 169) (.seq (.region [] [o 170 (.ifc 196 (ki 2)),
 o 6 (.mv (.k (.sc (.c (.int .u64 0))))),
 o 7 (.mv (tv 170))] [] [6, 7])
 .ret)
 .skip))
 (.seq (.region [] [o 171 (.mv (tv 13)),
 o 6 (.mv (tv 171)),
 o 7 (.mv (.k (.sc (.c .nilif))))] [] [6, 7])
 .ret)))))))))))))),
 [.tmp 6, .tmp 7], false⟩

def v102 : VFun := ⟨5,
 (.seq (.region [] [o 10 (.mv (.k (.sc (.c .nilif))))] [] [0, 1, 2, 3, 4])
 (.seq (.seq (.region [] [o 11 (.mv (tv 4))] [] [0, 1, 2, 3, 4, 11])
 (.block 0 (.seq (.region [] [o 13 (.ifc 196 (ki 2)),
 o 14 (.bin .eql 202 (tv 11) (tv 13)),
 o 12 (.mv (tv 14))] [] [0, 1, 2, 3, 4, 11, 12])
 (.cond (tv 12) (.seq (.region [] [o 15 (.mv (tv 0)),
 o 16 (.mv (tv 1)),
 oa 17 (.call (kf 151) [(false, (tv 15)), (false, (tv 16))] []) 512,
 o 18 (.ifc 199 (tv 17)),
 o 10 (.mv (tv 18))] [] [10])
 .ret)
 (.seq (.region [] [o 20 (.ifc 196 (ki 1)),
 o 21 (.bin .eql 202 (tv 11) (tv 20)),
 o 19 (.mv (tv 21))] [] [0, 1, 2, 3, 4, 11, 19])
 (.cond (tv 19) (.seq (.region [] [o 22 (.mv (tv 0)),
 o 23 (.mv (tv 1)),
 oa 24 (.call (kf 152) [(false, (tv 22)), (false, (tv 23))] []) 1024,
 o 25 (.ifc 199 (tv 24)),
 o 10 (.mv (tv 25))] [] [10])
 .ret)
 (.seq (.region [] [o 27 (.ifc 196 (ki 3)),
 o 28 (.bin .eql 202 (tv 11) (tv 27)),
 o 26 (.mv (tv 28))] [] [0, 1, 2, 3, 4, 11, 26])
 (.cond (tv 26) (.seq (.region [] [o 29 (.mv (tv 0)),
 o 30 (.mv (tv 1)),
 o 31 (.mv (tv 2)),
 oa 32 (.call (kf 153) [(false, (tv 29)), (false, (tv 30)), (false, (tv 31))] []) 1600,
 o 33 (.ifc 199 (tv 32)),
 o 10 (.mv (tv 33))] [] [10])
 .ret)
 (.seq (.region [] [o 35 (.ifc 196 (ki 4)),
 o 36 (.bin .eql 202 (tv 11) (tv 35)),
 o 34 (.mv (tv 36))] [] [0, 1, 3, 4, 34])
 (.cond (tv 34) (.seq (.region [] [o 37 (.mv (tv 0)),
 o 38 (.mv (tv 1)),
 o 39 (.mv (tv 3)),
 oa 40 (.call (kf 154) [(false, (tv 37)), (false, (tv 38)), (false, (tv 39))] []) 2176,
 o 41 (.ifc 199 (tv 40)),
 o 10 (.mv (tv 41))] [] [10])
 .ret)
 .skip))))))))))
 (.seq (.region [] [o 42 (.mv (tv 4)),
 o 10 (.mv (tv 42))] [] [10])
 .ret))),
 [.tmp 10], true⟩

def v103 : VFun := ⟨2,
 (.seq (.region [] [o 4 (.mv (.k (.sc zs)))] [] [0, 1])
 (.seq (.seq (.region [] [o 9 (.mv (tv 1)),
 o 10 (.bin .eql 0 (tv 9) (ki 10))] [] [0, 1, 10])
 (.cond (tv 10) (.seq (.seq (.region [] [o 11 (.mv (tv 0)),
 o 12 (.bin .lss 0 (tv 11) (.k (.sc (.c (.int .u64 100)))))] [] [0, 12])
 (.cond (tv 12) (.seq (.region [] [o 13 (.mv (tv 0)),
 o 14 (.cvI .i64 (tv 13)),
 oa 15 (.call (kf 155) [(false, (tv 14))] []) 512,
 o 4 (.mv (tv 15))] [] [4])
 .ret)
 .skip))
 (.seq (.region [] [oa 5 (.new [(.c (.int .u8 0)), (.c (.int .u8 0)), (.c (.int .u8 0)), (.c (.int .u8 0)), (.c (.int .u8 0)), (.c (.int .u8 0)), (.c (.int .u8 0)), (.c (.int .u8 0)), (.c (.int .u8 0)), (.c (.int .u8 0)), (.c (.int .u8 0)), (.c (.int .u8 0)), (.c (.int .u8 0)), (.c (.int .u8 0)), (.c (.int .u8 0)), (.c (.int .u8 0)), (.c (.int .u8 0)), (.c (.int .u8 0)), (.c (.int .u8 0)), (.c (.int .u8 0)), (.c (.int .u8 0)), (.c (.int .u8 0)), (.c (.int .u8 0)), (.c (.int .u8 0))] []) 640] [] [0])
 (.seq (.region [640] [o 16 (.mv (tv 0)),
 oa 17 (.call (kf 156) [(false, (tv 16))] []) 768,
 o 6 (.mv (tv 17))] [] [0, 6])
 (.seq (.region [] [o 18 (.mv (tv 6)),
 o 19 .bad,
 o 20 (.mv (tv 0)),
 oa 21 (.call (kf 157) [(false, (tv 19)), (false, (tv 20))] []) 1088] [] [6])
 (.seq (.region [] [o 22 (.mv (tv 6)),
 o 23 .bad,
 o 24 .bad,
 o 4 (.mv (tv 24))] [] [4])
 .ret)))))
 .skip))
 (.seq (.region [] [o 26 (.mv (tv 0)),
 o 27 (.mv (tv 1)),
 oa 28 (.call (kf 158) [(false, kn), (false, (tv 26)), (false, (tv 27)), (false, kF), (false, kF)] []) 1536,
 o 25 (.mv (tv 28)),
 o 29 (.ext 0 (tv 25)),
 o 30 (.ext 1 (tv 25)),
 o 7 (.mv (tv 29)),
 o 8 (.mv (tv 30))] [] [8])
 (.seq (.region [] [o 31 (.mv (tv 8)),
 o 4 (.mv (tv 31))] [] [4])
 .ret)))),
 [.tmp 4], false⟩

def v105 : VFun := ⟨1,
 (.seq (.region [] [o 2 (.mv (ki 0))] [] [0])
 (.seq (.cond kF (.seq (.region [] [o 3 (.mv (tv 0)),
 o 4 (.cvI .u32 (tv 3)),
 oa 5 (.call (kf 168) [(false, (tv 4))] []) 256,
 o 2 (.mv (tv 5))] [] [2])
 .ret)
 .skip)
 (.seq (.region [] [o 6 (.mv (tv 0)),
 oa 7 (.call (kf 169) [(false, (tv 6))] []) 448,
 o 2 (.mv (tv 7))] [] [2])
 .ret))),
 [.tmp 2], false⟩

def l104_0 : VCode := (.block 1 (.seq (.region [] [o 19 (.mv (tv 2)),
 o 20 (.mv (tv 1)),
 o 21 (.bin .sub 0 (tv 19) (tv 20)),
 o 10 (.mv (tv 21))] [] [0, 1, 2, 3, 8, 9, 10])
 (.seq (.seq (.region [] [o 22 (.mv (tv 10)),
 o 23 (.bin .leq 0 (tv 22) (ki 12))] [] [0, 1, 2, 3, 8, 9, 10, 23])
 (.cond (tv 23) (.seq (.region [] [o 24 (.mv (tv 0)),
 o 25 (.mv (tv 1)),
 o 26 (.mv (tv 2)),
 oa 27 (.call (kf 159) [(false, (tv 24)), (false, (tv 25)), (false, (tv 26))] []) 768] [] [1000000])
 .ret)
 .skip))
 (.seq (.seq (.region [] [o 28 (.mv (tv 3)),
 o 29 (.bin .eql 0 (tv 28) (ki 0))] [] [0, 1, 2, 3, 8, 9, 10, 29])
 (.cond (tv 29) (.seq (.region [] [o 30 (.mv (tv 0)),
 o 31 (.mv (tv 1)),
 o 32 (.mv (tv 2)),
 oa 33 (.call (kf 160) [(false, (tv 30)), (false, (tv 31)), (false, (tv 32))] []) 1152] [] [1000000])
 .ret)
 .skip))
 (.seq (.seq (.region [] [o 34 (.mv (tv 8)),
 o 35 (.un .not (tv 34))] [] [0, 1, 2, 3, 8, 9, 10, 35])
 (.cond (tv 35) (.seq (.region [] [o 36 (.mv (tv 0)),
 o 37 (.mv (tv 1)),
 o 38 (.mv (tv 2)),
 oa 39 (.call (kf 161) [(false, (tv 36)), (false, (tv 37)), (false, (tv 38))] []) 1536] [] [0, 1, 2, 3, 8, 9, 10])
 (.region [] [o 40 (.mv (tv 3)),
 o 41 (.bin .sub 0 (tv 40) (ki 1)),
 o 3 (.mv (tv 41))] [] [0, 1, 2, 3, 8, 9, 10]))
 .skip))
 (.seq (.region [] [o 43 (.mv (tv 0)),
 o 44 (.mv (tv 1)),
 o 45 (.mv (tv 2)),
 oa 46 (.call (kf 162) [(false, (tv 43)), (false, (tv 44)), (false, (tv 45))] []) 1984,
 o 42 (.mv (tv 46)),
 o 47 (.ext 0 (tv 42)),
 o 48 (.ext 1 (tv 42)),
 o 11 (.mv (tv 47)),
 o 12 (.mv (tv 48))] [] [0, 1, 2, 3, 8, 9, 10, 11, 12])
 (.seq (.seq (.region [] [o 49 (.mv (tv 12)),
 o 50 (.bin .eql 0 (tv 49) (ki 2))] [] [0, 1, 2, 3, 8, 9, 10, 11, 12, 50])
 (.cond (tv 50) (.seq (.region [] [o 51 (.mv (tv 0)),
 o 52 (.mv (tv 1)),
 o 53 (.mv (tv 2)),
 oa 54 (.call (kf 163) [(false, (tv 51)), (false, (tv 52)), (false, (tv 53))] []) 2688] [] [0, 1, 2, 3, 8, 9, 10, 11])
 (.seq (.region [] [o 55 (.mv (tv 2)),
 o 56 (.bin .sub 0 (tv 55) (ki 1)),
 o 57 (.mv (tv 11)),
 o 58 (.mv (tv 1)),
 o 59 (.bin .sub 0 (tv 57) (tv 58)),
 o 60 (.bin .sub 0 (tv 56) (tv 59)),
 o 11 (.mv (tv 60))] [] [0, 1, 2, 3, 8, 9, 10, 11])
 (.region [] [o 12 (.mv (ki 1))] [] [0, 1, 2, 3, 8, 9, 10, 11, 12])))
 .skip))
 (.seq (.seq (.region [] [o 61 (.mv (tv 8)),
 o 62 (.mv (tv 61)),
 og 63 (.mv (tv 9)) 62 true,
 o 64 (.pick (tv 62) (tv 63) kF),
 o 65 (.mv (tv 64)),
 og 66 (.mv (tv 12)) 65 true,
 og 67 (.bin .eql 0 (tv 66) (ki 1)) 65 true,
 o 68 (.pick (tv 65) (tv 67) kF)] [] [0, 1, 2, 3, 8, 9, 10, 11, 68])
 (.cond (tv 68) (.seq (.region [] [o 69 (.mv (tv 0)),
 o 70 (.mv (tv 1)),
 o 71 (.mv (tv 2)),
 oa 72 (.call (kf 164) [(false, (tv 69)), (false, (tv 70)), (false, (tv 71))] []) 3968] [] [0, 1, 2, 3, 8, 9, 10, 11, 72])
 (.cond (tv 72) .ret
 .skip))
 .skip))
 (.seq (.seq (.region [] [o 73 (.mv (tv 1)),
 o 74 (.bin .gtr 0 (tv 73) (ki 0)),
 o 75 (.mv (tv 74)),
 og 76 (.mv (tv 0)) 75 true,
 og 77 (.mv (tv 1)) 75 true,
 og 78 (.bin .sub 0 (tv 77) (ki 1)) 75 true,
 og 79 (.idxA 1 (tv 76) (tv 78)) 75 true,
 og 80 (.load false 1 (tv 79)) 75 true,
 og 81 (.mv (tv 0)) 75 true,
 og 82 (.mv (tv 11)) 75 true,
 og 83 (.idxA 1 (tv 81) (tv 82)) 75 true,
 og 84 (.load false 1 (tv 83)) 75 true,
 ⟨(some 85), (.call (kf 165) [(false, (tv 80)), (false, (tv 84))] []), (some (75, true)), 4800, []⟩,
 og 86 (.un .not (tv 85)) 75 true,
 o 87 (.pick (tv 75) (tv 86) kF)] [(6, 10), (7, 10), (6, 11), (7, 11)] [0, 1, 2, 3, 8, 9, 10, 11, 87])
 (.cond (tv 87) (.seq (.region [] [o 88 (.mv (tv 0)),
 o 89 (.mv (tv 1)),
 o 90 (.mv (tv 2)),
 o 91 (.mv (tv 11)),
 oa 92 (.call (kf 166) [(false, (tv 88)), (false, (tv 89)), (false, (tv 90)), (false, (tv 91))] []) 5248,
 o 13 (.mv (tv 92))] [] [0, 2, 3, 8, 9, 13])
 (.seq (.region [] [o 93 (.mv (tv 13)),
 o 1 (.mv (tv 93))] [] [0, 1, 2, 3, 8, 9])
 (.exit 1)))
 .skip))
 (.seq (.region [] [o 95 (.mv (tv 0)),
 o 96 (.mv (tv 1)),
 o 97 (.mv (tv 2)),
 o 98 (.mv (tv 11)),
 oa 99 (.call (kf 167) [(false, (tv 95)), (false, (tv 96)), (false, (tv 97)), (false, (tv 98))] []) 5760,
 o 94 (.mv (tv 99)),
 o 100 (.ext 0 (tv 94)),
 o 101 (.ext 1 (tv 94)),
 o 14 (.mv (tv 100)),
 o 15 (.mv (tv 101))] [] [0, 1, 2, 3, 10, 14, 15])
 (.seq (.region [] [o 102 (.mv (tv 15)),
 o 9 (.mv (tv 102))] [] [0, 1, 2, 3, 9, 10, 14])
 (.seq (.region [] [o 103 (.mv (tv 14)),
 o 104 (.mv (tv 1)),
 o 105 (.bin .sub 0 (tv 103) (tv 104)),
 o 106 (.mv (tv 2)),
 o 107 (.mv (tv 14)),
 o 108 (.bin .sub 0 (tv 106) (tv 107)),
 o 16 (.mv (tv 105)),
 o 17 (.mv (tv 108))] [] [0, 1, 2, 3, 9, 10, 14, 16, 17])
 (.seq (.region [] [o 109 (.mv (tv 10)),
 o 110 (.bin .quo 0 (tv 109) (ki 8)),
 o 18 (.mv (tv 110))] [] [0, 1, 2, 3, 9, 14, 16, 17, 18])
 (.seq (.region [] [o 111 (.mv (tv 16)),
 o 112 (.mv (tv 17)),
 o 113 (.bin .lss 0 (tv 111) (tv 112))] [] [0, 1, 2, 3, 9, 14, 16, 17, 18, 113])
 (.cond (tv 113) (.seq (.region [] [o 114 (.mv (tv 16)),
 o 115 (.mv (tv 18)),
 o 116 (.bin .geq 0 (tv 114) (tv 115)),
 o 8 (.mv (tv 116))] [] [0, 1, 2, 3, 8, 9, 14])
 (.seq (.region [] [o 117 (.mv (tv 0)),
 o 118 (.mv (tv 1)),
 o 119 (.mv (tv 14)),
 o 120 (.mv (tv 3)),
 oa 121 (.call (kf 104) [(false, (tv 117)), (false, (tv 118)), (false, (tv 119)), (false, (tv 120))] []) 7680] [] [0, 2, 3, 8, 9, 14])
 (.region [] [o 122 (.mv (tv 14)),
 o 123 (.bin .add 0 (tv 122) (ki 1)),
 o 1 (.mv (tv 123))] [] [0, 1, 2, 3, 8, 9])))
 (.seq (.region [] [o 124 (.mv (tv 17)),
 o 125 (.mv (tv 18)),
 o 126 (.bin .geq 0 (tv 124) (tv 125)),
 o 8 (.mv (tv 126))] [] [0, 1, 2, 3, 8, 9, 14])
 (.seq (.region [] [o 127 (.mv (tv 0)),
 o 128 (.mv (tv 14)),
 o 129 (.bin .add 0 (tv 128) (ki 1)),
 o 130 (.mv (tv 2)),
 o 131 (.mv (tv 3)),
 oa 132 (.call (kf 104) [(false, (tv 127)), (false, (tv 129)), (false, (tv 130)), (false, (tv 131))] []) 8512] [] [0, 1, 3, 8, 9, 14])
 (.region [] [o 133 (.mv (tv 14)),
 o 2 (.mv (tv 133))] [] [0, 1, 2, 3, 8, 9]))))))))))))))))))

def v104 : VFun := ⟨4,
 (.seq (.region [] [o 8 (.mv kt)] [] [0, 1, 2, 3, 8])
 (.seq (.region [] [o 9 (.mv kt)] [] [0, 1, 2, 3, 8, 9])
 (.block 0 (.loop l104_0)))),
 [], false⟩

def v67 : VFun := ⟨2,
 (.seq (.region [] [o 4 (.mv (ki 0))] [] [0, 1])
 (.seq (.region [] [o 7 (.mv (tv 0)),
 oa 8 (.call (kf 106) [(false, (tv 7))] []) 192,
 o 5 (.mv (tv 8))] [] [0, 1, 5])
 (.seq (.region [] [o 9 (.mv (tv 1)),
 oa 10 (.call (kf 106) [(false, (tv 9))] []) 384,
 o 6 (.mv (tv 10))] [] [0, 1, 5, 6])
 (.seq (.seq (.region [] [o 11 (.mv (tv 5))] [] [0, 1, 6, 11])
 (.cond (tv 11) (.seq (.seq (.region [] [o 12 (.mv (tv 6))] [] [12])
 (.cond (tv 12) (.seq (.region [] [o 4 (.mv (ki 0))] [] [4])
 .ret)
 .skip))
 (.seq (.region [] [o 4 (.mv (ki (-1)))] [] [4])
 .ret))
 .skip))
 (.seq (.seq (.region [] [o 13 (.mv (tv 6))] [] [0, 1, 13])
 (.cond (tv 13) (.seq (.region [] [o 4 (.mv (ki 1))] [] [4])
 .ret)
 .skip))
 (.seq (.seq (.region [] [o 14 (.mv (tv 0)),
 o 15 (.mv (tv 1)),
 o 16 (.bin .lss 0 (tv 14) (tv 15))] [] [0, 1, 16])
 (.cond (tv 16) (.seq (.region [] [o 4 (.mv (ki (-1)))] [] [4])
 .ret)
 .skip))
 (.seq (.seq (.region [] [o 17 (.mv (tv 0)),
 o 18 (.mv (tv 1)),
 o 19 (.bin .gtr 0 (tv 17) (tv 18))] [] [19])
 (.cond (tv 19) (.seq (.region [] [o 4 (.mv (ki 1))] [] [4])
 .ret)
 .skip))
 (.seq (.region [] [o 4 (.mv (ki 0))] [] [4])
 .ret)))))))),
 [.tmp 4], false⟩

def v71 : VFun := ⟨1,
 (.seq (.region [] [oa 1 (.box (tv 0)) 64,
 o 2 (.mv (ki 0))] [] [1])
 (.seq (.seq (.region [] [o 3 (.fld 0 (tv 1)),
 o 4 (.load false 1 (tv 3))] [] [4])
 (.block 0 (.seq (.region [64] [o 6 (.bin .eql 0 (tv 4) (ki 4)),
 o 5 (.mv (tv 6))] [] [4, 5])
 (.cond (tv 5) (.seq (.region [] [o 2 (.mv (ki 0))] [] [2])
 .ret)
 (.seq (.region [] [o 8 (.bin .eql 0 (tv 4) (ki 8)),
 o 7 (.mv (tv 8))] [] [7])
 (.cond (tv 7) (.seq (.region [] [o 2 (.mv (ki 2))] [] [2])
 .ret)
 .skip))))))
 (.seq (.region [] [o 2 (.mv (ki 1))] [] [2])
 .ret))),
 [.tmp 2], false⟩

def l70_0 : VCode := (.seq (.region [] [o 9 (.bin .lss 0 (tv 8) (tv 7))] [] [3, 6, 7, 8, 9])
 (.seq (.cond (tv 9) .skip
 (.exit 0))
 (.seq (.block 1 (.seq (.region [] [o 10 (.idxA 1 (tv 6) (tv 8)),
 o 11 (.load false 1 (tv 10)),
 o 5 (.mv (tv 11))] [] [3, 5, 6, 7, 8])
 (.seq (.region [] [o 12 (.mv (tv 5)),
 o 13 (.mv (tv 3)),
 o 14 (.bin .neq 0 (tv 12) (tv 13))] [] [3, 5, 6, 7, 8, 14])
 (.cond (tv 14) (.seq (.region [] [o 15 (.mv (tv 5)),
 o 2 (.mv (tv 15))] [] [2])
 .ret)
 .skip))))
 (.region [] [o 16 (.bin .add 0 (tv 8) (ki 1)),
 o 8 (.mv (tv 16))] [] [3, 6, 7, 8]))))

def v70 : VFun := ⟨1,
 (.seq (.region [] [o 2 (.mv (ki 0))] [] [0])
 (.seq (.region [] [o 3 (.mv (ki 0))] [] [0, 3])
 (.seq (.seq (.region [] [o 6 (.mv (tv 0)),
 o 7 (.len false (tv 6)),
 o 8 (.mv (ki 0))] [] [3, 6, 7, 8])
 (.block 0 (.loop l70_0)))
 (.seq (.region [] [o 17 (.mv (tv 3)),
 o 2 (.mv (tv 17))] [] [2])
 .ret)))),
 [.tmp 2], false⟩

def v72 : VFun := ⟨1,
 (.seq (.region [] [o 2 (.mv kn)] [] [0])
 (.seq (.region [] [o 3 (.mv (tv 0)),
 o 4 (.mv (tv 0)),
 o 5 (.len false (tv 4)),
 o 6 (.mv (tv 0)),
 o 7 (.len false (tv 6)),
 o 8 (.sl 1 (tv 3) none (some (tv 5)) (some (tv 7))),
 o 2 (.mv (tv 8))] [] [2])
 .ret)),
 [.tmp 2], false⟩

def v108 : VFun := ⟨1,
 (.seq (.region [] [o 2 (.mv kF)] [] [0])
 (.seq (.region [] [o 3 (.mv (tv 0)),
 o 4 (.build [zi, zs, zi, zi, .nil] [(0, 1, (ki 4)), (1, 1, (tv 3))]),
 oa 5 (.call (kf 110) [(false, (tv 4))] []) 256,
 o 2 (.mv (tv 5))] [] [2])
 .ret)),
 [.tmp 2], false⟩

def v109 : VFun := ⟨1,
 (.seq (.region [] [o 2 (.mv kF)] [] [0])
 (.seq (.region [] [o 3 (.mv (tv 0)),
 o 4 (.build [zi, zs, zi, zi, .nil] [(0, 1, (ki 5)), (1, 1, (tv 3))]),
 oa 5 (.call (kf 110) [(false, (tv 4))] []) 256,
 o 2 (.mv (tv 5))] [] [2])
 .ret)),
 [.tmp 2], false⟩

def v110 : VFun := ⟨1,
 (.seq (.region [] [oa 1 (.box (tv 0)) 64,
 o 2 (.mv kF)] [] [1])
 (.seq (.region [] [o 4 (.fld 1 (tv 1)),
 o 5 (.load false 1 (tv 4)),
 o 6 (.bin .eql 0 (tv 5) (.k (.sc zs))),
 o 7 (.mv (tv 6)),
 og 8 (.fld 4 (tv 1)) 7 true,
 og 9 (.load false 1 (tv 8)) 7 true,
 og 10 (.len false (tv 9)) 7 true,
 og 11 (.bin .eql 0 (tv 10) (ki 0)) 7 true,
 o 12 (.pick (tv 7) (tv 11) kF),
 o 13 (.mv (tv 12)),
 og 14 (.fld 2 (tv 1)) 13 true,
 og 15 (.load false 1 (tv 14)) 13 true,
 og 16 (.bin .geq 0 (tv 15) (ki 0)) 13 true,
 o 17 (.pick (tv 13) (tv 16) kF),
 o 18 (.mv (tv 17)),
 og 19 (.fld 2 (tv 1)) 18 true,
 og 20 (.load false 1 (tv 19)) 18 true,
 og 21 (.bin .leq 0 (tv 20) (ki 1000000)) 18 true,
 o 22 (.pick (tv 18) (tv 21) kF),
 o 3 (.mv (tv 22))] [] [1, 3])
 (.seq (.seq (.region [] [o 23 (.fld 0 (tv 1)),
 o 24 (.load false 1 (tv 23))] [] [1, 3, 24])
 (.block 0 (.seq (.seq (.region [] [o 26 (.bin .eql 0 (tv 24) (ki 1)),
 o 25 (.mv (tv 26))] [] [1, 3, 24, 25])
 (.cond (tv 25) .skip
 (.region [] [o 27 (.bin .eql 0 (tv 24) (ki 2)),
 o 25 (.mv (tv 27))] [] [1, 3, 24, 25])))
 (.cond (tv 25) (.seq (.region [] [o 28 (.mv (tv 3)),
 o 29 (.mv (tv 28)),
 og 30 (.fld 3 (tv 1)) 29 true,
 og 31 (.load false 1 (tv 30)) 29 true,
 og 32 (.bin .eql 0 (tv 31) (ki 0)) 29 true,
 o 33 (.pick (tv 29) (tv 32) kF),
 o 2 (.mv (tv 33))] [] [2])
 .ret)
 (.seq (.region [] [o 35 (.bin .eql 0 (tv 24) (ki 3)),
 o 34 (.mv (tv 35))] [] [1, 3, 24, 34])
 (.cond (tv 34) (.seq (.region [] [o 36 (.mv (tv 3)),
 o 37 (.mv (tv 36)),
 og 38 (.fld 3 (tv 1)) 37 true,
 og 39 (.load false 1 (tv 38)) 37 true,
 og 40 (.bin .geq 0 (tv 39) (ki (-1))) 37 true,
 o 41 (.pick (tv 37) (tv 40) kF),
 o 42 (.mv (tv 41)),
 og 43 (.fld 3 (tv 1)) 42 true,
 og 44 (.load false 1 (tv 43)) 42 true,
 og 45 (.bin .leq 0 (tv 44) (ki 1000000)) 42 true,
 o 46 (.pick (tv 42) (tv 45) kF),
 o 2 (.mv (tv 46))] [] [2])
 .ret)
 (.seq (.region [] [o 48 (.bin .eql 0 (tv 24) (ki 5)),
 o 47 (.mv (tv 48))] [] [1, 24, 47])
 (.cond (tv 47) (.seq (.region [] [o 49 (.fld 4 (tv 1)),
 o 50 (.load false 1 (tv 49)),
 o 51 (.len false (tv 50)),
 o 52 (.bin .eql 0 (tv 51) (ki 0)),
 o 53 (.mv (tv 52)),
 og 54 (.fld 2 (tv 1)) 53 true,
 og 55 (.load false 1 (tv 54)) 53 true,
 og 56 (.bin .eql 0 (tv 55) (ki 0)) 53 true,
 o 57 (.pick (tv 53) (tv 56) kF),
 o 58 (.mv (tv 57)),
 og 59 (.fld 3 (tv 1)) 58 true,
 og 60 (.load false 1 (tv 59)) 58 true,
 og 61 (.bin .eql 0 (tv 60) (ki 0)) 58 true,
 o 62 (.pick (tv 58) (tv 61) kF),
 o 63 (.mv (tv 62)),
 og 64 (.fld 1 (tv 1)) 63 true,
 og 65 (.load false 1 (tv 64)) 63 true,
 ⟨(some 66), (.call (kf 170) [(false, (tv 65)), (false, (.k (.sc (.c (.int .u8 97))))), (false, (.k (.sc (.c (.int .u8 122)))))] []), (some (63, true)), 4416, []⟩,
 o 67 (.pick (tv 63) (tv 66) kF),
 o 2 (.mv (tv 67))] [] [2])
 .ret)
 (.seq (.region [] [o 69 (.bin .eql 0 (tv 24) (ki 4)),
 o 68 (.mv (tv 69))] [] [1, 68])
 (.cond (tv 68) (.seq (.region [] [o 70 (.fld 2 (tv 1)),
 o 71 (.load false 1 (tv 70)),
 o 72 (.bin .eql 0 (tv 71) (ki 0)),
 o 73 (.mv (tv 72)),
 og 74 (.fld 3 (tv 1)) 73 true,
 og 75 (.load false 1 (tv 74)) 73 true,
 og 76 (.bin .eql 0 (tv 75) (ki 0)) 73 true,
 o 77 (.pick (tv 73) (tv 76) kF),
 o 78 (.mv (tv 77)),
 og 79 (.fld 1 (tv 1)) 78 true,
 og 80 (.load false 1 (tv 79)) 78 true,
 og 81 (.fld 4 (tv 1)) 78 true,
 og 82 (.load false 1 (tv 81)) 78 true,
 og 83 (.len false (tv 82)) 78 true,
 ⟨(some 84), (.call (kf 171) [(false, (tv 80)), (false, (tv 83))] []), (some (78, true)), 5632, []⟩,
 o 85 (.pick (tv 78) (tv 84) kF),
 o 86 (.mv (tv 85)),
 og 87 (.fld 4 (tv 1)) 86 true,
 og 88 (.load false 1 (tv 87)) 86 true,
 ⟨(some 89), (.call (kf 172) [(false, (tv 88)), (true, (kf 173))] []), (some (86, true)), 5952, []⟩,
 og 90 (.un .not (tv 89)) 86 true,
 o 91 (.pick (tv 86) (tv 90) kF),
 o 2 (.mv (tv 91))] [] [2])
 .ret)
 .skip))))))))))
 (.seq (.region [] [o 2 (.mv kF)] [] [2])
 .ret)))),
 [.tmp 2], false⟩

def v111 : VFun := ⟨1,
 (.seq (.region [] [oa 1 (.box (tv 0)) 64,
 o 2 (.mv kF)] [] [1])
 (.seq (.seq (.region [] [o 3 (.fld 0 (tv 1)),
 o 4 (.load false 1 (tv 3)),
 o 5 (.bin .neq 0 (tv 4) (ki 4)),
 o 6 (.mv (tv 5)),
 og 7 (.fld 0 (tv 1)) 6 true,
 og 8 (.load false 1 (tv 7)) 6 true,
 og 9 (.bin .neq 0 (tv 8) (ki 5)) 6 true,
 o 10 (.pick (tv 6) (tv 9) kF)] [] [1, 10])
 (.cond (tv 10) (.seq (.region [] [o 2 (.mv kF)] [] [2])
 .ret)
 .skip))
 (.seq (.region [] [o 11 (.fld 4 (tv 1)),
 o 12 (.load false 1 (tv 11)),
 oa 13 (.call (kf 172) [(false, (tv 12)), (true, (kf 174))] []) 896,
 o 14 (.un .not (tv 13)),
 o 2 (.mv (tv 14))] [] [2])
 .ret))),
 [.tmp 2], false⟩

def v112 : VFun := ⟨2,
 (.seq (.region [] [oa 2 (.box (tv 0)) 64,
 oa 3 (.box (tv 1)) 128,
 o 4 (.mv kF)] [] [2, 3])
 (.seq (.region [] [o 5 (.load true 5 (tv 2)),
 o 6 (.load true 5 (tv 3)),
 oa 7 (.call (kf 175) [(false, (tv 5)), (false, (tv 6))] []) 384,
 o 8 (.bin .eql 0 (tv 7) (ki 0)),
 o 4 (.mv (tv 8))] [] [4])
 .ret)),
 [.tmp 4], false⟩

def v113 : VFun := ⟨2,
 (.seq (.region [] [o 4 (.mv kF)] [] [0, 1])
 (.seq (.region [] [o 5 (.mv (tv 0)),
 o 6 (.mv (tv 1)),
 oa 7 (.call (kf 176) [(false, (tv 5)), (true, (tv 6))] []) 256,
 o 8 (.bin .geq 0 (tv 7) (ki 0)),
 o 4 (.mv (tv 8))] [] [4])
 .ret)),
 [.tmp 4], false⟩

def v114 : VFun := ⟨1,
 (.seq (.region [] [o 2 (.mv kF)] [] [0])
 (.seq (.region [] [o 3 (.mv (tv 0)),
 oa 4 (.call (kf 109) [(false, (tv 3))] []) 192,
 o 5 (.un .not (tv 4)),
 o 2 (.mv (tv 5))] [] [2])
 .ret)),
 [.tmp 2], false⟩

def v115 : VFun := ⟨2,
 (.seq (.region [] [o 4 (.mv kF)] [] [0, 1])
 (.seq (.region [] [o 5 (.mv (tv 0)),
 o 6 (.mv (tv 1)),
 oa 7 (.call (kf 177) [(false, (tv 5)), (true, (tv 6))] []) 256,
 o 8 (.bin .geq 0 (tv 7) (ki 0)),
 o 4 (.mv (tv 8))] [] [4])
 .ret)),
 [.tmp 4], false⟩

def v116 : VFun := ⟨1,
 (.seq (.region [] [oa 1 (.box (tv 0)) 64,
 o 2 (.mv kF)] [] [1])
 (.seq (.region [] [o 3 (.load true 11 (tv 1)),
 oa 4 (.call (kf 74) [(false, (tv 3))] []) 256,
 o 5 (.un .not (tv 4)),
 o 2 (.mv (tv 5))] [] [2])
 .ret)),
 [.tmp 2], false⟩

def l107_0 : VCode := (.seq (.seq (.region [] [o 7 (.mv (tv 2)),
 o 8 (.mv (tv 3)),
 o 9 (.bin .lss 0 (tv 7) (tv 8))] [] [0, 2, 3, 9])
 (.cond (tv 9) .skip
 (.exit 0)))
 (.seq (.block 1 (.region [] [o 14 (.mv (tv 0)),
 o 15 (.mv (tv 2)),
 o 16 (.mv (tv 0)),
 o 17 (.mv (tv 3)),
 o 18 (.mv (tv 0)),
 o 19 (.mv (tv 3)),
 o 20 (.idxA 11 (tv 18) (tv 19)),
 o 21 (.load true 11 (tv 20)),
 o 22 (.mv (tv 0)),
 o 23 (.mv (tv 2)),
 o 24 (.idxA 11 (tv 22) (tv 23)),
 o 25 (.load true 11 (tv 24)),
 o 26 (.idxA 11 (tv 14) (tv 15)),
 on (.store 11 (tv 26) (tv 21) []),
 o 27 (.idxA 11 (tv 16) (tv 17)),
 on (.store 11 (tv 27) (tv 25) [])] [(6, 10), (7, 10), (6, 11), (7, 11)] [0, 2, 3]))
 (.region [] [o 10 (.mv (tv 2)),
 o 11 (.bin .add 0 (tv 10) (ki 1)),
 o 12 (.mv (tv 3)),
 o 13 (.bin .sub 0 (tv 12) (ki 1)),
 o 2 (.mv (tv 11)),
 o 3 (.mv (tv 13))] [] [0, 2, 3])))

def v107 : VFun := ⟨1,
 (.seq (.region [] [o 4 (.mv (tv 0)),
 o 5 (.len false (tv 4)),
 o 6 (.bin .sub 0 (tv 5) (ki 1)),
 o 2 (.mv (ki 0)),
 o 3 (.mv (tv 6))] [] [0, 2, 3])
 (.block 0 (.loop l107_0))),
 [], false⟩

def v121 : VFun := ⟨1,
 (.seq (.region [] [oa 2 (.new [zi, zs, zi, zi, .nil] []) 64] [] [0, 2])
 (.seq (.region [] [o 3 (.mv (tv 0)),
 o 4 (.build [zi, zs, zi, zi, .nil] [(0, 1, (ki 1)), (2, 1, (tv 3))]),
 on (.store 5 (tv 2) (tv 4) [])] [] [2])
 .ret)),
 [.cell 2 true 5], false⟩

def l117_0 : VCode := (.seq (.seq (.region [] [o 7 (.mv (tv 4)),
 o 8 (.mv (tv 0)),
 o 9 (.len false (tv 8)),
 o 10 (.bin .lss 0 (tv 7) (tv 9))] [] [0, 3, 4, 10])
 (.cond (tv 10) .skip
 (.exit 0)))
 (.seq (.block 1 (.region [] [o 13 (.mv (tv 3)),
 o 14 (.mv (tv 0)),
 o 15 (.mv (tv 4)),
 o 16 (.idxA 5 (tv 14) (tv 15)),
 o 17 (.load true 5 (tv 16)),
 oa 18 (.call (kf 178) [(true, (tv 13)), (false, (tv 17)), (false, (ki 1))] []) 832,
 o 3 (.mv (tv 18))] [] [0, 3, 4]))
 (.region [864, 865, 866] [o 11 (.mv (tv 4)),
 o 12 (.bin .add 0 (tv 11) (ki 1)),
 o 4 (.mv (tv 12))] [] [0, 3, 4])))

def l117_1 : VCode := (.seq (.seq (.region [] [o 19 (.mv (tv 6)),
 o 20 (.mv (tv 3)),
 o 21 (.len false (tv 20)),
 o 22 (.bin .lss 0 (tv 19) (tv 21))] [] [3, 5, 6, 22])
 (.cond (tv 22) .skip
 (.exit 2)))
 (.seq (.block 3 (.seq (.region [] [o 25 (.mv (tv 5)),
 o 26 (.mv (tv 3)),
 o 27 (.mv (tv 6)),
 o 28 (.idxA 5 (tv 26) (tv 27)),
 o 29 (.fld 2 (tv 28)),
 o 30 (.load false 1 (tv 29)),
 oa 31 (.call (kf 118) [(false, (tv 25)), (false, (tv 30))] []) 1920,
 o 32 (.un .not (tv 31))] [] [3, 5, 6, 32])
 (.cond (tv 32) (.region [] [o 33 (.mv (tv 5)),
 o 34 (.mv (tv 3)),
 o 35 (.mv (tv 6)),
 o 36 (.idxA 5 (tv 34) (tv 35)),
 o 37 (.fld 2 (tv 36)),
 o 38 (.load false 1 (tv 37)),
 oa 39 (.mkSl 1 [(tv 38)]) 2432,
 o 40 (.app 1 8 false (tv 33) (tv 39)),
 o 5 (.mv (tv 40))] [] [3, 5, 6])
 .skip)))
 (.region [2432] [o 23 (.mv (tv 6)),
 o 24 (.bin .add 0 (tv 23) (ki 1)),
 o 6 (.mv (tv 24))] [] [3, 5, 6])))

def v117 : VFun := ⟨1,
 (.seq (.region [] [o 2 (.mv kn)] [] [0])
 (.seq (.region [] [⟨(some 3), (.mv kn), none, 128, [(0, 5)]⟩] [] [0, 3])
 (.seq (.seq (.region [] [o 4 (.mv (ki 0))] [] [0, 3, 4])
 (.block 0 (.loop l117_0)))
 (.seq (.region [] [⟨(some 5), (.mv kn), none, 1152, [(0, 1)]⟩] [] [3, 5])
 (.seq (.seq (.region [] [o 6 (.mv (ki 0))] [] [3, 5, 6])
 (.block 2 (.loop l117_1)))
 (.seq (.region [] [o 41 (.mv (tv 5)),
 o 2 (.mv (tv 41))] [] [2])
 .ret)))))),
 [.tmp 2], false⟩

def l118_0 : VCode := (.seq (.seq (.region [] [o 6 (.mv (tv 5)),
 o 7 (.mv (tv 0)),
 o 8 (.len false (tv 7)),
 o 9 (.bin .lss 0 (tv 6) (tv 8))] [] [0, 1, 5, 9])
 (.cond (tv 9) .skip
 (.exit 0)))
 (.seq (.block 1 (.seq (.region [] [o 12 (.mv (tv 0)),
 o 13 (.mv (tv 5)),
 o 14 (.idxA 1 (tv 12) (tv 13)),
 o 15 (.load false 1 (tv 14)),
 o 16 (.mv (tv 1)),
 o 17 (.bin .eql 0 (tv 15) (tv 16))] [] [0, 1, 5, 17])
 (.cond (tv 17) (.seq (.region [] [o 4 (.mv kt)] [] [4])
 .ret)
 .skip)))
 (.region [] [o 10 (.mv (tv 5)),
 o 11 (.bin .add 0 (tv 10) (ki 1)),
 o 5 (.mv (tv 11))] [] [0, 1, 5])))

def v118 : VFun := ⟨2,
 (.seq (.region [] [o 4 (.mv kF)] [] [0, 1])
 (.seq (.seq (.region [] [o 5 (.mv (ki 0))] [] [0, 1, 5])
 (.block 0 (.loop l118_0)))
 (.seq (.region [] [o 4 (.mv kF)] [] [4])
 .ret))),
 [.tmp 4], false⟩

def v119 : VFun := ⟨1,
 (.seq (.region [] [oa 2 (.new [zi, zs, zi, zi, .nil] []) 64] [] [0, 2])
 (.seq (.region [] [o 3 (.mv (tv 0)),
 o 4 (.build [zi, zs, zi, zi, .nil] [(0, 1, (ki 2)), (2, 1, (tv 3))]),
 on (.store 5 (tv 2) (tv 4) [])] [] [2])
 .ret)),
 [.cell 2 true 5], false⟩

def l120_0 : VCode := (.seq (.seq (.region [] [o 11 (.mv (tv 5)),
 o 12 (.mv (tv 1)),
 o 13 (.len false (tv 12)),
 o 14 (.bin .lss 0 (tv 11) (tv 13))] [] [1, 2, 4, 5, 14])
 (.cond (tv 14) .skip
 (.exit 0)))
 (.seq (.block 1 (.seq (.region [] [o 17 (.mv (tv 1)),
 o 18 (.mv (tv 5)),
 o 19 (.idxA 6 (tv 17) (tv 18)),
 o 20 (.fld 0 (tv 19)),
 o 21 (.load false 1 (tv 20)),
 o 22 (.fld 2 (tv 2)),
 o 23 (.load false 1 (tv 22)),
 o 24 (.bin .eql 0 (tv 21) (tv 23))] [(2, 5), (3, 5), (4, 5), (2, 6), (3, 6), (4, 6)] [1, 2, 4, 5, 24])
 (.cond (tv 24) (.seq (.region [] [o 25 (.mv (tv 1)),
 o 26 (.mv (tv 5)),
 o 27 (.idxA 6 (tv 25) (tv 26)),
 o 28 (.fld 1 (tv 27)),
 o 29 (.load true 5 (tv 28)),
 on (.store 5 (tv 4) (tv 29) [])] [] [4])
 .ret)
 .skip)))
 (.region [] [o 15 (.mv (tv 5)),
 o 16 (.bin .add 0 (tv 15) (ki 1)),
 o 5 (.mv (tv 16))] [] [1, 2, 4, 5])))

def l120_1 : VCode := (.seq (.seq (.region [] [o 33 (.mv (tv 7)),
 o 34 (.fld 4 (tv 2)),
 o 35 (.load false 1 (tv 34)),
 o 36 (.len false (tv 35)),
 o 37 (.bin .lss 0 (tv 33) (tv 36))] [] [1, 2, 4, 6, 7, 37])
 (.cond (tv 37) .skip
 (.exit 2)))
 (.seq (.block 3 (.region [] [o 40 (.fld 4 (tv 6)),
 o 41 (.load false 1 (tv 40)),
 o 42 (.fld 4 (tv 2)),
 o 43 (.load false 1 (tv 42)),
 o 44 (.mv (tv 7)),
 o 45 (.idxA 5 (tv 43) (tv 44)),
 o 46 (.load true 5 (tv 45)),
 o 47 (.mv (tv 1)),
 oa 48 (.call (kf 120) [(false, (tv 46)), (false, (tv 47))] []) 3136,
 oa 49 (.mkSl 5 [(tv 48)]) 3200,
 o 50 (.app 5 64 false (tv 41) (tv 49)),
 o 51 (.fld 4 (tv 6)),
 on (.store 1 (tv 51) (tv 50) [])] [(0, 2), (1, 2), (0, 3), (1, 3), (0, 5), (1, 5), (0, 6), (1, 6), (0, 8), (1, 8), (0, 9), (1, 9)] [1, 2, 4, 6, 7]))
 (.region [3200] [o 38 (.mv (tv 7)),
 o 39 (.bin .add 0 (tv 38) (ki 1)),
 o 7 (.mv (tv 39))] [] [1, 2, 4, 6, 7])))

def v120 : VFun := ⟨2,
 (.seq (.region [] [oa 2 (.box (tv 0)) 64,
 oa 4 (.new [zi, zs, zi, zi, .nil] []) 128] [] [1, 2, 4])
 (.seq (.seq (.region [] [o 8 (.fld 0 (tv 2)),
 o 9 (.load false 1 (tv 8)),
 o 10 (.bin .eql 0 (tv 9) (ki 1))] [] [1, 2, 4, 10])
 (.cond (tv 10) (.seq (.seq (.region [] [o 5 (.mv (ki 0))] [] [1, 2, 4, 5])
 (.block 0 (.loop l120_0)))
 (.seq (.region [] [o 30 (.load true 5 (tv 2)),
 on (.store 5 (tv 4) (tv 30) [])] [] [4])
 .ret))
 .skip))
 (.seq (.region [] [o 31 (.load true 5 (tv 2)),
 oa 6 (.new [zi, zs, zi, zi, .nil] []) 1984,
 ⟨none, (.store 5 (tv 6) (tv 31) [(4, 5)]), none, 2048, []⟩] [] [1, 2, 4, 6])
 (.seq (.region [] [o 32 (.fld 4 (tv 6)),
 ⟨none, (.store 1 (tv 32) kn [(0, 5)]), none, 2176, []⟩] [] [1, 2, 4, 6])
 (.seq (.seq (.region [] [o 7 (.mv (ki 0))] [] [1, 2, 4, 6, 7])
 (.block 2 (.loop l120_1)))
 (.seq (.region [] [o 52 (.ldD true 5 (tv 6)),
 on (.store 5 (tv 4) (tv 52) [])] [] [4])
 .ret)))))),
 [.cell 4 true 5], false⟩

def v123 : VFun := ⟨2,
 (.seq (.region [] [oa 2 (.box (tv 0)) 64,
 o 3 (.mv kF)] [] [1, 2])
 (.seq (.region [] [o 4 (.fld 0 (tv 2)),
 o 5 (.load false 1 (tv 4)),
 o 6 (.fld 0 (tv 1)),
 o 7 (.load false 1 (tv 6)),
 o 8 (.bin .eql 0 (tv 5) (tv 7)),
 o 3 (.mv (tv 8))] [] [3])
 .ret)),
 [.tmp 3], false⟩

def v122 : VFun := ⟨2,
 (.seq (.region [] [o 4 (.mv kF)] [] [0, 1])
 (.seq (.region [] [o 5 (.mv (tv 0)),
 o 6 (.mv (tv 1)),
 oa 7 (.call (kf 179) [(false, (tv 5)), (true, (tv 6))] []) 256,
 o 8 (.bin .geq 0 (tv 7) (ki 0)),
 o 4 (.mv (tv 8))] [] [4])
 .ret)),
 [.tmp 4], false⟩

def l128_0 : VCode := (.seq (.seq (.region [] [o 42 (.mv (tv 5)),
 o 43 (.mv (tv 0)),
 o 44 (.len true (tv 43)),
 o 45 (.bin .lss 0 (tv 42) (tv 44)),
 o 46 (.mv (tv 45)),
 og 47 (.mv (tv 0)) 46 true,
 og 48 (.mv (tv 5)) 46 true,
 og 49 (.idxS (tv 47) (tv 48)) 46 true,
 og 50 (.bin .neq 0 (tv 49) (.k (.sc (.c (.int .u8 10))))) 46 true,
 o 51 (.pick (tv 46) (tv 50) kF)] [] [0, 3, 4, 5, 51])
 (.cond (tv 51) .skip
 (.exit 3)))
 (.block 4 (.region [] [o 52 (.mv (tv 5)),
 o 53 (.bin .add 0 (tv 52) (ki 1)),
 o 5 (.mv (tv 53))] [] [0, 3, 4, 5])))

def l128_1 : VCode := (.seq (.seq (.region [] [o 57 (.mv (tv 7)),
 o 58 (.mv (tv 0)),
 o 59 (.len true (tv 58)),
 o 60 (.bin .lss 0 (tv 57) (tv 59)),
 o 61 (.mv (tv 60)),
 og 62 (.mv (tv 0)) 61 true,
 og 63 (.mv (tv 7)) 61 true,
 og 64 (.idxS (tv 62) (tv 63)) 61 true,
 ⟨(some 65), (.call (kf 185) [(false, (tv 64))] []), (some (61, true)), 4288, []⟩,
 o 66 (.pick (tv 61) (tv 65) kF)] [] [0, 3, 4, 5, 7, 66])
 (.cond (tv 66) .skip
 (.exit 5)))
 (.block 6 (.region [] [o 67 (.mv (tv 7)),
 o 68 (.bin .add 0 (tv 67) (ki 1)),
 o 7 (.mv (tv 68))] [] [0, 3, 4, 5, 7])))

def l128_2 : VCode := (.seq (.seq (.region [] [o 13 (.mv (tv 5)),
 o 14 (.mv (tv 0)),
 o 15 (.len true (tv 14)),
 o 16 (.bin .lss 0 (tv 13) (tv 15))] [] [0, 3, 4, 5, 16])
 (.cond (tv 16) .skip
 (.exit 0)))
 (.block 1 (.seq (.region [] [o 17 (.mv (tv 0)),
 o 18 (.mv (tv 5)),
 o 19 (.idxS (tv 17) (tv 18)),
 o 6 (.mv (tv 19))] [] [0, 3, 4, 5, 6])
 (.seq (.region [] [o 20 (.mv (tv 5)),
 o 21 (.bin .add 0 (tv 20) (ki 1)),
 o 7 (.mv (tv 21))] [] [0, 3, 4, 5, 6, 7])
 (.seq (.block 2 (.seq (.region [] [o 23 (.mv (tv 6)),
 o 24 (.bin .eql 0 (tv 23) (.k (.sc (.c (.int .u8 32))))),
 o 25 (.mv (tv 24)),
 og 26 (.mv (tv 6)) 25 false,
 og 27 (.bin .eql 0 (tv 26) (.k (.sc (.c (.int .u8 9))))) 25 false,
 o 28 (.pick (tv 25) kt (tv 27)),
 o 29 (.mv (tv 28)),
 og 30 (.mv (tv 6)) 29 false,
 og 31 (.bin .eql 0 (tv 30) (.k (.sc (.c (.int .u8 13))))) 29 false,
 o 32 (.pick (tv 29) kt (tv 31)),
 o 33 (.mv (tv 32)),
 og 34 (.mv (tv 6)) 33 false,
 og 35 (.bin .eql 0 (tv 34) (.k (.sc (.c (.int .u8 10))))) 33 false,
 o 36 (.pick (tv 33) kt (tv 35)),
 o 22 (.mv (tv 36))] [] [0, 3, 4, 5, 6, 7, 22])
 (.cond (tv 22) (.seq (.region [] [o 37 (.mv (tv 5)),
 o 38 (.bin .add 0 (tv 37) (ki 1)),
 o 5 (.mv (tv 38))] [] [0, 3, 4, 5])
 (.exit 1))
 (.seq (.region [] [o 40 (.mv (tv 6)),
 o 41 (.bin .eql 0 (tv 40) (.k (.sc (.c (.int .u8 35))))),
 o 39 (.mv (tv 41))] [] [0, 3, 4, 5, 6, 7, 39])
 (.cond (tv 39) (.seq (.block 3 (.loop l128_0))
 (.exit 1))
 (.seq (.region [] [o 55 (.mv (tv 6)),
 oa 56 (.call (kf 185) [(false, (tv 55))] []) 3648,
 o 54 (.mv (tv 56))] [] [0, 3, 4, 5, 6, 7, 54])
 (.cond (tv 54) (.block 5 (.loop l128_1))
 (.seq (.region [] [o 70 (.mv (tv 6)),
 o 71 (.bin .eql 0 (tv 70) (.k (.sc (.c (.int .u8 45))))),
 o 72 (.mv (tv 71)),
 og 73 (.mv (tv 7)) 72 true,
 og 74 (.mv (tv 0)) 72 true,
 og 75 (.len true (tv 74)) 72 true,
 og 76 (.bin .lss 0 (tv 73) (tv 75)) 72 true,
 o 77 (.pick (tv 72) (tv 76) kF),
 o 78 (.mv (tv 77)),
 og 79 (.mv (tv 0)) 78 true,
 og 80 (.mv (tv 7)) 78 true,
 og 81 (.idxS (tv 79) (tv 80)) 78 true,
 og 82 (.bin .eql 0 (tv 81) (.k (.sc (.c (.int .u8 62))))) 78 true,
 o 83 (.pick (tv 78) (tv 82) kF),
 o 69 (.mv (tv 83))] [] [0, 3, 4, 5, 7, 69])
 (.cond (tv 69) (.region [] [o 84 (.mv (tv 7)),
 o 85 (.bin .add 0 (tv 84) (ki 1)),
 o 7 (.mv (tv 85))] [] [0, 3, 4, 5, 7])
 .skip)))))))))
 (.seq (.region [] [o 86 (.mv (tv 0)),
 o 87 (.mv (tv 5)),
 o 88 (.mv (tv 7)),
 o 89 (.slS (tv 86) (some (tv 87)) (some (tv 88))),
 oa 90 (.call (kf 186) [(false, (tv 89))] []) 6016,
 o 8 (.mv (tv 90))] [] [0, 3, 4, 5, 7, 8])
 (.seq (.seq (.region [] [o 91 (.mv (tv 8)),
 o 92 (.bin .eql 0 (tv 91) (ki 0))] [] [0, 3, 4, 5, 7, 8, 92])
 (.cond (tv 92) (.seq (.region [] [o 93 (.mv (tv 5)),
 o 94 (.build [zi, zi] [(0, 1, (ki 2)), (1, 1, (tv 93))]),
 o 2 (.mv kn),
 on (.store 2 (tv 3) (tv 94) [])] [] [2, 3])
 .ret)
 .skip))
 (.seq (.region [7040] [o 95 (.mv (tv 4)),
 o 96 (.mv (tv 8)),
 o 97 (.mv (tv 0)),
 o 98 (.mv (tv 5)),
 o 99 (.mv (tv 7)),
 o 100 (.slS (tv 97) (some (tv 98)) (some (tv 99))),
 o 101 (.mv (tv 5)),
 o 102 (.build [zi, zs, zi] [(0, 1, (tv 96)), (1, 1, (tv 100)), (2, 1, (tv 101))]),
 oa 103 (.mkSl 3 [(tv 102)]) 7040,
 o 104 (.app 3 32 false (tv 95) (tv 103)),
 o 4 (.mv (tv 104))] [] [0, 3, 4, 7])
 (.region [7040] [o 105 (.mv (tv 7)),
 o 5 (.mv (tv 105))] [] [0, 3, 4, 5])))))))))

def v128 : VFun := ⟨1,
 (.seq (.region [] [o 2 (.mv kn),
 oa 3 (.new [zi, zi] []) 128] [] [0, 3])
 (.seq (.seq (.region [] [o 9 (.mv (tv 0)),
 o 10 (.len true (tv 9)),
 o 11 (.bin .gtr 0 (tv 10) (ki 4000))] [] [0, 3, 11])
 (.cond (tv 11) (.seq (.region [] [o 12 (.build [zi, zi] [(0, 1, (ki 1))]),
 o 2 (.mv kn),
 on (.store 2 (tv 3) (tv 12) [])] [] [2, 3])
 .ret)
 .skip))
 (.seq (.region [] [⟨(some 4), (.mv kn), none, 576, [(0, 3)]⟩] [] [0, 3, 4])
 (.seq (.seq (.region [] [o 5 (.mv (ki 0))] [] [0, 3, 4, 5])
 (.block 0 (.loop l128_2)))
 (.seq (.region [] [o 106 (.mv (tv 4)),
 o 107 (.build [zi, zi] []),
 o 2 (.mv (tv 106)),
 on (.store 2 (tv 3) (tv 107) [])] [] [2, 3])
 .ret))))),
 [.tmp 2, .cell 3 true 2], false⟩

def v129 : VFun := ⟨2,
 (.seq (.region [] [o 4 (.mv (.k (.sc (.c .nilptr))))] [] [0, 1])
 (.seq (.seq (.region [] [o 5 (.mv (tv 1)),
 o 6 (.bin .lss 0 (tv 5) (ki 0)),
 o 7 (.mv (tv 6)),
 og 8 (.mv (tv 1)) 7 false,
 og 9 (.mv (tv 0)) 7 false,
 og 10 (.len false (tv 9)) 7 false,
 og 11 (.bin .gtr 0 (tv 8) (tv 10)) 7 false,
 o 12 (.pick (tv 7) kt (tv 11))] [] [0, 1, 12])
 (.cond (tv 12) (.region [] [o 13 (.mv (tv 0)),
 o 14 (.len false (tv 13)),
 o 1 (.mv (tv 14))] [] [0, 1])
 .skip))
 (.seq (.region [] [o 15 (.mv (tv 0)),
 o 16 (.mv (tv 1)),
 o 17 (.build [.nil, zi, (.c (.bool false)), zi] [(0, 1, (tv 15)), (1, 1, (tv 16))]),
 oa 18 (.box (tv 17)) 1024,
 o 4 (.mv (tv 18))] [] [4])
 .ret))),
 [.tmp 4], true⟩

def l130_0 : VCode := (.seq (.seq (.region [] [o 69 (.mv (tv 0)),
 o 70 (.nn (tv 69)),
 o 71 (.fld 2 (tv 70)),
 o 72 (.load false 1 (tv 71)),
 o 73 (.un .not (tv 72)),
 o 74 (.mv (tv 73)),
 og 75 (.mv (tv 0)) 74 true,
 og 76 (.nn (tv 75)) 74 true,
 og 77 (.fld 1 (tv 76)) 74 true,
 og 78 (.load false 1 (tv 77)) 74 true,
 og 79 (.mv (tv 0)) 74 true,
 og 80 (.nn (tv 79)) 74 true,
 og 81 (.fld 0 (tv 80)) 74 true,
 og 82 (.load false 1 (tv 81)) 74 true,
 og 83 (.len false (tv 82)) 74 true,
 og 84 (.bin .lss 0 (tv 78) (tv 83)) 74 true,
 o 85 (.pick (tv 74) (tv 84) kF),
 o 86 (.mv (tv 85)),
 og 87 (.mv (tv 0)) 86 true,
 og 88 (.nn (tv 87)) 86 true,
 og 89 (.fld 0 (tv 88)) 86 true,
 og 90 (.load false 1 (tv 89)) 86 true,
 og 91 (.mv (tv 0)) 86 true,
 og 92 (.nn (tv 91)) 86 true,
 og 93 (.fld 1 (tv 92)) 86 true,
 og 94 (.load false 1 (tv 93)) 86 true,
 og 95 (.idxA 3 (tv 90) (tv 94)) 86 true,
 og 96 (.load true 3 (tv 95)) 86 true,
 ⟨(some 97), (.call (kf 193) [(false, (tv 96))] []), (some (86, true)), 6656, []⟩,
 o 98 (.pick (tv 86) (tv 97) kF)] [(7, 11), (8, 11), (9, 11), (7, 12), (8, 12), (9, 12), (7, 13), (8, 13), (9, 13), (7, 14), (8, 14), (9, 14), (19, 23), (20, 23), (21, 23), (19, 24), (20, 24), (21, 24), (19, 25), (20, 25), (21, 25)] [0, 2, 8, 98])
 (.cond (tv 98) .skip
 (.exit 1)))
 (.block 2 (.seq (.region [6912] [o 99 (.mv (tv 0)),
 oa 100 (.call (kf 192) [(true, (tv 99))] []) 6848,
 oa 9 (.new [zi, zi, zs, zi, .nil, .nil, zi, zs, zi, zi, .nil] []) 6912,
 on (.store 11 (tv 9) (tv 100) [])] [] [0, 2, 8, 9])
 (.region [7296] [o 101 (.fld 1 (tv 8)),
 o 102 (.load false 1 (tv 101)),
 o 103 (.load true 11 (tv 8)),
 o 104 (.load true 11 (tv 9)),
 oa 105 (.mkSl 11 [(tv 103), (tv 104)]) 7296,
 o 106 (.build [zi, zi, zs, zi, .nil, .nil, zi, zs, zi, zi, .nil] [(0, 1, (ki 5)), (1, 1, (tv 102)), (4, 1, (tv 105))]),
 on (.store 11 (tv 8) (tv 106) [])] [] [0, 2, 8]))))

def v130 : VFun := ⟨1,
 (.seq (.region [] [oa 2 (.new [zi, zi, zs, zi, .nil, .nil, zi, zs, zi, zi, .nil] []) 64] [] [0, 2])
 (.seq (.region [] [o 10 (.mv (tv 0)),
 oa 11 (.call (kf 187) [(true, (tv 10))] []) 192,
 o 3 (.mv (tv 11))] [] [0, 2, 3])
 (.seq (.block 0 (.seq (.region [] [o 13 (.mv (tv 0)),
 oa 14 (.call (kf 188) [(true, (tv 13)), (false, (.k (.sc (.c (.str [92])))))] []) 384,
 o 12 (.mv (tv 14))] [] [0, 2, 3, 12])
 (.cond (tv 12) (.seq (.region [] [o 15 (.mv (tv 0)),
 oa 16 (.call (kf 189) [(true, (tv 15)), (false, (ki 1))] []) 576,
 o 4 (.mv (tv 16))] [] [0, 2, 3, 4])
 (.seq (.region [] [o 17 (.mv (tv 0)),
 oa 18 (.call (kf 190) [(true, (tv 17)), (false, (.k (.sc (.c (.str [46])))))] []) 768] [] [0, 2, 3, 4])
 (.seq (.seq (.region [] [o 19 (.mv (tv 0)),
 o 20 (.nn (tv 19)),
 o 21 (.fld 2 (tv 20)),
 o 22 (.load false 1 (tv 21))] [] [0, 2, 3, 4, 22])
 (.cond (tv 22) (.seq (.region [] [o 23 (.build [zi, zi, zs, zi, .nil, .nil, zi, zs, zi, zi, .nil] []),
 on (.store 11 (tv 2) (tv 23) [])] [] [2])
 .ret)
 .skip))
 (.seq (.region [] [o 24 (.mv (tv 3)),
 o 25 (.mv (tv 4)),
 o 26 (.mv (tv 0)),
 oa 27 (.call (kf 130) [(true, (tv 26))] []) 1408,
 oa 28 (.mkSl 11 [(tv 27)]) 1472,
 o 29 (.build [zi, zi, zs, zi, .nil, .nil, zi, zs, zi, zi, .nil] [(0, 1, (ki 4)), (1, 1, (tv 24)), (2, 1, (tv 25)), (4, 1, (tv 28))]),
 on (.store 11 (tv 2) (tv 29) [])] [] [2])
 .ret))))
 (.seq (.region [] [o 31 (.mv (tv 0)),
 oa 32 (.call (kf 188) [(true, (tv 31)), (false, (.k (.sc (.c (.str [108, 101, 116])))))] []) 1728,
 o 30 (.mv (tv 32))] [] [0, 2, 3, 30])
 (.cond (tv 30) (.seq (.region [] [o 5 (.mv (ki 6))] [] [0, 2, 3, 5])
 (.seq (.seq (.region [] [o 33 (.mv (tv 0)),
 oa 34 (.call (kf 188) [(true, (tv 33)), (false, (.k (.sc (.c (.str [114, 101, 99])))))] []) 1984] [] [0, 2, 3, 5, 34])
 (.cond (tv 34) (.region [] [o 5 (.mv (ki 7))] [] [0, 2, 3, 5])
 .skip))
 (.seq (.region [] [o 35 (.mv (tv 0)),
 oa 36 (.call (kf 189) [(true, (tv 35)), (false, (ki 1))] []) 2176,
 o 6 (.mv (tv 36))] [] [0, 2, 3, 5, 6])
 (.seq (.region [] [o 37 (.mv (tv 0)),
 oa 38 (.call (kf 190) [(true, (tv 37)), (false, (.k (.sc (.c (.str [61])))))] []) 2368] [] [0, 2, 3, 5, 6])
 (.seq (.seq (.region [] [o 39 (.mv (tv 0)),
 o 40 (.nn (tv 39)),
 o 41 (.fld 2 (tv 40)),
 o 42 (.load false 1 (tv 41))] [] [0, 2, 3, 5, 6, 42])
 (.cond (tv 42) (.seq (.region [] [o 43 (.build [zi, zi, zs, zi, .nil, .nil, zi, zs, zi, zi, .nil] []),
 on (.store 11 (tv 2) (tv 43) [])] [] [2])
 .ret)
 .skip))
 (.seq (.region [] [o 44 (.mv (tv 0)),
 oa 45 (.call (kf 130) [(true, (tv 44))] []) 2880,
 oa 7 (.new [zi, zi, zs, zi, .nil, .nil, zi, zs, zi, zi, .nil] []) 2944,
 on (.store 11 (tv 7) (tv 45) [])] [] [0, 2, 3, 5, 6, 7])
 (.seq (.region [] [o 46 (.mv (tv 0)),
 oa 47 (.call (kf 190) [(true, (tv 46)), (false, (.k (.sc (.c (.str [105, 110])))))] []) 3136] [] [0, 2, 3, 5, 6, 7])
 (.seq (.seq (.region [] [o 48 (.mv (tv 0)),
 o 49 (.nn (tv 48)),
 o 50 (.fld 2 (tv 49)),
 o 51 (.load false 1 (tv 50))] [] [0, 2, 3, 5, 6, 7, 51])
 (.cond (tv 51) (.seq (.region [] [o 52 (.build [zi, zi, zs, zi, .nil, .nil, zi, zs, zi, zi, .nil] []),
 on (.store 11 (tv 2) (tv 52) [])] [] [2])
 .ret)
 .skip))
 (.seq (.region [] [o 53 (.mv (tv 5)),
 o 54 (.mv (tv 3)),
 o 55 (.mv (tv 6)),
 o 56 (.load true 11 (tv 7)),
 o 57 (.mv (tv 0)),
 oa 58 (.call (kf 130) [(true, (tv 57))] []) 3904,
 oa 59 (.mkSl 11 [(tv 56), (tv 58)]) 3968,
 o 60 (.build [zi, zi, zs, zi, .nil, .nil, zi, zs, zi, zi, .nil] [(0, 1, (tv 53)), (1, 1, (tv 54)), (2, 1, (tv 55)), (4, 1, (tv 59))]),
 on (.store 11 (tv 2) (tv 60) [])] [(3, 5)] [2])
 .ret)))))))))
 (.seq (.region [] [o 62 (.mv (tv 0)),
 oa 63 (.call (kf 188) [(true, (tv 62)), (false, (.k (.sc (.c (.str [99, 97, 115, 101])))))] []) 4224,
 o 61 (.mv (tv 63))] [] [0, 2, 3, 61])
 (.cond (tv 61) (.seq (.region [] [o 64 (.mv (tv 0)),
 o 65 (.mv (tv 3)),
 oa 66 (.call (kf 191) [(true, (tv 64)), (false, (tv 65))] []) 4480,
 on (.store 11 (tv 2) (tv 66) [])] [] [2])
 .ret)
 .skip)))))))
 (.seq (.region [] [o 67 (.mv (tv 0)),
 oa 68 (.call (kf 192) [(true, (tv 67))] []) 4672,
 oa 8 (.new [zi, zi, zs, zi, .nil, .nil, zi, zs, zi, zi, .nil] []) 4736,
 on (.store 11 (tv 8) (tv 68) [])] [] [0, 2, 8])
 (.seq (.block 1 (.loop l130_0))
 (.seq (.region [] [o 107 (.load true 11 (tv 8)),
 on (.store 11 (tv 2) (tv 107) [])] [] [2])
 .ret)))))),
 [.cell 2 true 11], false⟩

def v131 : VFun := ⟨1,
 (.seq (.seq (.region [] [o 3 (.mv (tv 0)),
 o 4 (.nn (tv 3)),
 o 5 (.fld 2 (tv 4)),
 o 6 (.load false 1 (tv 5))] [] [0, 6])
 (.cond (tv 6) .ret
 .skip))
 (.seq (.region [] [o 7 (.mv (tv 0)),
 o 8 (.nn (tv 7)),
 o 9 (.fld 2 (tv 8)),
 on (.store 1 (tv 9) kt [])] [] [0])
 (.block 0 (.seq (.region [] [o 11 (.mv (tv 0)),
 o 12 (.nn (tv 11)),
 o 13 (.fld 1 (tv 12)),
 o 14 (.load false 1 (tv 13)),
 o 15 (.mv (tv 0)),
 o 16 (.nn (tv 15)),
 o 17 (.fld 0 (tv 16)),
 o 18 (.load false 1 (tv 17)),
 o 19 (.len false (tv 18)),
 o 20 (.bin .lss 0 (tv 14) (tv 19)),
 o 10 (.mv (tv 20))] [(1, 5), (2, 5), (3, 5), (1, 6), (2, 6), (3, 6), (1, 7), (2, 7), (3, 7), (1, 8), (2, 8), (3, 8)] [0, 10])
 (.cond (tv 10) (.region [] [o 21 (.mv (tv 0)),
 o 22 (.mv (tv 0)),
 o 23 (.nn (tv 22)),
 o 24 (.fld 0 (tv 23)),
 o 25 (.load false 1 (tv 24)),
 o 26 (.mv (tv 0)),
 o 27 (.nn (tv 26)),
 o 28 (.fld 1 (tv 27)),
 o 29 (.load false 1 (tv 28)),
 o 30 (.idxA 3 (tv 25) (tv 29)),
 o 31 (.fld 2 (tv 30)),
 o 32 (.load false 1 (tv 31)),
 o 33 (.nn (tv 21)),
 o 34 (.fld 3 (tv 33)),
 on (.store 1 (tv 34) (tv 32) [])] [(2, 6), (3, 6), (4, 6), (2, 7), (3, 7), (4, 7), (2, 8), (3, 8), (4, 8)] [1000000])
 (.seq (.region [] [o 36 (.mv (tv 0)),
 o 37 (.nn (tv 36)),
 o 38 (.fld 0 (tv 37)),
 o 39 (.load false 1 (tv 38)),
 o 40 (.len false (tv 39)),
 o 41 (.bin .gtr 0 (tv 40) (ki 0)),
 o 35 (.mv (tv 41))] [] [0, 35])
 (.cond (tv 35) (.seq (.region [] [o 42 (.mv (tv 0)),
 o 43 (.nn (tv 42)),
 o 44 (.fld 0 (tv 43)),
 o 45 (.load false 1 (tv 44)),
 o 46 (.mv (tv 0)),
 o 47 (.nn (tv 46)),
 o 48 (.fld 0 (tv 47)),
 o 49 (.load false 1 (tv 48)),
 o 50 (.len false (tv 49)),
 o 51 (.bin .sub 0 (tv 50) (ki 1)),
 o 52 (.idxA 3 (tv 45) (tv 51)),
 o 53 (.load true 3 (tv 52)),
 oa 2 (.new [zi, zs, zi] []) 3456,
 on (.store 3 (tv 2) (tv 53) [])] [(1, 5), (2, 5), (3, 5), (1, 6), (2, 6), (3, 6), (1, 7), (2, 7), (3, 7), (1, 8), (2, 8), (3, 8), (1, 12), (2, 12), (3, 12), (5, 12), (6, 12), (7, 12), (8, 12), (10, 12), (11, 12)] [0, 2])
 (.region [] [o 54 (.mv (tv 0)),
 o 55 (.fld 2 (tv 2)),
 o 56 (.load false 1 (tv 55)),
 o 57 (.fld 1 (tv 2)),
 o 58 (.load false 1 (tv 57)),
 o 59 (.len true (tv 58)),
 o 60 (.bin .add 0 (tv 56) (tv 59)),
 o 61 (.nn (tv 54)),
 o 62 (.fld 3 (tv 61)),
 on (.store 1 (tv 62) (tv 60) [])] [] [1000000]))
 .skip))))))),
 [], false⟩

def v132 : VFun := ⟨1,
 (.seq (.region [] [oa 1 (.box (tv 0)) 64,
 o 2 (.mv kF)] [] [1])
 (.seq (.region [] [o 3 (.load true 11 (tv 1)),
 oa 4 (.call (kf 194) [(false, (tv 3))] []) 256,
 o 5 (.bin .gtr 0 (tv 4) (ki 40)),
 o 6 (.mv (tv 5)),
 og 7 (.load true 11 (tv 1)) 6 false,
 ⟨(some 8), (.call (kf 195) [(false, (tv 7))] []), (some (6, false)), 512, []⟩,
 o 9 (.pick (tv 6) kt (tv 8)),
 o 2 (.mv (tv 9))] [] [2])
 .ret)),
 [.tmp 2], false⟩

def l133_0 : VCode := (.seq (.seq (.region [] [o 9 (.mv (tv 4)),
 o 10 (.fld 5 (tv 1)),
 o 11 (.load false 1 (tv 10)),
 o 12 (.len false (tv 11)),
 o 13 (.bin .lss 0 (tv 9) (tv 12))] [] [1, 4, 13])
 (.cond (tv 13) .skip
 (.exit 0)))
 (.seq (.block 1 (.seq (.region [] [o 16 (.fld 5 (tv 1)),
 o 17 (.load false 1 (tv 16)),
 o 18 (.mv (tv 4)),
 o 19 (.idxA 14 (tv 17) (tv 18)),
 o 20 (.fld 2 (tv 19)),
 o 21 (.load false 1 (tv 20)),
 o 22 (.len false (tv 21)),
 o 23 (.bin .gtr 0 (tv 22) (ki 4))] [] [1, 4, 23])
 (.cond (tv 23) (.seq (.region [] [o 24 (.fld 5 (tv 1)),
 o 25 (.load false 1 (tv 24)),
 o 26 (.mv (tv 4)),
 o 27 (.idxA 14 (tv 25) (tv 26)),
 o 28 (.fld 0 (tv 27)),
 o 29 (.load false 1 (tv 28)),
 o 2 (.mv (tv 29)),
 o 3 (.mv kt)] [] [2, 3])
 .ret)
 .skip)))
 (.region [] [o 14 (.mv (tv 4)),
 o 15 (.bin .add 0 (tv 14) (ki 1)),
 o 4 (.mv (tv 15))] [] [1, 4])))

def l133_1 : VCode := (.seq (.seq (.region [] [o 32 (.mv (tv 6)),
 o 33 (.mv (tv 5)),
 o 34 (.len false (tv 33)),
 o 35 (.bin .lss 0 (tv 32) (tv 34))] [] [5, 6, 35])
 (.cond (tv 35) .skip
 (.exit 2)))
 (.seq (.block 3 (.seq (.region [] [o 39 (.mv (tv 5)),
 o 40 (.mv (tv 6)),
 o 41 (.idxA 11 (tv 39) (tv 40)),
 o 42 (.load true 11 (tv 41)),
 oa 43 (.call (kf 133) [(false, (tv 42))] []) 2624,
 o 38 (.mv (tv 43)),
 o 44 (.ext 0 (tv 38)),
 o 45 (.ext 1 (tv 38)),
 o 7 (.mv (tv 44)),
 o 8 (.mv (tv 45))] [] [5, 6, 7, 8])
 (.seq (.region [] [o 46 (.mv (tv 8))] [] [5, 6, 7, 46])
 (.cond (tv 46) (.seq (.region [] [o 47 (.mv (tv 7)),
 o 2 (.mv (tv 47)),
 o 3 (.mv kt)] [] [2, 3])
 .ret)
 .skip))))
 (.region [] [o 36 (.mv (tv 6)),
 o 37 (.bin .add 0 (tv 36) (ki 1)),
 o 6 (.mv (tv 37))] [] [5, 6])))

def v133 : VFun := ⟨1,
 (.seq (.region [] [oa 1 (.box (tv 0)) 64,
 o 2 (.mv (ki 0)),
 o 3 (.mv kF)] [] [1])
 (.seq (.seq (.region [] [o 4 (.mv (ki 0))] [] [1, 4])
 (.block 0 (.loop l133_0)))
 (.seq (.region [] [o 30 (.load true 11 (tv 1)),
 oa 31 (.call (kf 50) [(false, (tv 30))] []) 1920,
 o 5 (.mv (tv 31))] [] [5])
 (.seq (.seq (.region [64] [o 6 (.mv (ki 0))] [] [5, 6])
 (.block 2 (.loop l133_1)))
 (.seq (.region [] [o 2 (.mv (ki 0)),
 o 3 (.mv kF)] [] [2, 3])
 .ret))))),
 [.tmp 2, .tmp 3], false⟩

def l124_0 : VCode := (.seq (.seq (.region [] [o 48 (.mv (tv 8)),
 o 49 (.mv (tv 5)),
 o 50 (.len false (tv 49)),
 o 51 (.bin .lss 0 (tv 48) (tv 50))] [] [3, 4, 5, 7, 8, 51])
 (.cond (tv 51) .skip
 (.exit 0)))
 (.seq (.block 1 (.region [] [o 54 (.mv (tv 5)),
 o 55 (.mv (tv 8)),
 o 56 (.mv (tv 5)),
 o 57 (.mv (tv 8)),
 o 58 (.idxA 11 (tv 56) (tv 57)),
 o 59 (.load true 11 (tv 58)),
 o 60 (.fld 2 (tv 3)),
 o 61 (.load false 1 (tv 60)),
 o 62 (.mv (tv 7)),
 oa 63 (.call (kf 183) [(false, (tv 59)), (false, (tv 61)), (false, (tv 62))] []) 3968,
 o 64 (.idxA 11 (tv 54) (tv 55)),
 on (.store 11 (tv 64) (tv 63) [])] [(4, 6), (5, 6), (4, 7), (5, 7)] [3, 4, 5, 7, 8]))
 (.region [] [o 52 (.mv (tv 8)),
 o 53 (.bin .add 0 (tv 52) (ki 1)),
 o 8 (.mv (tv 53))] [] [3, 4, 5, 7, 8])))

def v124 : VFun := ⟨2,
 (.seq (.region [] [oa 2 (.box (tv 0)) 64,
 oa 3 (.box (tv 1)) 128,
 oa 4 (.new [zi, zi, zs, zi, .nil, .nil, zi, zs, zi, zi, .nil] []) 192] [] [2, 3, 4])
 (.seq (.region [] [o 9 (.fld 4 (tv 3)),
 o 10 (.load false 1 (tv 9)),
 oa 11 (.call (kf 88) [(false, (tv 10))] []) 384,
 o 5 (.mv (tv 11))] [] [2, 3, 4, 5])
 (.seq (.region [] [o 6 (.mv (ki 0))] [] [2, 3, 4, 5, 6])
 (.seq (.seq (.region [] [o 12 (.fld 0 (tv 3)),
 o 13 (.load false 1 (tv 12)),
 o 14 (.bin .eql 0 (tv 13) (ki 6))] [] [2, 3, 4, 5, 6, 14])
 (.cond (tv 14) (.region [] [o 6 (.mv (ki 1))] [] [2, 3, 4, 5, 6])
 .skip))
 (.seq (.seq (.region [] [o 15 (.fld 2 (tv 3)),
 o 16 (.load false 1 (tv 15)),
 o 17 (.fld 0 (tv 2)),
 o 18 (.load false 1 (tv 17)),
 o 19 (.bin .eql 0 (tv 16) (tv 18)),
 o 20 (.mv (tv 19)),
 og 21 (.mv (tv 6)) 20 false,
 og 22 (.mv (tv 5)) 20 false,
 og 23 (.len false (tv 22)) 20 false,
 og 24 (.bin .geq 0 (tv 21) (tv 23)) 20 false,
 o 25 (.pick (tv 20) kt (tv 24)),
 o 26 (.mv (tv 25)),
 og 27 (.load true 13 (tv 2)) 26 false,
 og 28 (.fld 2 (tv 3)) 26 false,
 og 29 (.load false 1 (tv 28)) 26 false,
 og 30 (.mv (tv 5)) 26 false,
 og 31 (.mv (tv 6)) 26 false,
 og 32 (.sl 11 (tv 30) (some (tv 31)) none none) 26 false,
 ⟨(some 33), (.call (kf 180) [(false, (tv 27)), (false, (tv 29)), (false, (tv 32))] []), (some (26, false)), 1984, []⟩,
 og 34 (.un .not (tv 33)) 26 false,
 o 35 (.pick (tv 26) kt (tv 34))] [(0, 2), (1, 2), (0, 3), (1, 3), (12, 13), (12, 14), (12, 17), (13, 17), (14, 17)] [2, 3, 4, 5, 6, 35])
 (.cond (tv 35) (.seq (.region [] [o 36 (.load true 11 (tv 3)),
 on (.store 11 (tv 4) (tv 36) [])] [] [4])
 .ret)
 .skip))
 (.seq (.region [] [o 37 (.load true 11 (tv 3)),
 oa 38 (.call (kf 182) [(false, (tv 37))] []) 2368,
 o 39 (.fld 12 (tv 2)),
 o 40 (.load false 1 (tv 39)),
 o 41 (.app 1 16 false (tv 38) (tv 40)),
 o 42 (.fld 0 (tv 2)),
 o 43 (.load false 1 (tv 42)),
 oa 44 (.mkSl 1 [(tv 43)]) 2752,
 o 45 (.app 1 16 false (tv 41) (tv 44)),
 oa 46 (.call (kf 181) [(false, (tv 45))] []) 2880,
 o 7 (.mv (tv 46))] [(0, 2), (1, 2), (0, 3), (1, 3), (0, 5), (1, 5), (2, 5), (3, 5), (4, 5), (0, 6), (1, 6), (2, 6), (3, 6), (4, 6), (0, 7), (1, 7), (2, 7), (3, 7), (4, 7)] [3, 4, 5, 6, 7])
 (.seq (.seq (.region [64, 2752] [o 47 (.mv (tv 6)),
 o 8 (.mv (tv 47))] [] [3, 4, 5, 7, 8])
 (.block 0 (.loop l124_0)))
 (.seq (.region [] [o 65 (.mv (tv 7)),
 o 66 (.mv (tv 5)),
 o 67 (.fld 2 (tv 3)),
 on (.store 1 (tv 67) (tv 65) []),
 o 68 (.fld 4 (tv 3)),
 on (.store 1 (tv 68) (tv 66) [])] [] [3, 4])
 (.seq (.region [] [o 69 (.load true 11 (tv 3)),
 on (.store 11 (tv 4) (tv 69) [])] [] [4])
 .ret))))))))),
 [.cell 4 true 11], false⟩

def v125 : VFun := ⟨1,
 (.seq (.region [] [o 2 (.mv kn)] [] [0])
 (.seq (.seq (.region [] [o 3 (.mv (tv 0)),
 o 4 (.bin .eql 2 (tv 3) kn)] [] [0, 4])
 (.cond (tv 4) (.seq (.region [] [o 2 (.mv kn)] [] [2])
 .ret)
 .skip))
 (.seq (.region [] [o 5 .mkE,
 o 6 (.mv (tv 0)),
 oa 7 (.appF 14 200 (tv 5) (tv 6)) 448,
 o 2 (.mv (tv 7))] [] [2])
 .ret))),
 [.tmp 2], false⟩

def l126_0 : VCode := (.seq (.region [] [o 22 (.bin .lss 0 (tv 21) (tv 20))] [] [2, 3, 4, 19, 20, 21, 22])
 (.seq (.cond (tv 22) .skip
 (.exit 0))
 (.seq (.block 1 (.seq (.region [] [o 23 (.mv (tv 21)),
 o 24 (.idxA 1 (tv 19) (tv 21)),
 o 25 (.load false 1 (tv 24)),
 o 5 (.mv (tv 23)),
 o 6 (.mv (tv 25))] [] [2, 3, 4, 5, 6, 19, 20, 21])
 (.seq (.seq (.region [] [o 26 (.fld 2 (tv 3)),
 o 27 (.load false 1 (tv 26)),
 o 28 (.mv (tv 5)),
 o 29 (.bin .add 0 (tv 28) (ki 1)),
 o 30 (.sl 1 (tv 27) (some (tv 29)) none none),
 o 31 (.mv (tv 6)),
 oa 32 (.call (kf 53) [(false, (tv 30)), (false, (tv 31))] []) 2048,
 o 33 (.mv (tv 32)),
 og 34 (.load true 13 (tv 2)) 33 false,
 og 35 (.mv (tv 6)) 33 false,
 og 36 (.fld 3 (tv 3)) 33 false,
 og 37 (.load true 11 (tv 36)) 33 false,
 ⟨(some 38), (.mkSl 11 [(tv 37)]), (some (33, false)), 2432, []⟩,
 ⟨(some 39), (.call (kf 180) [(false, (tv 34)), (false, (tv 35)), (false, (tv 38))] []), (some (33, false)), 2496, []⟩,
 og 40 (.un .not (tv 39)) 33 false,
 o 41 (.pick (tv 33) kt (tv 40))] [] [2, 3, 4, 5, 6, 19, 20, 21, 41])
 (.cond (tv 41) (.exit 1)
 .skip))
 (.seq (.region [2432] [o 42 (.fld 3 (tv 3)),
 o 43 (.load true 11 (tv 42)),
 oa 44 (.call (kf 182) [(false, (tv 43))] []) 2816,
 o 45 (.fld 2 (tv 3)),
 o 46 (.load false 1 (tv 45)),
 oa 47 (.app 1 16 true (tv 44) (tv 46)) 3008,
 o 48 (.fld 12 (tv 2)),
 o 49 (.load false 1 (tv 48)),
 o 50 (.app 1 16 false (tv 47) (tv 49)),
 o 51 (.fld 0 (tv 2)),
 o 52 (.load false 1 (tv 51)),
 oa 53 (.mkSl 1 [(tv 52)]) 3392,
 o 54 (.app 1 16 false (tv 50) (tv 53)),
 oa 55 (.call (kf 181) [(false, (tv 54))] []) 3520,
 o 7 (.mv (tv 55))] [(0, 3), (1, 3), (2, 3), (0, 4), (1, 4), (2, 4), (0, 6), (1, 6), (2, 6), (3, 6), (4, 6), (5, 6), (0, 7), (1, 7), (2, 7), (3, 7), (4, 7), (5, 7), (0, 9), (1, 9), (2, 9), (3, 9), (4, 9), (5, 9), (6, 9), (7, 9), (8, 9), (0, 10), (1, 10), (2, 10), (3, 10), (4, 10), (5, 10), (6, 10), (7, 10), (8, 10), (0, 11), (1, 11), (2, 11), (3, 11), (4, 11), (5, 11), (6, 11), (7, 11), (8, 11)] [2, 3, 4, 5, 6, 7, 19, 20, 21])
 (.seq (.region [3392] [o 56 (.fld 3 (tv 3)),
 o 57 (.load true 11 (tv 56)),
 o 58 (.mv (tv 6)),
 o 59 (.mv (tv 7)),
 oa 60 (.call (kf 183) [(false, (tv 57)), (false, (tv 58)), (false, (tv 59))] []) 3904,
 o 61 (.fld 3 (tv 3)),
 on (.store 11 (tv 61) (tv 60) [])] [] [2, 3, 4, 5, 7, 19, 20, 21])
 (.region [] [o 62 (.fld 2 (tv 3)),
 o 63 (.load false 1 (tv 62)),
 o 64 (.mv (tv 5)),
 o 65 (.mv (tv 7)),
 o 66 (.idxA 1 (tv 63) (tv 64)),
 on (.store 1 (tv 66) (tv 65) [])] [] [2, 3, 4, 19, 20, 21]))))))
 (.region [2432, 2848, 2849, 2850, 3008, 3392] [o 67 (.bin .add 0 (tv 21) (ki 1)),
 o 21 (.mv (tv 67))] [] [2, 3, 4, 19, 20, 21]))))

def v126 : VFun := ⟨2,
 (.seq (.region [] [oa 2 (.box (tv 0)) 64,
 oa 3 (.box (tv 1)) 128,
 oa 4 (.new [zi, zs, .nil, zi, zi, zs, zi, .nil, .nil, zi, zs, zi, zi, .nil] []) 192] [] [2, 3, 4])
 (.seq (.seq (.region [] [o 8 (.fld 2 (tv 3)),
 o 9 (.load false 1 (tv 8)),
 o 10 (.fld 0 (tv 2)),
 o 11 (.load false 1 (tv 10)),
 oa 12 (.call (kf 53) [(false, (tv 9)), (false, (tv 11))] []) 512] [] [2, 3, 4, 12])
 (.cond (tv 12) (.seq (.region [] [o 13 (.load true 14 (tv 3)),
 on (.store 14 (tv 4) (tv 13) [])] [] [4])
 .ret)
 .skip))
 (.seq (.region [] [o 14 (.fld 2 (tv 3)),
 o 15 (.load false 1 (tv 14)),
 oa 16 (.call (kf 184) [(false, (tv 15))] []) 832,
 o 17 (.fld 2 (tv 3)),
 on (.store 1 (tv 17) (tv 16) [])] [] [2, 3, 4])
 (.seq (.seq (.region [] [o 18 (.fld 2 (tv 3)),
 o 19 (.load false 1 (tv 18)),
 o 20 (.len false (tv 19)),
 o 21 (.mv (ki 0))] [] [2, 3, 4, 19, 20, 21])
 (.block 0 (.loop l126_0)))
 (.seq (.region [] [o 68 (.load true 14 (tv 3)),
 on (.store 14 (tv 4) (tv 68) [])] [] [4])
 .ret))))),
 [.cell 4 true 14], false⟩

def l127_0 : VCode := (.seq (.region [] [o 37 (.bin .lss 0 (tv 36) (tv 35))] [] [1, 2, 4, 5, 6, 7, 35, 36, 37])
 (.seq (.cond (tv 37) .skip
 (.exit 0))
 (.seq (.block 1 (.seq (.region [] [o 38 (.mv (tv 36)),
 o 8 (.mv (tv 38))] [] [1, 2, 4, 5, 6, 7, 8, 35, 36])
 (.region [] [o 39 (.mv (tv 7)),
 o 40 (.mv (tv 8)),
 o 41 (.mv (tv 1)),
 o 42 (.mv (tv 5)),
 o 43 (.mv (tv 8)),
 o 44 (.bin .add 0 (tv 42) (tv 43)),
 o 45 (.idxA 11 (tv 41) (tv 44)),
 o 46 (.load true 11 (tv 45)),
 o 47 (.idxA 14 (tv 39) (tv 40)),
 o 48 (.fld 3 (tv 47)),
 on (.store 11 (tv 48) (tv 46) [])] [] [1, 2, 4, 5, 6, 7, 35, 36])))
 (.region [] [o 49 (.bin .add 0 (tv 36) (ki 1)),
 o 36 (.mv (tv 49))] [] [1, 2, 4, 5, 6, 7, 35, 36]))))

def v127 : VFun := ⟨2,
 (.seq (.region [] [oa 2 (.box (tv 0)) 64,
 oa 4 (.new [zi, zi, zs, zi, .nil, .nil, zi, zs, zi, zi, .nil] []) 128] [] [1, 2, 4])
 (.seq (.region [] [o 9 (.fld 4 (tv 2)),
 o 10 (.load false 1 (tv 9)),
 o 11 (.len false (tv 10)),
 o 5 (.mv (tv 11))] [] [1, 2, 4, 5])
 (.seq (.seq (.region [] [o 12 (.mv (tv 1)),
 o 13 (.len false (tv 12)),
 o 14 (.mv (tv 5)),
 o 15 (.fld 5 (tv 2)),
 o 16 (.load false 1 (tv 15)),
 o 17 (.len false (tv 16)),
 o 18 (.bin .add 0 (tv 14) (tv 17)),
 o 19 (.bin .neq 0 (tv 13) (tv 18))] [] [1, 2, 4, 5, 19])
 (.cond (tv 19) (.seq (.region [] [o 20 (.load true 11 (tv 2)),
 on (.store 11 (tv 4) (tv 20) [])] [] [4])
 .ret)
 .skip))
 (.seq (.region [] [o 21 (.mv (tv 5)),
 oa 22 (.mkS 11 152 [zi, zi, zs, zi, .nil, .nil, zi, zs, zi, zi, .nil] (tv 21)) 1152,
 o 23 (.fld 5 (tv 2)),
 o 24 (.load false 1 (tv 23)),
 o 25 (.len false (tv 24)),
 oa 26 (.mkS 14 200 [zi, zs, .nil, zi, zi, zs, zi, .nil, .nil, zi, zs, zi, zi, .nil] (tv 25)) 1408,
 o 6 (.mv (tv 22)),
 o 7 (.mv (tv 26))] [(1, 2), (1, 3), (1, 4), (1, 5)] [1, 2, 4, 5, 6, 7])
 (.seq (.region [] [o 27 (.mv (tv 6)),
 o 28 (.mv (tv 1)),
 o 29 (.cp 11 (tv 27) (tv 28))] [] [1, 2, 4, 5, 6, 7])
 (.seq (.region [] [o 30 (.mv (tv 7)),
 o 31 (.fld 5 (tv 2)),
 o 32 (.load false 1 (tv 31)),
 o 33 (.cp 14 (tv 30) (tv 32))] [] [1, 2, 4, 5, 6, 7])
 (.seq (.seq (.region [] [o 34 (.mv (tv 7)),
 o 35 (.len false (tv 34)),
 o 36 (.mv (ki 0))] [] [1, 2, 4, 5, 6, 7, 35, 36])
 (.block 0 (.loop l127_0)))
 (.seq (.region [] [o 50 (.mv (tv 6)),
 o 51 (.mv (tv 7)),
 o 52 (.fld 4 (tv 2)),
 on (.store 1 (tv 52) (tv 50) []),
 o 53 (.fld 5 (tv 2)),
 on (.store 1 (tv 53) (tv 51) [])] [] [2, 4])
 (.seq (.region [] [o 54 (.load true 11 (tv 2)),
 on (.store 11 (tv 4) (tv 54) [])] [] [4])
 .ret))))))))),
 [.cell 4 true 11], false⟩

def l134_0 : VCode := (.seq (.seq (.region [] [o 11 (.mv (tv 5)),
 o 12 (.mv (tv 0)),
 o 13 (.len false (tv 12)),
 o 14 (.bin .lss 0 (tv 11) (tv 13))] [] [0, 1, 5, 14])
 (.cond (tv 14) .skip
 (.exit 0)))
 (.seq (.block 1 (.seq (.region [] [o 17 (.mv (tv 0)),
 o 18 (.mv (tv 5)),
 o 19 (.idxA 5 (tv 17) (tv 18)),
 o 20 (.load true 5 (tv 19)),
 o 21 (.mv (tv 1)),
 o 22 (.mv (tv 5)),
 o 23 (.idxA 5 (tv 21) (tv 22)),
 o 24 (.load true 5 (tv 23)),
 oa 25 (.call (kf 85) [(false, (tv 20)), (false, (tv 24))] []) 1344,
 o 26 (.un .not (tv 25))] [(2, 6), (3, 6), (2, 7), (3, 7)] [0, 1, 5, 26])
 (.cond (tv 26) (.seq (.region [] [o 4 (.mv kF)] [] [4])
 .ret)
 .skip)))
 (.region [] [o 15 (.mv (tv 5)),
 o 16 (.bin .add 0 (tv 15) (ki 1)),
 o 5 (.mv (tv 16))] [] [0, 1, 5])))

def v134 : VFun := ⟨2,
 (.seq (.region [] [o 4 (.mv kF)] [] [0, 1])
 (.seq (.seq (.region [] [o 6 (.mv (tv 0)),
 o 7 (.len false (tv 6)),
 o 8 (.mv (tv 1)),
 o 9 (.len false (tv 8)),
 o 10 (.bin .neq 0 (tv 7) (tv 9))] [] [0, 1, 10])
 (.cond (tv 10) (.seq (.region [] [o 4 (.mv kF)] [] [4])
 .ret)
 .skip))
 (.seq (.seq (.region [] [o 5 (.mv (ki 0))] [] [0, 1, 5])
 (.block 0 (.loop l134_0)))
 (.seq (.region [] [o 4 (.mv kt)] [] [4])
 .ret)))),
 [.tmp 4], false⟩

def v135 : VFun := ⟨2,
 (.seq (.region [] [oa 2 (.box (tv 0)) 64,
 o 4 (.mv kn)] [] [1, 2])
 (.seq (.seq (.region [] [o 5 (.fld 0 (tv 2)),
 o 6 (.load false 1 (tv 5))] [] [1, 2, 6])
 (.block 0 (.seq (.seq (.region [] [o 8 (.bin .eql 0 (tv 6) (ki 4)),
 o 7 (.mv (tv 8))] [] [1, 2, 6, 7])
 (.cond (tv 7) .skip
 (.region [] [o 9 (.bin .eql 0 (tv 6) (ki 7)),
 o 7 (.mv (tv 9))] [] [1, 2, 6, 7])))
 (.cond (tv 7) (.seq (.region [] [o 10 (.fld 2 (tv 2)),
 o 11 (.load false 1 (tv 10)),
 oa 12 (.mkSl 1 [(tv 11)]) 704,
 o 4 (.mv (tv 12))] [] [4])
 .ret)
 (.seq (.region [] [o 14 (.bin .eql 0 (tv 6) (ki 6)),
 o 13 (.mv (tv 14))] [] [1, 2, 6, 13])
 (.cond (tv 13) (.seq (.region [] [o 15 (.mv (tv 1)),
 o 16 (.bin .eql 0 (tv 15) (ki 1))] [] [2, 16])
 (.cond (tv 16) (.seq (.region [] [o 17 (.fld 2 (tv 2)),
 o 18 (.load false 1 (tv 17)),
 oa 19 (.mkSl 1 [(tv 18)]) 1216,
 o 4 (.mv (tv 19))] [] [4])
 .ret)
 .skip))
 (.seq (.region [] [o 21 (.bin .eql 0 (tv 6) (ki 8)),
 o 20 (.mv (tv 21))] [] [1, 2, 20])
 (.cond (tv 20) (.seq (.region [] [o 22 (.mv (tv 1)),
 o 23 (.fld 4 (tv 2)),
 o 24 (.load false 1 (tv 23)),
 o 25 (.len false (tv 24)),
 o 26 (.bin .geq 0 (tv 22) (tv 25))] [] [1, 2, 26])
 (.cond (tv 26) (.seq (.region [] [o 27 (.fld 5 (tv 2)),
 o 28 (.load false 1 (tv 27)),
 o 29 (.mv (tv 1)),
 o 30 (.fld 4 (tv 2)),
 o 31 (.load false 1 (tv 30)),
 o 32 (.len false (tv 31)),
 o 33 (.bin .sub 0 (tv 29) (tv 32)),
 o 34 (.idxA 14 (tv 28) (tv 33)),
 o 35 (.fld 2 (tv 34)),
 o 36 (.load false 1 (tv 35)),
 o 4 (.mv (tv 36))] [] [4])
 .ret)
 .skip))
 .skip))))))))
 (.seq (.region [] [o 4 (.mv kn)] [] [4])
 .ret))),
 [.tmp 4], false⟩

def v137 : VFun := ⟨2,
 (.seq (.region [] [o 3 (.mv kF)] [] [0, 1])
 (.seq (.region [] [o 4 (.mv (tv 0)),
 o 5 (.load false 1 (tv 1)),
 o 6 (.bin .eql 0 (tv 4) (tv 5)),
 o 3 (.mv (tv 6))] [] [3])
 .ret)),
 [.tmp 3], false⟩

def l136_0 : VCode := (.seq (.seq (.region [] [o 16 (.mv (tv 6)),
 o 17 (.mv (tv 0)),
 o 18 (.len false (tv 17)),
 o 19 (.bin .lss 0 (tv 16) (tv 18))] [] [0, 1, 5, 6, 19])
 (.cond (tv 19) .skip
 (.exit 0)))
 (.seq (.block 1 (.seq (.region [] [o 22 (.mv (tv 0)),
 o 23 (.mv (tv 6)),
 o 24 (.idxA 1 (tv 22) (tv 23)),
 o 25 (.load false 1 (tv 24)),
 o 7 (.mv (tv 25))] [] [0, 1, 5, 6, 7])
 (.seq (.region [] [o 26 (.mv (tv 1)),
 o 27 (.mv (tv 7)),
 oa 28 (.call (tv 26) [(false, (tv 27))] []) 1536,
 o 29 (.un .not (tv 28))] [] [0, 1, 5, 6, 7, 29])
 (.cond (tv 29) (.seq (.region [] [o 30 (.mv (tv 0)),
 o 31 (.mv (tv 5)),
 o 32 (.mv (tv 7)),
 o 33 (.idxA 1 (tv 30) (tv 31)),
 on (.store 1 (tv 33) (tv 32) [])] [] [0, 1, 5, 6])
 (.region [] [o 34 (.mv (tv 5)),
 o 35 (.bin .add 0 (tv 34) (ki 1)),
 o 5 (.mv (tv 35))] [] [0, 1, 5, 6]))
 .skip))))
 (.region [1568, 1569, 1570] [o 20 (.mv (tv 6)),
 o 21 (.bin .add 0 (tv 20) (ki 1)),
 o 6 (.mv (tv 21))] [] [0, 1, 5, 6])))

def v136 : VFun := ⟨2,
 (.seq (.region [] [o 4 (.mv kn)] [] [0, 1])
 (.seq (.region [] [o 8 (.mv (tv 0)),
 o 9 (.mv (tv 1)),
 oa 10 (.call (kf 176) [(false, (tv 8)), (true, (tv 9))] []) 256,
 o 5 (.mv (tv 10))] [] [0, 1, 5])
 (.seq (.seq (.region [] [o 11 (.mv (tv 5)),
 o 12 (.bin .eql 0 (tv 11) (ki (-1)))] [] [0, 1, 5, 12])
 (.cond (tv 12) (.seq (.region [] [o 13 (.mv (tv 0)),
 o 4 (.mv (tv 13))] [] [4])
 .ret)
 .skip))
 (.seq (.seq (.region [] [o 14 (.mv (tv 5)),
 o 15 (.bin .add 0 (tv 14) (ki 1)),
 o 6 (.mv (tv 15))] [] [0, 1, 5, 6])
 (.block 0 (.loop l136_0)))
 (.seq (.region [] [o 36 (.mv (tv 0)),
 o 37 (.mv (tv 5)),
 o 38 (.sl 1 (tv 36) (some (tv 37)) none none),
 on .bad] [] [0, 5])
 (.seq (.region [] [o 39 (.mv (tv 0)),
 o 40 (.mv (tv 5)),
 o 41 (.sl 1 (tv 39) none (some (tv 40)) none),
 o 4 (.mv (tv 41))] [] [4])
 .ret)))))),
 [.tmp 4], true⟩

def v138 : VFun := ⟨2,
 (.seq (.region [] [o 4 (.mv kF)] [] [0, 1])
 (.seq (.region [] [o 5 (.mv (tv 0)),
 o 6 (.nn (tv 5)),
 o 7 (.fld 2 (tv 6)),
 o 8 (.load false 1 (tv 7)),
 o 9 (.un .not (tv 8)),
 o 10 (.mv (tv 9)),
 og 11 (.mv (tv 0)) 10 true,
 og 12 (.nn (tv 11)) 10 true,
 og 13 (.fld 1 (tv 12)) 10 true,
 og 14 (.load false 1 (tv 13)) 10 true,
 og 15 (.mv (tv 0)) 10 true,
 og 16 (.nn (tv 15)) 10 true,
 og 17 (.fld 0 (tv 16)) 10 true,
 og 18 (.load false 1 (tv 17)) 10 true,
 og 19 (.len false (tv 18)) 10 true,
 og 20 (.bin .lss 0 (tv 14) (tv 19)) 10 true,
 o 21 (.pick (tv 10) (tv 20) kF),
 o 22 (.mv (tv 21)),
 og 23 (.mv (tv 0)) 22 true,
 og 24 (.nn (tv 23)) 22 true,
 og 25 (.fld 0 (tv 24)) 22 true,
 og 26 (.load false 1 (tv 25)) 22 true,
 og 27 (.mv (tv 0)) 22 true,
 og 28 (.nn (tv 27)) 22 true,
 og 29 (.fld 1 (tv 28)) 22 true,
 og 30 (.load false 1 (tv 29)) 22 true,
 og 31 (.idxA 3 (tv 26) (tv 30)) 22 true,
 og 32 (.fld 0 (tv 31)) 22 true,
 og 33 (.load false 1 (tv 32)) 22 true,
 og 34 (.bin .eql 0 (tv 33) (ki 5)) 22 true,
 og 35 (.mv (tv 34)) 22 true,
 og 36 (.mv (tv 0)) 35 false,
 og 37 (.nn (tv 36)) 35 false,
 og 38 (.fld 0 (tv 37)) 35 false,
 og 39 (.load false 1 (tv 38)) 35 false,
 og 40 (.mv (tv 0)) 35 false,
 og 41 (.nn (tv 40)) 35 false,
 og 42 (.fld 1 (tv 41)) 35 false,
 og 43 (.load false 1 (tv 42)) 35 false,
 og 44 (.idxA 3 (tv 39) (tv 43)) 35 false,
 og 45 (.fld 0 (tv 44)) 35 false,
 og 46 (.load false 1 (tv 45)) 35 false,
 og 47 (.bin .eql 0 (tv 46) (ki 4)) 35 false,
 og 48 (.pick (tv 35) kt (tv 47)) 22 true,
 o 49 (.pick (tv 22) (tv 48) kF),
 o 50 (.mv (tv 49)),
 og 51 (.mv (tv 0)) 50 true,
 og 52 (.nn (tv 51)) 50 true,
 og 53 (.fld 0 (tv 52)) 50 true,
 og 54 (.load false 1 (tv 53)) 50 true,
 og 55 (.mv (tv 0)) 50 true,
 og 56 (.nn (tv 55)) 50 true,
 og 57 (.fld 1 (tv 56)) 50 true,
 og 58 (.load false 1 (tv 57)) 50 true,
 og 59 (.idxA 3 (tv 54) (tv 58)) 50 true,
 og 60 (.fld 1 (tv 59)) 50 true,
 og 61 (.load false 1 (tv 60)) 50 true,
 og 62 (.mv (tv 1)) 50 true,
 og 63 (.bin .eql 0 (tv 61) (tv 62)) 50 true,
 o 64 (.pick (tv 50) (tv 63) kF),
 o 4 (.mv (tv 64))] [(7, 11), (8, 11), (9, 11), (7, 12), (8, 12), (9, 12), (7, 13), (8, 13), (9, 13), (7, 14), (8, 14), (9, 14), (19, 23), (20, 23), (21, 23), (19, 24), (20, 24), (21, 24), (19, 25), (20, 25), (21, 25), (32, 36), (33, 36), (34, 36), (32, 37), (33, 37), (34, 37), (32, 38), (33, 38), (34, 38), (47, 51), (48, 51), (49, 51), (47, 52), (48, 52), (49, 52), (47, 53), (48, 53), (49, 53)] [4])
 .ret)),
 [.tmp 4], false⟩

def l139_0 : VCode := (.seq (.seq (.region [] [o 13 (.mv (tv 0)),
 oa 14 (.call (kf 196) [(true, (tv 13)), (false, (ki 1))] []) 896] [] [0, 2, 3, 14])
 (.cond (tv 14) .skip
 (.exit 0)))
 (.block 1 (.region [1216] [o 15 (.fld 2 (tv 3)),
 o 16 (.load false 1 (tv 15)),
 o 17 (.mv (tv 0)),
 oa 18 (.call (kf 189) [(true, (tv 17)), (false, (ki 1))] []) 1152,
 oa 19 (.mkSl 1 [(tv 18)]) 1216,
 o 20 (.app 1 16 false (tv 16) (tv 19)),
 o 21 (.fld 2 (tv 3)),
 on (.store 1 (tv 21) (tv 20) [])] [(0, 3), (1, 3), (0, 4), (1, 4)] [0, 2, 3])))

def l139_1 : VCode := (.seq (.seq (.region [] [o 34 (.mv (tv 0)),
 oa 35 (.call (kf 197) [(true, (tv 34))] []) 2432] [] [0, 2, 3, 4, 35])
 (.cond (tv 35) .skip
 (.exit 4)))
 (.block 5 (.region [2752] [o 36 (.fld 2 (tv 4)),
 o 37 (.load false 1 (tv 36)),
 o 38 (.mv (tv 0)),
 oa 39 (.call (kf 198) [(true, (tv 38))] []) 2688,
 oa 40 (.mkSl 5 [(tv 39)]) 2752,
 o 41 (.app 5 64 false (tv 37) (tv 40)),
 o 42 (.fld 2 (tv 4)),
 on (.store 1 (tv 42) (tv 41) [])] [(0, 3), (1, 3), (0, 4), (1, 4)] [0, 2, 3, 4])))

def l139_2 : VCode := (.seq (.seq (.region [] [o 24 (.mv (tv 0)),
 o 25 (.nn (tv 24)),
 o 26 (.fld 2 (tv 25)),
 o 27 (.load false 1 (tv 26)),
 o 28 (.un .not (tv 27))] [] [0, 2, 3, 28])
 (.cond (tv 28) .skip
 (.exit 2)))
 (.block 3 (.seq (.region [2240, 2304, 2307] [o 29 (.mv (tv 0)),
 oa 30 (.call (kf 187) [(true, (tv 29))] []) 1984,
 o 31 (.mv (tv 0)),
 oa 32 (.call (kf 189) [(true, (tv 31)), (false, (ki 2))] []) 2112,
 o 33 (.build [zi, zs, .nil] [(0, 1, (tv 30)), (1, 1, (tv 32))]),
 oa 4 (.new [zi, zs, .nil] []) 2240,
 ⟨none, (.store 3 (tv 4) (tv 33) [(2, 5)]), none, 2304, []⟩] [] [0, 2, 3, 4])
 (.seq (.block 4 (.loop l139_1))
 (.seq (.region [3200] [o 43 (.fld 3 (tv 3)),
 o 44 (.load false 1 (tv 43)),
 o 45 (.ldD true 3 (tv 4)),
 oa 46 (.mkSl 3 [(tv 45)]) 3200,
 o 47 (.app 3 48 false (tv 44) (tv 46)),
 o 48 (.fld 3 (tv 3)),
 on (.store 1 (tv 48) (tv 47) [])] [] [0, 2, 3])
 (.seq (.region [2240, 3200] [o 49 (.mv (tv 0)),
 oa 50 (.call (kf 188) [(true, (tv 49)), (false, (.k (.sc (.c (.str [124])))))] []) 3520,
 o 51 (.un .not (tv 50))] [] [0, 2, 3, 51])
 (.cond (tv 51) (.exit 2)
 .skip)))))))

def v139 : VFun := ⟨1,
 (.seq (.region [] [oa 2 (.new [zi, zs, .nil, .nil] []) 64] [] [0, 2])
 (.seq (.region [] [o 5 (.mv (tv 0)),
 oa 6 (.call (kf 187) [(true, (tv 5))] []) 192,
 o 7 (.build [zi, zs, .nil, .nil] [(0, 1, (tv 6))]),
 oa 3 (.new [zi, zs, .nil, .nil] []) 320,
 ⟨none, (.store 4 (tv 3) (tv 7) [(2, 1), (3, 3)]), none, 384, []⟩] [] [0, 2, 3])
 (.seq (.region [] [o 8 (.mv (tv 0)),
 oa 9 (.call (kf 190) [(true, (tv 8)), (false, (.k (.sc (.c (.str [100, 97, 116, 97])))))] []) 512] [] [0, 2, 3])
 (.seq (.region [] [o 10 (.mv (tv 0)),
 oa 11 (.call (kf 189) [(true, (tv 10)), (false, (ki 2))] []) 640,
 o 12 (.fld 1 (tv 3)),
 on (.store 1 (tv 12) (tv 11) [])] [] [0, 2, 3])
 (.seq (.block 0 (.loop l139_0))
 (.seq (.region [] [o 22 (.mv (tv 0)),
 oa 23 (.call (kf 190) [(true, (tv 22)), (false, (.k (.sc (.c (.str [61])))))] []) 1536] [] [0, 2, 3])
 (.seq (.block 2 (.loop l139_2))
 (.seq (.region [] [o 52 (.mv (tv 0)),
 oa 53 (.call (kf 190) [(true, (tv 52)), (false, (.k (.sc (.c (.str [59])))))] []) 3712] [] [2, 3])
 (.seq (.region [] [o 54 (.ldD true 4 (tv 3)),
 on (.store 4 (tv 2) (tv 54) [])] [] [2])
 .ret))))))))),
 [.cell 2 true 4], false⟩

def v140 : VFun := ⟨1,
 (.seq (.region [] [oa 2 (.new [zi, (.c (.bool false)), zs, (.c (.bool false)), zi, zs, zi, zi, .nil, zi, zi, zs, zi, .nil, .nil, zi, zs, zi, zi, .nil] []) 64] [] [0, 2])
 (.seq (.region [] [o 4 (.mv (tv 0)),
 oa 5 (.call (kf 187) [(true, (tv 4))] []) 192,
 o 6 (.build [zi, (.c (.bool false)), zs, (.c (.bool false)), zi, zs, zi, zi, .nil, zi, zi, zs, zi, .nil, .nil, zi, zs, zi, zi, .nil] [(0, 1, (tv 5))]),
 oa 3 (.new [zi, (.c (.bool false)), zs, (.c (.bool false)), zi, zs, zi, zi, .nil, zi, zi, zs, zi, .nil, .nil, zi, zs, zi, zi, .nil] []) 320,
 on (.store 20 (tv 3) (tv 6) [])] [] [0, 2, 3])
 (.seq (.region [] [o 7 (.mv (tv 0)),
 oa 8 (.call (kf 190) [(true, (tv 7)), (false, (.k (.sc (.c (.str [108, 101, 116])))))] []) 512] [] [0, 2, 3])
 (.seq (.region [] [o 9 (.mv (tv 0)),
 oa 10 (.call (kf 188) [(true, (tv 9)), (false, (.k (.sc (.c (.str [114, 101, 99])))))] []) 640,
 o 11 (.fld 1 (tv 3)),
 on (.store 1 (tv 11) (tv 10) [])] [] [0, 2, 3])
 (.seq (.region [] [o 12 (.mv (tv 0)),
 oa 13 (.call (kf 189) [(true, (tv 12)), (false, (ki 1))] []) 896,
 o 14 (.fld 2 (tv 3)),
 on (.store 1 (tv 14) (tv 13) [])] [] [0, 2, 3])
 (.seq (.seq (.region [] [o 15 (.mv (tv 0)),
 oa 16 (.call (kf 188) [(true, (tv 15)), (false, (.k (.sc (.c (.str [58])))))] []) 1152] [] [0, 2, 3, 16])
 (.cond (tv 16) (.seq (.region [] [o 17 (.fld 3 (tv 3)),
 on (.store 1 (tv 17) kt [])] [] [0, 2, 3])
 (.region [] [o 18 (.mv (tv 0)),
 oa 19 (.call (kf 199) [(true, (tv 18))] []) 1408,
 o 20 (.fld 4 (tv 3)),
 on (.store 5 (tv 20) (tv 19) [])] [] [0, 2, 3]))
 .skip))
 (.seq (.region [] [o 21 (.mv (tv 0)),
 oa 22 (.call (kf 190) [(true, (tv 21)), (false, (.k (.sc (.c (.str [61])))))] []) 1664] [] [0, 2, 3])
 (.seq (.seq (.region [] [o 23 (.mv (tv 0)),
 o 24 (.nn (tv 23)),
 o 25 (.fld 2 (tv 24)),
 o 26 (.load false 1 (tv 25)),
 o 27 (.un .not (tv 26))] [] [0, 2, 3, 27])
 (.cond (tv 27) (.region [] [o 28 (.mv (tv 0)),
 oa 29 (.call (kf 130) [(true, (tv 28))] []) 2112,
 o 30 (.fld 9 (tv 3)),
 on (.store 11 (tv 30) (tv 29) [])] [] [0, 2, 3])
 .skip))
 (.seq (.region [] [o 31 (.mv (tv 0)),
 oa 32 (.call (kf 190) [(true, (tv 31)), (false, (.k (.sc (.c (.str [59])))))] []) 2368] [] [2, 3])
 (.seq (.region [] [o 33 (.load true 20 (tv 3)),
 on (.store 20 (tv 2) (tv 33) [])] [] [2])
 .ret)))))))))),
 [.cell 2 true 20], false⟩

def l141_0 : VCode := (.seq (.seq (.region [] [o 43 (.mv (tv 5)),
 o 44 (.fld 3 (tv 4)),
 o 45 (.load false 1 (tv 44)),
 o 46 (.len false (tv 45)),
 o 47 (.bin .lss 0 (tv 43) (tv 46))] [] [1, 2, 3, 4, 5, 47])
 (.cond (tv 47) .skip
 (.exit 2)))
 (.seq (.block 3 (.seq (.region [] [o 50 (.fld 3 (tv 4)),
 o 51 (.load false 1 (tv 50)),
 o 52 (.mv (tv 5)),
 o 53 (.idxA 3 (tv 51) (tv 52)),
 o 54 (.fld 2 (tv 53)),
 o 55 (.load false 1 (tv 54)),
 o 56 (.len false (tv 55)),
 o 57 (.bin .gtr 0 (tv 56) (ki 4))] [] [1, 2, 3, 4, 5, 57])
 (.cond (tv 57) (.seq (.region [] [o 58 (.fld 3 (tv 4)),
 o 59 (.load false 1 (tv 58)),
 o 60 (.mv (tv 5)),
 o 61 (.idxA 3 (tv 59) (tv 60)),
 o 62 (.fld 0 (tv 61)),
 o 63 (.load false 1 (tv 62)),
 o 64 (.build [zi, zi] [(0, 1, (ki 5)), (1, 1, (tv 63))]),
 on (.store 2 (tv 2) (tv 64) [])] [] [2])
 .ret)
 .skip)))
 (.region [] [o 48 (.mv (tv 5)),
 o 49 (.bin .add 0 (tv 48) (ki 1)),
 o 5 (.mv (tv 49))] [] [1, 2, 3, 4, 5])))

def l141_1 : VCode := (.seq (.seq (.region [] [o 14 (.mv (tv 3)),
 o 15 (.fld 0 (tv 1)),
 o 16 (.load false 1 (tv 15)),
 o 17 (.len false (tv 16)),
 o 18 (.bin .lss 0 (tv 14) (tv 17))] [] [1, 2, 3, 18])
 (.cond (tv 18) .skip
 (.exit 0)))
 (.seq (.block 1 (.seq (.region [] [o 21 (.fld 0 (tv 1)),
 o 22 (.load false 1 (tv 21)),
 o 23 (.mv (tv 3)),
 o 24 (.idxA 4 (tv 22) (tv 23)),
 o 25 (.load true 4 (tv 24)),
 oa 4 (.new [zi, zs, .nil, .nil] []) 896,
 on (.store 4 (tv 4) (tv 25) [])] [] [1, 2, 3, 4])
 (.seq (.seq (.region [] [o 26 (.mv (tv 3)),
 o 27 (.bin .geq 0 (tv 26) (ki 8)),
 o 28 (.mv (tv 27)),
 og 29 (.fld 2 (tv 4)) 28 false,
 og 30 (.load false 1 (tv 29)) 28 false,
 og 31 (.len false (tv 30)) 28 false,
 og 32 (.bin .gtr 0 (tv 31) (ki 4)) 28 false,
 o 33 (.pick (tv 28) kt (tv 32)),
 o 34 (.mv (tv 33)),
 og 35 (.fld 3 (tv 4)) 34 false,
 og 36 (.load false 1 (tv 35)) 34 false,
 og 37 (.len false (tv 36)) 34 false,
 og 38 (.bin .gtr 0 (tv 37) (ki 6)) 34 false,
 o 39 (.pick (tv 34) kt (tv 38))] [] [1, 2, 3, 4, 39])
 (.cond (tv 39) (.seq (.region [] [o 40 (.fld 0 (tv 4)),
 o 41 (.load false 1 (tv 40)),
 o 42 (.build [zi, zi] [(0, 1, (ki 5)), (1, 1, (tv 41))]),
 on (.store 2 (tv 2) (tv 42) [])] [] [2])
 .ret)
 .skip))
 (.seq (.region [] [o 5 (.mv (ki 0))] [] [1, 2, 3, 4, 5])
 (.block 2 (.loop l141_0))))))
 (.region [896] [o 19 (.mv (tv 3)),
 o 20 (.bin .add 0 (tv 19) (ki 1)),
 o 3 (.mv (tv 20))] [] [1, 2, 3])))

def l141_2 : VCode := (.seq (.seq (.region [] [o 94 (.mv (tv 9)),
 o 95 (.fld 3 (tv 7)),
 o 96 (.load false 1 (tv 95)),
 o 97 (.mv (tv 8)),
 o 98 (.idxA 3 (tv 96) (tv 97)),
 o 99 (.fld 2 (tv 98)),
 o 100 (.load false 1 (tv 99)),
 o 101 (.len false (tv 100)),
 o 102 (.bin .lss 0 (tv 94) (tv 101))] [] [1, 2, 6, 7, 8, 9, 102])
 (.cond (tv 102) .skip
 (.exit 8)))
 (.seq (.block 9 (.seq (.region [] [o 105 (.fld 3 (tv 7)),
 o 106 (.load false 1 (tv 105)),
 o 107 (.mv (tv 8)),
 o 108 (.idxA 3 (tv 106) (tv 107)),
 o 109 (.fld 2 (tv 108)),
 o 110 (.load false 1 (tv 109)),
 o 111 (.mv (tv 9)),
 o 112 (.idxA 5 (tv 110) (tv 111)),
 o 113 (.load true 5 (tv 112)),
 oa 114 (.call (kf 200) [(false, (tv 113))] []) 7104,
 o 115 (.bin .gtr 0 (tv 114) (ki 40))] [] [1, 2, 6, 7, 8, 9, 115])
 (.cond (tv 115) (.seq (.region [] [o 116 (.fld 0 (tv 7)),
 o 117 (.load false 1 (tv 116)),
 o 118 (.build [zi, zi] [(0, 1, (ki 4)), (1, 1, (tv 117))]),
 on (.store 2 (tv 2) (tv 118) [])] [] [2])
 .ret)
 .skip)))
 (.region [] [o 103 (.mv (tv 9)),
 o 104 (.bin .add 0 (tv 103) (ki 1)),
 o 9 (.mv (tv 104))] [] [1, 2, 6, 7, 8, 9])))

def l141_3 : VCode := (.seq (.seq (.region [] [o 87 (.mv (tv 8)),
 o 88 (.fld 3 (tv 7)),
 o 89 (.load false 1 (tv 88)),
 o 90 (.len false (tv 89)),
 o 91 (.bin .lss 0 (tv 87) (tv 90))] [] [1, 2, 6, 7, 8, 91])
 (.cond (tv 91) .skip
 (.exit 6)))
 (.seq (.block 7 (.seq (.region [] [o 9 (.mv (ki 0))] [] [1, 2, 6, 7, 8, 9])
 (.block 8 (.loop l141_2))))
 (.region [] [o 92 (.mv (tv 8)),
 o 93 (.bin .add 0 (tv 92) (ki 1)),
 o 8 (.mv (tv 93))] [] [1, 2, 6, 7, 8])))

def l141_4 : VCode := (.seq (.seq (.region [] [o 75 (.mv (tv 6)),
 o 76 (.fld 0 (tv 1)),
 o 77 (.load false 1 (tv 76)),
 o 78 (.len false (tv 77)),
 o 79 (.bin .lss 0 (tv 75) (tv 78))] [] [1, 2, 6, 79])
 (.cond (tv 79) .skip
 (.exit 4)))
 (.seq (.block 5 (.seq (.region [] [o 82 (.fld 0 (tv 1)),
 o 83 (.load false 1 (tv 82)),
 o 84 (.mv (tv 6)),
 o 85 (.idxA 4 (tv 83) (tv 84)),
 o 86 (.load true 4 (tv 85)),
 oa 7 (.new [zi, zs, .nil, .nil] []) 5376,
 on (.store 4 (tv 7) (tv 86) [])] [] [1, 2, 6, 7])
 (.seq (.region [] [o 8 (.mv (ki 0))] [] [1, 2, 6, 7, 8])
 (.block 6 (.loop l141_3)))))
 (.region [5376] [o 80 (.mv (tv 6)),
 o 81 (.bin .add 0 (tv 80) (ki 1)),
 o 6 (.mv (tv 81))] [] [1, 2, 6])))

def l141_5 : VCode := (.seq (.seq (.region [] [o 119 (.mv (tv 10)),
 o 120 (.fld 1 (tv 1)),
 o 121 (.load false 1 (tv 120)),
 o 122 (.len false (tv 121)),
 o 123 (.bin .lss 0 (tv 119) (tv 122))] [] [1, 2, 10, 123])
 (.cond (tv 123) .skip
 (.exit 10)))
 (.seq (.block 11 (.seq (.region [] [o 126 (.fld 1 (tv 1)),
 o 127 (.load false 1 (tv 126)),
 o 128 (.mv (tv 10)),
 o 129 (.idxA 20 (tv 127) (tv 128)),
 o 130 (.load true 20 (tv 129)),
 oa 11 (.new [zi, (.c (.bool false)), zs, (.c (.bool false)), zi, zs, zi, zi, .nil, zi, zi, zs, zi, .nil, .nil, zi, zs, zi, zi, .nil] []) 8768,
 on (.store 20 (tv 11) (tv 130) [])] [] [1, 2, 10, 11])
 (.seq (.seq (.region [] [o 131 (.fld 3 (tv 11)),
 o 132 (.load false 1 (tv 131)),
 o 133 (.mv (tv 132)),
 og 134 (.fld 4 (tv 11)) 133 true,
 og 135 (.load true 5 (tv 134)) 133 true,
 ⟨(some 136), (.call (kf 200) [(false, (tv 135))] []), (some (133, true)), 9216, []⟩,
 og 137 (.bin .gtr 0 (tv 136) (ki 40)) 133 true,
 o 138 (.pick (tv 133) (tv 137) kF),
 o 139 (.mv (tv 138)),
 og 140 (.fld 9 (tv 11)) 139 false,
 og 141 (.load true 11 (tv 140)) 139 false,
 ⟨(some 142), (.call (kf 132) [(false, (tv 141))] []), (some (139, false)), 9600, []⟩,
 o 143 (.pick (tv 139) kt (tv 142))] [] [1, 2, 10, 11, 143])
 (.cond (tv 143) (.seq (.region [] [o 144 (.fld 0 (tv 11)),
 o 145 (.load false 1 (tv 144)),
 o 146 (.build [zi, zi] [(0, 1, (ki 4)), (1, 1, (tv 145))]),
 on (.store 2 (tv 2) (tv 146) [])] [] [2])
 .ret)
 .skip))
 (.seq (.region [] [o 148 (.fld 9 (tv 11)),
 o 149 (.load true 11 (tv 148)),
 oa 150 (.call (kf 133) [(false, (tv 149))] []) 10112,
 o 147 (.mv (tv 150)),
 o 151 (.ext 0 (tv 147)),
 o 152 (.ext 1 (tv 147)),
 o 12 (.mv (tv 151)),
 o 13 (.mv (tv 152))] [] [1, 2, 10, 12, 13])
 (.seq (.region [8768] [o 153 (.mv (tv 13))] [] [1, 2, 10, 12, 153])
 (.cond (tv 153) (.seq (.region [] [o 154 (.mv (tv 12)),
 o 155 (.build [zi, zi] [(0, 1, (ki 5)), (1, 1, (tv 154))]),
 on (.store 2 (tv 2) (tv 155) [])] [] [2])
 .ret)
 .skip))))))
 (.region [8768] [o 124 (.mv (tv 10)),
 o 125 (.bin .add 0 (tv 124) (ki 1)),
 o 10 (.mv (tv 125))] [] [1, 2, 10])))

def v141 : VFun := ⟨1,
 (.seq (.region [] [oa 1 (.box (tv 0)) 64,
 oa 2 (.new [zi, zi] []) 128] [] [1, 2])
 (.seq (.seq (.region [] [o 3 (.mv (ki 0))] [] [1, 2, 3])
 (.block 0 (.loop l141_1)))
 (.seq (.seq (.region [] [o 65 (.fld 1 (tv 1)),
 o 66 (.load false 1 (tv 65)),
 o 67 (.len false (tv 66)),
 o 68 (.bin .gtr 0 (tv 67) (ki 16))] [] [1, 2, 68])
 (.cond (tv 68) (.seq (.region [] [o 69 (.fld 1 (tv 1)),
 o 70 (.load false 1 (tv 69)),
 o 71 (.idxA 20 (tv 70) (ki 16)),
 o 72 (.fld 0 (tv 71)),
 o 73 (.load false 1 (tv 72)),
 o 74 (.build [zi, zi] [(0, 1, (ki 5)), (1, 1, (tv 73))]),
 on (.store 2 (tv 2) (tv 74) [])] [] [2])
 .ret)
 .skip))
 (.seq (.seq (.region [] [o 6 (.mv (ki 0))] [] [1, 2, 6])
 (.block 4 (.loop l141_4)))
 (.seq (.seq (.region [] [o 10 (.mv (ki 0))] [] [1, 2, 10])
 (.block 10 (.loop l141_5)))
 (.seq (.region [] [o 156 (.build [zi, zi] []),
 on (.store 2 (tv 2) (tv 156) [])] [] [2])
 .ret)))))),
 [.cell 2 true 2], false⟩

def v142 : VFun := ⟨1,
 (.seq (.region [] [oa 1 (.box (tv 0)) 64,
 o 2 (.mv (.k (.sc (.c .nilfn))))] [] [1])
 (.seq (.region [] [o 3 (.fn 201 [(tv 1)]),
 o 2 (.mv (tv 3))] [] [2])
 .ret)),
 [.tmp 2], true⟩

def l143_0 : VCode := (.seq (.region [] [o 18 (.bin .lss 0 (tv 17) (tv 16))] [] [1, 2, 15, 16, 17, 18])
 (.seq (.cond (tv 18) .skip
 (.exit 0))
 (.seq (.block 1 (.seq (.region [] [o 19 (.mv (tv 17)),
 o 20 (.idxA 14 (tv 15) (tv 17)),
 o 21 (.load true 14 (tv 20)),
 oa 8 (.new [zi, zs, .nil, zi, zi, zs, zi, .nil, .nil, zi, zs, zi, zi, .nil] []) 960,
 o 7 (.mv (tv 19)),
 on (.store 14 (tv 8) (tv 21) [])] [] [1, 2, 7, 8, 15, 16, 17])
 (.seq (.region [] [o 22 (.mv (tv 1)),
 o 23 (.mv (tv 7)),
 o 24 (.idxA 14 (tv 22) (tv 23)),
 o 25 (.load true 14 (tv 24)),
 oa 9 (.new [zi, zs, .nil, zi, zi, zs, zi, .nil, .nil, zi, zs, zi, zi, .nil] []) 1408,
 on (.store 14 (tv 9) (tv 25) [])] [] [1, 2, 8, 9, 15, 16, 17])
 (.seq (.region [] [o 26 (.mv (tv 2)),
 o 27 (.load true 14 (tv 8)),
 o 28 (.load true 14 (tv 9)),
 oa 29 (.call (tv 26) [(false, (tv 27)), (false, (tv 28))] []) 1728,
 o 30 (.un .not (tv 29))] [] [1, 2, 15, 16, 17, 30])
 (.cond (tv 30) (.seq (.region [960, 1408] [o 6 (.mv kF)] [] [6])
 .ret)
 .skip)))))
 (.region [960, 1408, 1760, 1761, 1762] [o 31 (.bin .add 0 (tv 17) (ki 1)),
 o 17 (.mv (tv 31))] [] [1, 2, 15, 16, 17]))))

def v143 : VFun := ⟨3,
 (.seq (.region [] [o 6 (.mv kF)] [] [0, 1, 2])
 (.seq (.seq (.region [] [o 10 (.mv (tv 0)),
 o 11 (.len false (tv 10)),
 o 12 (.mv (tv 1)),
 o 13 (.len false (tv 12)),
 o 14 (.bin .neq 0 (tv 11) (tv 13))] [] [0, 1, 2, 14])
 (.cond (tv 14) (.seq (.region [] [o 6 (.mv kF)] [] [6])
 .ret)
 .skip))
 (.seq (.seq (.region [] [o 15 (.mv (tv 0)),
 o 16 (.len false (tv 15)),
 o 17 (.mv (ki 0))] [] [1, 2, 15, 16, 17])
 (.block 0 (.loop l143_0)))
 (.seq (.region [] [o 6 (.mv kt)] [] [6])
 .ret)))),
 [.tmp 6], false⟩

def v144 : VFun := ⟨2,
 (.seq (.region [] [oa 2 (.box (tv 0)) 64,
 oa 3 (.box (tv 1)) 128,
 o 4 (.mv kF)] [] [2, 3])
 (.seq (.region [] [o 5 (.fld 1 (tv 2)),
 o 6 (.load false 1 (tv 5)),
 o 7 (.fld 1 (tv 3)),
 o 8 (.load false 1 (tv 7)),
 o 9 (.bin .eql 0 (tv 6) (tv 8)),
 o 10 (.mv (tv 9)),
 og 11 (.fld 2 (tv 2)) 10 true,
 og 12 (.load false 1 (tv 11)) 10 true,
 og 13 (.fld 2 (tv 3)) 10 true,
 og 14 (.load false 1 (tv 13)) 10 true,
 ⟨(some 15), (.call (kf 145) [(false, (tv 12)), (false, (tv 14))] []), (some (10, true)), 896, []⟩,
 o 16 (.pick (tv 10) (tv 15) kF),
 o 17 (.mv (tv 16)),
 og 18 (.fld 3 (tv 2)) 17 true,
 og 19 (.load true 11 (tv 18)) 17 true,
 og 20 (.fld 3 (tv 3)) 17 true,
 og 21 (.load true 11 (tv 20)) 17 true,
 ⟨(some 22), (.call (kf 94) [(false, (tv 19)), (false, (tv 21))] []), (some (17, true)), 1344, []⟩,
 o 23 (.pick (tv 17) (tv 22) kF),
 o 4 (.mv (tv 23))] [] [4])
 .ret)),
 [.tmp 4], false⟩

def l146_0 : VCode := (.seq (.region [] [o 18 (.bin .lss 0 (tv 17) (tv 16))] [] [1, 2, 15, 16, 17, 18])
 (.seq (.cond (tv 18) .skip
 (.exit 0))
 (.seq (.block 1 (.seq (.region [] [o 19 (.mv (tv 17)),
 o 20 (.idxA 11 (tv 15) (tv 17)),
 o 21 (.load true 11 (tv 20)),
 oa 8 (.new [zi, zi, zs, zi, .nil, .nil, zi, zs, zi, zi, .nil] []) 960,
 o 7 (.mv (tv 19)),
 on (.store 11 (tv 8) (tv 21) [])] [] [1, 2, 7, 8, 15, 16, 17])
 (.seq (.region [] [o 22 (.mv (tv 1)),
 o 23 (.mv (tv 7)),
 o 24 (.idxA 11 (tv 22) (tv 23)),
 o 25 (.load true 11 (tv 24)),
 oa 9 (.new [zi, zi, zs, zi, .nil, .nil, zi, zs, zi, zi, .nil] []) 1408,
 on (.store 11 (tv 9) (tv 25) [])] [] [1, 2, 8, 9, 15, 16, 17])
 (.seq (.region [] [o 26 (.mv (tv 2)),
 o 27 (.load true 11 (tv 8)),
 o 28 (.load true 11 (tv 9)),
 oa 29 (.call (tv 26) [(false, (tv 27)), (false, (tv 28))] []) 1728,
 o 30 (.un .not (tv 29))] [] [1, 2, 15, 16, 17, 30])
 (.cond (tv 30) (.seq (.region [960, 1408] [o 6 (.mv kF)] [] [6])
 .ret)
 .skip)))))
 (.region [960, 1408, 1760, 1761, 1762] [o 31 (.bin .add 0 (tv 17) (ki 1)),
 o 17 (.mv (tv 31))] [] [1, 2, 15, 16, 17]))))

def v146 : VFun := ⟨3,
 (.seq (.region [] [o 6 (.mv kF)] [] [0, 1, 2])
 (.seq (.seq (.region [] [o 10 (.mv (tv 0)),
 o 11 (.len false (tv 10)),
 o 12 (.mv (tv 1)),
 o 13 (.len false (tv 12)),
 o 14 (.bin .neq 0 (tv 11) (tv 13))] [] [0, 1, 2, 14])
 (.cond (tv 14) (.seq (.region [] [o 6 (.mv kF)] [] [6])
 .ret)
 .skip))
 (.seq (.seq (.region [] [o 15 (.mv (tv 0)),
 o 16 (.len false (tv 15)),
 o 17 (.mv (ki 0))] [] [1, 2, 15, 16, 17])
 (.block 0 (.loop l146_0)))
 (.seq (.region [] [o 6 (.mv kt)] [] [6])
 .ret)))),
 [.tmp 6], false⟩

def l147_0 : VCode := (.seq (.seq (.region [] [o 30 (.mv (tv 7)),
 o 31 (.fld 5 (tv 6)),
 o 32 (.load false 1 (tv 31)),
 o 33 (.len false (tv 32)),
 o 34 (.bin .lss 0 (tv 30) (tv 33))] [] [1, 4, 5, 6, 7, 34])
 (.cond (tv 34) .skip
 (.exit 0)))
 (.seq (.block 1 (.region [] [o 37 (.fld 5 (tv 6)),
 o 38 (.load false 1 (tv 37)),
 o 39 (.mv (tv 7)),
 o 40 (.mv (tv 1)),
 o 41 (.mv (tv 5)),
 o 42 (.mv (tv 7)),
 o 43 (.bin .add 0 (tv 41) (tv 42)),
 o 44 (.idxA 11 (tv 40) (tv 43)),
 o 45 (.load true 11 (tv 44)),
 o 46 (.idxA 14 (tv 38) (tv 39)),
 o 47 (.fld 3 (tv 46)),
 on (.store 11 (tv 47) (tv 45) [])] [(0, 7), (1, 7), (0, 8), (1, 8)] [1, 4, 5, 6, 7]))
 (.region [] [o 35 (.mv (tv 7)),
 o 36 (.bin .add 0 (tv 35) (ki 1)),
 o 7 (.mv (tv 36))] [] [1, 4, 5, 6, 7])))

def v147 : VFun := ⟨2,
 (.seq (.region [] [oa 2 (.box (tv 0)) 64,
 oa 4 (.new [zi, zi, zs, zi, .nil, .nil, zi, zs, zi, zi, .nil] []) 128] [] [1, 2, 4])
 (.seq (.region [] [o 8 (.fld 4 (tv 2)),
 o 9 (.load false 1 (tv 8)),
 o 10 (.len false (tv 9)),
 o 5 (.mv (tv 10))] [] [1, 2, 4, 5])
 (.seq (.seq (.region [] [o 11 (.mv (tv 1)),
 o 12 (.len false (tv 11)),
 o 13 (.mv (tv 5)),
 o 14 (.fld 5 (tv 2)),
 o 15 (.load false 1 (tv 14)),
 o 16 (.len false (tv 15)),
 o 17 (.bin .add 0 (tv 13) (tv 16)),
 o 18 (.bin .neq 0 (tv 12) (tv 17))] [] [1, 2, 4, 5, 18])
 (.cond (tv 18) (.seq (.region [] [o 19 (.load true 11 (tv 2)),
 on (.store 11 (tv 4) (tv 19) [])] [] [4])
 .ret)
 .skip))
 (.seq (.region [] [o 20 (.load true 11 (tv 2)),
 oa 6 (.new [zi, zi, zs, zi, .nil, .nil, zi, zs, zi, zi, .nil] []) 1152,
 on (.store 11 (tv 6) (tv 20) [])] [] [1, 2, 4, 5, 6])
 (.seq (.region [] [o 21 (.mv (tv 1)),
 o 22 (.mv (tv 5)),
 o 23 (.sl 11 (tv 21) none (some (tv 22)) none),
 oa 24 (.app 11 152 true kn (tv 23)) 1472,
 o 25 (.fld 5 (tv 2)),
 o 26 (.load false 1 (tv 25)),
 oa 27 (.app 14 200 true kn (tv 26)) 1664,
 o 28 (.fld 4 (tv 6)),
 on (.store 1 (tv 28) (tv 24) []),
 o 29 (.fld 5 (tv 6)),
 on (.store 1 (tv 29) (tv 27) [])] [(2, 4), (3, 4), (2, 5), (3, 5), (4, 7), (5, 7), (6, 7)] [1, 4, 5, 6])
 (.seq (.seq (.region [64] [o 7 (.mv (ki 0))] [] [1, 4, 5, 6, 7])
 (.block 0 (.loop l147_0)))
 (.seq (.region [] [o 48 (.load true 11 (tv 6)),
 on (.store 11 (tv 4) (tv 48) [])] [] [4])
 .ret))))))),
 [.cell 4 true 11], false⟩

def v148 : VFun := ⟨2,
 (.seq (.region [] [o 4 (.mv kF)] [] [0, 1])
 (.seq (.region [] [o 5 (.mv (tv 0)),
 o 6 (.len true (tv 5)),
 o 7 (.mv (tv 1)),
 o 8 (.len true (tv 7)),
 o 9 (.bin .geq 0 (tv 6) (tv 8)),
 o 10 (.mv (tv 9)),
 og 11 (.mv (tv 0)) 10 true,
 og 12 (.mv (tv 1)) 10 true,
 og 13 (.len true (tv 12)) 10 true,
 og 14 (.slS (tv 11) none (some (tv 13))) 10 true,
 og 15 (.mv (tv 1)) 10 true,
 og 16 (.bin .eql 0 (tv 14) (tv 15)) 10 true,
 o 17 (.pick (tv 10) (tv 16) kF),
 o 4 (.mv (tv 17))] [] [4])
 .ret)),
 [.tmp 4], false⟩

def v149 : VFun := ⟨1,
 (.seq (.region [] [o 2 (.mv (.k (.sc (.c (.int .u8 0)))))] [] [0])
 (.seq (.region [] [o 3 (.mv (tv 0)),
 o 4 (.bin .or 0 (tv 3) (.k (.sc (.c (.int .u8 32))))),
 o 2 (.mv (tv 4))] [] [2])
 .ret)),
 [.tmp 2], false⟩

def l150_0 : VCode := (.seq (.seq (.region [] [o 51 (.mv (tv 4)),
 o 52 (.mv (tv 0)),
 o 53 (.len true (tv 52)),
 o 54 (.bin .lss 0 (tv 51) (tv 53))] [] [0, 3, 4, 5, 54])
 (.cond (tv 54) .skip
 (.exit 0)))
 (.seq (.block 1 (.seq (.seq (.region [] [o 57 (.mv (tv 0)),
 o 58 (.mv (tv 4)),
 o 59 (.idxS (tv 57) (tv 58)),
 o 60 (.bin .leq 0 (.k (.sc (.c (.int .u8 48)))) (tv 59)),
 o 61 (.mv (tv 60)),
 og 62 (.mv (tv 0)) 61 true,
 og 63 (.mv (tv 4)) 61 true,
 og 64 (.idxS (tv 62) (tv 63)) 61 true,
 og 65 (.bin .leq 0 (tv 64) (.k (.sc (.c (.int .u8 57))))) 61 true,
 o 66 (.pick (tv 61) (tv 65) kF),
 o 67 (.mv (tv 66)),
 og 68 (.mv (tv 5)) 67 false,
 og 69 (.mv (tv 68)) 67 false,
 og 70 (.mv (tv 0)) 69 true,
 og 71 (.mv (tv 4)) 69 true,
 og 72 (.idxS (tv 70) (tv 71)) 69 true,
 ⟨(some 73), (.call (kf 149) [(false, (tv 72))] []), (some (69, true)), 4736, []⟩,
 og 74 (.bin .leq 0 (.k (.sc (.c (.int .u8 97)))) (tv 73)) 69 true,
 og 75 (.pick (tv 69) (tv 74) kF) 67 false,
 og 76 (.mv (tv 75)) 67 false,
 og 77 (.mv (tv 0)) 76 true,
 og 78 (.mv (tv 4)) 76 true,
 og 79 (.idxS (tv 77) (tv 78)) 76 true,
 ⟨(some 80), (.call (kf 149) [(false, (tv 79))] []), (some (76, true)), 5184, []⟩,
 og 81 (.bin .leq 0 (tv 80) (.k (.sc (.c (.int .u8 102))))) 76 true,
 og 82 (.pick (tv 76) (tv 81) kF) 67 false,
 o 83 (.pick (tv 67) kt (tv 82))] [] [0, 3, 4, 5, 83])
 (.cond (tv 83) (.seq (.region [] [o 3 (.mv (.k (.sc (.c (.int .i32 48)))))] [] [0, 3, 4, 5])
 (.exit 1))
 .skip))
 (.seq (.seq (.region [] [o 84 (.mv (tv 0)),
 o 85 (.mv (tv 4)),
 o 86 (.idxS (tv 84) (tv 85)),
 o 87 (.bin .eql 0 (tv 86) (.k (.sc (.c (.int .u8 95)))))] [] [0, 3, 4, 5, 87])
 (.cond (tv 87) (.seq (.seq (.region [] [o 88 (.mv (tv 3)),
 o 89 (.bin .neq 0 (tv 88) (.k (.sc (.c (.int .i32 48)))))] [] [0, 4, 5, 89])
 (.cond (tv 89) (.seq (.region [] [o 2 (.mv kF)] [] [2])
 .ret)
 .skip))
 (.seq (.region [] [o 3 (.mv (.k (.sc (.c (.int .i32 95)))))] [] [0, 3, 4, 5])
 (.exit 1)))
 .skip))
 (.seq (.seq (.region [] [o 90 (.mv (tv 3)),
 o 91 (.bin .eql 0 (tv 90) (.k (.sc (.c (.int .i32 95)))))] [] [0, 4, 5, 91])
 (.cond (tv 91) (.seq (.region [] [o 2 (.mv kF)] [] [2])
 .ret)
 .skip))
 (.region [] [o 3 (.mv (.k (.sc (.c (.int .i32 33)))))] [] [0, 3, 4, 5])))))
 (.region [] [o 55 (.mv (tv 4)),
 o 56 (.bin .add 0 (tv 55) (ki 1)),
 o 4 (.mv (tv 56))] [] [0, 3, 4, 5])))

def v150 : VFun := ⟨1,
 (.seq (.region [] [o 2 (.mv kF)] [] [0])
 (.seq (.region [] [o 3 (.mv (.k (.sc (.c (.int .i32 94)))))] [] [0, 3])
 (.seq (.region [] [o 4 (.mv (ki 0))] [] [0, 3, 4])
 (.seq (.seq (.region [] [o 6 (.mv (tv 0)),
 o 7 (.len true (tv 6)),
 o 8 (.bin .geq 0 (tv 7) (ki 1)),
 o 9 (.mv (tv 8)),
 og 10 (.mv (tv 0)) 9 true,
 og 11 (.idxS (tv 10) (ki 0)) 9 true,
 og 12 (.bin .eql 0 (tv 11) (.k (.sc (.c (.int .u8 45))))) 9 true,
 og 13 (.mv (tv 12)) 9 true,
 og 14 (.mv (tv 0)) 13 false,
 og 15 (.idxS (tv 14) (ki 0)) 13 false,
 og 16 (.bin .eql 0 (tv 15) (.k (.sc (.c (.int .u8 43))))) 13 false,
 og 17 (.pick (tv 13) kt (tv 16)) 9 true,
 o 18 (.pick (tv 9) (tv 17) kF)] [] [0, 3, 4, 18])
 (.cond (tv 18) (.region [] [o 19 (.mv (tv 0)),
 o 20 (.slS (tv 19) (some (ki 1)) none),
 o 0 (.mv (tv 20))] [] [0, 3, 4])
 .skip))
 (.seq (.region [] [o 5 (.mv kF)] [] [0, 3, 4, 5])
 (.seq (.seq (.region [] [o 21 (.mv (tv 0)),
 o 22 (.len true (tv 21)),
 o 23 (.bin .geq 0 (tv 22) (ki 2)),
 o 24 (.mv (tv 23)),
 og 25 (.mv (tv 0)) 24 true,
 og 26 (.idxS (tv 25) (ki 0)) 24 true,
 og 27 (.bin .eql 0 (tv 26) (.k (.sc (.c (.int .u8 48))))) 24 true,
 o 28 (.pick (tv 24) (tv 27) kF),
 o 29 (.mv (tv 28)),
 og 30 (.mv (tv 0)) 29 true,
 og 31 (.idxS (tv 30) (ki 1)) 29 true,
 ⟨(some 32), (.call (kf 149) [(false, (tv 31))] []), (some (29, true)), 2048, []⟩,
 og 33 (.bin .eql 0 (tv 32) (.k (.sc (.c (.int .u8 98))))) 29 true,
 og 34 (.mv (tv 33)) 29 true,
 og 35 (.mv (tv 0)) 34 false,
 og 36 (.idxS (tv 35) (ki 1)) 34 false,
 ⟨(some 37), (.call (kf 149) [(false, (tv 36))] []), (some (34, false)), 2368, []⟩,
 og 38 (.bin .eql 0 (tv 37) (.k (.sc (.c (.int .u8 111))))) 34 false,
 og 39 (.pick (tv 34) kt (tv 38)) 29 true,
 og 40 (.mv (tv 39)) 29 true,
 og 41 (.mv (tv 0)) 40 false,
 og 42 (.idxS (tv 41) (ki 1)) 40 false,
 ⟨(some 43), (.call (kf 149) [(false, (tv 42))] []), (some (40, false)), 2752, []⟩,
 og 44 (.bin .eql 0 (tv 43) (.k (.sc (.c (.int .u8 120))))) 40 false,
 og 45 (.pick (tv 40) kt (tv 44)) 29 true,
 o 46 (.pick (tv 29) (tv 45) kF)] [] [0, 3, 4, 5, 46])
 (.cond (tv 46) (.seq (.region [] [o 4 (.mv (ki 2))] [] [0, 4])
 (.seq (.region [] [o 3 (.mv (.k (.sc (.c (.int .i32 48)))))] [] [0, 3, 4])
 (.region [] [o 47 (.mv (tv 0)),
 o 48 (.idxS (tv 47) (ki 1)),
 oa 49 (.call (kf 149) [(false, (tv 48))] []) 3264,
 o 50 (.bin .eql 0 (tv 49) (.k (.sc (.c (.int .u8 120))))),
 o 5 (.mv (tv 50))] [] [0, 3, 4, 5])))
 .skip))
 (.seq (.block 0 (.loop l150_0))
 (.seq (.region [] [o 92 (.mv (tv 3)),
 o 93 (.bin .neq 0 (tv 92) (.k (.sc (.c (.int .i32 95))))),
 o 2 (.mv (tv 93))] [] [2])
 .ret)))))))),
 [.tmp 2], false⟩

set_option maxRecDepth 100000 in
theorem m73 : mFun Go.Proofs.Tryz.prog 73 v73 = true := by kernel_rfl
set_option maxRecDepth 100000 in
theorem m75 : mFun Go.Proofs.Tryz.prog 75 v75 = true := by kernel_rfl
set_option maxRecDepth 100000 in
theorem m77 : mFun Go.Proofs.Tryz.prog 77 v77 = true := by kernel_rfl
set_option maxRecDepth 100000 in
theorem m76 : mFun Go.Proofs.Tryz.prog 76 v76 = true := by kernel_rfl
set_option maxRecDepth 100000 in
theorem m78 : mFun Go.Proofs.Tryz.prog 78 v78 = true := by kernel_rfl
set_option maxRecDepth 100000 in
theorem m79 : mFun Go.Proofs.Tryz.prog 79 v79 = true := by kernel_rfl
set_option maxRecDepth 100000 in
theorem m80 : mFun Go.Proofs.Tryz.prog 80 v80 = true := by kernel_rfl
set_option maxRecDepth 100000 in
theorem m81 : mFun Go.Proofs.Tryz.prog 81 v81 = true := by kernel_rfl
set_option maxRecDepth 100000 in
theorem m82 : mFun Go.Proofs.Tryz.prog 82 v82 = true := by kernel_rfl
set_option maxRecDepth 100000 in
theorem m84 : mFun Go.Proofs.Tryz.prog 84 v84 = true := by kernel_rfl
set_option maxRecDepth 100000 in
theorem m83 : mFun Go.Proofs.Tryz.prog 83 v83 = true := by kernel_rfl
set_option maxRecDepth 100000 in
theorem m85 : mFun Go.Proofs.Tryz.prog 85 v85 = true := by kernel_rfl
set_option maxRecDepth 100000 in
theorem m86 : mFun Go.Proofs.Tryz.prog 86 v86 = true := by kernel_rfl
set_option maxRecDepth 100000 in
theorem m87 : mFun Go.Proofs.Tryz.prog 87 v87 = true := by kernel_rfl
set_option maxRecDepth 100000 in
theorem m88 : mFun Go.Proofs.Tryz.prog 88 v88 = true := by kernel_rfl
set_option maxRecDepth 100000 in
theorem m89 : mFun Go.Proofs.Tryz.prog 89 v89 = true := by kernel_rfl
set_option maxRecDepth 100000 in
theorem m90 : mFun Go.Proofs.Tryz.prog 90 v90 = true := by kernel_rfl
set_option maxRecDepth 100000 in
theorem m91 : mFun Go.Proofs.Tryz.prog 91 v91 = true := by kernel_rfl
set_option maxRecDepth 100000 in
theorem m92 : mFun Go.Proofs.Tryz.prog 92 v92 = true := by kernel_rfl
set_option maxRecDepth 100000 in
theorem m93 : mFun Go.Proofs.Tryz.prog 93 v93 = true := by kernel_rfl
set_option maxRecDepth 100000 in
theorem m95 : mFun Go.Proofs.Tryz.prog 95 v95 = true := by kernel_rfl
set_option maxRecDepth 100000 in
theorem m94 : mFun Go.Proofs.Tryz.prog 94 v94 = true := by kernel_rfl
set_option maxRecDepth 100000 in
theorem m96 : mFun Go.Proofs.Tryz.prog 96 v96 = true := by kernel_rfl
set_option maxRecDepth 100000 in
theorem m97 : mFun Go.Proofs.Tryz.prog 97 v97 = true := by kernel_rfl
set_option maxRecDepth 100000 in
theorem m99 : mFun Go.Proofs.Tryz.prog 99 v99 = true := by kernel_rfl
set_option maxRecDepth 100000 in
theorem m98 : mFun Go.Proofs.Tryz.prog 98 v98 = true := by kernel_rfl
set_option maxRecDepth 100000 in
theorem m100 : mFun Go.Proofs.Tryz.prog 100 v100 = true := by kernel_rfl
set_option maxRecDepth 100000 in
theorem m101 : mFun Go.Proofs.Tryz.prog 101 v101 = true := by kernel_rfl
set_option maxRecDepth 100000 in
theorem m102 : mFun Go.Proofs.Tryz.prog 102 v102 = true := by kernel_rfl
set_option maxRecDepth 100000 in
theorem m103 : mFun Go.Proofs.Tryz.prog 103 v103 = true := by kernel_rfl
set_option maxRecDepth 100000 in
theorem m105 : mFun Go.Proofs.Tryz.prog 105 v105 = true := by kernel_rfl
set_option maxRecDepth 100000 in
theorem m104 : mFun Go.Proofs.Tryz.prog 104 v104 = true := by kernel_rfl
set_option maxRecDepth 100000 in
theorem m67 : mFun Go.Proofs.Tryz.prog 67 v67 = true := by kernel_rfl
set_option maxRecDepth 100000 in
theorem m71 : mFun Go.Proofs.Tryz.prog 71 v71 = true := by kernel_rfl
set_option maxRecDepth 100000 in
theorem m70 : mFun Go.Proofs.Tryz.prog 70 v70 = true := by kernel_rfl
set_option maxRecDepth 100000 in
theorem m72 : mFun Go.Proofs.Tryz.prog 72 v72 = true := by kernel_rfl
set_option maxRecDepth 100000 in
theorem m108 : mFun Go.Proofs.Tryz.prog 108 v108 = true := by kernel_rfl
set_option maxRecDepth 100000 in
theorem m109 : mFun Go.Proofs.Tryz.prog 109 v109 = true := by kernel_rfl
set_option maxRecDepth 100000 in
theorem m110 : mFun Go.Proofs.Tryz.prog 110 v110 = true := by kernel_rfl
set_option maxRecDepth 100000 in
theorem m111 : mFun Go.Proofs.Tryz.prog 111 v111 = true := by kernel_rfl
set_option maxRecDepth 100000 in
theorem m112 : mFun Go.Proofs.Tryz.prog 112 v112 = true := by kernel_rfl
set_option maxRecDepth 100000 in
theorem m113 : mFun Go.Proofs.Tryz.prog 113 v113 = true := by kernel_rfl
set_option maxRecDepth 100000 in
theorem m114 : mFun Go.Proofs.Tryz.prog 114 v114 = true := by kernel_rfl
set_option maxRecDepth 100000 in
theorem m115 : mFun Go.Proofs.Tryz.prog 115 v115 = true := by kernel_rfl
set_option maxRecDepth 100000 in
theorem m116 : mFun Go.Proofs.Tryz.prog 116 v116 = true := by kernel_rfl
set_option maxRecDepth 100000 in
theorem m107 : mFun Go.Proofs.Tryz.prog 107 v107 = true := by kernel_rfl
set_option maxRecDepth 100000 in
theorem m121 : mFun Go.Proofs.Tryz.prog 121 v121 = true := by kernel_rfl
set_option maxRecDepth 100000 in
theorem m117 : mFun Go.Proofs.Tryz.prog 117 v117 = true := by kernel_rfl
set_option maxRecDepth 100000 in
theorem m118 : mFun Go.Proofs.Tryz.prog 118 v118 = true := by kernel_rfl
set_option maxRecDepth 100000 in
theorem m119 : mFun Go.Proofs.Tryz.prog 119 v119 = true := by kernel_rfl
set_option maxRecDepth 100000 in
theorem m120 : mFun Go.Proofs.Tryz.prog 120 v120 = true := by kernel_rfl
set_option maxRecDepth 100000 in
theorem m123 : mFun Go.Proofs.Tryz.prog 123 v123 = true := by kernel_rfl
set_option maxRecDepth 100000 in
theorem m122 : mFun Go.Proofs.Tryz.prog 122 v122 = true := by kernel_rfl
set_option maxRecDepth 100000 in
theorem m128 : mFun Go.Proofs.Tryz.prog 128 v128 = true := by kernel_rfl
set_option maxRecDepth 100000 in
theorem m129 : mFun Go.Proofs.Tryz.prog 129 v129 = true := by kernel_rfl
set_option maxRecDepth 100000 in
theorem m130 : mFun Go.Proofs.Tryz.prog 130 v130 = true := by kernel_rfl
set_option maxRecDepth 100000 in
theorem m131 : mFun Go.Proofs.Tryz.prog 131 v131 = true := by kernel_rfl
set_option maxRecDepth 100000 in
theorem m132 : mFun Go.Proofs.Tryz.prog 132 v132 = true := by kernel_rfl
set_option maxRecDepth 100000 in
theorem m133 : mFun Go.Proofs.Tryz.prog 133 v133 = true := by kernel_rfl
set_option maxRecDepth 100000 in
theorem m124 : mFun Go.Proofs.Tryz.prog 124 v124 = true := by kernel_rfl
set_option maxRecDepth 100000 in
theorem m125 : mFun Go.Proofs.Tryz.prog 125 v125 = true := by kernel_rfl
set_option maxRecDepth 100000 in
theorem m126 : mFun Go.Proofs.Tryz.prog 126 v126 = true := by kernel_rfl
set_option maxRecDepth 100000 in
theorem m127 : mFun Go.Proofs.Tryz.prog 127 v127 = true := by kernel_rfl
set_option maxRecDepth 100000 in
theorem m134 : mFun Go.Proofs.Tryz.prog 134 v134 = true := by kernel_rfl
set_option maxRecDepth 100000 in
theorem m135 : mFun Go.Proofs.Tryz.prog 135 v135 = true := by kernel_rfl
set_option maxRecDepth 100000 in
theorem m137 : mFun Go.Proofs.Tryz.prog 137 v137 = true := by kernel_rfl
set_option maxRecDepth 100000 in
theorem m136 : mFun Go.Proofs.Tryz.prog 136 v136 = true := by kernel_rfl
set_option maxRecDepth 100000 in
theorem m138 : mFun Go.Proofs.Tryz.prog 138 v138 = true := by kernel_rfl
set_option maxRecDepth 100000 in
theorem m139 : mFun Go.Proofs.Tryz.prog 139 v139 = true := by kernel_rfl
set_option maxRecDepth 100000 in
theorem m140 : mFun Go.Proofs.Tryz.prog 140 v140 = true := by kernel_rfl
set_option maxRecDepth 100000 in
theorem m141 : mFun Go.Proofs.Tryz.prog 141 v141 = true := by kernel_rfl
set_option maxRecDepth 100000 in
theorem m142 : mFun Go.Proofs.Tryz.prog 142 v142 = true := by kernel_rfl
set_option maxRecDepth 100000 in
theorem m143 : mFun Go.Proofs.Tryz.prog 143 v143 = true := by kernel_rfl
set_option maxRecDepth 100000 in
theorem m144 : mFun Go.Proofs.Tryz.prog 144 v144 = true := by kernel_rfl
set_option maxRecDepth 100000 in
theorem m146 : mFun Go.Proofs.Tryz.prog 146 v146 = true := by kernel_rfl
set_option maxRecDepth 100000 in
theorem m147 : mFun Go.Proofs.Tryz.prog 147 v147 = true := by kernel_rfl
set_option maxRecDepth 100000 in
theorem m148 : mFun Go.Proofs.Tryz.prog 148 v148 = true := by kernel_rfl
set_option maxRecDepth 100000 in
theorem m149 : mFun Go.Proofs.Tryz.prog 149 v149 = true := by kernel_rfl
set_option maxRecDepth 100000 in
theorem m150 : mFun Go.Proofs.Tryz.prog 150 v150 = true := by kernel_rfl

end Go.Vs.Tryz
