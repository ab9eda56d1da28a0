/- Functions of the program in the language of the value semantics,part 2 (printed by a program of mine),and that they match. (Parts of one proof,put together.) -/
import Derived.Test.YtlcncicmkkelcaaGreatDoorM4s
import Derived.Test.YtlcncicmkkelcaaGreatDoorProg
import Derived.KernelRfl
set_option linter.unusedSimpArgs false
set_option linter.unusedVariables false
set_option linter.deprecated false

namespace Go.Vs.Tryz
open Go Go.Vs

def v32 : VFun := ⟨1,(sq [oa 1 (.box (tv 0)) 64,o 2 (.mv kn)] [1] (sq [oG 3 11 1,oa 4 (.call (kf 83) [(false,kn),(false,kn),fa 3] [(0,1)]) 256,oM 2 4] [2] .ret)),[.tmp 2],false⟩

def l96_0 : VCode := (.seq (sq [oM 51 16,oM 52 15,oN 53 52,oB 54 .lss 51 53] [1,2,3,4,8,10,11,12,13,14,15,16,54] (xt 54 2)) (.seq (.block 3 (sq [oM 57 14,oM 58 13,oN 59 58,oM 60 1,cA 61 29 [fa 59,fa 60] 3136,oa 62 (.mkSl 1 [(tv 61)]) 3200,o 63 (.app 1 16 false (tv 57) (tv 62)),oM 14 63] [1,2,3,4,8,10,11,12,13,14,15,16] (rd [3200] [oM 64 13,oM 65 15,oM 66 16,oX 67 1 65 66,oL 68 67,oa 69 (.mkSl 1 [(tv 68)]) 3712,o 70 (.app 1 16 false (tv 64) (tv 69)),oM 13 70] [1,2,3,4,8,10,11,12,13,14,15,16]))) (rd [3200,3712] [oM 55 16,oK 56 .add 55 1,oM 16 56] [1,2,3,4,8,10,11,12,13,14,15,16])))

def l96_1 : VCode := (.seq (sq [oM 38 12,oM 39 10,oN 40 39,oB 41 .lss 38 40] [1,2,3,4,8,10,11,12,41] (xt 41 0)) (.seq (.block 1 (sq [oM 44 2,oa 45 (.app 1 16 true kn (tv 44)) 1984,oM 46 3,oa 47 (.app 1 16 true kn (tv 46)) 2112,oM 13 45,oM 14 47] [1,2,3,4,8,10,11,12,13,14] (sq [oG 48 11 4,oM 49 12,cA 50 126 [fa 48,fa 49] 2432,oM 15 50] [1,2,3,4,8,10,11,12,13,14,15] (.seq (sq [oJ 16 0] [1,2,3,4,8,10,11,12,13,14,15,16] (lp 2 l96_0)) (rg [oM 71 11,oM 72 10,oM 73 12,oX 74 11 72 73,oG 75 11 74,oM 76 1,oM 77 13,oM 78 14,cA 79 96 [fa 75,fa 76,fa 77,fa 78] 4608,oa 80 (.mkSl 11 [(tv 79)]) 4672,o 81 (.app 11 152 false (tv 71) (tv 80)),oM 11 81] [1,2,3,4,8,10,11,12]))))) (rd [1984,2112,4672] [oM 42 12,oK 43 .add 42 1,oM 12 43] [1,2,3,4,8,10,11,12])))

def l96_2 : VCode := (.seq (sq [oM 118 20,oM 119 19,oN 120 119,oB 121 .lss 118 120] [1,2,8,17,18,19,20,121] (xt 121 6)) (.seq (.block 7 (rg [oM 124 19,oM 125 20,oM 126 2,oN 127 126,oM 128 20,oB 129 .add 127 128,oM 130 1,cA 131 29 [fa 129,fa 130] 8320,oX 132 1 124 125,oW 1 132 131] [1,2,8,17,18,19,20])) (rg [oM 122 20,oK 123 .add 122 1,oM 20 123] [1,2,8,17,18,19,20])))

def l96_3 : VCode := (.seq (sq [oM 103 18,oF 104 5 17,oL 105 104,oN 106 105,oB 107 .lss 103 106] [1,2,8,17,18,107] (xt 107 4)) (.seq (.block 5 (sq [oF 110 5 17,oL 111 110,oM 112 18,oX 113 14 111 112,oF 114 2 113,oL 115 114,oN 116 115,oa 117 (.mkS 1 16 [zs] (tv 116)) 7424,oM 19 117] [1,2,8,17,18,19] (.seq (sq [oJ 20 0] [1,2,8,17,18,19,20] (lp 6 l96_2)) (rg [oF 133 5 17,oL 134 133,oM 135 18,o 136 (.mvD (tv 19)),oX 137 14 134 135,oF 138 2 137,oW 1 138 136] [1,2,8,17,18])))) (rd [7424] [oM 108 18,oK 109 .add 108 1,oM 18 109] [1,2,8,17,18])))

def v96 : VFun := ⟨4,(sq [oa 4 (.box (tv 0)) 64,oa 8 (.new zE []) 128] [1,2,3,4,8] (.seq (sq [oF 21 0 4,oL 22 21,oK 23 .eql 22 1] [1,2,3,4,8,23] (cd 23 (.seq (sq [oM 24 2,oF 25 2 4,oL 26 25,cA 27 125 [fa 24,fa 26] 576,oM 9 27] [3,4,8,9] (sq [oM 28 9,oK 29 .geq 28 0] [3,4,8,9,29] (cd 29 (rg [oM 30 3,oM 31 9,oX 32 1 30 31,oL 33 32,oF 34 2 4,oW 1 34 33] [4,8]) .skip))) (sq [oG 35 11 4,oW 11 8 35] [8] .ret)) .skip)) (sq [oG 36 11 4,cA 37 69 [fa 36] 1408,oM 10 37] [1,2,3,4,8,10] (sq [⟨(some 11),(.mv kn),none,1536,[(0,11)]⟩] [1,2,3,4,8,10,11] (.seq (sq [oJ 12 0] [1,2,3,4,8,10,11,12] (lp 0 l96_1)) (sq [oG 82 11 4,oM 83 11,cA 84 92 [fa 82,fa 83] 5184,oa 17 (.new zE []) 5248,oW 11 17 84] [1,2,4,8,17] (.seq (sq [oF 85 0 4,oL 86 85,oK 87 .eql 86 4,oM 88 87,gF 89 0 4 88 false,gL 90 89 88 false,og 91 (.bin .eql 0 (tv 90) (ki 6)) 88 false,oP 92 88 91,oM 93 92,gF 94 0 4 93 false,gL 95 94 93 false,og 96 (.bin .eql 0 (tv 95) (ki 7)) 93 false,oP 97 93 96] [1,2,8,17,97] (cd 97 (rd [64] [oM 98 2,oN 99 98,oM 100 1,cA 101 29 [fa 99,fa 100] 6400,oF 102 2 17,oW 1 102 101] [1,2,8,17]) .skip)) (.seq (.seq (rd [64] [oJ 18 0] [1,2,8,17,18]) (lp 4 l96_3)) (sq [oG 139 11 17,oW 11 8 139] [8] .ret))))))))),[.cell 8 true 11],false⟩

def l147_0 : VCode := (.seq (sq [oM 11 5,oM 12 0,oN 13 12,oB 14 .lss 11 13] [0,1,5,14] (xt 14 0)) (.seq (.block 1 (.seq (.region [] [oM 17 0,oM 18 5,oX 19 5 17 18,oG 20 5 19,oM 21 1,oM 22 5,oX 23 5 21 22,oG 24 5 23,cA 25 84 [fa 20,fa 24] 1344,oU 26 25] [(2,6),(3,6),(2,7),(3,7)] [0,1,5,26]) (cd 26 (sq [o 4 (.mv kF)] [4] .ret) .skip))) (rg [oM 15 5,oK 16 .add 15 1,oM 5 16] [0,1,5])))

def v147 : VFun := ⟨2,(sq [o 4 (.mv kF)] [0,1] (.seq (sq [oM 6 0,oN 7 6,oM 8 1,oN 9 8,oB 10 .neq 7 9] [0,1,10] (cd 10 (sq [o 4 (.mv kF)] [4] .ret) .skip)) (.seq (sq [oJ 5 0] [0,1,5] (lp 0 l147_0)) (sq [o 4 (.mv kt)] [4] .ret)))),[.tmp 4],false⟩

def v73 : VFun := ⟨2,(sq [o 4 (.mv (.k (.sc zs))),o 5 (.mv kF)] [0,1] (sq [oM 6 0,oM 7 1,cA 8 134 [fa 6,fa 7] 320,oE 9 8 0,oE 10 8 1,oM 4 9,oM 5 10] [4,5] .ret)),[.tmp 4,.tmp 5],false⟩

def v74 : VFun := ⟨3,(sq [o 6 (.mv (.k (.sc (.c (.int .u64 0))))),o 7 (.mv (.k (.sc (.c .nilif))))] [0,1,2] (sq [oM 11 0,oM 12 1,oM 13 2,cA 14 135 [fa 11,fa 12,fa 13] 384,oM 10 14,oE 15 10 0,oE 16 10 1,oM 8 15,oM 9 16] [0,1,2,8,9] (.seq (sq [oM 17 9,o 18 (.bin .neq 5 (tv 17) (.k (.sc (.c .nilif))))] [0,1,2,8,9,18] (cd 18 (sq [oM 19 8,oM 20 0,oM 21 1,oM 22 2,oM 23 9,oa 24 (.call (kf 136) [(false,(.k (.sc (.c (.str [80,97,114,115,101,85,105,110,116]))))),fa 20,fa 21,fa 22,fa 23] []) 1216,oM 6 19,oM 7 24] [6,7] .ret) .skip)) (sq [oM 25 8,oM 6 25,o 7 (.mv (.k (.sc (.c .nilif))))] [6,7] .ret)))),[.tmp 6,.tmp 7],true⟩

def v75 : VFun := ⟨2,(sq [o 4 (.mv (.k (.sc zs)))] [0,1] (sq [oM 5 0,oM 6 1,cA 7 137 [fa 5,fa 6] 256,oM 4 7] [4] .ret)),[.tmp 4],false⟩

def v76 : VFun := ⟨1,(sq [oM 3 0,oN 4 3,oM 2 4] [0,2] (rg [oM 5 0,oM 6 2,oM 7 2,o 8 (.cvI .u64 (tv 7)),cA 9 139 [fa 8] 512,cA 10 138 [ta 5,(false,(ki 0)),fa 6,fa 9] 576] [1000000])),[],false⟩

def l77_0 : VCode := (.seq (sq [oM 29 5,oM 30 4,oN 31 30,oB 32 .lss 29 31] [0,3,4,5,32] (xt 32 2)) (.seq (.block 3 (.seq (.region [] [oM 35 4,oM 36 5,oX 37 1 35 36,oL 38 37,oM 39 4,oM 40 5,oK 41 .sub 40 1,oX 42 1 39 41,oL 43 42,oB 44 .neq 38 43] [(2,7),(3,7),(2,8),(3,8)] [0,3,4,5,44]) (cd 44 (sq [oM 45 0,oM 46 3,oM 47 4,oM 48 5,oX 49 1 47 48,oL 50 49,oX 51 1 45 46,oW 1 51 50] [0,3,4,5] (rg [oM 52 3,oK 53 .add 52 1,oM 3 53] [0,3,4,5])) .skip))) (rg [oM 33 5,oK 34 .add 33 1,oM 5 34] [0,3,4,5])))

def l77_1 : VCode := (.seq (sq [oM 10 3,oM 11 0,oN 12 11,oB 13 .lss 10 12] [0,3,13] (xt 13 0)) (.seq (.block 1 (.seq (.region [] [oM 16 0,oM 17 3,oX 18 1 16 17,oL 19 18,oM 20 0,oM 21 3,oK 22 .sub 21 1,oX 23 1 20 22,oL 24 23,oB 25 .eql 19 24] [(2,7),(3,7),(2,8),(3,8)] [0,3,25]) (cd 25 (sq [oM 26 0,oM 27 3,o 28 (.sl 1 (tv 26) (some (tv 27)) none none),oM 4 28] [0,3,4] (.seq (sq [oJ 5 1] [0,3,4,5] (lp 2 l77_0)) (sq [oM 54 0,oM 55 3,o 56 (.sl 1 (tv 54) (some (tv 55)) none none),on (.clr 1 [(.c (.int .u64 0))] (tv 56))] [0,3] (sq [oM 57 0,oM 58 3,o 59 (.sl 1 (tv 57) none (some (tv 58)) none),oM 2 59] [2] .ret)))) .skip))) (rg [oM 14 3,oK 15 .add 14 1,oM 3 15] [0,3])))

def v77 : VFun := ⟨1,(sq [o 2 (.mv kn)] [0] (.seq (sq [oM 6 0,oN 7 6,oK 8 .lss 7 2] [0,8] (cd 8 (sq [oM 9 0,oM 2 9] [2] .ret) .skip)) (.seq (sq [oJ 3 1] [0,3] (lp 0 l77_1)) (sq [oM 60 0,oM 2 60] [2] .ret)))),[.tmp 2],true⟩

def l26_0 : VCode := (.seq (sq [oM 9 4,oK 10 .neq 9 0] [0,3,4,10] (xt 10 0)) (.seq (.block 1 (sq [oM 13 4,oK 14 .rem 13 10,oM 5 14] [0,3,4,5] (.seq (sq [oM 15 5,oK 16 .lss 15 0] [0,3,4,5,16] (cd 16 (rg [oM 17 5,o 18 (.un .neg (tv 17)),oM 5 18] [0,3,4,5]) .skip)) (rg [oM 19 5,oM 20 5,oK 21 .add 20 1,o 22 (.slS (.k (.sc (.c (.str [48,49,50,51,52,53,54,55,56,57])))) (some (tv 19)) (some (tv 21))),oM 23 3,oB 24 .add 22 23,oM 3 24] [0,3,4])))) (rg [oM 11 4,oK 12 .quo 11 10,oM 4 12] [0,3,4])))

def v26 : VFun := ⟨1,(sq [o 2 (.mv (.k (.sc zs)))] [0] (.seq (sq [oM 6 0,oK 7 .eql 6 0] [0,7] (cd 7 (sq [o 2 (.mv (.k (.sc (.c (.str [48])))))] [2] .ret) .skip)) (sq [o 3 (.mv (.k (.sc zs)))] [0,3] (.seq (sq [oM 8 0,oM 4 8] [0,3,4] (lp 0 l26_0)) (.seq (sq [oM 25 0,oK 26 .lss 25 0] [3,26] (cd 26 (rg [oM 27 3,o 28 (.bin .add 0 (.k (.sc (.c (.str [45])))) (tv 27)),oM 3 28] [3]) .skip)) (sq [oM 29 3,oM 2 29] [2] .ret)))))),[.tmp 2],false⟩

def l78_0 : VCode := (.seq (sq [oM 6 5,oM 7 0,oN 8 7,oB 9 .lss 6 8] [0,1,5,9] (xt 9 0)) (.seq (.block 1 (sq [oM 12 0,oM 13 5,oX 14 1 12 13,oL 15 14,oM 16 1,oB 17 .eql 15 16] [0,1,5,17] (cd 17 (sq [o 4 (.mv kt)] [4] .ret) .skip))) (rg [oM 10 5,oK 11 .add 10 1,oM 5 11] [0,1,5])))

def v78 : VFun := ⟨2,(sq [o 4 (.mv kF)] [0,1] (.seq (sq [oJ 5 0] [0,1,5] (lp 0 l78_0)) (sq [o 4 (.mv kF)] [4] .ret))),[.tmp 4],false⟩

def l56_0 : VCode := (.block 2 (sq [oM 27 11,oF 28 2 7,oL 29 28,oB 30 .eql 27 29] [7,8,9,10,30] (cd 30 (sq [oL 31 9,oN 32 31,oM 33 10,oB 34 .add 32 33,oW 1 8 34] [8] .ret) .skip)))

def l56_1 : VCode := (sq [oB 56 .lss 55 54] [2,8,9,13,53,54,55,56] (.seq (xt 56 3) (.seq (.block 4 (sq [oX 57 4 53 55,oG 58 4 57,oa 16 (.new [zi,zs,.nil,.nil] []) 3392,oW 4 16 58] [2,8,9,13,16,53,54,55] (rg [oM 59 13,oF 60 3 16,oL 61 60,oN 62 61,oB 63 .add 59 62,oM 13 63] [2,8,9,13,53,54,55]))) (rd [3392] [oK 64 .add 55 1,oM 55 64] [2,8,9,13,53,54,55]))))

def v56 : VFun := ⟨4,(sq [oa 7 (.box (tv 3)) 64,oa 8 (.new [zi] []) 128] [0,1,2,7,8] (sq [oM 17 1,cA 18 99 [fa 17] 256,oa 9 (.new [.nil] []) 320,oW 1 9 18] [0,2,7,8,9] (.seq (sq [oF 19 0 7,oL 20 19] [0,2,7,8,9,20] (.block 0 (sq [oK 22 .eql 20 1,oM 21 22] [0,2,7,8,9,20,21] (cd 21 (.seq (sq [oM 23 2,cA 24 106 [fa 23] 768] [7,8,9,24] (.block 1 (.rangeB (tv 24) 156 1 false 25 26 (sq [oM 10 25] [7,8,9,10,26] (rg [oM 11 26] [7,8,9,10,11]))
 l56_0))) (sq [oL 35 9,oF 36 2 7,oL 37 36,cA 38 107 [fa 35,fa 37] 1728,oW 1 8 38] [8] .ret)) (sq [oK 40 .eql 20 2,oM 39 40] [0,2,7,8,9,39] (cd 39 (sq [oM 42 0,oF 43 2 7,oL 44 43,cA 45 108 [fa 42,fa 44] 2176,oM 41 45,oE 46 41 0,oE 47 41 1,oE 48 41 2,oM 12 46,oM 13 47,oM 14 48] [0,2,8,9,12,13,14] (.seq (.seq (rd [64] [oM 49 14,oU 50 49] [0,2,8,9,12,13,50]) (cd 50 (sq [on (.store 1 (tv 8) (ki (-1)) [])] [8] .ret) .skip)) (.seq (sq [oM 51 0,oM 52 12,o 53 (.sl 4 (tv 51) none (some (tv 52)) none),oN 54 53,oJ 55 0] [2,8,9,13,53,54,55] (lp 3 l56_1)) (sq [oL 65 9,oN 66 65,oM 67 2,oN 68 67,oB 69 .add 66 68,oM 70 13,oB 71 .add 69 70,oW 1 8 71] [8] .ret)))) .skip)))))) (sq [on (.store 1 (tv 8) (ki (-1)) [])] [8] .ret)))),[.cell 8 false 1],false⟩

def v55 : VFun := ⟨2,(sq [oJ 4 0] [0,1] (sq [oM 7 0,cA 8 105 [fa 7] 192,oM 5 8] [0,1,5] (sq [oM 9 1,cA 10 105 [fa 9] 384,oM 6 10] [0,1,5,6] (.seq (sq [oM 11 5] [0,1,6,11] (cd 11 (.seq (sq [oM 12 6] [12] (cd 12 (sq [oJ 4 0] [4] .ret) .skip)) (sq [oJ 4 (-1)] [4] .ret)) .skip)) (.seq (sq [oM 13 6] [0,1,13] (cd 13 (sq [oJ 4 1] [4] .ret) .skip)) (.seq (sq [oM 14 0,oM 15 1,oB 16 .lss 14 15] [0,1,16] (cd 16 (sq [oJ 4 (-1)] [4] .ret) .skip)) (.seq (sq [oM 17 0,oM 18 1,oB 19 .gtr 17 18] [19] (cd 19 (sq [oJ 4 1] [4] .ret) .skip)) (sq [oJ 4 0] [4] .ret)))))))),[.tmp 4],false⟩

def v60 : VFun := ⟨1,(sq [oa 1 (.box (tv 0)) 64,oJ 2 0] [1] (.seq (sq [oF 3 0 1,oL 4 3] [4] (.block 0 (.seq (rd [64] [oK 6 .eql 4 4,oM 5 6] [4,5]) (cd 5 (sq [oJ 2 0] [2] .ret) (sq [oK 8 .eql 4 8,oM 7 8] [7] (cd 7 (sq [oJ 2 2] [2] .ret) .skip)))))) (sq [oJ 2 1] [2] .ret))),[.tmp 2],false⟩

def l59_0 : VCode := (sq [oB 9 .lss 8 7] [3,6,7,8,9] (.seq (xt 9 0) (.seq (.block 1 (sq [oX 10 1 6 8,oL 11 10,oM 5 11] [3,5,6,7,8] (sq [oM 12 5,oM 13 3,oB 14 .neq 12 13] [3,5,6,7,8,14] (cd 14 (sq [oM 15 5,oM 2 15] [2] .ret) .skip)))) (rg [oK 16 .add 8 1,oM 8 16] [3,6,7,8]))))

def v59 : VFun := ⟨1,(sq [oJ 2 0] [0] (sq [oJ 3 0] [0,3] (.seq (sq [oM 6 0,oN 7 6,oJ 8 0] [3,6,7,8] (lp 0 l59_0)) (sq [oM 17 3,oM 2 17] [2] .ret)))),[.tmp 2],false⟩

def v61 : VFun := ⟨1,(sq [o 2 (.mv kn)] [0] (sq [oM 3 0,oM 4 0,oN 5 4,oM 6 0,oN 7 6,o 8 (.sl 1 (tv 3) none (some (tv 5)) (some (tv 7))),oM 2 8] [2] .ret)),[.tmp 2],false⟩

def v111 : VFun := ⟨1,(sq [o 2 (.mv kF)] [0] (sq [oM 3 0,o 4 (.build [zi,zs,zi,zi,.nil] [(0,1,(ki 5)),(1,1,(tv 3))]),cA 5 112 [fa 4] 256,oM 2 5] [2] .ret)),[.tmp 2],false⟩

def v112 : VFun := ⟨1,(sq [oa 1 (.box (tv 0)) 64,o 2 (.mv kF)] [1] (sq [oF 4 1 1,oL 5 4,o 6 (.bin .eql 0 (tv 5) (.k (.sc zs))),oM 7 6,gF 8 4 1 7 true,gL 9 8 7 true,gN 10 9 7 true,og 11 (.bin .eql 0 (tv 10) (ki 0)) 7 true,oQ 12 7 11,oM 13 12,gF 14 2 1 13 true,gL 15 14 13 true,og 16 (.bin .geq 0 (tv 15) (ki 0)) 13 true,oQ 17 13 16,oM 18 17,gF 19 2 1 18 true,gL 20 19 18 true,og 21 (.bin .leq 0 (tv 20) (ki 1000000)) 18 true,oQ 22 18 21,oM 3 22] [1,3] (.seq (sq [oF 23 0 1,oL 24 23] [1,3,24] (.block 0 (.seq (sq [oK 26 .eql 24 1,oM 25 26] [1,3,24,25] (cd 25 .skip (rg [oK 27 .eql 24 2,oM 25 27] [1,3,24,25]))) (cd 25 (sq [oM 28 3,oM 29 28,gF 30 3 1 29 true,gL 31 30 29 true,og 32 (.bin .eql 0 (tv 31) (ki 0)) 29 true,oQ 33 29 32,oM 2 33] [2] .ret) (sq [oK 35 .eql 24 3,oM 34 35] [1,3,24,34] (cd 34 (sq [oM 36 3,oM 37 36,gF 38 3 1 37 true,gL 39 38 37 true,og 40 (.bin .geq 0 (tv 39) (ki (-1))) 37 true,oQ 41 37 40,oM 42 41,gF 43 3 1 42 true,gL 44 43 42 true,og 45 (.bin .leq 0 (tv 44) (ki 1000000)) 42 true,oQ 46 42 45,oM 2 46] [2] .ret) (sq [oK 48 .eql 24 5,oM 47 48] [1,24,47] (cd 47 (sq [oF 49 4 1,oL 50 49,oN 51 50,oK 52 .eql 51 0,oM 53 52,gF 54 2 1 53 true,gL 55 54 53 true,og 56 (.bin .eql 0 (tv 55) (ki 0)) 53 true,oQ 57 53 56,oM 58 57,gF 59 3 1 58 true,gL 60 59 58 true,og 61 (.bin .eql 0 (tv 60) (ki 0)) 58 true,oQ 62 58 61,oM 63 62,gF 64 1 1 63 true,gL 65 64 63 true,gA 66 157 [fa 65,(false,(.k (.sc (.c (.int .u8 97))))),(false,(.k (.sc (.c (.int .u8 122)))))] 63 true 4416,oQ 67 63 66,oM 2 67] [2] .ret) (sq [oK 69 .eql 24 4,oM 68 69] [1,68] (cd 68 (sq [oF 70 2 1,oL 71 70,oK 72 .eql 71 0,oM 73 72,gF 74 3 1 73 true,gL 75 74 73 true,og 76 (.bin .eql 0 (tv 75) (ki 0)) 73 true,oQ 77 73 76,oM 78 77,gF 79 1 1 78 true,gL 80 79 78 true,gF 81 4 1 78 true,gL 82 81 78 true,gN 83 82 78 true,gA 84 158 [fa 80,fa 83] 78 true 5632,oQ 85 78 84,oM 86 85,gF 87 4 1 86 true,gL 88 87 86 true,gA 89 159 [fa 88,(true,(kf 160))] 86 true 5952,gU 90 89 86 true,oQ 91 86 90,oM 2 91] [2] .ret) .skip)))))))))) (sq [o 2 (.mv kF)] [2] .ret)))),[.tmp 2],false⟩

def v114 : VFun := ⟨2,(sq [oa 2 (.box (tv 0)) 64,oa 3 (.box (tv 1)) 128,o 4 (.mv kF)] [2,3] (sq [oG 5 5 2,oG 6 5 3,cA 7 162 [fa 5,fa 6] 384,oK 8 .eql 7 0,oM 4 8] [4] .ret)),[.tmp 4],false⟩

def l79_0 : VCode := (sq [oB 13 .lss 12 11] [3,10,11,12,13] (.seq (xt 13 0) (.seq (.block 1 (sq [oX 14 14 10 12,oG 15 14 14,oa 5 (.new [zi,zs,.nil,zi,zi,zs,zi,.nil,.nil,zi,zs,zi,zi,.nil] []) 896,oW 14 5 15] [3,5,10,11,12] (rg [oM 16 3,oF 17 3 5,oG 18 11 17,oa 19 (.mkSl 11 [(tv 18)]) 1216,o 20 (.app 11 152 false (tv 16) (tv 19)),oM 3 20] [3,10,11,12]))) (rd [896,1216] [oK 21 .add 12 1,oM 12 21] [3,10,11,12]))))

def v79 : VFun := ⟨1,(sq [oa 1 (.box (tv 0)) 64,o 2 (.mv kn)] [1] (sq [oF 6 4 1,oL 7 6,cA 8 140 [fa 7] 320,oM 3 8] [1,3] (.seq (sq [oF 9 5 1,oL 10 9,oN 11 10,oJ 12 0] [3,10,11,12] (lp 0 l79_0)) (sq [oM 22 3,oM 2 22] [2] .ret)))),[.tmp 2],true⟩

def v117 : VFun := ⟨2,(sq [o 4 (.mv kF)] [0,1] (sq [oM 5 0,oM 6 1,cA 7 164 [fa 5,ta 6] 256,oK 8 .geq 7 0,oM 4 8] [4] .ret)),[.tmp 4],false⟩

def v118 : VFun := ⟨1,(sq [oa 1 (.box (tv 0)) 64,o 2 (.mv kF)] [1] (sq [oG 3 11 1,cA 4 63 [fa 3] 256,oU 5 4,oM 2 5] [2] .ret)),[.tmp 2],false⟩

def l129_0 : VCode := (.seq (sq [oM 20 7,o 21 (.nn (tv 20)),oF 22 2 21,oL 23 22,oU 24 23,oM 25 24,gM 26 7 25 true,og 27 (.nn (tv 26)) 25 true,gF 28 1 27 25 true,gL 29 28 25 true,gM 30 4 25 true,gN 31 30 25 true,gB 32 .lss 29 31 25 true,oQ 33 25 32] [2,3,4,5,6,7,33] (xt 33 0)) (.block 1 (sq [oM 34 7,oa 35 (.call (kf 173) [ta 34,(false,(.k (.sc (.c (.str [100,97,116,97])))))] []) 2368] [2,3,4,5,6,7,35] (cd 35 (.region [2688] [oF 36 0 6,oL 37 36,oM 38 7,cA 39 174 [ta 38] 2624,oa 40 (.mkSl 4 [(tv 39)]) 2688,o 41 (.app 4 72 false (tv 37) (tv 40)),oF 42 0 6,oW 1 42 41] [(0,3),(1,3),(0,4),(1,4)] [2,3,4,5,6,7]) (.region [3200] [oF 43 1 6,oL 44 43,oM 45 7,cA 46 175 [ta 45] 3136,oa 47 (.mkSl 20 [(tv 46)]) 3200,o 48 (.app 20 256 false (tv 44) (tv 47)),oF 49 1 6,oW 1 49 48] [(0,3),(1,3),(0,4),(1,4)] [2,3,4,5,6,7])))))

def v129 : VFun := ⟨1,(sq [oa 2 (.new [.nil,.nil] []) 64,oa 3 (.new [zi,zi] []) 128] [0,2,3] (sq [oM 9 0,cA 10 167 [fa 9] 256,oM 8 10,oE 11 8 0,oE 12 8 1,oa 5 (.new [zi,zi] []) 512,oM 4 11,oW 2 5 12] [2,3,4,5] (.seq (sq [oF 13 0 5,oL 14 13,oK 15 .neq 14 0] [2,3,4,5,15] (cd 15 (.seq (.region [] [o 16 (.build [.nil,.nil] []),oG 17 2 5,oW 2 2 16,oW 2 3 17] [(1,2)] [2,3]) .ret) .skip)) (sq [oa 6 (.new [.nil,.nil] [(0,4),(1,20)]) 1152] [2,3,4,5,6] (sq [oM 18 4,cA 19 168 [fa 18,(false,(ki 0))] 1280,oM 7 19] [2,3,4,5,6,7] (.seq (lp 0 l129_0) (.seq (sq [oM 50 7,o 51 (.nn (tv 50)),oF 52 2 51,oL 53 52] [2,3,5,6,7,53] (cd 53 (.seq (.region [] [o 54 (.build [.nil,.nil] []),oM 55 7,o 56 (.nn (tv 55)),oF 57 3 56,oL 58 57,o 59 (.build [zi,zi] [(0,1,(ki 3)),(1,1,(tv 58))]),oW 2 2 54,oW 2 3 59] [(2,6),(3,6),(4,6)] [2,3]) .ret) .skip)) (.seq (sq [o 60 (.ldD true 2 (tv 6)),cA 61 176 [fa 60] 4288,oW 2 5 61] [2,3,5,6] (sq [oF 62 0 5,oL 63 62,oK 64 .neq 63 0] [2,3,5,6,64] (cd 64 (.seq (.region [] [o 65 (.build [.nil,.nil] []),oG 66 2 5,oW 2 2 65,oW 2 3 66] [(1,2)] [2,3]) .ret) .skip))) (.seq (.region [] [o 67 (.ldD true 2 (tv 6)),oG 68 2 5,oW 2 2 67,oW 2 3 68] [(0,1),(1,2)] [2,3]) .ret))))))))),[.cell 2 true 2,.cell 3 true 2],false⟩

def v155 : VFun := ⟨1,(sq [oa 2 (.new [zi,zs,zi,zi,.nil] []) 64] [0,2] (sq [oM 3 0,o 4 (.build [zi,zs,zi,zi,.nil] [(0,1,(ki 1)),(2,1,(tv 3))]),oW 5 2 4] [2] .ret)),[.cell 2 true 5],false⟩

def v128 : VFun := ⟨2,(sq [oa 2 (.box (tv 0)) 64,oa 3 (.box (tv 1)) 128,oa 4 (.new [zi,zs,zi,zi,.nil] []) 192] [2,3,4] (sq [oG 5 5 2,oG 6 5 3,oa 7 (.mkSl 5 [(tv 5),(tv 6)]) 384,oa 8 (.call (kf 100) [(false,(.k (.sc (.c (.str [45,62]))))),fa 7] []) 448,oW 5 4 8] [4] .ret)),[.cell 4 true 5],false⟩

def l151_0 : VCode := (.seq (sq [oM 7 4,oM 8 0,oN 9 8,oB 10 .lss 7 9] [0,3,4,10] (xt 10 0)) (.seq (.block 1 (rg [oM 13 3,oM 14 0,oM 15 4,oX 16 5 14 15,oG 17 5 16,cA 18 213 [ta 13,fa 17,(false,(ki 1))] 832,oM 3 18] [0,3,4])) (rd [864,865,866] [oM 11 4,oK 12 .add 11 1,oM 4 12] [0,3,4])))

def l151_1 : VCode := (.seq (sq [oM 19 6,oM 20 3,oN 21 20,oB 22 .lss 19 21] [3,5,6,22] (xt 22 2)) (.seq (.block 3 (sq [oM 25 5,oM 26 3,oM 27 6,oX 28 5 26 27,oF 29 2 28,oL 30 29,cA 31 152 [fa 25,fa 30] 1920,oU 32 31] [3,5,6,32] (cd 32 (rg [oM 33 5,oM 34 3,oM 35 6,oX 36 5 34 35,oF 37 2 36,oL 38 37,oa 39 (.mkSl 1 [(tv 38)]) 2432,o 40 (.app 1 8 false (tv 33) (tv 39)),oM 5 40] [3,5,6]) .skip))) (rd [2432] [oM 23 6,oK 24 .add 23 1,oM 6 24] [3,5,6])))

def v151 : VFun := ⟨1,(sq [o 2 (.mv kn)] [0] (sq [⟨(some 3),(.mv kn),none,128,[(0,5)]⟩] [0,3] (.seq (sq [oJ 4 0] [0,3,4] (lp 0 l151_0)) (sq [⟨(some 5),(.mv kn),none,1152,[(0,1)]⟩] [3,5] (.seq (sq [oJ 6 0] [3,5,6] (lp 2 l151_1)) (sq [oM 41 5,oM 2 41] [2] .ret)))))),[.tmp 2],false⟩

def l152_0 : VCode := (.seq (sq [oM 6 5,oM 7 0,oN 8 7,oB 9 .lss 6 8] [0,1,5,9] (xt 9 0)) (.seq (.block 1 (sq [oM 12 0,oM 13 5,oX 14 1 12 13,oL 15 14,oM 16 1,oB 17 .eql 15 16] [0,1,5,17] (cd 17 (sq [o 4 (.mv kt)] [4] .ret) .skip))) (rg [oM 10 5,oK 11 .add 10 1,oM 5 11] [0,1,5])))

def v152 : VFun := ⟨2,(sq [o 4 (.mv kF)] [0,1] (.seq (sq [oJ 5 0] [0,1,5] (lp 0 l152_0)) (sq [o 4 (.mv kF)] [4] .ret))),[.tmp 4],false⟩

def v153 : VFun := ⟨1,(sq [oa 2 (.new [zi,zs,zi,zi,.nil] []) 64] [0,2] (sq [oM 3 0,o 4 (.build [zi,zs,zi,zi,.nil] [(0,1,(ki 2)),(2,1,(tv 3))]),oW 5 2 4] [2] .ret)),[.cell 2 true 5],false⟩

def l154_0 : VCode := (.seq (sq [oM 11 5,oM 12 1,oN 13 12,oB 14 .lss 11 13] [1,2,4,5,14] (xt 14 0)) (.seq (.block 1 (.seq (.region [] [oM 17 1,oM 18 5,oX 19 6 17 18,oF 20 0 19,oL 21 20,oF 22 2 2,oL 23 22,oB 24 .eql 21 23] [(2,5),(3,5),(4,5),(2,6),(3,6),(4,6)] [1,2,4,5,24]) (cd 24 (sq [oM 25 1,oM 26 5,oX 27 6 25 26,oF 28 1 27,oG 29 5 28,oW 5 4 29] [4] .ret) .skip))) (rg [oM 15 5,oK 16 .add 15 1,oM 5 16] [1,2,4,5])))

def l154_1 : VCode := (.seq (sq [oM 33 7,oF 34 4 2,oL 35 34,oN 36 35,oB 37 .lss 33 36] [1,2,4,6,7,37] (xt 37 2)) (.seq (.block 3 (.region [] [oF 40 4 6,oL 41 40,oF 42 4 2,oL 43 42,oM 44 7,oX 45 5 43 44,oG 46 5 45,oM 47 1,cA 48 154 [fa 46,fa 47] 3136,oa 49 (.mkSl 5 [(tv 48)]) 3200,o 50 (.app 5 64 false (tv 41) (tv 49)),oF 51 4 6,oW 1 51 50] [(0,2),(1,2),(0,3),(1,3),(0,5),(1,5),(0,6),(1,6),(0,8),(1,8),(0,9),(1,9)] [1,2,4,6,7])) (rd [3200] [oM 38 7,oK 39 .add 38 1,oM 7 39] [1,2,4,6,7])))

def v154 : VFun := ⟨2,(sq [oa 2 (.box (tv 0)) 64,oa 4 (.new [zi,zs,zi,zi,.nil] []) 128] [1,2,4] (.seq (sq [oF 8 0 2,oL 9 8,oK 10 .eql 9 1] [1,2,4,10] (cd 10 (.seq (sq [oJ 5 0] [1,2,4,5] (lp 0 l154_0)) (sq [oG 30 5 2,oW 5 4 30] [4] .ret)) .skip)) (sq [oG 31 5 2,oa 6 (.new [zi,zs,zi,zi,.nil] []) 1984,⟨none,(.store 5 (tv 6) (tv 31) [(4,5)]),none,2048,[]⟩] [1,2,4,6] (sq [oF 32 4 6,⟨none,(.store 1 (tv 32) kn [(0,5)]),none,2176,[]⟩] [1,2,4,6] (.seq (sq [oJ 7 0] [1,2,4,6,7] (lp 2 l154_1)) (sq [o 52 (.ldD true 5 (tv 6)),oW 5 4 52] [4] .ret)))))),[.cell 4 true 5],false⟩

def v212 : VFun := ⟨2,(sq [oa 2 (.box (tv 0)) 64,o 3 (.mv kF)] [1,2] (sq [oF 4 0 2,oL 5 4,oF 6 0 1,oL 7 6,oB 8 .eql 5 7,oM 3 8] [3] .ret)),[.tmp 3],false⟩

def v211 : VFun := ⟨2,(sq [o 4 (.mv kF)] [0,1] (sq [oM 5 0,oM 6 1,cA 7 247 [fa 5,ta 6] 256,oK 8 .geq 7 0,oM 4 8] [4] .ret)),[.tmp 4],false⟩

def l146_0 : VCode := (sq [oB 37 .lss 36 35] [1,2,4,5,6,7,35,36,37] (.seq (xt 37 0) (.seq (.block 1 (sq [oM 38 36,oM 8 38] [1,2,4,5,6,7,8,35,36] (rg [oM 39 7,oM 40 8,oM 41 1,oM 42 5,oM 43 8,oB 44 .add 42 43,oX 45 11 41 44,oG 46 11 45,oX 47 14 39 40,oF 48 3 47,oW 11 48 46] [1,2,4,5,6,7,35,36]))) (rg [oK 49 .add 36 1,oM 36 49] [1,2,4,5,6,7,35,36]))))

def v146 : VFun := ⟨2,(sq [oa 2 (.box (tv 0)) 64,oa 4 (.new zE []) 128] [1,2,4] (sq [oF 9 4 2,oL 10 9,oN 11 10,oM 5 11] [1,2,4,5] (.seq (sq [oM 12 1,oN 13 12,oM 14 5,oF 15 5 2,oL 16 15,oN 17 16,oB 18 .add 14 17,oB 19 .neq 13 18] [1,2,4,5,19] (cd 19 (sq [oG 20 11 2,oW 11 4 20] [4] .ret) .skip)) (.seq (.region [] [oM 21 5,oa 22 (.mkS 11 152 zE (tv 21)) 1152,oF 23 5 2,oL 24 23,oN 25 24,oa 26 (.mkS 14 200 [zi,zs,.nil,zi,zi,zs,zi,.nil,.nil,zi,zs,zi,zi,.nil] (tv 25)) 1408,oM 6 22,oM 7 26] [(1,2),(1,3),(1,4),(1,5)] [1,2,4,5,6,7]) (sq [oM 27 6,oM 28 1,o 29 (.cp 11 (tv 27) (tv 28))] [1,2,4,5,6,7] (sq [oM 30 7,oF 31 5 2,oL 32 31,o 33 (.cp 14 (tv 30) (tv 32))] [1,2,4,5,6,7] (.seq (sq [oM 34 7,oN 35 34,oJ 36 0] [1,2,4,5,6,7,35,36] (lp 0 l146_0)) (sq [oM 50 6,oM 51 7,oF 52 4 2,oW 1 52 50,oF 53 5 2,oW 1 53 51] [2,4] (sq [oG 54 11 2,oW 11 4 54] [4] .ret))))))))),[.cell 4 true 11],true⟩

def v80 : VFun := ⟨2,(sq [oa 2 (.box (tv 0)) 64,o 4 (.mv kn)] [1,2] (.seq (sq [oG 8 11 2,oM 9 1,oa 10 (.mkSl 1 [(tv 9)]) 320,cA 11 141 [fa 8,fa 10] 384,oM 7 11,oE 12 7 0,oE 13 7 1,oa 5 (.new zE []) 640,oW 11 5 12,oM 6 13] [1,2,6] (.seq (rd [320,640] [oM 14 6,oU 15 14] [1,2,15]) (cd 15 (sq [o 4 (.mv kn)] [4] .ret) .skip))) (.seq (sq [oF 16 0 2,oL 17 16,oK 18 .eql 17 8,oM 19 18,gM 20 1 19 true,gF 21 4 2 19 true,gL 22 21 19 true,gN 23 22 19 true,gB 24 .geq 20 23 19 true,oQ 25 19 24] [1,2,25] (cd 25 (sq [oF 26 5 2,oL 27 26,oM 28 1,oF 29 4 2,oL 30 29,oN 31 30,oB 32 .sub 28 31,oX 33 14 27 32,oF 34 2 33,oL 35 34,oM 4 35] [4] .ret) .skip)) (sq [oG 36 11 2,oM 37 1,oa 38 (.mkSl 1 [(tv 37)]) 2496,cA 39 142 [fa 36,fa 38] 2560,oM 4 39] [4] .ret)))),[.tmp 4],false⟩

def v81 : VFun := ⟨2,(sq [o 4 (.mv kF)] [0,1] (sq [oM 5 0,oM 6 1,cA 7 107 [fa 5,fa 6] 256,oK 8 .geq 7 0,oM 4 8] [4] .ret)),[.tmp 4],false⟩

def v149 : VFun := ⟨1,(sq [oa 1 (.box (tv 0)) 64,o 2 (.mv (.k (.sc (.c .nilfn))))] [1] (sq [o 3 (.fn 210 [(tv 1)]),oM 2 3] [2] .ret)),[.tmp 2],true⟩

def l92_0 : VCode := (.seq (sq [oM 30 7,oF 31 5 6,oL 32 31,oN 33 32,oB 34 .lss 30 33] [1,4,5,6,7,34] (xt 34 0)) (.seq (.block 1 (.region [] [oF 37 5 6,oL 38 37,oM 39 7,oM 40 1,oM 41 5,oM 42 7,oB 43 .add 41 42,oX 44 11 40 43,oG 45 11 44,oX 46 14 38 39,oF 47 3 46,oW 11 47 45] [(0,7),(1,7),(0,8),(1,8)] [1,4,5,6,7])) (rg [oM 35 7,oK 36 .add 35 1,oM 7 36] [1,4,5,6,7])))

def v92 : VFun := ⟨2,(sq [oa 2 (.box (tv 0)) 64,oa 4 (.new zE []) 128] [1,2,4] (sq [oF 8 4 2,oL 9 8,oN 10 9,oM 5 10] [1,2,4,5] (.seq (sq [oM 11 1,oN 12 11,oM 13 5,oF 14 5 2,oL 15 14,oN 16 15,oB 17 .add 13 16,oB 18 .neq 12 17] [1,2,4,5,18] (cd 18 (sq [oG 19 11 2,oW 11 4 19] [4] .ret) .skip)) (sq [oG 20 11 2,oa 6 (.new zE []) 1152,oW 11 6 20] [1,2,4,5,6] (.seq (.region [] [oM 21 1,oM 22 5,o 23 (.sl 11 (tv 21) none (some (tv 22)) none),oa 24 (.app 11 152 true kn (tv 23)) 1472,oF 25 5 2,oL 26 25,oa 27 (.app 14 200 true kn (tv 26)) 1664,oF 28 4 6,oW 1 28 24,oF 29 5 6,oW 1 29 27] [(2,4),(3,4),(2,5),(3,5),(4,7),(5,7),(6,7)] [1,4,5,6]) (.seq (.seq (rd [64] [oJ 7 0] [1,4,5,6,7]) (lp 0 l92_0)) (sq [oG 48 11 6,oW 11 4 48] [4] .ret))))))),[.cell 4 true 11],true⟩

def l83_0 : VCode := (.seq (sq [oM 33 8,oM 34 7,oN 35 34,oB 36 .lss 33 35] [0,1,5,7,8,36] (xt 36 0)) (.seq (.block 1 (.region [] [oM 39 0,oM 40 1,oa 41 (.app 1 16 true kn (tv 40)) 2304,oG 42 11 5,oM 43 8,cA 44 126 [fa 42,fa 43] 2496,o 45 (.app 1 16 false (tv 41) (tv 44)),oM 46 7,oM 47 8,oX 48 11 46 47,oG 49 11 48,cA 50 83 [ta 39,fa 45,fa 49] 2880,oM 0 50] [(2,3),(2,9),(3,9),(5,9),(6,9),(2,10),(3,10),(5,10),(6,10)] [0,1,5,7,8])) (rd [2304,2912,2913,2914] [oM 37 8,oK 38 .add 37 1,oM 8 38] [0,1,5,7,8])))

def v83 : VFun := ⟨3,(sq [oa 5 (.box (tv 2)) 64,o 6 (.mv kn)] [0,1,5] (.seq (sq [oF 9 0 5,oL 10 9,oK 11 .eql 10 1,oM 12 11,gM 13 1 12 true,gF 14 2 5 12 true,gL 15 14 12 true,gA 16 78 [fa 13,fa 15] 12 true 640,gU 17 16 12 true,oQ 18 12 17,oM 19 18,gM 20 0 19 true,gF 21 2 5 19 true,gL 22 21 19 true,gA 23 78 [fa 20,fa 22] 19 true 1088,gU 24 23 19 true,oQ 25 19 24] [0,1,5,25] (cd 25 (rg [oM 26 0,oF 27 2 5,oL 28 27,oa 29 (.mkSl 1 [(tv 28)]) 1472,o 30 (.app 1 16 false (tv 26) (tv 29)),oM 0 30] [0,1,5]) .skip)) (.seq (rd [1472] [oG 31 11 5,cA 32 69 [fa 31] 1728,oM 7 32] [0,1,5,7]) (.seq (sq [oJ 8 0] [0,1,5,7,8] (lp 0 l83_0)) (sq [oM 51 0,oM 6 51] [6] .ret))))),[.tmp 6],true⟩

def l125_0 : VCode := (.seq (sq [oM 9 5,oK 10 .geq 9 0] [0,1,5,10] (xt 10 0)) (.seq (.block 1 (sq [oM 13 0,oM 14 5,oX 15 1 13 14,oL 16 15,oM 17 1,oB 18 .eql 16 17] [0,1,5,18] (cd 18 (sq [oM 19 5,oM 4 19] [4] .ret) .skip))) (rg [oM 11 5,oK 12 .sub 11 1,oM 5 12] [0,1,5])))

def v125 : VFun := ⟨2,(sq [oJ 4 0] [0,1] (.seq (sq [oM 6 0,oN 7 6,oK 8 .sub 7 1,oM 5 8] [0,1,5] (lp 0 l125_0)) (sq [oJ 4 (-1)] [4] .ret))),[.tmp 4],false⟩

def v126 : VFun := ⟨2,(sq [oa 2 (.box (tv 0)) 64,o 4 (.mv kn)] [1,2] (.seq (.block 0 (.seq (sq [oF 6 0 2,oL 7 6,oK 8 .eql 7 4,oM 5 8] [1,2,5] (cd 5 .skip (sq [oF 9 0 2,oL 10 9,oK 11 .eql 10 7,oM 5 11] [1,2,5] (cd 5 .skip (rg [oF 12 0 2,oL 13 12,oK 14 .eql 13 6,oM 15 14,gM 16 1 15 true,og 17 (.bin .eql 0 (tv 16) (ki 1)) 15 true,oQ 18 15 17,oM 5 18] [1,2,5]))))) (cd 5 (sq [oF 19 2 2,oL 20 19,oa 21 (.mkSl 1 [(tv 20)]) 1344,oM 4 21] [4] .ret) (sq [oF 23 0 2,oL 24 23,oK 25 .eql 24 8,oM 26 25,gM 27 1 26 true,og 28 (.bin .gtr 0 (tv 27) (ki 0)) 26 true,oQ 29 26 28,oM 22 29] [1,2,22] (cd 22 (sq [oF 30 5 2,oL 31 30,oM 32 1,oK 33 .sub 32 1,oX 34 14 31 33,oF 35 2 34,oL 36 35,oM 4 36] [4] .ret) .skip))))) (sq [o 4 (.mv kn)] [4] .ret))),[.tmp 4],false⟩

def v134 : VFun := ⟨2,(sq [o 4 (.mv (.k (.sc zs))),o 5 (.mv kF)] [0,1] (.seq (sq [oM 6 0,oM 7 1,cA 8 181 [fa 6,fa 7] 320,oU 9 8] [0,1,9] (cd 9 (sq [oM 10 0,oM 4 10,o 5 (.mv kF)] [4,5] .ret) .skip)) (sq [oM 11 0,oM 12 1,o 13 (.len true (tv 12)),o 14 (.slS (tv 11) (some (tv 13)) none),oM 4 14,o 5 (.mv kt)] [4,5] .ret))),[.tmp 4,.tmp 5],false⟩

def l135_0 : VCode := (sq [oB 102 .lss 101 100] [1,8,9,10,11,12,13,99,100,101,102] (.seq (xt 102 3) (.seq (.block 4 (sq [oX 103 1 99 101,oL 104 103,oM 15 104] [1,8,9,10,11,12,13,15,99,100,101] (sq [o 16 (.mv (.k (.sc (.c (.int .u8 0)))))] [1,8,9,10,11,12,13,15,99,100,101] (.seq (.block 5 (sq [oM 107 15,o 108 (.bin .eql 0 (tv 107) (.k (.sc (.c (.int .u8 95))))),oM 109 108,gM 110 8 109 true,oQ 111 109 110,oM 106 111] [1,8,9,10,11,12,13,15,99,100,101,106] (cd 106 (sq [o 12 (.mv kt)] [1,8,9,10,11,12,13,99,100,101] (.exit 4)) (sq [oM 113 15,o 114 (.bin .leq 0 (.k (.sc (.c (.int .u8 48)))) (tv 113)),oM 115 114,gM 116 15 115 true,og 117 (.bin .leq 0 (tv 116) (.k (.sc (.c (.int .u8 57))))) 115 true,oQ 118 115 117,oM 112 118] [1,8,9,10,11,12,13,15,99,100,101,112] (cd 112 (rg [oM 119 15,o 120 (.bin .sub 0 (tv 119) (.k (.sc (.c (.int .u8 48))))),oM 16 120] [1,8,9,10,11,12,13,16,99,100,101]) (sq [oM 122 15,cA 123 182 [fa 122] 8640,o 124 (.bin .leq 0 (.k (.sc (.c (.int .u8 97)))) (tv 123)),oM 125 124,gM 126 15 125 true,gA 127 182 [fa 126] 125 true 8896,og 128 (.bin .leq 0 (tv 127) (.k (.sc (.c (.int .u8 122))))) 125 true,oQ 129 125 128,oM 121 129] [1,8,9,10,11,12,13,15,99,100,101,121] (cd 121 (rg [oM 130 15,cA 131 182 [fa 130] 9216,o 132 (.bin .sub 0 (tv 131) (.k (.sc (.c (.int .u8 97))))),o 133 (.bin .add 0 (tv 132) (.k (.sc (.c (.int .u8 10))))),oM 16 133] [1,8,9,10,11,12,13,16,99,100,101]) (sq [o 105 (.ifc 209 (ki 2)),o 6 (.mv (.k (.sc (.c (.int .u64 0))))),oM 7 105] [6,7] .ret)))))))) (.seq (sq [oM 134 16,oM 135 1,o 136 (.cvI .u8 (tv 135)),oB 137 .geq 134 136] [1,8,9,10,11,12,13,16,99,100,101,137] (cd 137 (sq [o 138 (.ifc 209 (ki 2)),o 6 (.mv (.k (.sc (.c (.int .u64 0))))),oM 7 138] [6,7] .ret) .skip)) (.seq (sq [oM 139 13,oM 140 10,oB 141 .geq 139 140] [1,8,9,10,11,12,13,16,99,100,101,141] (cd 141 (sq [oM 142 11,o 143 (.ifc 209 (ki 1)),oM 6 142,oM 7 143] [6,7] .ret) .skip)) (sq [oM 144 13,oM 145 1,o 146 (.cvI .u64 (tv 145)),oB 147 .mul 144 146,oM 13 147] [1,8,9,10,11,12,13,16,99,100,101] (sq [oM 148 13,oM 149 16,o 150 (.cvI .u64 (tv 149)),oB 151 .add 148 150,oM 17 151] [1,8,9,10,11,12,13,17,99,100,101] (.seq (sq [oM 152 17,oM 153 13,oB 154 .lss 152 153,oM 155 154,gM 156 17 155 false,gM 157 11 155 false,gB 158 .gtr 156 157 155 false,oP 159 155 158] [1,8,9,10,11,12,17,99,100,101,159] (cd 159 (sq [oM 160 11,o 161 (.ifc 209 (ki 1)),oM 6 160,oM 7 161] [6,7] .ret) .skip)) (rg [oM 162 17,oM 13 162] [1,8,9,10,11,12,13,99,100,101])))))))))) (rg [oK 163 .add 101 1,oM 101 163] [1,8,9,10,11,12,13,99,100,101]))))

def v135 : VFun := ⟨3,(sq [o 6 (.mv (.k (.sc (.c (.int .u64 0))))),o 7 (.mv (.k (.sc (.c .nilif))))] [0,1,2] (.seq (sq [oM 18 0,o 19 (.bin .eql 0 (tv 18) (.k (.sc zs)))] [0,1,2,19] (cd 19 (sq [o 20 (.ifc 209 (ki 2)),o 6 (.mv (.k (.sc (.c (.int .u64 0))))),oM 7 20] [6,7] .ret) .skip)) (sq [oM 21 1,oK 22 .eql 21 0,oM 8 22] [0,1,2,8] (sq [oM 23 0,oM 9 23] [0,1,2,8,9] (.seq (.block 0 (sq [oM 26 1,o 27 (.bin .leq 0 (ki 2) (tv 26)),oM 28 27,gM 29 1 28 true,og 30 (.bin .leq 0 (tv 29) (ki 36)) 28 true,oQ 31 28 30,oM 25 31] [0,1,2,8,9,25] (cd 25 .skip (sq [oM 33 1,oK 34 .eql 33 0,oM 32 34] [0,2,8,9,32] (cd 32 (sq [oJ 1 10] [0,1,2,8,9] (sq [oM 35 0,o 36 (.idxS (tv 35) (ki 0)),o 37 (.bin .eql 0 (tv 36) (.k (.sc (.c (.int .u8 48)))))] [0,1,2,8,9,37] (cd 37 (.block 1 (sq [oM 41 0,o 42 (.len true (tv 41)),oK 43 .geq 42 3,oM 44 43,gM 45 0 44 true,og 46 (.idxS (tv 45) (ki 1)) 44 true,gA 47 182 [fa 46] 44 true 2112,og 48 (.bin .eql 0 (tv 47) (.k (.sc (.c (.int .u8 98))))) 44 true,oQ 49 44 48,oM 40 49] [0,2,8,9,40] (cd 40 (sq [oJ 1 2] [0,1,2,8,9] (rg [oM 50 0,o 51 (.slS (tv 50) (some (ki 2)) none),oM 0 51] [0,1,2,8,9])) (sq [oM 53 0,o 54 (.len true (tv 53)),oK 55 .geq 54 3,oM 56 55,gM 57 0 56 true,og 58 (.idxS (tv 57) (ki 1)) 56 true,gA 59 182 [fa 58] 56 true 3008,og 60 (.bin .eql 0 (tv 59) (.k (.sc (.c (.int .u8 111))))) 56 true,oQ 61 56 60,oM 52 61] [0,2,8,9,52] (cd 52 (sq [oJ 1 8] [0,1,2,8,9] (rg [oM 62 0,o 63 (.slS (tv 62) (some (ki 2)) none),oM 0 63] [0,1,2,8,9])) (sq [oM 65 0,o 66 (.len true (tv 65)),oK 67 .geq 66 3,oM 68 67,gM 69 0 68 true,og 70 (.idxS (tv 69) (ki 1)) 68 true,gA 71 182 [fa 70] 68 true 3904,og 72 (.bin .eql 0 (tv 71) (.k (.sc (.c (.int .u8 120))))) 68 true,oQ 73 68 72,oM 64 73] [0,2,8,9,64] (cd 64 (sq [oJ 1 16] [0,1,2,8,9] (rg [oM 74 0,o 75 (.slS (tv 74) (some (ki 2)) none),oM 0 75] [0,1,2,8,9])) (sq [oJ 1 8] [0,1,2,8,9] (rg [oM 38 0,o 39 (.slS (tv 38) (some (ki 1)) none),oM 0 39] [0,1,2,8,9]))))))))) .skip))) (sq [o 24 (.ifc 209 (ki 3)),o 6 (.mv (.k (.sc (.c (.int .u64 0))))),oM 7 24] [6,7] .ret)))))) (.seq (sq [oM 76 2,oK 77 .eql 76 0] [0,1,2,8,9,77] (cd 77 (rg [oJ 2 64] [0,1,2,8,9]) (sq [oM 78 2,oK 79 .lss 78 0,oM 80 79,gM 81 2 80 false,og 82 (.bin .gtr 0 (tv 81) (ki 64)) 80 false,oP 83 80 82] [0,1,2,8,9,83] (cd 83 (sq [o 84 (.ifc 209 (ki 4)),o 6 (.mv (.k (.sc (.c (.int .u64 0))))),oM 7 84] [6,7] .ret) .skip)))) (sq [o 10 (.mv (.k (.sc (.c (.int .u64 0)))))] [0,1,2,8,9] (.seq (sq [oM 85 1] [0,1,2,8,9,85] (.block 2 (sq [oK 91 .eql 85 10,oM 90 91] [0,1,2,8,9,85,90] (cd 90 (rg [o 10 (.mv (.k (.sc (.c (.int .u64 1844674407370955162)))))] [0,1,2,8,9,10]) (sq [oK 93 .eql 85 16,oM 92 93] [0,1,2,8,9,92] (cd 92 (rg [o 10 (.mv (.k (.sc (.c (.int .u64 1152921504606846976)))))] [0,1,2,8,9,10]) (rg [oM 86 1,o 87 (.cvI .u64 (tv 86)),o 88 (.bin .quo 0 (.k (.sc (.c (.int .u64 18446744073709551615)))) (tv 87)),o 89 (.bin .add 0 (tv 88) (.k (.sc (.c (.int .u64 1))))),oM 10 89] [0,1,2,8,9,10]))))))) (sq [oM 94 2,o 95 (.cvI .u64 (tv 94)),o 96 (.bin .shl 0 (.k (.sc (.c (.int .u64 1)))) (tv 95)),o 97 (.bin .sub 0 (tv 96) (.k (.sc (.c (.int .u64 1))))),oM 11 97] [0,1,8,9,10,11] (sq [o 12 (.mv kF)] [0,1,8,9,10,11,12] (sq [o 13 (.mv (.k (.sc (.c (.int .u64 0)))))] [0,1,8,9,10,11,12,13] (.seq (sq [oM 98 0,o 99 (.cvB (tv 98)),oN 100 99,oJ 101 0] [1,8,9,10,11,12,13,99,100,101] (lp 3 l135_0)) (.seq (sq [oM 164 12,oM 165 164,gM 166 9 165 true,gA 167 183 [fa 166] 165 true 12416,gU 168 167 165 true,oQ 169 165 168] [13,169] (cd 169 (sq [o 170 (.ifc 209 (ki 2)),o 6 (.mv (.k (.sc (.c (.int .u64 0))))),oM 7 170] [6,7] .ret) .skip)) (sq [oM 171 13,oM 6 171,o 7 (.mv (.k (.sc (.c .nilif))))] [6,7] .ret)))))))))))))),[.tmp 6,.tmp 7],false⟩

def v136 : VFun := ⟨5,(sq [o 10 (.mv (.k (.sc (.c .nilif))))] [0,1,2,3,4] (.seq (sq [oM 11 4] [0,1,2,3,4,11] (.block 0 (sq [o 13 (.ifc 209 (ki 2)),o 14 (.bin .eql 215 (tv 11) (tv 13)),oM 12 14] [0,1,2,3,4,11,12] (cd 12 (sq [oM 15 0,oM 16 1,cA 17 184 [fa 15,fa 16] 512,o 18 (.ifc 212 (tv 17)),oM 10 18] [10] .ret) (sq [o 20 (.ifc 209 (ki 1)),o 21 (.bin .eql 215 (tv 11) (tv 20)),oM 19 21] [0,1,2,3,4,11,19] (cd 19 (sq [oM 22 0,oM 23 1,cA 24 185 [fa 22,fa 23] 1024,o 25 (.ifc 212 (tv 24)),oM 10 25] [10] .ret) (sq [o 27 (.ifc 209 (ki 3)),o 28 (.bin .eql 215 (tv 11) (tv 27)),oM 26 28] [0,1,2,3,4,11,26] (cd 26 (sq [oM 29 0,oM 30 1,oM 31 2,cA 32 186 [fa 29,fa 30,fa 31] 1600,o 33 (.ifc 212 (tv 32)),oM 10 33] [10] .ret) (sq [o 35 (.ifc 209 (ki 4)),o 36 (.bin .eql 215 (tv 11) (tv 35)),oM 34 36] [0,1,3,4,34] (cd 34 (sq [oM 37 0,oM 38 1,oM 39 3,cA 40 187 [fa 37,fa 38,fa 39] 2176,o 41 (.ifc 212 (tv 40)),oM 10 41] [10] .ret) .skip)))))))))) (sq [oM 42 4,oM 10 42] [10] .ret))),[.tmp 10],true⟩

def v137 : VFun := ⟨2,(sq [o 4 (.mv (.k (.sc zs)))] [0,1] (.seq (sq [oM 9 1,oK 10 .eql 9 10] [0,1,10] (cd 10 (.seq (sq [oM 11 0,o 12 (.bin .lss 0 (tv 11) (.k (.sc (.c (.int .u64 100)))))] [0,12] (cd 12 (sq [oM 13 0,o 14 (.cvI .i64 (tv 13)),cA 15 188 [fa 14] 512,oM 4 15] [4] .ret) .skip)) (sq [oa 5 (.newA 24 [(.c (.int .u8 0))]) 640] [0,5] (sq [oM 16 0,cA 17 189 [fa 16] 768,oM 6 17] [0,5,6] (sq [oM 18 6,o 19 (.slA 1 24 (tv 5) none (some (tv 18))),oM 20 0,cA 21 190 [ta 19,fa 20] 1088] [5,6] (sq [oM 22 6,o 23 (.slA 1 24 (tv 5) none (some (tv 22))),o 24 (.cvS (tv 23)),oM 4 24] [4] .ret))))) .skip)) (sq [oM 26 0,oM 27 1,cA 28 191 [(false,kn),fa 26,fa 27,(false,kF),(false,kF)] 1536,oM 25 28,oE 29 25 0,oE 30 25 1,oM 7 29,oM 8 30] [8] (sq [oM 31 8,oM 4 31] [4] .ret)))),[.tmp 4],false⟩

def v139 : VFun := ⟨1,(sq [oJ 2 0] [0] (.seq (.cond kF (sq [oM 3 0,o 4 (.cvI .u32 (tv 3)),cA 5 201 [fa 4] 256,oM 2 5] [2] .ret) .skip) (sq [oM 6 0,cA 7 202 [fa 6] 448,oM 2 7] [2] .ret))),[.tmp 2],false⟩

def l138_0 : VCode := (.block 1 (sq [oM 19 2,oM 20 1,oB 21 .sub 19 20,oM 10 21] [0,1,2,3,8,9,10] (.seq (sq [oM 22 10,oK 23 .leq 22 12] [0,1,2,3,8,9,10,23] (cd 23 (sq [oM 24 0,oM 25 1,oM 26 2,cA 27 192 [ta 24,fa 25,fa 26] 768] [1000000] .ret) .skip)) (.seq (sq [oM 28 3,oK 29 .eql 28 0] [0,1,2,3,8,9,10,29] (cd 29 (sq [oM 30 0,oM 31 1,oM 32 2,cA 33 193 [ta 30,fa 31,fa 32] 1152] [1000000] .ret) .skip)) (.seq (sq [oM 34 8,oU 35 34] [0,1,2,3,8,9,10,35] (cd 35 (sq [oM 36 0,oM 37 1,oM 38 2,cA 39 194 [ta 36,fa 37,fa 38] 1536] [0,1,2,3,8,9,10] (rg [oM 40 3,oK 41 .sub 40 1,oM 3 41] [0,1,2,3,8,9,10])) .skip)) (sq [oM 43 0,oM 44 1,oM 45 2,cA 46 195 [ta 43,fa 44,fa 45] 1984,oM 42 46,oE 47 42 0,oE 48 42 1,oM 11 47,oM 12 48] [0,1,2,3,8,9,10,11,12] (.seq (sq [oM 49 12,oK 50 .eql 49 2] [0,1,2,3,8,9,10,11,12,50] (cd 50 (sq [oM 51 0,oM 52 1,oM 53 2,cA 54 196 [ta 51,fa 52,fa 53] 2688] [0,1,2,3,8,9,10,11] (sq [oM 55 2,oK 56 .sub 55 1,oM 57 11,oM 58 1,oB 59 .sub 57 58,oB 60 .sub 56 59,oM 11 60] [0,1,2,3,8,9,10,11] (rg [oJ 12 1] [0,1,2,3,8,9,10,11,12]))) .skip)) (.seq (sq [oM 61 8,oM 62 61,gM 63 9 62 true,oQ 64 62 63,oM 65 64,gM 66 12 65 true,og 67 (.bin .eql 0 (tv 66) (ki 1)) 65 true,oQ 68 65 67] [0,1,2,3,8,9,10,11,68] (cd 68 (sq [oM 69 0,oM 70 1,oM 71 2,cA 72 197 [ta 69,fa 70,fa 71] 3968] [0,1,2,3,8,9,10,11,72] (cd 72 .ret .skip)) .skip)) (.seq (.seq (.region [] [oM 73 1,oK 74 .gtr 73 0,oM 75 74,gM 76 0 75 true,gM 77 1 75 true,og 78 (.bin .sub 0 (tv 77) (ki 1)) 75 true,gX 79 1 76 78 75 true,gL 80 79 75 true,gM 81 0 75 true,gM 82 11 75 true,gX 83 1 81 82 75 true,gL 84 83 75 true,gA 85 198 [fa 80,fa 84] 75 true 4800,gU 86 85 75 true,oQ 87 75 86] [(6,10),(7,10),(6,11),(7,11)] [0,1,2,3,8,9,10,11,87]) (cd 87 (sq [oM 88 0,oM 89 1,oM 90 2,oM 91 11,cA 92 199 [ta 88,fa 89,fa 90,fa 91] 5248,oM 13 92] [0,1,2,3,8,9,13] (sq [oM 93 13,oM 1 93] [0,1,2,3,8,9] (.exit 1))) .skip)) (sq [oM 95 0,oM 96 1,oM 97 2,oM 98 11,cA 99 200 [ta 95,fa 96,fa 97,fa 98] 5760,oM 94 99,oE 100 94 0,oE 101 94 1,oM 14 100,oM 15 101] [0,1,2,3,8,9,10,14,15] (sq [oM 102 15,oM 9 102] [0,1,2,3,8,9,10,14] (sq [oM 103 14,oM 104 1,oB 105 .sub 103 104,oM 106 2,oM 107 14,oB 108 .sub 106 107,oM 16 105,oM 17 108] [0,1,2,3,8,9,10,14,16,17] (sq [oM 109 10,oK 110 .quo 109 8,oM 18 110] [0,1,2,3,8,9,14,16,17,18] (sq [oM 111 16,oM 112 17,oB 113 .lss 111 112] [0,1,2,3,8,9,14,16,17,18,113] (cd 113 (sq [oM 114 16,oM 115 18,oB 116 .geq 114 115,oM 8 116] [0,1,2,3,8,9,14] (sq [oM 117 0,oM 118 1,oM 119 14,oM 120 3,cA 121 138 [ta 117,fa 118,fa 119,fa 120] 7680] [0,1,2,3,8,9,14] (rg [oM 122 14,oK 123 .add 122 1,oM 1 123] [0,1,2,3,8,9]))) (sq [oM 124 17,oM 125 18,oB 126 .geq 124 125,oM 8 126] [0,1,2,3,8,9,14] (sq [oM 127 0,oM 128 14,oK 129 .add 128 1,oM 130 2,oM 131 3,cA 132 138 [ta 127,fa 129,fa 130,fa 131] 8512] [0,1,2,3,8,9,14] (rg [oM 133 14,oM 2 133] [0,1,2,3,8,9]))))))))))))))))))

def v138 : VFun := ⟨4,(sq [o 8 (.mv kt)] [0,1,2,3,8,9] (sq [o 9 (.mv kt)] [0,1,2,3,8,9] (lp 0 l138_0))),[],false⟩

def v106 : VFun := ⟨1,(sq [oa 1 (.box (tv 0)) 64,o 2 (.mv (.k (.sc (.c .nilfn))))] [1] (sq [o 3 (.fn 156 [(tv 1)]),oM 2 3] [2] .ret)),[.tmp 2],true⟩

def l107_0 : VCode := (sq [oB 9 .lss 8 7] [0,1,7,8,9] (.seq (xt 9 0) (.seq (.block 1 (sq [oM 10 8,oM 5 10] [0,1,5,7,8] (sq [oM 11 1,oM 12 0,oM 13 5,oX 14 1 12 13,oL 15 14,oB 16 .eql 11 15] [0,1,5,7,8,16] (cd 16 (sq [oM 17 5,oM 4 17] [4] .ret) .skip)))) (rg [oK 18 .add 8 1,oM 8 18] [0,1,7,8]))))

def v107 : VFun := ⟨2,(sq [oJ 4 0] [0,1] (.seq (sq [oM 6 0,oN 7 6,oJ 8 0] [0,1,7,8] (lp 0 l107_0)) (sq [oJ 4 (-1)] [4] .ret))),[.tmp 4],false⟩

def v105 : VFun := ⟨1,(sq [o 2 (.mv kF)] [0] (sq [oM 3 0,oM 4 0,oB 5 .neq 3 4,oM 2 5] [2] .ret)),[.tmp 2],false⟩

def l157_0 : VCode := (sq [oB 33 .lss 32 31] [0,31,32,33] (.seq (xt 33 0) (.seq (.block 1 (sq [oM 34 32,oM 7 34] [0,7,31,32] (sq [oM 35 0,oM 36 7,o 37 (.idxS (tv 35) (tv 36)),oM 8 37] [0,8,31,32] (sq [oM 38 8,o 39 (.bin .geq 0 (tv 38) (.k (.sc (.c (.int .u8 97))))),oM 40 39,gM 41 8 40 true,og 42 (.bin .leq 0 (tv 41) (.k (.sc (.c (.int .u8 122))))) 40 true,oQ 43 40 42,oM 44 43,gM 45 8 44 false,og 46 (.bin .geq 0 (tv 45) (.k (.sc (.c (.int .u8 65))))) 44 false,gM 47 46 44 false,gM 48 8 47 true,og 49 (.bin .leq 0 (tv 48) (.k (.sc (.c (.int .u8 90))))) 47 true,og 50 (.pick (tv 47) (tv 49) kF) 44 false,oP 51 44 50,oM 9 51] [0,8,9,31,32] (sq [oM 52 9,oU 53 52,oM 54 53,gM 55 8 54 true,og 56 (.bin .lss 0 (tv 55) (.k (.sc (.c (.int .u8 48))))) 54 true,gM 57 56 54 true,gM 58 8 57 false,og 59 (.bin .gtr 0 (tv 58) (.k (.sc (.c (.int .u8 57))))) 57 false,og 60 (.pick (tv 57) kt (tv 59)) 54 true,oQ 61 54 60,oM 62 61,gM 63 8 62 true,og 64 (.bin .neq 0 (tv 63) (.k (.sc (.c (.int .u8 95))))) 62 true,oQ 65 62 64] [0,31,32,65] (cd 65 (sq [o 6 (.mv kF)] [6] .ret) .skip)))))) (rg [oK 66 .add 32 1,oM 32 66] [0,31,32]))))

def v157 : VFun := ⟨3,(sq [o 6 (.mv kF)] [0,1,2] (.seq (sq [oM 10 0,o 11 (.len true (tv 10)),oK 12 .lss 11 1,oM 13 12,gM 14 0 13 false,og 15 (.len true (tv 14)) 13 false,og 16 (.bin .gtr 0 (tv 15) (ki 12)) 13 false,oP 17 13 16,oM 18 17,gM 19 0 18 false,og 20 (.idxS (tv 19) (ki 0)) 18 false,gM 21 1 18 false,gB 22 .lss 20 21 18 false,oP 23 18 22,oM 24 23,gM 25 0 24 false,og 26 (.idxS (tv 25) (ki 0)) 24 false,gM 27 2 24 false,gB 28 .gtr 26 27 24 false,oP 29 24 28] [0,29] (cd 29 (sq [o 6 (.mv kF)] [6] .ret) .skip)) (.seq (sq [oM 30 0,o 31 (.len true (tv 30)),oJ 32 0] [0,31,32] (lp 0 l157_0)) (.seq (sq [oM 67 0] [67] (.block 2 (.seq (sq [o 69 (.bin .eql 0 (tv 67) (.k (.sc (.c (.str [100,97,116,97]))))),oM 68 69] [67,68] (cd 68 .skip (sq [o 70 (.bin .eql 0 (tv 67) (.k (.sc (.c (.str [108,101,116]))))),oM 68 70] [67,68] (cd 68 .skip (sq [o 71 (.bin .eql 0 (tv 67) (.k (.sc (.c (.str [114,101,99]))))),oM 68 71] [67,68] (cd 68 .skip (sq [o 72 (.bin .eql 0 (tv 67) (.k (.sc (.c (.str [105,110]))))),oM 68 72] [67,68] (cd 68 .skip (sq [o 73 (.bin .eql 0 (tv 67) (.k (.sc (.c (.str [99,97,115,101]))))),oM 68 73] [67,68] (cd 68 .skip (sq [o 74 (.bin .eql 0 (tv 67) (.k (.sc (.c (.str [111,102]))))),oM 68 74] [67,68] (cd 68 .skip (rg [o 75 (.bin .eql 0 (tv 67) (.k (.sc (.c (.str [101,110,100]))))),oM 68 75] [68]))))))))))))) (cd 68 (sq [o 6 (.mv kF)] [6] .ret) .skip)))) (sq [o 6 (.mv kt)] [6] .ret))))),[.tmp 6],false⟩

def v162 : VFun := ⟨2,(sq [oa 2 (.box (tv 0)) 64,oa 3 (.box (tv 1)) 128,oJ 4 0] [2,3] (.seq (.region [] [oF 6 0 2,oL 7 6,oF 8 0 3,oL 9 8,cA 10 55 [fa 7,fa 9] 512,oF 11 1 2,oL 12 11,oF 13 1 3,oL 14 13,cA 15 215 [fa 12,fa 14] 832,oF 16 2 2,oL 17 16,oF 18 2 3,oL 19 18,cA 20 55 [fa 17,fa 19] 1152,oF 21 3 2,oL 22 21,oF 23 3 3,oL 24 23,cA 25 55 [fa 22,fa 24] 1472,oF 26 4 2,oL 27 26,oN 28 27,oF 29 4 3,oL 30 29,oN 31 30,cA 32 55 [fa 28,fa 31] 1920,oa 33 (.mkSl 1 [(tv 10),(tv 15),(tv 20),(tv 25),(tv 32)]) 1984,cA 34 59 [fa 33] 2048,oM 5 34] [(0,2),(1,2),(0,3),(1,3),(0,5),(1,5),(2,5),(3,5),(4,5),(0,6),(1,6),(2,6),(3,6),(4,6),(0,7),(1,7),(2,7),(3,7),(4,7),(5,7),(6,7),(0,8),(1,8),(2,8),(3,8),(4,8),(5,8),(6,8),(0,10),(1,10),(2,10),(3,10),(4,10),(5,10),(6,10),(7,10),(8,10),(9,10),(0,11),(1,11),(2,11),(3,11),(4,11),(5,11),(6,11),(7,11),(8,11),(9,11),(0,12),(1,12),(2,12),(3,12),(4,12),(5,12),(6,12),(7,12),(8,12),(9,12),(10,12),(11,12),(0,13),(1,13),(2,13),(3,13),(4,13),(5,13),(6,13),(7,13),(8,13),(9,13),(10,13),(11,13),(0,15),(1,15),(2,15),(3,15),(4,15),(5,15),(6,15),(7,15),(8,15),(9,15),(10,15),(11,15),(12,15),(13,15),(14,15),(0,16),(1,16),(2,16),(3,16),(4,16),(5,16),(6,16),(7,16),(8,16),(9,16),(10,16),(11,16),(12,16),(13,16),(14,16),(0,17),(1,17),(2,17),(3,17),(4,17),(5,17),(6,17),(7,17),(8,17),(9,17),(10,17),(11,17),(12,17),(13,17),(14,17),(15,17),(16,17),(0,18),(1,18),(2,18),(3,18),(4,18),(5,18),(6,18),(7,18),(8,18),(9,18),(10,18),(11,18),(12,18),(13,18),(14,18),(15,18),(16,18),(0,20),(1,20),(2,20),(3,20),(4,20),(5,20),(6,20),(7,20),(8,20),(9,20),(10,20),(11,20),(12,20),(13,20),(14,20),(15,20),(16,20),(17,20),(18,20),(19,20),(0,21),(1,21),(2,21),(3,21),(4,21),(5,21),(6,21),(7,21),(8,21),(9,21),(10,21),(11,21),(12,21),(13,21),(14,21),(15,21),(16,21),(17,21),(18,21),(19,21),(0,22),(1,22),(2,22),(3,22),(4,22),(5,22),(6,22),(7,22),(8,22),(9,22),(10,22),(11,22),(12,22),(13,22),(14,22),(15,22),(16,22),(17,22),(18,22),(19,22),(0,23),(1,23),(2,23),(3,23),(4,23),(5,23),(6,23),(7,23),(8,23),(9,23),(10,23),(11,23),(12,23),(13,23),(14,23),(15,23),(16,23),(17,23),(18,23),(19,23),(20,23),(21,23),(22,23),(0,24),(1,24),(2,24),(3,24),(4,24),(5,24),(6,24),(7,24),(8,24),(9,24),(10,24),(11,24),(12,24),(13,24),(14,24),(15,24),(16,24),(17,24),(18,24),(19,24),(20,24),(21,24),(22,24),(0,25),(1,25),(2,25),(3,25),(4,25),(5,25),(6,25),(7,25),(8,25),(9,25),(10,25),(11,25),(12,25),(13,25),(14,25),(15,25),(16,25),(17,25),(18,25),(19,25),(20,25),(21,25),(22,25)] [2,3,5]) (.seq (.seq (rd [1984] [oM 35 5,oK 36 .neq 35 0] [2,3,5,36]) (cd 36 (sq [oM 37 5,oM 4 37] [4] .ret) .skip)) (sq [oF 38 4 2,oL 39 38,oF 40 4 3,oL 41 40,cA 42 216 [fa 39,fa 41,(true,(kf 162))] 2688,oM 4 42] [4] .ret)))),[.tmp 4],false⟩

def l163_0 : VCode := (sq [oB 9 .lss 8 7] [0,1,7,8,9] (.seq (xt 9 0) (.seq (.block 1 (sq [oM 10 8,oM 5 10] [0,1,5,7,8] (sq [oM 11 1,oM 12 0,oM 13 5,oX 14 1 12 13,oL 15 14,oa 16 (.call (tv 11) [fa 15] []) 832] [0,1,5,7,8,16] (cd 16 (sq [oM 17 5,oM 4 17] [4] .ret) .skip)))) (rd [864,865,866] [oK 18 .add 8 1,oM 8 18] [0,1,7,8]))))

def v163 : VFun := ⟨2,(sq [oJ 4 0] [0,1] (.seq (sq [oM 6 0,oN 7 6,oJ 8 0] [0,1,7,8] (lp 0 l163_0)) (sq [oJ 4 (-1)] [4] .ret))),[.tmp 4],false⟩

def l164_0 : VCode := (sq [oB 9 .lss 8 7] [0,1,7,8,9] (.seq (xt 9 0) (.seq (.block 1 (sq [oM 10 8,oM 5 10] [0,1,5,7,8] (sq [oM 11 1,oM 12 0,oM 13 5,oX 14 11 12 13,oG 15 11 14,oa 16 (.call (tv 11) [fa 15] []) 832] [0,1,5,7,8,16] (cd 16 (sq [oM 17 5,oM 4 17] [4] .ret) .skip)))) (rd [864,865,866] [oK 18 .add 8 1,oM 8 18] [0,1,7,8]))))

def v164 : VFun := ⟨2,(sq [oJ 4 0] [0,1] (.seq (sq [oM 6 0,oN 7 6,oJ 8 0] [0,1,7,8] (lp 0 l164_0)) (sq [oJ 4 (-1)] [4] .ret))),[.tmp 4],false⟩

def l167_0 : VCode := (.seq (sq [oM 42 5,oM 43 0,o 44 (.len true (tv 43)),oB 45 .lss 42 44,oM 46 45,gM 47 0 46 true,gM 48 5 46 true,og 49 (.idxS (tv 47) (tv 48)) 46 true,og 50 (.bin .neq 0 (tv 49) (.k (.sc (.c (.int .u8 10))))) 46 true,oQ 51 46 50] [0,3,4,5,51] (xt 51 3)) (.block 4 (rg [oM 52 5,oK 53 .add 52 1,oM 5 53] [0,3,4,5])))

def l167_1 : VCode := (.seq (sq [oM 57 7,oM 58 0,o 59 (.len true (tv 58)),oB 60 .lss 57 59,oM 61 60,gM 62 0 61 true,gM 63 7 61 true,og 64 (.idxS (tv 62) (tv 63)) 61 true,gA 65 217 [fa 64] 61 true 4288,oQ 66 61 65] [0,3,4,5,7,66] (xt 66 5)) (.block 6 (rg [oM 67 7,oK 68 .add 67 1,oM 7 68] [0,3,4,5,7])))

def l167_2 : VCode := (.seq (sq [oM 13 5,oM 14 0,o 15 (.len true (tv 14)),oB 16 .lss 13 15] [0,3,4,5,16] (xt 16 0)) (.block 1 (sq [oM 17 0,oM 18 5,o 19 (.idxS (tv 17) (tv 18)),oM 6 19] [0,3,4,5,6] (sq [oM 20 5,oK 21 .add 20 1,oM 7 21] [0,3,4,5,6,7] (.seq (.block 2 (sq [oM 23 6,o 24 (.bin .eql 0 (tv 23) (.k (.sc (.c (.int .u8 32))))),oM 25 24,gM 26 6 25 false,og 27 (.bin .eql 0 (tv 26) (.k (.sc (.c (.int .u8 9))))) 25 false,oP 28 25 27,oM 29 28,gM 30 6 29 false,og 31 (.bin .eql 0 (tv 30) (.k (.sc (.c (.int .u8 13))))) 29 false,oP 32 29 31,oM 33 32,gM 34 6 33 false,og 35 (.bin .eql 0 (tv 34) (.k (.sc (.c (.int .u8 10))))) 33 false,oP 36 33 35,oM 22 36] [0,3,4,5,6,7,22] (cd 22 (sq [oM 37 5,oK 38 .add 37 1,oM 5 38] [0,3,4,5] (.exit 1)) (sq [oM 40 6,o 41 (.bin .eql 0 (tv 40) (.k (.sc (.c (.int .u8 35))))),oM 39 41] [0,3,4,5,6,7,39] (cd 39 (.seq (lp 3 l167_0) (.exit 1)) (sq [oM 55 6,cA 56 217 [fa 55] 3648,oM 54 56] [0,3,4,5,6,7,54] (cd 54 (lp 5 l167_1) (sq [oM 70 6,o 71 (.bin .eql 0 (tv 70) (.k (.sc (.c (.int .u8 45))))),oM 72 71,gM 73 7 72 true,gM 74 0 72 true,og 75 (.len true (tv 74)) 72 true,gB 76 .lss 73 75 72 true,oQ 77 72 76,oM 78 77,gM 79 0 78 true,gM 80 7 78 true,og 81 (.idxS (tv 79) (tv 80)) 78 true,og 82 (.bin .eql 0 (tv 81) (.k (.sc (.c (.int .u8 62))))) 78 true,oQ 83 78 82,oM 69 83] [0,3,4,5,7,69] (cd 69 (rg [oM 84 7,oK 85 .add 84 1,oM 7 85] [0,3,4,5,7]) .skip))))))))) (sq [oM 86 0,oM 87 5,oM 88 7,o 89 (.slS (tv 86) (some (tv 87)) (some (tv 88))),cA 90 218 [fa 89] 6016,oM 8 90] [0,3,4,5,7,8] (.seq (sq [oM 91 8,oK 92 .eql 91 0] [0,3,4,5,7,8,92] (cd 92 (sq [oM 93 5,o 94 (.build [zi,zi] [(0,1,(ki 2)),(1,1,(tv 93))]),o 2 (.mv kn),oW 2 3 94] [2,3] .ret) .skip)) (.seq (rd [7040] [oM 95 4,oM 96 8,oM 97 0,oM 98 5,oM 99 7,o 100 (.slS (tv 97) (some (tv 98)) (some (tv 99))),oM 101 5,o 102 (.build [zi,zs,zi] [(0,1,(tv 96)),(1,1,(tv 100)),(2,1,(tv 101))]),oa 103 (.mkSl 3 [(tv 102)]) 7040,o 104 (.app 3 32 false (tv 95) (tv 103)),oM 4 104] [0,3,4,7]) (rd [7040] [oM 105 7,oM 5 105] [0,3,4,5])))))))))

def v167 : VFun := ⟨1,(sq [o 2 (.mv kn),oa 3 (.new [zi,zi] []) 128] [0,3] (.seq (sq [oM 9 0,o 10 (.len true (tv 9)),oK 11 .gtr 10 4000] [0,3,11] (cd 11 (sq [o 12 (.build [zi,zi] [(0,1,(ki 1))]),o 2 (.mv kn),oW 2 3 12] [2,3] .ret) .skip)) (sq [⟨(some 4),(.mv kn),none,576,[(0,3)]⟩] [0,3,4] (.seq (sq [oJ 5 0] [0,3,4,5] (lp 0 l167_2)) (sq [oM 106 4,o 107 (.build [zi,zi] []),oM 2 106,oW 2 3 107] [2,3] .ret))))),[.tmp 2,.cell 3 true 2],false⟩

def v168 : VFun := ⟨2,(sq [o 4 (.mv (.k (.sc (.c .nilptr))))] [0,1] (.seq (sq [oM 5 1,oK 6 .lss 5 0,oM 7 6,gM 8 1 7 false,gM 9 0 7 false,gN 10 9 7 false,gB 11 .gtr 8 10 7 false,oP 12 7 11] [0,1,12] (cd 12 (rg [oM 13 0,oN 14 13,oM 1 14] [0,1]) .skip)) (sq [oM 15 0,oM 16 1,o 17 (.build [.nil,zi,(.c (.bool false)),zi] [(0,1,(tv 15)),(1,1,(tv 16))]),oa 18 (.box (tv 17)) 1024,oM 4 18] [4] .ret))),[.tmp 4],true⟩

def v173 : VFun := ⟨2,(sq [o 4 (.mv kF)] [0,1] (.seq (.region [] [oM 5 0,o 6 (.nn (tv 5)),oF 7 2 6,oL 8 7,oU 9 8,oM 10 9,gM 11 0 10 true,og 12 (.nn (tv 11)) 10 true,gF 13 1 12 10 true,gL 14 13 10 true,gM 15 0 10 true,og 16 (.nn (tv 15)) 10 true,gF 17 0 16 10 true,gL 18 17 10 true,gN 19 18 10 true,gB 20 .lss 14 19 10 true,oQ 21 10 20,oM 22 21,gM 23 0 22 true,og 24 (.nn (tv 23)) 22 true,gF 25 0 24 22 true,gL 26 25 22 true,gM 27 0 22 true,og 28 (.nn (tv 27)) 22 true,gF 29 1 28 22 true,gL 30 29 22 true,gX 31 3 26 30 22 true,gF 32 0 31 22 true,gL 33 32 22 true,og 34 (.bin .eql 0 (tv 33) (ki 5)) 22 true,gM 35 34 22 true,gM 36 0 35 false,og 37 (.nn (tv 36)) 35 false,gF 38 0 37 35 false,gL 39 38 35 false,gM 40 0 35 false,og 41 (.nn (tv 40)) 35 false,gF 42 1 41 35 false,gL 43 42 35 false,gX 44 3 39 43 35 false,gF 45 0 44 35 false,gL 46 45 35 false,og 47 (.bin .eql 0 (tv 46) (ki 4)) 35 false,og 48 (.pick (tv 35) kt (tv 47)) 22 true,oQ 49 22 48,oM 50 49,gM 51 0 50 true,og 52 (.nn (tv 51)) 50 true,gF 53 0 52 50 true,gL 54 53 50 true,gM 55 0 50 true,og 56 (.nn (tv 55)) 50 true,gF 57 1 56 50 true,gL 58 57 50 true,gX 59 3 54 58 50 true,gF 60 1 59 50 true,gL 61 60 50 true,gM 62 1 50 true,gB 63 .eql 61 62 50 true,oQ 64 50 63,oM 4 64] [(7,11),(8,11),(9,11),(7,12),(8,12),(9,12),(7,13),(8,13),(9,13),(7,14),(8,14),(9,14),(19,23),(20,23),(21,23),(19,24),(20,24),(21,24),(19,25),(20,25),(21,25),(32,36),(33,36),(34,36),(32,37),(33,37),(34,37),(32,38),(33,38),(34,38),(47,51),(48,51),(49,51),(47,52),(48,52),(49,52),(47,53),(48,53),(49,53)] [4]) .ret)),[.tmp 4],false⟩

def l174_0 : VCode := (.seq (sq [oM 13 0,cA 14 228 [ta 13,(false,(ki 1))] 896] [0,2,3,14] (xt 14 0)) (.block 1 (.region [1216] [oF 15 2 3,oL 16 15,oM 17 0,cA 18 221 [ta 17,(false,(ki 1))] 1152,oa 19 (.mkSl 1 [(tv 18)]) 1216,o 20 (.app 1 16 false (tv 16) (tv 19)),oF 21 2 3,oW 1 21 20] [(0,3),(1,3),(0,4),(1,4)] [0,2,3])))

def l174_1 : VCode := (.seq (sq [oM 34 0,cA 35 229 [ta 34] 2432] [0,2,3,4,35] (xt 35 4)) (.block 5 (.region [2752] [oF 36 2 4,oL 37 36,oM 38 0,cA 39 230 [ta 38] 2688,oa 40 (.mkSl 5 [(tv 39)]) 2752,o 41 (.app 5 64 false (tv 37) (tv 40)),oF 42 2 4,oW 1 42 41] [(0,3),(1,3),(0,4),(1,4)] [0,2,3,4])))

def l174_2 : VCode := (.seq (sq [oM 24 0,o 25 (.nn (tv 24)),oF 26 2 25,oL 27 26,oU 28 27] [0,2,3,28] (xt 28 2)) (.block 3 (.seq (rd [2240,2304,2307] [oM 29 0,cA 30 219 [ta 29] 1984,oM 31 0,cA 32 221 [ta 31,(false,(ki 2))] 2112,o 33 (.build [zi,zs,.nil] [(0,1,(tv 30)),(1,1,(tv 32))]),oa 4 (.new [zi,zs,.nil] []) 2240,⟨none,(.store 3 (tv 4) (tv 33) [(2,5)]),none,2304,[]⟩] [0,2,3,4]) (.seq (lp 4 l174_1) (.seq (rd [3200] [oF 43 3 3,oL 44 43,o 45 (.ldD true 3 (tv 4)),oa 46 (.mkSl 3 [(tv 45)]) 3200,o 47 (.app 3 48 false (tv 44) (tv 46)),oF 48 3 3,oW 1 48 47] [0,2,3]) (.seq (rd [2240,3200] [oM 49 0,oa 50 (.call (kf 220) [ta 49,(false,(.k (.sc (.c (.str [124])))))] []) 3520,oU 51 50] [0,2,3,51]) (cd 51 (.exit 2) .skip)))))))

def v174 : VFun := ⟨1,(sq [oa 2 (.new [zi,zs,.nil,.nil] []) 64] [0,2] (sq [oM 5 0,cA 6 219 [ta 5] 192,o 7 (.build [zi,zs,.nil,.nil] [(0,1,(tv 6))]),oa 3 (.new [zi,zs,.nil,.nil] []) 320,⟨none,(.store 4 (tv 3) (tv 7) [(2,1),(3,3)]),none,384,[]⟩] [0,2,3] (sq [oM 8 0,oa 9 (.call (kf 222) [ta 8,(false,(.k (.sc (.c (.str [100,97,116,97])))))] []) 512] [0,2,3] (sq [oM 10 0,cA 11 221 [ta 10,(false,(ki 2))] 640,oF 12 1 3,oW 1 12 11] [0,2,3] (.seq (lp 0 l174_0) (sq [oM 22 0,oa 23 (.call (kf 222) [ta 22,(false,(.k (.sc (.c (.str [61])))))] []) 1536] [0,2,3] (.seq (lp 2 l174_2) (sq [oM 52 0,oa 53 (.call (kf 222) [ta 52,(false,(.k (.sc (.c (.str [59])))))] []) 3712] [2,3] (sq [o 54 (.ldD true 4 (tv 3)),oW 4 2 54] [2] .ret))))))))),[.cell 2 true 4],false⟩

def l176_0 : VCode := (.seq (sq [oM 43 5,oF 44 3 4,oL 45 44,oN 46 45,oB 47 .lss 43 46] [1,2,3,4,5,47] (xt 47 2)) (.seq (.block 3 (sq [oF 50 3 4,oL 51 50,oM 52 5,oX 53 3 51 52,oF 54 2 53,oL 55 54,oN 56 55,oK 57 .gtr 56 4] [1,2,3,4,5,57] (cd 57 (sq [oF 58 3 4,oL 59 58,oM 60 5,oX 61 3 59 60,oF 62 0 61,oL 63 62,o 64 (.build [zi,zi] [(0,1,(ki 5)),(1,1,(tv 63))]),oW 2 2 64] [2] .ret) .skip))) (rg [oM 48 5,oK 49 .add 48 1,oM 5 49] [1,2,3,4,5])))

def l176_1 : VCode := (.seq (sq [oM 14 3,oF 15 0 1,oL 16 15,oN 17 16,oB 18 .lss 14 17] [1,2,3,18] (xt 18 0)) (.seq (.block 1 (sq [oF 21 0 1,oL 22 21,oM 23 3,oX 24 4 22 23,oG 25 4 24,oa 4 (.new [zi,zs,.nil,.nil] []) 896,oW 4 4 25] [1,2,3,4] (.seq (sq [oM 26 3,oK 27 .geq 26 8,oM 28 27,gF 29 2 4 28 false,gL 30 29 28 false,gN 31 30 28 false,og 32 (.bin .gtr 0 (tv 31) (ki 4)) 28 false,oP 33 28 32,oM 34 33,gF 35 3 4 34 false,gL 36 35 34 false,gN 37 36 34 false,og 38 (.bin .gtr 0 (tv 37) (ki 6)) 34 false,oP 39 34 38] [1,2,3,4,39] (cd 39 (sq [oF 40 0 4,oL 41 40,o 42 (.build [zi,zi] [(0,1,(ki 5)),(1,1,(tv 41))]),oW 2 2 42] [2] .ret) .skip)) (sq [oJ 5 0] [1,2,3,4,5] (lp 2 l176_0))))) (rd [896] [oM 19 3,oK 20 .add 19 1,oM 3 20] [1,2,3])))

def l176_2 : VCode := (.seq (sq [oM 94 9,oF 95 3 7,oL 96 95,oM 97 8,oX 98 3 96 97,oF 99 2 98,oL 100 99,oN 101 100,oB 102 .lss 94 101] [1,2,6,7,8,9,102] (xt 102 8)) (.seq (.block 9 (sq [oF 105 3 7,oL 106 105,oM 107 8,oX 108 3 106 107,oF 109 2 108,oL 110 109,oM 111 9,oX 112 5 110 111,oG 113 5 112,cA 114 232 [fa 113] 7104,oK 115 .gtr 114 40] [1,2,6,7,8,9,115] (cd 115 (sq [oF 116 0 7,oL 117 116,o 118 (.build [zi,zi] [(0,1,(ki 4)),(1,1,(tv 117))]),oW 2 2 118] [2] .ret) .skip))) (rg [oM 103 9,oK 104 .add 103 1,oM 9 104] [1,2,6,7,8,9])))

def l176_3 : VCode := (.seq (sq [oM 87 8,oF 88 3 7,oL 89 88,oN 90 89,oB 91 .lss 87 90] [1,2,6,7,8,91] (xt 91 6)) (.seq (.block 7 (sq [oJ 9 0] [1,2,6,7,8,9] (lp 8 l176_2))) (rg [oM 92 8,oK 93 .add 92 1,oM 8 93] [1,2,6,7,8])))

def l176_4 : VCode := (.seq (sq [oM 75 6,oF 76 0 1,oL 77 76,oN 78 77,oB 79 .lss 75 78] [1,2,6,79] (xt 79 4)) (.seq (.block 5 (sq [oF 82 0 1,oL 83 82,oM 84 6,oX 85 4 83 84,oG 86 4 85,oa 7 (.new [zi,zs,.nil,.nil] []) 5376,oW 4 7 86] [1,2,6,7] (sq [oJ 8 0] [1,2,6,7,8] (lp 6 l176_3)))) (rd [5376] [oM 80 6,oK 81 .add 80 1,oM 6 81] [1,2,6])))

def l176_5 : VCode := (.seq (sq [oM 119 10,oF 120 1 1,oL 121 120,oN 122 121,oB 123 .lss 119 122] [1,2,10,123] (xt 123 10)) (.seq (.block 11 (sq [oF 126 1 1,oL 127 126,oM 128 10,oX 129 20 127 128,oG 130 20 129,oa 11 (.new [zi,(.c (.bool false)),zs,(.c (.bool false)),zi,zs,zi,zi,.nil,zi,zi,zs,zi,.nil,.nil,zi,zs,zi,zi,.nil] []) 8768,oW 20 11 130] [1,2,10,11] (.seq (sq [oF 131 3 11,oL 132 131,oM 133 132,gF 134 4 11 133 true,gG 135 5 134 133 true,gA 136 232 [fa 135] 133 true 9216,og 137 (.bin .gtr 0 (tv 136) (ki 40)) 133 true,oQ 138 133 137,oM 139 138,gF 140 9 11 139 false,gG 141 11 140 139 false,gA 142 171 [fa 141] 139 false 9600,oP 143 139 142] [1,2,10,11,143] (cd 143 (sq [oF 144 0 11,oL 145 144,o 146 (.build [zi,zi] [(0,1,(ki 4)),(1,1,(tv 145))]),oW 2 2 146] [2] .ret) .skip)) (sq [oF 148 9 11,oG 149 11 148,cA 150 172 [fa 149] 10112,oM 147 150,oE 151 147 0,oE 152 147 1,oM 12 151,oM 13 152] [1,2,10,12,13] (.seq (rd [8768] [oM 153 13] [1,2,10,12,153]) (cd 153 (sq [oM 154 12,o 155 (.build [zi,zi] [(0,1,(ki 5)),(1,1,(tv 154))]),oW 2 2 155] [2] .ret) .skip)))))) (rd [8768] [oM 124 10,oK 125 .add 124 1,oM 10 125] [1,2,10])))

def v176 : VFun := ⟨1,(sq [oa 1 (.box (tv 0)) 64,oa 2 (.new [zi,zi] []) 128] [1,2] (.seq (sq [oJ 3 0] [1,2,3] (lp 0 l176_1)) (.seq (sq [oF 65 1 1,oL 66 65,oN 67 66,oK 68 .gtr 67 16] [1,2,68] (cd 68 (sq [oF 69 1 1,oL 70 69,o 71 (.idxA 20 (tv 70) (ki 16)),oF 72 0 71,oL 73 72,o 74 (.build [zi,zi] [(0,1,(ki 5)),(1,1,(tv 73))]),oW 2 2 74] [2] .ret) .skip)) (.seq (sq [oJ 6 0] [1,2,6] (lp 4 l176_4)) (.seq (sq [oJ 10 0] [1,2,10] (lp 10 l176_5)) (sq [o 156 (.build [zi,zi] []),oW 2 2 156] [2] .ret)))))),[.cell 2 true 2],false⟩

def l213_0 : VCode := (.seq (sq [oM 19 7,oM 20 0,oN 21 20,oB 22 .lss 19 21] [0,4,7,22] (xt 22 0)) (.seq (.block 1 (.seq (.region [] [oM 25 0,oM 26 7,oX 27 5 25 26,oG 28 5 27,oG 29 5 4,cA 30 84 [fa 28,fa 29] 1472] [(2,4),(3,4)] [0,4,7,30]) (cd 30 (sq [oM 31 0,oM 6 31] [6] .ret) .skip))) (rg [oM 23 7,oK 24 .add 23 1,oM 7 24] [0,4,7])))

def l213_1 : VCode := (.seq (sq [oM 36 8,oF 37 4 4,oL 38 37,oN 39 38,oB 40 .lss 36 39] [0,2,4,8,40] (xt 40 2)) (.seq (.block 3 (rg [oM 43 0,oF 44 4 4,oL 45 44,oM 46 8,oX 47 5 45 46,oG 48 5 47,oM 49 2,cA 50 213 [ta 43,fa 48,fa 49] 3008,oM 0 50] [0,2,4,8])) (rd [3040,3041,3042] [oM 41 8,oK 42 .add 41 1,oM 8 42] [0,2,4,8])))

def v213 : VFun := ⟨3,(sq [oa 4 (.box (tv 1)) 64,o 6 (.mv kn)] [0,2,4] (.seq (sq [oF 9 0 4,oL 10 9,oM 11 2,oB 12 .eql 10 11,oM 13 12,gF 14 4 4 13 true,gL 15 14 13 true,gN 16 15 13 true,og 17 (.bin .eql 0 (tv 16) (ki 0)) 13 true,oQ 18 13 17] [0,2,4,18] (cd 18 (.seq (sq [oJ 7 0] [0,4,7] (lp 0 l213_0)) (sq [oM 32 0,oG 33 5 4,oa 34 (.mkSl 5 [(tv 33)]) 1984,o 35 (.app 5 64 false (tv 32) (tv 34)),oM 6 35] [6] .ret)) .skip)) (.seq (sq [oJ 8 0] [0,2,4,8] (lp 2 l213_1)) (sq [oM 51 0,oM 6 51] [6] .ret)))),[.tmp 6],true⟩

def l247_0 : VCode := (sq [oB 9 .lss 8 7] [0,1,7,8,9] (.seq (xt 9 0) (.seq (.block 1 (sq [oM 10 8,oM 5 10] [0,1,5,7,8] (sq [oM 11 1,oM 12 0,oM 13 5,oX 14 7 12 13,oG 15 7 14,oa 16 (.call (tv 11) [fa 15] []) 832] [0,1,5,7,8,16] (cd 16 (sq [oM 17 5,oM 4 17] [4] .ret) .skip)))) (rd [864,865,866] [oK 18 .add 8 1,oM 8 18] [0,1,7,8]))))

def v247 : VFun := ⟨2,(sq [oJ 4 0] [0,1] (.seq (sq [oM 6 0,oN 7 6,oJ 8 0] [0,1,7,8] (lp 0 l247_0)) (sq [oJ 4 (-1)] [4] .ret))),[.tmp 4],false⟩

set_option maxRecDepth 100000 in
theorem m32 : mFun Go.Proofs.Tryz.prog 32 v32 = true := by kernel_rfl
set_option maxRecDepth 100000 in
theorem m96 : mFun Go.Proofs.Tryz.prog 96 v96 = true := by kernel_rfl
set_option maxRecDepth 100000 in
theorem m147 : mFun Go.Proofs.Tryz.prog 147 v147 = true := by kernel_rfl
set_option maxRecDepth 100000 in
theorem m73 : mFun Go.Proofs.Tryz.prog 73 v73 = true := by kernel_rfl
set_option maxRecDepth 100000 in
theorem m74 : mFun Go.Proofs.Tryz.prog 74 v74 = true := by kernel_rfl
set_option maxRecDepth 100000 in
theorem m75 : mFun Go.Proofs.Tryz.prog 75 v75 = true := by kernel_rfl
set_option maxRecDepth 100000 in
theorem m76 : mFun Go.Proofs.Tryz.prog 76 v76 = true := by kernel_rfl
set_option maxRecDepth 100000 in
theorem m77 : mFun Go.Proofs.Tryz.prog 77 v77 = true := by kernel_rfl
set_option maxRecDepth 100000 in
theorem m26 : mFun Go.Proofs.Tryz.prog 26 v26 = true := by kernel_rfl
set_option maxRecDepth 100000 in
theorem m78 : mFun Go.Proofs.Tryz.prog 78 v78 = true := by kernel_rfl
set_option maxRecDepth 100000 in
theorem m56 : mFun Go.Proofs.Tryz.prog 56 v56 = true := by kernel_rfl
set_option maxRecDepth 100000 in
theorem m55 : mFun Go.Proofs.Tryz.prog 55 v55 = true := by kernel_rfl
set_option maxRecDepth 100000 in
theorem m60 : mFun Go.Proofs.Tryz.prog 60 v60 = true := by kernel_rfl
set_option maxRecDepth 100000 in
theorem m59 : mFun Go.Proofs.Tryz.prog 59 v59 = true := by kernel_rfl
set_option maxRecDepth 100000 in
theorem m61 : mFun Go.Proofs.Tryz.prog 61 v61 = true := by kernel_rfl
set_option maxRecDepth 100000 in
theorem m111 : mFun Go.Proofs.Tryz.prog 111 v111 = true := by kernel_rfl
set_option maxRecDepth 100000 in
theorem m112 : mFun Go.Proofs.Tryz.prog 112 v112 = true := by kernel_rfl
set_option maxRecDepth 100000 in
theorem m114 : mFun Go.Proofs.Tryz.prog 114 v114 = true := by kernel_rfl
set_option maxRecDepth 100000 in
theorem m79 : mFun Go.Proofs.Tryz.prog 79 v79 = true := by kernel_rfl
set_option maxRecDepth 100000 in
theorem m117 : mFun Go.Proofs.Tryz.prog 117 v117 = true := by kernel_rfl
set_option maxRecDepth 100000 in
theorem m118 : mFun Go.Proofs.Tryz.prog 118 v118 = true := by kernel_rfl
set_option maxRecDepth 100000 in
theorem m129 : mFun Go.Proofs.Tryz.prog 129 v129 = true := by kernel_rfl
set_option maxRecDepth 100000 in
theorem m155 : mFun Go.Proofs.Tryz.prog 155 v155 = true := by kernel_rfl
set_option maxRecDepth 100000 in
theorem m128 : mFun Go.Proofs.Tryz.prog 128 v128 = true := by kernel_rfl
set_option maxRecDepth 100000 in
theorem m151 : mFun Go.Proofs.Tryz.prog 151 v151 = true := by kernel_rfl
set_option maxRecDepth 100000 in
theorem m152 : mFun Go.Proofs.Tryz.prog 152 v152 = true := by kernel_rfl
set_option maxRecDepth 100000 in
theorem m153 : mFun Go.Proofs.Tryz.prog 153 v153 = true := by kernel_rfl
set_option maxRecDepth 100000 in
theorem m154 : mFun Go.Proofs.Tryz.prog 154 v154 = true := by kernel_rfl
set_option maxRecDepth 100000 in
theorem m212 : mFun Go.Proofs.Tryz.prog 212 v212 = true := by kernel_rfl
set_option maxRecDepth 100000 in
theorem m211 : mFun Go.Proofs.Tryz.prog 211 v211 = true := by kernel_rfl
set_option maxRecDepth 100000 in
theorem m146 : mFun Go.Proofs.Tryz.prog 146 v146 = true := by kernel_rfl
set_option maxRecDepth 100000 in
theorem m80 : mFun Go.Proofs.Tryz.prog 80 v80 = true := by kernel_rfl
set_option maxRecDepth 100000 in
theorem m81 : mFun Go.Proofs.Tryz.prog 81 v81 = true := by kernel_rfl
set_option maxRecDepth 100000 in
theorem m149 : mFun Go.Proofs.Tryz.prog 149 v149 = true := by kernel_rfl
set_option maxRecDepth 100000 in
theorem m92 : mFun Go.Proofs.Tryz.prog 92 v92 = true := by kernel_rfl
set_option maxRecDepth 100000 in
theorem m83 : mFun Go.Proofs.Tryz.prog 83 v83 = true := by kernel_rfl
set_option maxRecDepth 100000 in
theorem m125 : mFun Go.Proofs.Tryz.prog 125 v125 = true := by kernel_rfl
set_option maxRecDepth 100000 in
theorem m126 : mFun Go.Proofs.Tryz.prog 126 v126 = true := by kernel_rfl
set_option maxRecDepth 100000 in
theorem m134 : mFun Go.Proofs.Tryz.prog 134 v134 = true := by kernel_rfl
set_option maxRecDepth 100000 in
theorem m135 : mFun Go.Proofs.Tryz.prog 135 v135 = true := by kernel_rfl
set_option maxRecDepth 100000 in
theorem m136 : mFun Go.Proofs.Tryz.prog 136 v136 = true := by kernel_rfl
set_option maxRecDepth 100000 in
theorem m137 : mFun Go.Proofs.Tryz.prog 137 v137 = true := by kernel_rfl
set_option maxRecDepth 100000 in
theorem m139 : mFun Go.Proofs.Tryz.prog 139 v139 = true := by kernel_rfl
set_option maxRecDepth 100000 in
theorem m138 : mFun Go.Proofs.Tryz.prog 138 v138 = true := by kernel_rfl
set_option maxRecDepth 100000 in
theorem m106 : mFun Go.Proofs.Tryz.prog 106 v106 = true := by kernel_rfl
set_option maxRecDepth 100000 in
theorem m107 : mFun Go.Proofs.Tryz.prog 107 v107 = true := by kernel_rfl
set_option maxRecDepth 100000 in
theorem m105 : mFun Go.Proofs.Tryz.prog 105 v105 = true := by kernel_rfl
set_option maxRecDepth 100000 in
theorem m157 : mFun Go.Proofs.Tryz.prog 157 v157 = true := by kernel_rfl
set_option maxRecDepth 100000 in
theorem m162 : mFun Go.Proofs.Tryz.prog 162 v162 = true := by kernel_rfl
set_option maxRecDepth 100000 in
theorem m163 : mFun Go.Proofs.Tryz.prog 163 v163 = true := by kernel_rfl
set_option maxRecDepth 100000 in
theorem m164 : mFun Go.Proofs.Tryz.prog 164 v164 = true := by kernel_rfl
set_option maxRecDepth 100000 in
theorem m167 : mFun Go.Proofs.Tryz.prog 167 v167 = true := by kernel_rfl
set_option maxRecDepth 100000 in
theorem m168 : mFun Go.Proofs.Tryz.prog 168 v168 = true := by kernel_rfl
set_option maxRecDepth 100000 in
theorem m173 : mFun Go.Proofs.Tryz.prog 173 v173 = true := by kernel_rfl
set_option maxRecDepth 100000 in
theorem m174 : mFun Go.Proofs.Tryz.prog 174 v174 = true := by kernel_rfl
set_option maxRecDepth 100000 in
theorem m176 : mFun Go.Proofs.Tryz.prog 176 v176 = true := by kernel_rfl
set_option maxRecDepth 100000 in
theorem m213 : mFun Go.Proofs.Tryz.prog 213 v213 = true := by kernel_rfl
set_option maxRecDepth 100000 in
theorem m247 : mFun Go.Proofs.Tryz.prog 247 v247 = true := by kernel_rfl

end Go.Vs.Tryz
