/- Functions of the program in the language of the value semantics,part 3 (printed by a program of mine),and that they match. (Parts of one proof,put together.) -/
import Derived.Test.YtlcncicmkkelcaaGreatDoorM4f
import Derived.Test.YtlcncicmkkelcaaGreatDoorProg
import Derived.KernelRfl
set_option linter.unusedSimpArgs false
set_option linter.unusedVariables false
set_option linter.deprecated false

namespace Go.Vs.Tryz
open Go Go.Vs

def v189 : VFun := ⟨1,(sq [oJ 2 0] [0] (sq [oM 4 0,cA 5 202 [fa 4] 192,cA 6 236 [fa 5] 256,oM 3 6] [0,3] (sq [oM 7 3,oM 8 0,oM 9 3,o 10 (.idxAA 1 20 (.g 2) (tv 9)),oL 11 10,oB 12 .geq 8 11,cA 13 237 [fa 12] 768,oB 14 .add 7 13,oM 2 14] [2] .ret))),[.tmp 2],false⟩

def l190_0 : VCode := (.seq (sq [oM 19 4,oK 20 .geq 19 8] [0,1,4,20] (xt 20 0)) (.block 1 (sq [oM 21 1,o 22 (.bin .rem 0 (tv 21) (.k (.sc (.c (.int .u64 100000000))))),o 23 (.cvI .u32 (tv 22)),oM 5 23] [0,1,4,5] (sq [oM 24 1,o 25 (.bin .quo 0 (tv 24) (.k (.sc (.c (.int .u64 100000000))))),oM 1 25] [0,1,4,5] (sq [oM 26 5,o 27 (.bin .quo 0 (tv 26) (.k (.sc (.c (.int .u32 10000))))),oM 28 5,o 29 (.bin .rem 0 (tv 28) (.k (.sc (.c (.int .u32 10000))))),oM 6 27,oM 7 29] [0,1,4,6,7] (sq [oM 30 7,o 31 (.bin .quo 0 (tv 30) (.k (.sc (.c (.int .u32 100))))),o 32 (.bin .mul 0 (tv 31) (.k (.sc (.c (.int .u32 2))))),oM 33 7,o 34 (.bin .rem 0 (tv 33) (.k (.sc (.c (.int .u32 100))))),o 35 (.bin .mul 0 (tv 34) (.k (.sc (.c (.int .u32 2))))),oM 8 32,oM 9 35] [0,1,4,6,8,9] (sq [oM 36 6,o 37 (.bin .quo 0 (tv 36) (.k (.sc (.c (.int .u32 100))))),o 38 (.bin .mul 0 (tv 37) (.k (.sc (.c (.int .u32 2))))),oM 39 6,o 40 (.bin .rem 0 (tv 39) (.k (.sc (.c (.int .u32 100))))),o 41 (.bin .mul 0 (tv 40) (.k (.sc (.c (.int .u32 2))))),oM 10 38,oM 11 41] [0,1,4,8,9,10,11] (sq [oM 42 0,oM 43 4,oK 44 .sub 43 1,oM 45 0,oM 46 4,oK 47 .sub 46 2,oM 48 9,o 49 (.bin .add 0 (tv 48) (.k (.sc (.c (.int .u32 1))))),o 50 (.idxS (.k (.sc (.c (.str d200)))) (tv 49)),oM 51 9,o 52 (.idxS (.k (.sc (.c (.str d200)))) (tv 51)),oX 53 1 42 44,oW 1 53 50,oX 54 1 45 47,oW 1 54 52] [0,1,4,8,10,11] (sq [oM 55 0,oM 56 4,oK 57 .sub 56 3,oM 58 0,oM 59 4,oK 60 .sub 59 4,oM 61 8,o 62 (.bin .add 0 (tv 61) (.k (.sc (.c (.int .u32 1))))),o 63 (.idxS (.k (.sc (.c (.str d200)))) (tv 62)),oM 64 8,o 65 (.idxS (.k (.sc (.c (.str d200)))) (tv 64)),oX 66 1 55 57,oW 1 66 63,oX 67 1 58 60,oW 1 67 65] [0,1,4,10,11] (sq [oM 68 0,oM 69 4,oK 70 .sub 69 5,oM 71 0,oM 72 4,oK 73 .sub 72 6,oM 74 11,o 75 (.bin .add 0 (tv 74) (.k (.sc (.c (.int .u32 1))))),o 76 (.idxS (.k (.sc (.c (.str d200)))) (tv 75)),oM 77 11,o 78 (.idxS (.k (.sc (.c (.str d200)))) (tv 77)),oX 79 1 68 70,oW 1 79 76,oX 80 1 71 73,oW 1 80 78] [0,1,4,10] (sq [oM 81 0,oM 82 4,oK 83 .sub 82 7,oM 84 0,oM 85 4,oK 86 .sub 85 8,oM 87 10,o 88 (.bin .add 0 (tv 87) (.k (.sc (.c (.int .u32 1))))),o 89 (.idxS (.k (.sc (.c (.str d200)))) (tv 88)),oM 90 10,o 91 (.idxS (.k (.sc (.c (.str d200)))) (tv 90)),oX 92 1 81 83,oW 1 92 89,oX 93 1 84 86,oW 1 93 91] [0,1,4] (rg [oM 94 4,oK 95 .sub 94 8,oM 4 95] [0,1,4]))))))))))))

def v190 : VFun := ⟨2,(sq [oM 17 0,oN 18 17,oM 4 18] [0,1,4] (.seq (lp 0 l190_0) (sq [oM 96 1,o 97 (.cvI .u32 (tv 96)),oM 12 97] [0,4,12] (.seq (sq [oM 98 4,oK 99 .geq 98 4] [0,4,12,99] (cd 99 (sq [oM 100 12,o 101 (.bin .rem 0 (tv 100) (.k (.sc (.c (.int .u32 10000))))),oM 13 101] [0,4,12,13] (sq [oM 102 12,o 103 (.bin .quo 0 (tv 102) (.k (.sc (.c (.int .u32 10000))))),oM 12 103] [0,4,12,13] (sq [oM 104 13,o 105 (.bin .quo 0 (tv 104) (.k (.sc (.c (.int .u32 100))))),o 106 (.bin .mul 0 (tv 105) (.k (.sc (.c (.int .u32 2))))),oM 107 13,o 108 (.bin .rem 0 (tv 107) (.k (.sc (.c (.int .u32 100))))),o 109 (.bin .mul 0 (tv 108) (.k (.sc (.c (.int .u32 2))))),oM 14 106,oM 15 109] [0,4,12,14,15] (sq [oM 110 0,oM 111 4,oK 112 .sub 111 1,oM 113 0,oM 114 4,oK 115 .sub 114 2,oM 116 15,o 117 (.bin .add 0 (tv 116) (.k (.sc (.c (.int .u32 1))))),o 118 (.idxS (.k (.sc (.c (.str d200)))) (tv 117)),oM 119 15,o 120 (.idxS (.k (.sc (.c (.str d200)))) (tv 119)),oX 121 1 110 112,oW 1 121 118,oX 122 1 113 115,oW 1 122 120] [0,4,12,14] (sq [oM 123 0,oM 124 4,oK 125 .sub 124 3,oM 126 0,oM 127 4,oK 128 .sub 127 4,oM 129 14,o 130 (.bin .add 0 (tv 129) (.k (.sc (.c (.int .u32 1))))),o 131 (.idxS (.k (.sc (.c (.str d200)))) (tv 130)),oM 132 14,o 133 (.idxS (.k (.sc (.c (.str d200)))) (tv 132)),oX 134 1 123 125,oW 1 134 131,oX 135 1 126 128,oW 1 135 133] [0,4,12] (rg [oM 136 4,oK 137 .sub 136 4,oM 4 137] [0,4,12])))))) .skip)) (.seq (sq [oM 138 4,oK 139 .geq 138 2] [0,4,12,139] (cd 139 (sq [oM 140 12,o 141 (.bin .rem 0 (tv 140) (.k (.sc (.c (.int .u32 100))))),o 142 (.bin .mul 0 (tv 141) (.k (.sc (.c (.int .u32 2))))),oM 16 142] [0,4,12,16] (sq [oM 143 12,o 144 (.bin .quo 0 (tv 143) (.k (.sc (.c (.int .u32 100))))),oM 12 144] [0,4,12,16] (sq [oM 145 0,oM 146 4,oK 147 .sub 146 1,oM 148 0,oM 149 4,oK 150 .sub 149 2,oM 151 16,o 152 (.bin .add 0 (tv 151) (.k (.sc (.c (.int .u32 1))))),o 153 (.idxS (.k (.sc (.c (.str d200)))) (tv 152)),oM 154 16,o 155 (.idxS (.k (.sc (.c (.str d200)))) (tv 154)),oX 156 1 145 147,oW 1 156 153,oX 157 1 148 150,oW 1 157 155] [0,4,12] (rg [oM 158 4,oK 159 .sub 158 2,oM 4 159] [0,4,12])))) .skip)) (sq [oM 160 4,oK 161 .gtr 160 0] [0,12,161] (cd 161 (rg [oM 162 0,oM 163 12,o 164 (.bin .add 0 (.k (.sc (.c (.int .u32 48)))) (tv 163)),o 165 (.cvI .u8 (tv 164)),o 166 (.idxA 1 (tv 162) (ki 0)),oW 1 166 165] [1000000]) .skip))))))),[],false⟩

def v202 : VFun := ⟨1,(sq [oJ 2 0] [0,2] (.seq (sq [oM 3 0,o 4 (.bin .geq 0 (tv 3) (.k (.sc (.c (.int .u64 4294967296)))))] [0,2,4] (cd 4 (sq [oM 5 0,o 6 (.bin .shr 0 (tv 5) (.k (.sc (.c (.int .u64 32))))),oM 0 6] [0] (rg [oJ 2 32] [0,2])) .skip)) (.seq (sq [oM 7 0,o 8 (.bin .geq 0 (tv 7) (.k (.sc (.c (.int .u64 65536)))))] [0,2,8] (cd 8 (sq [oM 9 0,o 10 (.bin .shr 0 (tv 9) (.k (.sc (.c (.int .u64 16))))),oM 0 10] [0,2] (rg [oM 11 2,oK 12 .add 11 16,oM 2 12] [0,2])) .skip)) (.seq (sq [oM 13 0,o 14 (.bin .geq 0 (tv 13) (.k (.sc (.c (.int .u64 256)))))] [0,2,14] (cd 14 (sq [oM 15 0,o 16 (.bin .shr 0 (tv 15) (.k (.sc (.c (.int .u64 8))))),oM 0 16] [0,2] (rg [oM 17 2,oK 18 .add 17 8,oM 2 18] [0,2])) .skip)) (sq [oM 19 2,oM 20 0,o 21 (.cvI .u8 (tv 20)),o 22 (.idxS (.k (.sc (.c (.str d256)))) (tv 21)),o 23 (.cvI .i64 (tv 22)),oB 24 .add 19 23,oM 2 24] [2] .ret))))),[.tmp 2],false⟩

def l192_0 : VCode := (.seq (.seq (.region [] [oM 16 7,oM 17 1,oB 18 .gtr 16 17,oM 19 18,gM 20 0 19 true,gM 21 7 19 true,gX 22 1 20 21 19 true,gL 23 22 19 true,gM 24 0 19 true,gM 25 7 19 true,og 26 (.bin .sub 0 (tv 25) (ki 1)) 19 true,gX 27 1 24 26 19 true,gL 28 27 19 true,gA 29 198 [fa 23,fa 28] 19 true 1408,oQ 30 19 29] [(6,11),(7,11),(6,12),(7,12)] [0,1,2,6,7,30]) (xt 30 2)) (.seq (.block 3 (.region [] [oM 33 0,oM 34 7,oM 35 0,oM 36 7,oK 37 .sub 36 1,oM 38 0,oM 39 7,oK 40 .sub 39 1,oX 41 1 38 40,oL 42 41,oM 43 0,oM 44 7,oX 45 1 43 44,oL 46 45,oX 47 1 33 34,oW 1 47 42,oX 48 1 35 37,oW 1 48 46] [(8,12),(9,12),(8,13),(9,13)] [0,1,2,6,7])) (rg [oM 31 7,oK 32 .sub 31 1,oM 7 32] [0,1,2,6,7])))

def l192_1 : VCode := (.seq (sq [oM 10 6,oM 11 2,oB 12 .lss 10 11] [0,1,2,6,12] (xt 12 0)) (.seq (.block 1 (sq [oM 15 6,oM 7 15] [0,1,2,6,7] (lp 2 l192_0))) (rg [oM 13 6,oK 14 .add 13 1,oM 6 14] [0,1,2,6])))

def v192 : VFun := ⟨3,(sq [oM 8 1,oK 9 .add 8 1,oM 6 9] [0,1,2,6] (lp 0 l192_1)),[],false⟩

def l193_0 : VCode := (.seq (sq [oM 18 9,oK 19 .geq 18 0] [0,6,7,8,9,19] (xt 19 0)) (.seq (.block 1 (rg [oM 22 0,oM 23 9,oM 24 8,oM 25 6,cA 26 240 [ta 22,fa 23,fa 24,fa 25] 1152] [0,6,7,8,9])) (rg [oM 20 9,oK 21 .sub 20 1,oM 9 21] [0,6,7,8,9])))

def l193_1 : VCode := (.seq (sq [oM 29 10,oK 30 .geq 29 0] [0,6,7,10,30] (xt 30 2)) (.seq (.block 3 (.seq (.region [] [oM 33 0,oM 34 6,oM 35 0,oM 36 6,oM 37 10,oB 38 .add 36 37,oM 39 0,oM 40 6,oM 41 10,oB 42 .add 40 41,oX 43 1 39 42,oL 44 43,oM 45 0,oM 46 6,oX 47 1 45 46,oL 48 47,oX 49 1 33 34,oW 1 49 44,oX 50 1 35 38,oW 1 50 48] [(10,14),(11,14),(10,15),(11,15)] [0,6,7,10]) (rg [oM 51 0,oM 52 7,oM 53 10,oM 54 6,cA 55 240 [ta 51,fa 52,fa 53,fa 54] 3264] [0,6,7,10]))) (rg [oM 31 10,oK 32 .sub 31 1,oM 10 32] [0,6,7,10])))

def v193 : VFun := ⟨3,(sq [oM 11 1,oM 6 11] [0,1,2,6] (sq [oJ 7 0] [0,1,2,6,7] (sq [oM 12 2,oM 13 1,oB 14 .sub 12 13,oM 8 14] [0,6,7,8] (.seq (sq [oM 15 8,oK 16 .sub 15 1,oK 17 .quo 16 2,oM 9 17] [0,6,7,8,9] (lp 0 l193_0)) (sq [oM 27 8,oK 28 .sub 27 1,oM 10 28] [0,6,7,10] (lp 2 l193_1)))))),[],false⟩

def l194_0 : VCode := (.seq (sq [oM 26 9,oM 27 1,oM 28 6,oK 29 .quo 28 4,oK 30 .mul 29 2,oB 31 .add 27 30,oK 32 .add 31 1,oB 33 .leq 26 32] [0,1,6,7,8,9,33] (xt 33 0)) (.seq (.block 1 (sq [cA 36 242 [ta 7] 1856,oM 37 8,o 38 (.bin .sub 0 (tv 37) (.k (.sc (.c (.int .u64 1))))),oB 39 .and 36 38,o 40 (.cvI .i64 (tv 39)),oM 10 40] [0,1,6,7,8,9,10] (.seq (sq [oM 41 10,oM 42 6,oB 43 .geq 41 42] [0,1,6,7,8,9,10,43] (cd 43 (rg [oM 44 10,oM 45 6,oB 46 .sub 44 45,oM 10 46] [0,1,6,7,8,9,10]) .skip)) (.region [] [oM 47 0,oM 48 9,oM 49 0,oM 50 1,oM 51 10,oB 52 .add 50 51,oM 53 0,oM 54 1,oM 55 10,oB 56 .add 54 55,oX 57 1 53 56,oL 58 57,oM 59 0,oM 60 9,oX 61 1 59 60,oL 62 61,oX 63 1 47 48,oW 1 63 58,oX 64 1 49 52,oW 1 64 62] [(10,14),(11,14),(10,15),(11,15)] [0,1,6,7,8,9])))) (rg [oM 34 9,oK 35 .add 34 1,oM 9 35] [0,1,6,7,8,9])))

def v194 : VFun := ⟨3,(sq [oM 11 2,oM 12 1,oB 13 .sub 11 12,oM 6 13] [0,1,6] (sq [oM 14 6,oK 15 .geq 14 8] [0,1,6,15] (cd 15 (sq [oM 16 6,o 17 (.cvI .u64 (tv 16)),oa 7 (.new [(.c (.int .u64 0))] []) 576,oW 1 7 17] [0,1,6,7] (sq [oM 18 6,cA 19 241 [fa 18] 768,oM 8 19] [0,1,6,7,8] (sq [oM 20 1,oM 21 6,oK 22 .quo 21 4,oK 23 .mul 22 2,oB 24 .add 20 23,oK 25 .sub 24 1,oM 9 25] [0,1,6,7,8,9] (lp 0 l194_0)))) .skip))),[],false⟩

def v195 : VFun := ⟨3,(sq [oJ 6 0,oJ 7 0] [0,1,2] (sq [oM 13 2,oM 14 1,oB 15 .sub 13 14,oM 8 15] [0,1,8] (sq [oa 9 (.new [zi] []) 448] [0,1,8,9] (sq [oM 16 1,oM 17 8,oK 18 .quo 17 4,oK 19 .mul 18 1,oB 20 .add 16 19,oM 10 20] [0,1,8,9,10] (sq [oM 21 1,oM 22 8,oK 23 .quo 22 4,oK 24 .mul 23 2,oB 25 .add 21 24,oM 11 25] [0,1,8,9,10,11] (sq [oM 26 1,oM 27 8,oK 28 .quo 27 4,oK 29 .mul 28 3,oB 30 .add 26 29,oM 12 30] [0,8,9,10,11,12] (.seq (sq [oM 31 8,oK 32 .geq 31 8] [0,8,9,10,11,12,32] (cd 32 (.seq (sq [oM 33 8,oK 34 .geq 33 50] [0,9,10,11,12,34] (cd 34 (sq [oM 35 0,oM 36 10,cA 37 243 [ta 35,fa 36,ta 9] 2048,oM 10 37] [0,9,10,11,12] (sq [oM 38 0,oM 39 11,cA 40 243 [ta 38,fa 39,ta 9] 2304,oM 11 40] [0,9,10,11,12] (rg [oM 41 0,oM 42 12,cA 43 243 [ta 41,fa 42,ta 9] 2560,oM 12 43] [0,9,10,11,12]))) .skip)) (rg [oM 44 0,oM 45 10,oM 46 11,oM 47 12,cA 48 244 [ta 44,fa 45,fa 46,fa 47,ta 9] 2944,oM 11 48] [9,11])) .skip)) (sq [oL 49 9] [11,49] (.block 0 (sq [oK 52 .eql 49 0,oM 51 52] [11,49,51] (cd 51 (sq [oM 53 11,oM 6 53,oJ 7 1] [6,7] .ret) (sq [oK 55 .eql 49 12,oM 54 55] [11,54] (cd 54 (sq [oM 56 11,oM 6 56,oJ 7 2] [6,7] .ret) (sq [oM 50 11,oM 6 50,oJ 7 0] [6,7] .ret)))))))))))))),[.tmp 6,.tmp 7],false⟩

def l196_0 : VCode := (.seq (sq [oM 11 6,oM 12 7,oB 13 .lss 11 12] [0,6,7,13] (xt 13 0)) (.block 1 (.seq (.region [] [oM 14 0,oM 15 6,oM 16 0,oM 17 7,oM 18 0,oM 19 7,oX 20 1 18 19,oL 21 20,oM 22 0,oM 23 6,oX 24 1 22 23,oL 25 24,oX 26 1 14 15,oW 1 26 21,oX 27 1 16 17,oW 1 27 25] [(6,10),(7,10),(6,11),(7,11)] [0,6,7]) (sq [oM 28 6,oK 29 .add 28 1,oM 6 29] [0,6,7] (rg [oM 30 7,oK 31 .sub 30 1,oM 7 31] [0,6,7])))))

def v196 : VFun := ⟨3,(sq [oM 8 1,oM 6 8] [0,2,6] (sq [oM 9 2,oK 10 .sub 9 1,oM 7 10] [0,6,7] (lp 0 l196_0))),[],false⟩

def l197_0 : VCode := (.seq (.seq (.region [] [oM 17 7,oM 18 2,oB 19 .lss 17 18,oM 20 19,gM 21 0 20 true,gM 22 7 20 true,gX 23 1 21 22 20 true,gL 24 23 20 true,gM 25 0 20 true,gM 26 7 20 true,og 27 (.bin .sub 0 (tv 26) (ki 1)) 20 true,gX 28 1 25 27 20 true,gL 29 28 20 true,gA 30 198 [fa 24,fa 29] 20 true 1344,gU 31 30 20 true,oQ 32 20 31] [(6,11),(7,11),(6,12),(7,12)] [0,1,2,7,8,32]) (xt 32 2)) (.block 3 (rg [oM 33 7,oK 34 .add 33 1,oM 7 34] [0,1,2,7,8])))

def l197_1 : VCode := (.seq (sq [oM 64 9,oK 65 .geq 64 1] [0,1,2,7,8,9,65] (xt 65 4)) (.seq (.block 5 (.seq (.seq (.region [] [oM 68 0,oM 69 9,oX 70 1 68 69,oL 71 70,oM 72 0,oM 73 9,oK 74 .sub 73 1,oX 75 1 72 74,oL 76 75,cA 77 198 [fa 71,fa 76] 4608,oU 78 77] [(2,7),(3,7),(2,8),(3,8)] [0,1,2,7,8,9,78]) (cd 78 (.exit 4) .skip)) (.region [] [oM 79 0,oM 80 9,oM 81 0,oM 82 9,oK 83 .sub 82 1,oM 84 0,oM 85 9,oK 86 .sub 85 1,oX 87 1 84 86,oL 88 87,oM 89 0,oM 90 9,oX 91 1 89 90,oL 92 91,oX 93 1 79 80,oW 1 93 88,oX 94 1 81 83,oW 1 94 92] [(8,12),(9,12),(8,13),(9,13)] [0,1,2,7,8,9]))) (rg [oM 66 9,oK 67 .sub 66 1,oM 9 67] [0,1,2,7,8,9])))

def l197_2 : VCode := (.seq (sq [oM 101 10,oM 102 2,oB 103 .lss 101 102] [0,1,2,7,8,10,103] (xt 103 6)) (.seq (.block 7 (.seq (.seq (.region [] [oM 106 0,oM 107 10,oX 108 1 106 107,oL 109 108,oM 110 0,oM 111 10,oK 112 .sub 111 1,oX 113 1 110 112,oL 114 113,cA 115 198 [fa 109,fa 114] 7296,oU 116 115] [(2,7),(3,7),(2,8),(3,8)] [0,1,2,7,8,10,116]) (cd 116 (.exit 6) .skip)) (.region [] [oM 117 0,oM 118 10,oM 119 0,oM 120 10,oK 121 .sub 120 1,oM 122 0,oM 123 10,oK 124 .sub 123 1,oX 125 1 122 124,oL 126 125,oM 127 0,oM 128 10,oX 129 1 127 128,oL 130 129,oX 131 1 117 118,oW 1 131 126,oX 132 1 119 121,oW 1 132 130] [(8,12),(9,12),(8,13),(9,13)] [0,1,2,7,8,10]))) (rg [oM 104 10,oK 105 .add 104 1,oM 10 105] [0,1,2,7,8,10])))

def l197_3 : VCode := (.seq (sq [oM 13 8,oK 14 .lss 13 5] [0,1,2,7,8,14] (xt 14 0)) (.seq (.block 1 (.seq (lp 2 l197_0) (.seq (sq [oM 35 7,oM 36 2,oB 37 .eql 35 36] [0,1,2,7,8,37] (cd 37 (sq [o 6 (.mv kt)] [6] .ret) .skip)) (.seq (sq [oM 38 2,oM 39 1,oB 40 .sub 38 39,oK 41 .lss 40 50] [0,1,2,7,8,41] (cd 41 (sq [o 6 (.mv kF)] [6] .ret) .skip)) (.seq (.region [] [oM 42 0,oM 43 7,oM 44 0,oM 45 7,oK 46 .sub 45 1,oM 47 0,oM 48 7,oK 49 .sub 48 1,oX 50 1 47 49,oL 51 50,oM 52 0,oM 53 7,oX 54 1 52 53,oL 55 54,oX 56 1 42 43,oW 1 56 51,oX 57 1 44 46,oW 1 57 55] [(8,12),(9,12),(8,13),(9,13)] [0,1,2,7,8]) (.seq (sq [oM 58 7,oM 59 1,oB 60 .sub 58 59,oK 61 .geq 60 2] [0,1,2,7,8,61] (cd 61 (sq [oM 62 7,oK 63 .sub 62 1,oM 9 63] [0,1,2,7,8,9] (lp 4 l197_1)) .skip)) (sq [oM 95 2,oM 96 7,oB 97 .sub 95 96,oK 98 .geq 97 2] [0,1,2,7,8,98] (cd 98 (sq [oM 99 7,oK 100 .add 99 1,oM 10 100] [0,1,2,7,8,10] (lp 6 l197_2)) .skip)))))))) (rg [oM 15 8,oK 16 .add 15 1,oM 8 16] [0,1,2,7,8])))

def v197 : VFun := ⟨3,(sq [o 6 (.mv kF)] [0,1,2] (sq [oM 11 1,oK 12 .add 11 1,oM 7 12] [0,1,2,7] (.seq (sq [oJ 8 0] [0,1,2,7,8] (lp 0 l197_3)) (sq [o 6 (.mv kF)] [6] .ret)))),[.tmp 6],false⟩

def v198 : VFun := ⟨2,(sq [o 4 (.mv kF)] [0,1] (sq [oM 5 0,cA 6 245 [fa 5] 192,oM 7 6,gM 8 1 7 true,gA 9 245 [fa 8] 7 true 384,gU 10 9 7 true,oQ 11 7 10,oM 12 11,gM 13 0 12 false,gM 14 1 12 false,gB 15 .lss 13 14 12 false,oP 16 12 15,oM 4 16] [4] .ret)),[.tmp 4],false⟩

def l199_0 : VCode := (.seq (.seq (.region [] [oM 29 9,oM 30 10,oB 31 .leq 29 30,oM 32 31,gM 33 0 32 true,gM 34 1 32 true,gX 35 1 33 34 32 true,gL 36 35 32 true,gM 37 0 32 true,gM 38 9 32 true,gX 39 1 37 38 32 true,gL 40 39 32 true,gA 41 198 [fa 36,fa 40] 32 true 2304,gU 42 41 32 true,oQ 43 32 42] [(6,10),(7,10),(6,11),(7,11)] [0,1,9,10,43]) (xt 43 2)) (.block 3 (rg [oM 44 9,oK 45 .add 44 1,oM 9 45] [0,1,9,10])))

def l199_1 : VCode := (.seq (.seq (.region [] [oM 46 9,oM 47 10,oB 48 .leq 46 47,oM 49 48,gM 50 0 49 true,gM 51 1 49 true,gX 52 1 50 51 49 true,gL 53 52 49 true,gM 54 0 49 true,gM 55 10 49 true,gX 56 1 54 55 49 true,gL 57 56 49 true,gA 58 198 [fa 53,fa 57] 49 true 3456,oQ 59 49 58] [(6,10),(7,10),(6,11),(7,11)] [0,1,9,10,59]) (xt 59 4)) (.block 5 (rg [oM 60 10,oK 61 .sub 60 1,oM 10 61] [0,1,9,10])))

def l199_2 : VCode := (.block 1 (.seq (lp 2 l199_0) (.seq (lp 4 l199_1) (.seq (sq [oM 62 9,oM 63 10,oB 64 .gtr 62 63] [0,1,9,10,64] (cd 64 (.exit 0) .skip)) (.seq (.region [] [oM 65 0,oM 66 9,oM 67 0,oM 68 10,oM 69 0,oM 70 10,oX 71 1 69 70,oL 72 71,oM 73 0,oM 74 9,oX 75 1 73 74,oL 76 75,oX 77 1 65 66,oW 1 77 72,oX 78 1 67 68,oW 1 78 76] [(6,10),(7,10),(6,11),(7,11)] [0,1,9,10]) (sq [oM 79 9,oK 80 .add 79 1,oM 9 80] [0,1,9,10] (rg [oM 81 10,oK 82 .sub 81 1,oM 10 82] [0,1,9,10])))))))

def v199 : VFun := ⟨4,(sq [oJ 8 0] [0,1,2,3] (.seq (.region [] [oM 11 0,oM 12 1,oM 13 0,oM 14 3,oM 15 0,oM 16 3,oX 17 1 15 16,oL 18 17,oM 19 0,oM 20 1,oX 21 1 19 20,oL 22 21,oX 23 1 11 12,oW 1 23 18,oX 24 1 13 14,oW 1 24 22] [(6,10),(7,10),(6,11),(7,11)] [0,1,2]) (sq [oM 25 1,oK 26 .add 25 1,oM 27 2,oK 28 .sub 27 1,oM 9 26,oM 10 28] [0,1,9,10] (.seq (lp 0 l199_2) (sq [oM 83 9,oM 8 83] [8] .ret))))),[.tmp 8],false⟩

def l200_0 : VCode := (.seq (.seq (.region [] [oM 30 10,oM 31 11,oB 32 .leq 30 31,oM 33 32,gM 34 0 33 true,gM 35 10 33 true,gX 36 1 34 35 33 true,gL 37 36 33 true,gM 38 0 33 true,gM 39 1 33 true,gX 40 1 38 39 33 true,gL 41 40 33 true,gA 42 198 [fa 37,fa 41] 33 true 2368,oQ 43 33 42] [(6,10),(7,10),(6,11),(7,11)] [0,1,10,11,43]) (xt 43 0)) (.block 1 (rg [oM 44 10,oK 45 .add 44 1,oM 10 45] [0,1,10,11])))

def l200_1 : VCode := (.seq (.seq (.region [] [oM 46 10,oM 47 11,oB 48 .leq 46 47,oM 49 48,gM 50 0 49 true,gM 51 11 49 true,gX 52 1 50 51 49 true,gL 53 52 49 true,gM 54 0 49 true,gM 55 1 49 true,gX 56 1 54 55 49 true,gL 57 56 49 true,gA 58 198 [fa 53,fa 57] 49 true 3456,gU 59 58 49 true,oQ 60 49 59] [(6,10),(7,10),(6,11),(7,11)] [0,1,10,11,60]) (xt 60 2)) (.block 3 (rg [oM 61 11,oK 62 .sub 61 1,oM 11 62] [0,1,10,11])))

def l200_2 : VCode := (.seq (.seq (.region [] [oM 99 10,oM 100 11,oB 101 .leq 99 100,oM 102 101,gM 103 0 102 true,gM 104 10 102 true,gX 105 1 103 104 102 true,gL 106 105 102 true,gM 107 0 102 true,gM 108 1 102 true,gX 109 1 107 108 102 true,gL 110 109 102 true,gA 111 198 [fa 106,fa 110] 102 true 7424,oQ 112 102 111] [(6,10),(7,10),(6,11),(7,11)] [0,1,10,11,112]) (xt 112 6)) (.block 7 (rg [oM 113 10,oK 114 .add 113 1,oM 10 114] [0,1,10,11])))

def l200_3 : VCode := (.seq (.seq (.region [] [oM 115 10,oM 116 11,oB 117 .leq 115 116,oM 118 117,gM 119 0 118 true,gM 120 11 118 true,gX 121 1 119 120 118 true,gL 122 121 118 true,gM 123 0 118 true,gM 124 1 118 true,gX 125 1 123 124 118 true,gL 126 125 118 true,gA 127 198 [fa 122,fa 126] 118 true 8512,gU 128 127 118 true,oQ 129 118 128] [(6,10),(7,10),(6,11),(7,11)] [0,1,10,11,129]) (xt 129 8)) (.block 9 (rg [oM 130 11,oK 131 .sub 130 1,oM 11 131] [0,1,10,11])))

def l200_4 : VCode := (.block 5 (.seq (lp 6 l200_2) (.seq (lp 8 l200_3) (.seq (sq [oM 132 10,oM 133 11,oB 134 .gtr 132 133] [0,1,10,11,134] (cd 134 (.exit 4) .skip)) (.seq (.region [] [oM 135 0,oM 136 10,oM 137 0,oM 138 11,oM 139 0,oM 140 11,oX 141 1 139 140,oL 142 141,oM 143 0,oM 144 10,oX 145 1 143 144,oL 146 145,oX 147 1 135 136,oW 1 147 142,oX 148 1 137 138,oW 1 148 146] [(6,10),(7,10),(6,11),(7,11)] [0,1,10,11]) (sq [oM 149 10,oK 150 .add 149 1,oM 10 150] [0,1,10,11] (rg [oM 151 11,oK 152 .sub 151 1,oM 11 152] [0,1,10,11])))))))

def v200 : VFun := ⟨4,(sq [oJ 8 0,o 9 (.mv kF)] [0,1,2,3] (.seq (.region [] [oM 12 0,oM 13 1,oM 14 0,oM 15 3,oM 16 0,oM 17 3,oX 18 1 16 17,oL 19 18,oM 20 0,oM 21 1,oX 22 1 20 21,oL 23 22,oX 24 1 12 13,oW 1 24 19,oX 25 1 14 15,oW 1 25 23] [(6,10),(7,10),(6,11),(7,11)] [0,1,2]) (sq [oM 26 1,oK 27 .add 26 1,oM 28 2,oK 29 .sub 28 1,oM 10 27,oM 11 29] [0,1,10,11] (.seq (lp 0 l200_0) (.seq (lp 2 l200_1) (.seq (sq [oM 63 10,oM 64 11,oB 65 .gtr 63 64] [0,1,10,11,65] (cd 65 (.seq (.region [] [oM 66 0,oM 67 11,oM 68 0,oM 69 1,oM 70 0,oM 71 1,oX 72 1 70 71,oL 73 72,oM 74 0,oM 75 11,oX 76 1 74 75,oL 77 76,oX 78 1 66 67,oW 1 78 73,oX 79 1 68 69,oW 1 79 77] [(6,10),(7,10),(6,11),(7,11)] [11]) (sq [oM 80 11,oM 8 80,o 9 (.mv kt)] [8,9] .ret)) .skip)) (.seq (.region [] [oM 81 0,oM 82 10,oM 83 0,oM 84 11,oM 85 0,oM 86 11,oX 87 1 85 86,oL 88 87,oM 89 0,oM 90 10,oX 91 1 89 90,oL 92 91,oX 93 1 81 82,oW 1 93 88,oX 94 1 83 84,oW 1 94 92] [(6,10),(7,10),(6,11),(7,11)] [0,1,10,11]) (sq [oM 95 10,oK 96 .add 95 1,oM 10 96] [0,1,10,11] (sq [oM 97 11,oK 98 .sub 97 1,oM 11 98] [0,1,10,11] (.seq (lp 4 l200_4) (.seq (.region [] [oM 153 0,oM 154 11,oM 155 0,oM 156 1,oM 157 0,oM 158 1,oX 159 1 157 158,oL 160 159,oM 161 0,oM 162 11,oX 163 1 161 162,oL 164 163,oX 165 1 153 154,oW 1 165 160,oX 166 1 155 156,oW 1 166 164] [(6,10),(7,10),(6,11),(7,11)] [11]) (sq [oM 167 11,oM 8 167,o 9 (.mv kF)] [8,9] .ret)))))))))))),[.tmp 8,.tmp 9],false⟩

def v236 : VFun := ⟨1,(sq [oJ 2 0] [0] (sq [oM 3 0,oK 4 .mul 3 78913,o 5 (.bin .shr 0 (tv 4) (.k (.sc (.c (.int .u64 18))))),oM 2 5] [2] .ret)),[.tmp 2],false⟩

def v237 : VFun := ⟨1,(sq [oJ 2 0] [0] (.seq (sq [oM 3 0] [3] (cd 3 (sq [oJ 2 1] [2] .ret) .skip)) (sq [oJ 2 0] [2] .ret))),[.tmp 2],false⟩

def l240_0 : VCode := (.block 1 (sq [oM 11 8,o 12 (.bin .mul 0 (ki 2) (tv 11)),oK 13 .add 12 1,oM 9 13] [0,2,3,8,9] (.seq (sq [oM 14 9,oM 15 2,oB 16 .geq 14 15] [0,2,3,8,9,16] (cd 16 (.exit 0) .skip)) (.seq (.seq (.region [] [oM 17 9,oK 18 .add 17 1,oM 19 2,oB 20 .lss 18 19,oM 21 20,gM 22 0 21 true,gM 23 3 21 true,gM 24 9 21 true,gB 25 .add 23 24 21 true,gX 26 1 22 25 21 true,gL 27 26 21 true,gM 28 0 21 true,gM 29 3 21 true,gM 30 9 21 true,gB 31 .add 29 30 21 true,og 32 (.bin .add 0 (tv 31) (ki 1)) 21 true,gX 33 1 28 32 21 true,gL 34 33 21 true,gA 35 198 [fa 27,fa 34] 21 true 1792,oQ 36 21 35] [(9,16),(10,16),(9,17),(10,17)] [0,2,3,8,9,36]) (cd 36 (rg [oM 37 9,oK 38 .add 37 1,oM 9 38] [0,2,3,8,9]) .skip)) (.seq (.seq (.region [] [oM 39 0,oM 40 3,oM 41 8,oB 42 .add 40 41,oX 43 1 39 42,oL 44 43,oM 45 0,oM 46 3,oM 47 9,oB 48 .add 46 47,oX 49 1 45 48,oL 50 49,cA 51 198 [fa 44,fa 50] 2880,oU 52 51] [(4,10),(5,10),(4,11),(5,11)] [0,2,3,8,9,52]) (cd 52 .ret .skip)) (.seq (.region [] [oM 53 0,oM 54 3,oM 55 8,oB 56 .add 54 55,oM 57 0,oM 58 3,oM 59 9,oB 60 .add 58 59,oM 61 0,oM 62 3,oM 63 9,oB 64 .add 62 63,oX 65 1 61 64,oL 66 65,oM 67 0,oM 68 3,oM 69 8,oB 70 .add 68 69,oX 71 1 67 70,oL 72 71,oX 73 1 53 56,oW 1 73 66,oX 74 1 57 60,oW 1 74 72] [(12,18),(13,18),(12,19),(13,19)] [0,2,3,9]) (rg [oM 75 9,oM 8 75] [0,2,3,8])))))))

def v240 : VFun := ⟨4,(sq [oM 10 1,oM 8 10] [0,2,3,8] (lp 0 l240_0)),[],false⟩

def v241 : VFun := ⟨1,(sq [o 2 (.mv (.k (.sc (.c (.int .u64 0)))))] [0] (sq [oM 3 0,o 4 (.cvI .u64 (tv 3)),cA 5 139 [fa 4] 256,o 6 (.bin .shl 0 (.k (.sc (.c (.int .u64 1)))) (tv 5)),oM 2 6] [2] .ret)),[.tmp 2],false⟩

def v242 : VFun := ⟨1,(sq [o 2 (.mv (.k (.sc (.c (.int .u64 0)))))] [0] (.seq (.region [] [oM 3 0,o 4 (.nn (tv 3)),oL 5 4,oM 6 0,o 7 (.nn (tv 6)),oL 8 7,o 9 (.bin .shl 0 (tv 8) (.k (.sc (.c (.int .u64 13))))),oB 10 .xor 5 9,o 11 (.nn (tv 3)),oW 1 11 10] [(1,4),(2,4),(1,5),(2,5)] [0]) (.seq (.region [] [oM 12 0,o 13 (.nn (tv 12)),oL 14 13,oM 15 0,o 16 (.nn (tv 15)),oL 17 16,o 18 (.bin .shr 0 (tv 17) (.k (.sc (.c (.int .u64 7))))),oB 19 .xor 14 18,o 20 (.nn (tv 12)),oW 1 20 19] [(1,4),(2,4),(1,5),(2,5)] [0]) (.seq (.region [] [oM 21 0,o 22 (.nn (tv 21)),oL 23 22,oM 24 0,o 25 (.nn (tv 24)),oL 26 25,o 27 (.bin .shl 0 (tv 26) (.k (.sc (.c (.int .u64 17))))),oB 28 .xor 23 27,o 29 (.nn (tv 21)),oW 1 29 28] [(1,4),(2,4),(1,5),(2,5)] [0]) (sq [oM 30 0,o 31 (.nn (tv 30)),oL 32 31,oM 2 32] [2] .ret))))),[.tmp 2],false⟩

def v243 : VFun := ⟨3,(sq [oJ 6 0] [0,1,2] (sq [oM 7 0,oM 8 1,oK 9 .sub 8 1,oM 10 1,oM 11 1,oK 12 .add 11 1,oM 13 2,cA 14 244 [ta 7,fa 9,fa 10,fa 12,ta 13] 576,oM 6 14] [6] .ret)),[.tmp 6],false⟩

def v244 : VFun := ⟨5,(sq [oJ 10 0] [0,1,2,3,4] (sq [oM 12 0,oM 13 1,oM 14 2,oM 15 4,cA 16 262 [ta 12,fa 13,fa 14,ta 15] 384,oM 11 16,oE 17 11 0,oE 18 11 1,oM 1 17,oM 2 18] [0,1,2,3,4] (sq [oM 20 0,oM 21 2,oM 22 3,oM 23 4,cA 24 262 [ta 20,fa 21,fa 22,ta 23] 1024,oM 19 24,oE 25 19 0,oE 26 19 1,oM 2 25,oM 3 26] [0,1,2,4] (sq [oM 28 0,oM 29 1,oM 30 2,oM 31 4,cA 32 262 [ta 28,fa 29,fa 30,ta 31] 1664,oM 27 32,oE 33 27 0,oE 34 27 1,oM 1 33,oM 2 34] [2] (sq [oM 35 2,oM 10 35] [10] .ret))))),[.tmp 10],false⟩

def v245 : VFun := ⟨1,(sq [o 2 (.mv kF)] [0] (sq [oM 3 0,oM 4 0,oB 5 .neq 3 4,oM 2 5] [2] .ret)),[.tmp 2],false⟩

def v262 : VFun := ⟨4,(sq [oJ 8 0,oJ 9 0] [0,1,2,3] (.seq (.seq (.region [] [oM 10 0,oM 11 2,oX 12 1 10 11,oL 13 12,oM 14 0,oM 15 1,oX 16 1 14 15,oL 17 16,cA 18 198 [fa 13,fa 17] 704] [(2,6),(3,6),(2,7),(3,7)] [1,2,3,18]) (cd 18 (sq [oM 19 3,o 20 (.nn (tv 19)),oL 21 20,oK 22 .add 21 1,o 23 (.nn (tv 19)),oW 1 23 22] [1,2] (sq [oM 24 2,oM 25 1,oM 8 24,oM 9 25] [8,9] .ret)) .skip)) (sq [oM 26 1,oM 27 2,oM 8 26,oM 9 27] [8,9] .ret))),[.tmp 8,.tmp 9],false⟩

set_option maxRecDepth 100000 in
theorem m189 : mFun Go.Proofs.Tryz.prog 189 v189 = true := by kernel_rfl
set_option maxRecDepth 100000 in
theorem m190 : mFun Go.Proofs.Tryz.prog 190 v190 = true := by kernel_rfl
set_option maxRecDepth 100000 in
theorem m202 : mFun Go.Proofs.Tryz.prog 202 v202 = true := by kernel_rfl
set_option maxRecDepth 100000 in
theorem m192 : mFun Go.Proofs.Tryz.prog 192 v192 = true := by kernel_rfl
set_option maxRecDepth 100000 in
theorem m193 : mFun Go.Proofs.Tryz.prog 193 v193 = true := by kernel_rfl
set_option maxRecDepth 100000 in
theorem m194 : mFun Go.Proofs.Tryz.prog 194 v194 = true := by kernel_rfl
set_option maxRecDepth 100000 in
theorem m195 : mFun Go.Proofs.Tryz.prog 195 v195 = true := by kernel_rfl
set_option maxRecDepth 100000 in
theorem m196 : mFun Go.Proofs.Tryz.prog 196 v196 = true := by kernel_rfl
set_option maxRecDepth 100000 in
theorem m197 : mFun Go.Proofs.Tryz.prog 197 v197 = true := by kernel_rfl
set_option maxRecDepth 100000 in
theorem m198 : mFun Go.Proofs.Tryz.prog 198 v198 = true := by kernel_rfl
set_option maxRecDepth 100000 in
theorem m199 : mFun Go.Proofs.Tryz.prog 199 v199 = true := by kernel_rfl
set_option maxRecDepth 100000 in
theorem m200 : mFun Go.Proofs.Tryz.prog 200 v200 = true := by kernel_rfl
set_option maxRecDepth 100000 in
theorem m236 : mFun Go.Proofs.Tryz.prog 236 v236 = true := by kernel_rfl
set_option maxRecDepth 100000 in
theorem m237 : mFun Go.Proofs.Tryz.prog 237 v237 = true := by kernel_rfl
set_option maxRecDepth 100000 in
theorem m240 : mFun Go.Proofs.Tryz.prog 240 v240 = true := by kernel_rfl
set_option maxRecDepth 100000 in
theorem m241 : mFun Go.Proofs.Tryz.prog 241 v241 = true := by kernel_rfl
set_option maxRecDepth 100000 in
theorem m242 : mFun Go.Proofs.Tryz.prog 242 v242 = true := by kernel_rfl
set_option maxRecDepth 100000 in
theorem m243 : mFun Go.Proofs.Tryz.prog 243 v243 = true := by kernel_rfl
set_option maxRecDepth 100000 in
theorem m244 : mFun Go.Proofs.Tryz.prog 244 v244 = true := by kernel_rfl
set_option maxRecDepth 100000 in
theorem m245 : mFun Go.Proofs.Tryz.prog 245 v245 = true := by kernel_rfl
set_option maxRecDepth 100000 in
theorem m262 : mFun Go.Proofs.Tryz.prog 262 v262 = true := by kernel_rfl

end Go.Vs.Tryz
