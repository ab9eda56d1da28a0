/- Functions of the program in the language of the value semantics,part 1 (printed by a program of mine),and that they match. (Parts of one proof,put together.) -/
import Derived.Test.YtlcncicmkkelcaaGreatDoorM4s
import Derived.Test.YtlcncicmkkelcaaGreatDoorProg
import Derived.KernelRfl
set_option linter.unusedSimpArgs false
set_option linter.unusedVariables false
set_option linter.deprecated false

namespace Go.Vs.Tryz
open Go Go.Vs

def l11_0 : VCode := (.seq (sq [oM 23 10,oM 24 9,oN 25 24,oB 26 .lss 23 25] [2,8,9,10,26] (xt 26 0)) (.seq (.block 1 (.seq (.region [] [oM 29 9,oM 30 10,oX 31 11 29 30,oG 32 11 31,cA 33 41 [fa 32] 1792,oM 34 9,oM 35 10,oX 36 11 34 35,oG 37 11 36,cA 38 42 [fa 37] 2112,oB 39 .neq 33 38,oM 40 39,gM 41 8 40 false,gM 42 9 40 false,gM 43 10 40 false,gX 44 11 42 43 40 false,gG 45 11 44 40 false,gA 46 43 [fa 41,fa 45] 40 false 2624,gM 47 8 40 false,gM 48 9 40 false,gM 49 10 40 false,gX 50 11 48 49 40 false,gG 51 11 50 40 false,gA 52 17 [fa 47,fa 51] 40 false 3008,gA 53 35 [fa 46,fa 52] 40 false 3072,gU 54 53 40 false,oP 55 40 54] [(2,7),(3,7),(4,7),(2,8),(3,8),(4,8),(15,21),(16,21),(17,21),(15,22),(16,22),(17,22)] [2,8,9,10,55]) (cd 55 (sq [o 6 (.mv kF)] [6] .ret) .skip))) (rg [oM 27 10,oK 28 .add 27 1,oM 10 28] [2,8,9,10])))

def v11 : VFun := ⟨3,(sq [o 6 (.mv kF)] [0,1,2] (.seq (sq [cA 11 12 [] 128,oU 12 11] [0,1,2,12] (cd 12 (sq [o 6 (.mv kF)] [6] .ret) .skip)) (.seq (sq [oM 13 1,cA 14 13 [fa 13] 384,oU 15 14] [0,1,2,15] (cd 15 (sq [o 6 (.mv kt)] [6] .ret) .skip)) (sq [oM 17 0,oM 18 1,cA 19 14 [fa 17,fa 18,(false,(ki 4))] 704,oM 16 19,oE 20 16 0,oE 21 16 1,oE 22 16 2,oM 7 20,oM 8 21,oM 9 22] [2,8,9] (.seq (sq [oJ 10 0] [2,8,9,10] (lp 0 l11_0)) (sq [oM 56 8,oM 57 2,cA 58 27 [fa 57,(false,(ki 30))] 3648,cA 59 44 [fa 56,fa 58] 3712,oM 60 8,oM 61 2,cA 62 27 [fa 61,(false,(ki 30))] 3904,cA 63 45 [fa 60,fa 62] 3968,oB 64 .eql 59 63,oM 65 64,gM 66 8 65 true,gM 67 2 65 true,gA 68 27 [fa 67,(false,(ki 9))] 65 true 4288,og 69 (.bin .sub 0 (ki (-1)) (tv 68)) 65 true,gA 70 44 [fa 66,fa 69] 65 true 4416,gM 71 8 65 true,gA 72 45 [fa 71,(false,(ki 0))] 65 true 4544,gB 73 .eql 70 72 65 true,oQ 74 65 73,oM 6 74] [6] .ret)))))),[.tmp 6],false⟩

def v133 : VFun := ⟨1,(sq [o 2 (.mv kn)] [0] (.seq (sq [oM 3 0,o 4 (.bin .eql 2 (tv 3) kn)] [0,4] (cd 4 (sq [o 2 (.mv kn)] [2] .ret) .skip)) (sq [o 5 .mkE,oM 6 0,oa 7 (.appF 2 32 (tv 5) (tv 6)) 448,oM 2 7] [2] .ret))),[.tmp 2],true⟩

def v144 : VFun := ⟨1,(sq [o 2 (.mv kn)] [0] (.seq (sq [oM 3 0,o 4 (.bin .eql 2 (tv 3) kn)] [0,4] (cd 4 (sq [o 2 (.mv kn)] [2] .ret) .skip)) (sq [o 5 .mkE,oM 6 0,oa 7 (.appF 14 200 (tv 5) (tv 6)) 448,oM 2 7] [2] .ret))),[.tmp 2],true⟩

def v95 : VFun := ⟨1,(sq [o 2 (.mv kn)] [0] (.seq (sq [oM 3 0,o 4 (.bin .eql 2 (tv 3) kn)] [0,4] (cd 4 (sq [o 2 (.mv kn)] [2] .ret) .skip)) (sq [o 5 .mkE,oM 6 0,oa 7 (.appF 1 16 (tv 5) (tv 6)) 448,oM 2 7] [2] .ret))),[.tmp 2],true⟩

def v140 : VFun := ⟨1,(sq [o 2 (.mv kn)] [0] (.seq (sq [oM 3 0,o 4 (.bin .eql 2 (tv 3) kn)] [0,4] (cd 4 (sq [o 2 (.mv kn)] [2] .ret) .skip)) (sq [o 5 .mkE,oM 6 0,oa 7 (.appF 11 152 (tv 5) (tv 6)) 448,oM 2 7] [2] .ret))),[.tmp 2],true⟩

def v12 : VFun := ⟨0,(sq [o 0 (.mv kF)] [1000000] (sq [cA 5 47 [] 128,cA 6 46 [fa 5] 192,o 7 (.build [zs,zi,zi,zs,zi,zi,.nil] [(0,1,(.k (.sc (.c (.str [120]))))),(1,6,(tv 6))]),oa 8 (.mkSl 7 [(tv 7)]) 320,oM 1 8] [1] (sq [oa 9 (.call (kf 48) [(false,(.k (.sc (.c (.str [120])))))] []) 448,oa 10 (.call (kf 48) [(false,(.k (.sc (.c (.str [120])))))] []) 512,oa 11 (.call (kf 49) [(false,(.k (.sc (.c (.str [121]))))),fa 10] []) 576,oa 12 (.call (kf 48) [(false,(.k (.sc (.c (.str [121])))))] []) 640,oa 13 (.call (kf 49) [(false,(.k (.sc (.c (.str [121]))))),fa 12] []) 704,oa 2 (.new zE []) 768,oa 3 (.new zE []) 832,oa 4 (.new zE []) 896,oW 11 2 9,oW 11 3 11,oW 11 4 13] [1,2,3,4] (.seq (.region [] [oM 14 1,oG 15 11 2,oG 16 11 3,cA 17 15 [(false,kn),fa 14,fa 15,fa 16] 1344,oK 18 .eql 17 (-1),oM 19 18,gM 20 1 19 true,gG 21 11 3 19 true,gG 22 11 4 19 true,gA 23 15 [(false,kn),fa 20,fa 21,fa 22] 19 true 1728,og 24 (.bin .eql 0 (tv 23) (ki (-1))) 19 true,oQ 25 19 24,oM 26 25,gM 27 1 26 true,gG 28 11 4 26 true,⟨(some 29),(.call (kf 48) [(false,(.k (.sc (.c (.str [122])))))] []),(some (26,true)),2112,[]⟩,⟨(some 30),(.call (kf 49) [(false,(.k (.sc (.c (.str [122]))))),fa 29] []),(some (26,true)),2176,[]⟩,gA 31 15 [(false,kn),fa 27,fa 28,fa 30] 26 true 2240,og 32 (.bin .eql 0 (tv 31) (ki 0)) 26 true,oQ 33 26 32,oM 34 33,gG 35 11 3 34 true,gA 36 41 [fa 35] 34 true 2560,og 37 (.bin .eql 0 (tv 36) (ki 2)) 34 true,oQ 38 34 37,oM 39 38,gM 40 1 39 true,gA 41 44 [fa 40,(false,(ki 0))] 39 true 2880,og 42 (.bin .eql 0 (tv 41) (.k (.sc (.c (.str [118,49]))))) 39 true,oQ 43 39 42,oM 0 43] [(1,2),(7,8),(14,15),(14,16)] [0]) .ret)))),[.tmp 0],false⟩

def v13 : VFun := ⟨1,(sq [o 2 (.mv kF)] [0] (sq [oM 3 0,oN 4 3,oK 5 .leq 4 60,oM 2 5] [2] .ret)),[.tmp 2],false⟩

def l14_0 : VCode := (.seq (sq [oM 32 14,oM 33 2,oB 34 .lss 32 33] [2,9,10,11,13,14,34] (xt 34 0)) (.seq (.block 1 (rg [oM 37 13,oM 38 9,oM 39 10,oM 40 11,cA 41 52 [fa 40] 2304,oM 42 9,cA 43 53 [ta 42,(false,(ki 4))] 2432,cA 44 51 [ta 38,fa 39,fa 41,fa 43] 2496,oa 45 (.mkSl 11 [(tv 44)]) 2560,o 46 (.app 11 152 false (tv 37) (tv 45)),oM 13 46] [2,9,10,11,13,14])) (rd [2560] [oM 35 14,oK 36 .add 35 1,oM 14 36] [2,9,10,11,13,14])))

def v14 : VFun := ⟨3,(sq [o 6 (.mv kn),o 7 (.mv kn),o 8 (.mv kn)] [0,1,2] (sq [oM 15 1,o 16 (.build [.nil,zi] [(0,1,(tv 15))]),oa 17 (.box (tv 16)) 384,oM 9 17] [0,2,9] (sq [oM 18 0,cA 19 23 [fa 18] 576,oM 10 19] [2,9,10] (sq [oM 21 9,oM 22 10,cA 23 50 [ta 21,fa 22] 832,oM 20 23,oE 24 20 0,oE 25 20 1,oa 12 (.new [zi,zs,zi,zi,.nil] []) 1088,oM 11 24,oW 5 12 25] [2,9,10,11] (.seq (rd [1088] [cA 26 47 [] 1280,cA 27 46 [fa 26] 1344,o 28 (.build [zs,zi,zi,zs,zi,zi,.nil] [(0,1,(.k (.sc (.c (.str [120]))))),(1,6,(tv 27))]),oa 29 (.mkSl 7 [(tv 28)]) 1472,oM 30 11,o 31 (.app 7 88 false (tv 29) (tv 30)),oM 11 31] [2,9,10,11]) (sq [⟨(some 13),(.mv kn),none,1728,[(0,11)]⟩] [2,9,10,11,13] (.seq (sq [oJ 14 0] [2,9,10,11,13,14] (lp 0 l14_0)) (sq [oM 47 10,oM 48 11,oM 49 13,oM 6 47,oM 7 48,oM 8 49] [6,7,8] .ret)))))))),[.tmp 6,.tmp 7,.tmp 8],true⟩

def l41_0 : VCode := (sq [oB 20 .lss 19 18] [3,17,18,19,20] (.seq (xt 20 1) (.seq (.block 2 (sq [oX 21 11 17 19,oG 22 11 21,oa 5 (.new zE []) 960,oW 11 5 22] [3,5,17,18,19] (rg [oM 23 3,oG 24 11 5,cA 25 41 [fa 24] 1216,oB 26 .add 23 25,oM 3 26] [3,17,18,19]))) (rd [960] [oK 27 .add 19 1,oM 19 27] [3,17,18,19]))))

def l41_1 : VCode := (sq [oB 34 .lss 33 32] [3,31,32,33,34] (.seq (xt 34 3) (.seq (.block 4 (sq [oX 35 14 31 33,oG 36 14 35,oa 7 (.new [zi,zs,.nil,zi,zi,zs,zi,.nil,.nil,zi,zs,zi,zi,.nil] []) 2112,oW 14 7 36] [3,7,31,32,33] (rg [oM 37 3,oF 38 3 7,oG 39 11 38,cA 40 41 [fa 39] 2432,oB 41 .add 37 40,oM 3 41] [3,31,32,33]))) (rd [2112] [oK 42 .add 33 1,oM 33 42] [3,31,32,33]))))

def l41_2 : VCode := (sq [oB 53 .lss 52 51] [3,50,51,52,53] (.seq (xt 53 5) (.seq (.block 6 (sq [oX 54 11 50 52,oG 55 11 54,oa 11 (.new zE []) 3776,oW 11 11 55] [3,11,50,51,52] (rg [oM 56 3,oG 57 11 11,cA 58 41 [fa 57] 4032,oB 59 .add 56 58,oM 3 59] [3,50,51,52]))) (rd [3776] [oK 60 .add 52 1,oM 52 60] [3,50,51,52]))))

def v41 : VFun := ⟨1,(sq [oa 1 (.box (tv 0)) 64,oJ 2 0] [1] (sq [oJ 3 1] [1,3] (.seq (sq [oF 12 0 1,oL 13 12] [1,3,13] (.block 0 (sq [oK 15 .eql 13 4,oM 14 15] [1,3,13,14] (cd 14 (sq [oF 16 4 1,oL 17 16,oN 18 17,oJ 19 0] [3,17,18,19] (lp 1 l41_0)) (sq [oK 29 .eql 13 8,oM 28 29] [1,3,13,28] (cd 28 (sq [oF 30 5 1,oL 31 30,oN 32 31,oJ 33 0] [3,31,32,33] (lp 3 l41_1)) (sq [oK 44 .eql 13 5,oM 43 44] [1,3,43] (cd 43 (sq [oG 46 11 1,cA 47 62 [fa 46] 2944,oM 45 47,oE 48 45 0,oE 49 45 1,oa 8 (.new zE []) 3200,oW 11 8 48,oM 9 49] [3,9] (.seq (rd [64,3200] [oM 50 9,oN 51 50,oJ 52 0] [3,50,51,52]) (lp 5 l41_2))) .skip)))))))) (sq [oM 61 3,oM 2 61] [2] .ret)))),[.tmp 2],false⟩

def l42_0 : VCode := (.seq (sq [oM 20 4,oF 21 5 1,oL 22 21,oN 23 22,oB 24 .lss 20 23] [1,3,4,24] (xt 24 1)) (.seq (.block 2 (rg [oM 27 3,oF 28 5 1,oL 29 28,oM 30 4,oX 31 14 29 30,oF 32 3 31,oG 33 11 32,cA 34 42 [fa 33] 1920,oB 35 .add 27 34,oM 3 35] [1,3,4])) (rg [oM 25 4,oK 26 .add 25 1,oM 4 26] [1,3,4])))

def l42_1 : VCode := (.seq (sq [oM 42 7,oM 43 6,oN 44 43,oB 45 .lss 42 44] [3,6,7,45] (xt 45 3)) (.seq (.block 4 (rg [oM 48 3,oM 49 6,oM 50 7,oX 51 11 49 50,oG 52 11 51,cA 53 42 [fa 52] 3584,oB 54 .add 48 53,oM 3 54] [3,6,7])) (rg [oM 46 7,oK 47 .add 46 1,oM 7 47] [3,6,7])))

def v42 : VFun := ⟨1,(sq [oa 1 (.box (tv 0)) 64,oJ 2 0] [1] (sq [oJ 3 1] [1,3] (.seq (sq [oF 8 0 1,oL 9 8] [1,3,9] (.block 0 (sq [oK 11 .eql 9 4,oM 10 11] [1,3,9,10] (cd 10 (sq [oF 12 4 1,oL 13 12,o 14 (.idxA 11 (tv 13) (ki 0)),oG 15 11 14,cA 16 42 [fa 15] 768,o 17 (.bin .add 0 (ki 1) (tv 16)),oM 2 17] [2] .ret) (sq [oK 19 .eql 9 8,oM 18 19] [1,3,18] (cd 18 (.seq (sq [oJ 4 0] [1,3,4] (lp 1 l42_0)) (sq [oM 36 3,oM 2 36] [2] .ret)) .skip)))))) (sq [oG 38 11 1,cA 39 98 [fa 38] 2496,oM 37 39,oE 40 37 0,oE 41 37 1,oa 5 (.new zE []) 2752,oW 11 5 40,oM 6 41] [3,6] (.seq (.seq (rd [64,2752] [oJ 7 0] [3,6,7]) (lp 3 l42_1)) (sq [oM 55 3,oM 2 55] [2] .ret)))))),[.tmp 2],false⟩

def v43 : VFun := ⟨2,(sq [oa 3 (.box (tv 1)) 64,oa 4 (.new zE []) 128] [0,3,4] (.seq (.region [] [oG 5 11 3,oM 6 0,cA 7 99 [fa 6] 320,cA 8 39 [fa 5,fa 7] 384,oW 11 4 8] [(0,2)] [4]) .ret)),[.cell 4 true 11],false⟩

def v17 : VFun := ⟨2,(sq [oa 3 (.box (tv 1)) 64,oa 4 (.new zE []) 128] [0,3,4] (.seq (.region [] [oG 5 11 3,oM 6 0,cA 7 65 [fa 6] 320,cA 8 52 [fa 7] 384,cA 9 40 [fa 5,fa 8] 448,oW 11 4 9] [(0,2),(0,3)] [4]) .ret)),[.cell 4 true 11],false⟩

def l35_0 : VCode := (.seq (sq [oM 51 5,oF 52 5 2,oL 53 52,oN 54 53,oB 55 .lss 51 54] [2,3,5,55] (xt 55 0)) (.seq (.block 1 (.seq (.region [] [oF 58 5 2,oL 59 58,oM 60 5,oX 61 14 59 60,oF 62 1 61,oL 63 62,oF 64 5 3,oL 65 64,oM 66 5,oX 67 14 65 66,oF 68 1 67,oL 69 68,oB 70 .neq 63 69,oM 71 70,gF 72 5 2 71 false,gL 73 72 71 false,gM 74 5 71 false,gX 75 14 73 74 71 false,gF 76 2 75 71 false,gL 77 76 71 false,gF 78 5 3 71 false,gL 79 78 71 false,gM 80 5 71 false,gX 81 14 79 80 71 false,gF 82 2 81 71 false,gL 83 82 71 false,gA 84 85 [fa 77,fa 83] 71 false 5248,gU 85 84 71 false,oP 86 71 85] [(0,6),(1,6),(3,6),(4,6),(5,6),(0,7),(1,7),(3,7),(4,7),(5,7),(0,9),(1,9),(3,9),(4,9),(5,9),(0,10),(1,10),(3,10),(4,10),(5,10),(0,11),(1,11),(3,11),(4,11),(5,11),(14,20),(15,20),(17,20),(18,20),(19,20),(14,21),(15,21),(17,21),(18,21),(19,21),(14,23),(15,23),(17,23),(18,23),(19,23),(14,24),(15,24),(17,24),(18,24),(19,24),(14,25),(15,25),(17,25),(18,25),(19,25)] [2,3,5,86]) (cd 86 (sq [o 4 (.mv kF)] [4] .ret) .skip))) (rg [oM 56 5,oK 57 .add 56 1,oM 5 57] [2,3,5])))

def v35 : VFun := ⟨2,(sq [oa 2 (.box (tv 0)) 64,oa 3 (.box (tv 1)) 128,o 4 (.mv kF)] [2,3] (.seq (sq [oF 6 0 2,oL 7 6,oF 8 0 3,oL 9 8,oB 10 .neq 7 9,oM 11 10,gF 12 2 2 11 false,gL 13 12 11 false,gF 14 2 3 11 false,gL 15 14 11 false,gB 16 .neq 13 15 11 false,oP 17 11 16,oM 18 17,gF 19 3 2 18 false,gL 20 19 18 false,gF 21 3 3 18 false,gL 22 21 18 false,gB 23 .neq 20 22 18 false,oP 24 18 23,oM 25 24,gF 26 6 2 25 false,gG 27 5 26 25 false,gF 28 6 3 25 false,gG 29 5 28 25 false,gA 30 84 [fa 27,fa 29] 25 false 1792,gU 31 30 25 false,oP 32 25 31,oM 33 32,gF 34 4 2 33 false,gL 35 34 33 false,gN 36 35 33 false,gF 37 4 3 33 false,gL 38 37 33 false,gN 39 38 33 false,gB 40 .neq 36 39 33 false,oP 41 33 40,oM 42 41,gF 43 5 2 42 false,gL 44 43 42 false,gN 45 44 42 false,gF 46 5 3 42 false,gL 47 46 42 false,gN 48 47 42 false,gB 49 .neq 45 48 42 false,oP 50 42 49] [2,3,50] (cd 50 (sq [o 4 (.mv kF)] [4] .ret) .skip)) (.seq (sq [oJ 5 0] [2,3,5] (lp 0 l35_0)) (.seq (.region [] [oG 87 11 2,cA 88 69 [fa 87] 5760,oG 89 11 3,cA 90 69 [fa 89] 5888,cA 91 86 [fa 88,fa 90] 5952,oM 4 91] [(0,2),(1,2)] [4]) .ret)))),[.tmp 4],false⟩

def v27 : VFun := ⟨2,(sq [oJ 4 0] [0,1] (.seq (sq [oM 5 1,oK 6 .lss 5 1] [0,1,6] (cd 6 (sq [oJ 4 0] [4] .ret) .skip)) (sq [oM 7 0,oM 8 1,oB 9 .rem 7 8,oM 0 9] [0,1] (.seq (sq [oM 10 0,oK 11 .lss 10 0] [0,1,11] (cd 11 (rg [oM 12 0,oM 13 1,oB 14 .add 12 13,oM 0 14] [0]) .skip)) (sq [oM 15 0,oM 4 15] [4] .ret))))),[.tmp 4],false⟩

def v44 : VFun := ⟨2,(sq [o 4 (.mv (.k (.sc zs)))] [0,1] (sq [oM 5 1,oM 6 0,cA 7 99 [fa 6] 256,cA 8 28 [fa 5,fa 7] 320,oM 4 8] [4] .ret)),[.tmp 4],false⟩

def v45 : VFun := ⟨2,(sq [o 4 (.mv (.k (.sc zs)))] [0,1] (sq [oM 5 1,oM 6 0,cA 7 65 [fa 6] 256,cA 8 52 [fa 7] 320,cA 9 29 [fa 5,fa 8] 384,oM 4 9] [4] .ret)),[.tmp 4],false⟩

def v47 : VFun := ⟨0,(sq [oa 0 (.new [zi,zs,zi,zi,.nil] []) 64] [0] (sq [oa 1 (.call (kf 100) [(false,(.k (.sc (.c (.str [73,110,116]))))),(false,kn)] []) 128,oW 5 0 1] [0] .ret)),[.cell 0 true 5],false⟩

def v46 : VFun := ⟨1,(sq [oa 1 (.box (tv 0)) 64,oa 2 (.new [zi,zi,zs,zi,zi,.nil] []) 128] [1,2] (sq [oG 3 5 1,o 4 (.build [zi,zi,zs,zi,zi,.nil] [(1,5,(tv 3))]),oW 6 2 4] [2] .ret)),[.cell 2 true 6],false⟩

def v48 : VFun := ⟨1,(sq [oa 2 (.new zE []) 64] [0,2] (sq [oM 3 0,o 4 (.build zE [(0,1,(ki 1)),(2,1,(tv 3))]),oW 11 2 4] [2] .ret)),[.cell 2 true 11],false⟩

def v49 : VFun := ⟨2,(sq [oa 3 (.box (tv 1)) 64,oa 4 (.new zE []) 128] [0,3,4] (sq [oM 5 0,oG 6 11 3,oa 7 (.mkSl 11 [(tv 6)]) 320,o 8 (.build zE [(0,1,(ki 4)),(2,1,(tv 5)),(4,1,(tv 7))]),oW 11 4 8] [4] .ret)),[.cell 4 true 11],false⟩

def v15 : VFun := ⟨4,(sq [oa 4 (.box (tv 0)) 64,oa 5 (.box (tv 1)) 128,oa 6 (.box (tv 2)) 192,oa 7 (.box (tv 3)) 256,oJ 8 0] [4,5,6,7] (sq [o 12 (.fn 54 [(tv 4),(tv 5)]),oa 9 (.new [(.c .nilfn)] []) 448,oW 1 9 12] [6,7,9] (sq [oa 10 (.new [(.c .nilfn)] []) 576] [6,7,9,10] (sq [o 13 (.fn 57 [(tv 10)]),oa 11 (.new [(.c .nilfn)] []) 704,oW 1 11 13] [6,7,9,10,11] (sq [o 14 (.fn 58 [(tv 10),(tv 9),(tv 11)]),oW 1 10 14] [6,7,10] (.seq (sq [oG 15 11 6,cA 16 63 [fa 15] 1024,oU 17 16,oM 18 17,gG 19 11 7 18 false,gA 20 63 [fa 19] 18 false 1280,gU 21 20 18 false,oP 22 18 21] [6,7,10,22] (cd 22 (sq [oJ 8 0] [8] .ret) .skip)) (sq [oL 23 10,oG 24 11 6,oG 25 11 7,oa 26 (.call (tv 23) [(false,kn),(false,kn),fa 24,fa 25] []) 1728,oM 8 26] [8] .ret))))))),[.tmp 8],false⟩

def l23_0 : VCode := (.seq (sq [oM 21 5,oM 22 3,oN 23 22,oB 24 .lss 21 23] [0,3,4,5,24] (xt 24 0)) (.seq (.block 1 (sq [oM 27 5,oK 28 .neq 27 1,oM 29 28,gM 30 0 29 true,gM 31 5 29 true,og 32 (.cvI .u64 (tv 31)) 29 true,gB 33 .shr 30 32 29 true,og 34 (.bin .and 0 (tv 33) (ki 1)) 29 true,og 35 (.bin .eql 0 (tv 34) (ki 1)) 29 true,oQ 36 29 35] [0,3,4,5,36] (cd 36 (rg [oM 37 4,oM 38 3,oM 39 5,oX 40 4 38 39,oG 41 4 40,oa 42 (.mkSl 4 [(tv 41)]) 2560,o 43 (.app 4 72 false (tv 37) (tv 42)),oM 4 43] [0,3,4,5]) .skip))) (rd [2560] [oM 25 5,oK 26 .add 25 1,oM 5 26] [0,3,4,5])))

def v23 : VFun := ⟨1,(sq [o 2 (.mv kn)] [0] (sq [cA 6 71 [] 128,oM 3 6] [0,3] (sq [⟨(some 4),(.mv kn),none,256,[(0,4)]⟩] [0,3,4] (.seq (sq [oM 7 0,oK 8 .and 7 2,oK 9 .neq 8 0,oM 10 9,gM 11 0 10 false,og 12 (.bin .and 0 (tv 11) (ki 64)) 10 false,og 13 (.bin .neq 0 (tv 12) (ki 0)) 10 false,oP 14 10 13] [0,3,4,14] (cd 14 (rg [oM 15 4,oM 16 3,o 17 (.idxA 4 (tv 16) (ki 1)),oG 18 4 17,oa 19 (.mkSl 4 [(tv 18)]) 1088,o 20 (.app 4 72 false (tv 15) (tv 19)),oM 4 20] [0,3,4]) .skip)) (.seq (.seq (rd [1088] [oJ 5 0] [0,3,4,5]) (lp 0 l23_0)) (sq [oM 44 4,oM 2 44] [2] .ret)))))),[.tmp 2],false⟩

def l50_0 : VCode := (.seq (sq [oM 17 9,oM 18 8,oB 19 .lss 17 18] [0,1,5,6,7,8,9,19] (xt 19 0)) (.seq (.block 1 (sq [oM 22 0,cA 23 34 [ta 22] 1024,oM 10 23] [0,1,5,6,7,8,9,10] (sq [oM 24 0,cA 25 53 [ta 24,(false,(ki 4))] 1216] [0,1,5,6,7,8,9,10,25] (.block 2 (sq [oK 35 .eql 25 0,oM 34 35] [0,1,5,6,7,8,9,10,34] (cd 34 (sq [oM 36 0,oM 37 1,cA 38 103 [(false,(ki 2))] 1536,cA 39 70 [ta 36,fa 37,fa 38,(false,(ki 2))] 1600,oa 40 (.mkSl 1 [(ki 0),(ki 1)]) 1664,cA 41 102 [fa 39,fa 40] 1728,oa 11 (.new [zi,zi,zs,zi,zi,.nil] []) 1792,oW 6 11 41] [0,1,5,6,7,8,9,10,11] (rd [1664] [oM 42 7,oM 43 10,oG 44 6 11,cA 45 104 [fa 42,fa 43,fa 44] 2112,oM 7 45] [0,1,5,6,7,8,9])) (rg [oM 26 7,oM 27 10,oM 28 0,oM 29 1,oM 30 6,cA 31 70 [ta 28,fa 29,fa 30,(false,(ki 2))] 2560,cA 32 46 [fa 31] 2624,cA 33 104 [fa 26,fa 27,fa 32] 2688,oM 7 33] [0,1,5,6,7,8,9]))))))) (rd [1664,1792] [oM 20 9,oK 21 .add 20 1,oM 9 21] [0,1,5,6,7,8,9])))

def v50 : VFun := ⟨2,(sq [o 4 (.mv kn),oa 5 (.new [zi,zs,zi,zi,.nil] []) 128] [0,1,5] (sq [cA 12 101 [(false,(ki 0)),(false,(ki 0))] 192,cA 13 101 [(false,(ki 3)),(false,(ki 1))] 256,oa 14 (.mkSl 5 [(tv 12),(tv 13)]) 320,oM 6 14] [0,1,5,6] (sq [o 7 (.mv kn)] [0,1,5,6,7] (sq [oM 15 0,cA 16 53 [ta 15,(false,(ki 4))] 576,oM 8 16] [0,1,5,6,7,8] (.seq (sq [oJ 9 0] [0,1,5,6,7,8,9] (lp 0 l50_0)) (sq [oM 46 7,oM 47 0,oM 48 1,oM 49 6,cA 50 70 [ta 47,fa 48,fa 49,(false,(ki 2))] 3264,oM 4 46,oW 5 5 50] [4,5] .ret)))))),[.tmp 4,.cell 5 true 5],false⟩

def l52_0 : VCode := (.seq (sq [oM 5 4,oM 6 0,oN 7 6,oB 8 .lss 5 7] [0,3,4,8] (xt 8 0)) (.seq (.block 1 (rg [oM 11 3,oM 12 0,oM 13 4,oX 14 7 12 13,oF 15 0 14,oL 16 15,oa 17 (.mkSl 1 [(tv 16)]) 896,o 18 (.app 1 16 false (tv 11) (tv 17)),oM 3 18] [0,3,4])) (rd [896] [oM 9 4,oK 10 .add 9 1,oM 4 10] [0,3,4])))

def v52 : VFun := ⟨1,(sq [o 2 (.mv kn)] [0] (sq [⟨(some 3),(.mv kn),none,128,[(0,1)]⟩] [0,3] (.seq (sq [oJ 4 0] [0,3,4] (lp 0 l52_0)) (sq [oM 19 3,oM 2 19] [2] .ret)))),[.tmp 2],false⟩

def v53 : VFun := ⟨2,(sq [oJ 4 0] [0,1] (.seq (.seq (.region [] [oM 5 0,o 6 (.nn (tv 5)),oF 7 1 6,oL 8 7,oM 9 0,o 10 (.nn (tv 9)),oF 11 0 10,oL 12 11,oN 13 12,oB 14 .geq 8 13] [(1,5),(2,5),(3,5),(1,6),(2,6),(3,6),(1,7),(2,7),(3,7),(1,8),(2,8),(3,8)] [0,1,14]) (cd 14 (sq [oJ 4 0] [4] .ret) .skip)) (sq [oM 15 0,o 16 (.nn (tv 15)),oF 17 1 16,oL 18 17,oK 19 .add 18 1,o 20 (.nn (tv 15)),oF 21 1 20,oW 1 21 19] [0,1] (.seq (.region [] [oM 22 0,o 23 (.nn (tv 22)),oF 24 0 23,oL 25 24,oM 26 0,o 27 (.nn (tv 26)),oF 28 1 27,oL 29 28,oK 30 .sub 29 1,oX 31 1 25 30,oL 32 31,oM 33 1,cA 34 27 [fa 32,fa 33] 2112,oM 4 34] [(1,5),(2,5),(3,5),(1,6),(2,6),(3,6),(1,7),(2,7),(3,7)] [4]) .ret)))),[.tmp 4],false⟩

def l51_0 : VCode := (.seq (sq [oM 84 15,oF 85 3 11,oL 86 85,oM 87 13,oX 88 3 86 87,oF 89 2 88,oL 90 89,oN 91 90,oB 92 .lss 84 91] [0,1,2,3,8,11,12,13,14,15,92] (xt 92 3)) (.seq (.block 4 (.region [] [oF 95 2 14,oL 96 95,oa 97 (.mkSl 1 [(.k (.sc (.c (.str [120])))),(.k (.sc (.c (.str [116])))),(.k (.sc (.c (.str [102])))),(.k (.sc (.c (.str [118]))))]) 5632,oM 98 15,oK 99 .rem 98 4,oX 100 1 97 99,oL 101 100,oa 102 (.mkSl 1 [(tv 101)]) 5952,o 103 (.app 1 16 false (tv 96) (tv 102)),oF 104 2 14,oW 1 104 103] [(0,2),(1,2),(0,5),(1,5),(0,6),(1,6),(0,7),(1,7)] [0,1,2,3,8,11,12,13,14,15])) (rd [5632,5952] [oM 93 15,oK 94 .add 93 1,oM 15 94] [0,1,2,3,8,11,12,13,14,15])))

def l51_1 : VCode := (.seq (sq [oM 70 13,oF 71 3 11,oL 72 71,oN 73 72,oB 74 .lss 70 73] [0,1,2,3,8,11,12,13,74] (xt 74 1)) (.seq (.block 2 (sq [oF 77 3 11,oL 78 77,oM 79 13,oX 80 3 78 79,oF 81 1 80,oL 82 81,o 83 (.build [zi,zs,.nil,zi,zi,zs,zi,.nil,.nil,zi,zs,zi,zi,.nil] [(1,1,(tv 82))]),oa 14 (.new [zi,zs,.nil,zi,zi,zs,zi,.nil,.nil,zi,zs,zi,zi,.nil] []) 4736,⟨none,(.store 14 (tv 14) (tv 83) [(2,1)]),none,4800,[]⟩] [0,1,2,3,8,11,12,13,14] (.seq (sq [oJ 15 0] [0,1,2,3,8,11,12,13,14,15] (lp 3 l51_0)) (.seq (.region [] [oM 105 0,oM 106 1,oM 107 2,oa 108 (.app 1 16 true kn (tv 107)) 6592,oF 109 2 14,oL 110 109,o 111 (.app 1 16 false (tv 108) (tv 110)),oM 112 3,oK 113 .sub 112 1,cA 114 51 [ta 105,fa 106,fa 111,fa 113] 6976,oF 115 3 14,oW 11 115 114] [(3,4),(3,5)] [0,1,2,3,8,11,12,13,14]) (rg [oF 116 5 12,oL 117 116,o 118 (.ldD true 14 (tv 14)),oa 119 (.mkSl 14 [(tv 118)]) 7360,o 120 (.app 14 200 false (tv 117) (tv 119)),oF 121 5 12,oW 1 121 120] [0,1,2,3,8,11,12,13]))))) (rd [4736,4800,4803,6592,7360] [oM 75 13,oK 76 .add 75 1,oM 13 76] [0,1,2,3,8,11,12,13])))

def l51_2 : VCode := (.seq (sq [oM 159 18,oK 160 .gtr 159 0,oM 161 160,gM 162 3 161 true,og 163 (.bin .gtr 0 (tv 162) (ki 0)) 161 true,oQ 164 161 163] [0,1,2,3,8,16,18,164] (xt 164 5)) (.seq (.block 6 (.region [] [oG 167 11 16,oM 168 0,oM 169 1,oM 170 2,oM 171 3,oK 172 .sub 171 1,cA 173 51 [ta 168,fa 169,fa 170,fa 172] 11392,oa 174 (.mkSl 11 [(tv 167),(tv 173)]) 11456,o 175 (.bldD zE [(0,1,(ki 5)),(4,1,(tv 174))]),oW 11 16 175] [(0,6)] [0,1,2,3,8,16,18])) (rd [11456] [oM 165 18,oK 166 .sub 165 1,oM 18 166] [0,1,2,3,8,16,18])))

def v51 : VFun := ⟨4,(sq [oa 8 (.new zE []) 64] [0,1,2,3,8] (sq [oM 19 0,cA 20 53 [ta 19,(false,(ki 8))] 192,oM 9 20] [0,1,2,3,8,9] (.seq (sq [oM 21 3,oK 22 .lss 21 1] [0,1,2,3,8,9,22] (cd 22 (rg [oJ 9 7] [0,1,2,3,8,9]) .skip)) (.seq (.block 0 (sq [oM 24 9,oK 25 .lss 24 2,oM 23 25] [0,1,2,3,8,9,23] (cd 23 (sq [oM 26 0,cA 27 34 [ta 26] 768,oM 10 27] [0,1,2,3,8,10] (sq [oM 28 10,oM 29 0,oM 30 1,oM 31 2,oa 32 (.app 1 16 true kn (tv 31)) 1152,oM 33 10,oa 34 (.mkSl 1 [(tv 33)]) 1280,o 35 (.app 1 16 false (tv 32) (tv 34)),oM 36 3,oK 37 .sub 36 1,cA 38 51 [ta 29,fa 30,fa 35,fa 37] 1536,cA 39 49 [fa 28,fa 38] 1600,oW 11 8 39] [8] .ret)) (sq [oM 41 9,oK 42 .eql 41 2,oM 43 42,gM 44 1 43 true,gN 45 44 43 true,og 46 (.bin .gtr 0 (tv 45) (ki 0)) 43 true,oQ 47 43 46,oM 48 47,gM 49 2 48 true,gN 50 49 48 true,og 51 (.bin .gtr 0 (tv 50) (ki 0)) 48 true,oQ 52 48 51,oM 40 52] [0,1,2,3,8,40] (cd 40 (sq [oM 53 1,oM 54 0,oM 55 1,oN 56 55,cA 57 53 [ta 54,fa 56] 2816,oX 58 4 53 57,oG 59 4 58,oa 11 (.new [zi,zs,.nil,.nil] []) 3008,oW 4 11 59] [0,1,2,3,8,11] (sq [oM 60 2,oM 61 0,oM 62 2,oN 63 62,cA 64 53 [ta 61,fa 63] 3392,oX 65 1 60 64,oL 66 65,cA 67 48 [fa 66] 3584,oa 68 (.mkSl 11 [(tv 67)]) 3648,o 69 (.build zE [(0,1,(ki 8)),(4,1,(tv 68))]),oa 12 (.new zE []) 3776,⟨none,(.store 11 (tv 12) (tv 69) [(5,14)]),none,3840,[]⟩] [0,1,2,3,8,11,12] (.seq (sq [oJ 13 0] [0,1,2,3,8,11,12,13] (lp 1 l51_1)) (sq [o 122 (.ldD true 11 (tv 12)),oW 11 8 122] [8] .ret)))) .skip))))) (sq [oM 123 2,oM 124 0,oM 125 2,oN 126 125,cA 127 53 [ta 124,fa 126] 8192,oX 128 1 123 127,oL 129 128,cA 130 48 [fa 129] 8384,oa 16 (.new zE []) 8448,oW 11 16 130] [0,1,2,3,8,16] (.seq (sq [oM 131 1,oN 132 131,oK 133 .gtr 132 0,oM 134 133,gM 135 0 134 true,gA 136 53 [ta 135,(false,(ki 3))] 134 true 8896,og 137 (.bin .eql 0 (tv 136) (ki 0)) 134 true,oQ 138 134 137] [0,1,2,3,8,16,138] (cd 138 (sq [oM 139 1,oM 140 0,oM 141 1,oN 142 141,cA 143 53 [ta 140,fa 142] 9344,oX 144 4 139 143,oG 145 4 144,oa 17 (.new [zi,zs,.nil,.nil] []) 9536,oW 4 17 145] [0,1,2,3,8,16,17] (.region [] [oF 146 3 17,oL 147 146,oM 148 0,oF 149 3 17,oL 150 149,oN 151 150,cA 152 53 [ta 148,fa 151] 10048,oX 153 3 147 152,oF 154 1 153,oL 155 154,o 156 (.build zE [(0,1,(ki 2)),(2,1,(tv 155))]),oW 11 16 156] [(0,3),(1,3),(0,4),(1,4),(0,5),(1,5),(0,6),(1,6)] [0,1,2,3,8,16])) .skip)) (.seq (.seq (rd [9536] [oM 157 0,cA 158 53 [ta 157,(false,(ki 3))] 10496,oM 18 158] [0,1,2,3,8,16,18]) (lp 5 l51_2)) (sq [oG 176 11 16,oW 11 8 176] [8] .ret)))))))),[.cell 8 true 11],false⟩

def l62_0 : VCode := (.seq (sq [oF 5 0 1,oL 6 5,oK 7 .eql 6 5,oM 8 7,gF 9 4 1 8 true,gL 10 9 8 true,gN 11 10 8 true,og 12 (.bin .eql 0 (tv 11) (ki 2)) 8 true,oQ 13 8 12] [1,2,4,13] (xt 13 0)) (.block 1 (.seq (rd [1216] [oM 14 4,oF 15 4 1,oL 16 15,o 17 (.idxA 11 (tv 16) (ki 1)),oG 18 11 17,oa 19 (.mkSl 11 [(tv 18)]) 1216,o 20 (.app 11 152 false (tv 14) (tv 19)),oM 4 20] [1,2,4]) (rd [1216] [oF 21 4 1,oL 22 21,o 23 (.idxA 11 (tv 22) (ki 0)),oG 24 11 23,oW 11 1 24] [1,2,4]))))

def v62 : VFun := ⟨1,(sq [oa 1 (.box (tv 0)) 64,oa 2 (.new zE []) 128,o 3 (.mv kn)] [1,2] (sq [⟨(some 4),(.mv kn),none,256,[(0,11)]⟩] [1,2,4] (.seq (lp 0 l62_0) (sq [oM 25 4,cA 26 109 [ta 25] 1792] [1,2,4] (sq [oG 27 11 1,oM 28 4,oW 11 2 27,oM 3 28] [2,3] .ret))))),[.cell 2 true 11,.tmp 3],false⟩

def l98_0 : VCode := (.seq (sq [oF 5 0 1,oL 6 5,oK 7 .eql 6 5] [1,2,4,7] (xt 7 0)) (.block 1 (.seq (rd [768] [oF 8 4 1,oL 9 8,o 10 (.idxA 11 (tv 9) (ki 1)),oG 11 11 10,oa 12 (.mkSl 11 [(tv 11)]) 768,oM 13 4,o 14 (.app 11 152 false (tv 12) (tv 13)),o 4 (.mvD (tv 14))] [1,2,4]) (rg [oF 15 4 1,oL 16 15,o 17 (.idxA 11 (tv 16) (ki 0)),oG 18 11 17,oW 11 1 18] [1,2,4]))))

def v98 : VFun := ⟨1,(sq [oa 1 (.box (tv 0)) 64,oa 2 (.new zE []) 128,o 3 (.mv kn)] [1,2] (sq [o 4 (.mv kn)] [1,2,4] (.seq (lp 0 l98_0) (sq [oG 19 11 1,oM 20 4,oW 11 2 19,oM 3 20] [2,3] .ret)))),[.cell 2 true 11,.tmp 3],false⟩

def l99_0 : VCode := (sq [oB 10 .lss 9 8] [3,7,8,9,10] (.seq (xt 10 0) (.seq (.block 1 (sq [oX 11 7 7 9,oG 12 7 11,oa 5 (.new [zs,zi,zi,zs,zi,zi,.nil] []) 640,oW 7 5 12] [3,5,7,8,9] (rg [oM 13 3,oF 14 0 5,oL 15 14,oa 16 (.mkSl 1 [(tv 15)]) 960,o 17 (.app 1 16 false (tv 13) (tv 16)),oM 3 17] [3,7,8,9]))) (rd [640,960] [oK 18 .add 9 1,oM 9 18] [3,7,8,9]))))

def v99 : VFun := ⟨1,(sq [o 2 (.mv kn)] [0] (sq [⟨(some 3),(.mv kn),none,128,[(0,1)]⟩] [0,3] (.seq (sq [oM 6 0,cA 7 150 [fa 6] 256,oN 8 7,oJ 9 0] [3,7,8,9] (lp 0 l99_0)) (sq [oM 19 3,oM 2 19] [2] .ret)))),[.tmp 2],false⟩

def v39 : VFun := ⟨2,(sq [oa 2 (.box (tv 0)) 64,oa 4 (.new zE []) 128] [1,2,4] (.seq (.region [] [oG 5 11 2,cA 6 94 [fa 5] 256,oM 7 1,cA 8 95 [fa 7] 384,oG 9 11 2,cA 10 30 [fa 9] 512,o 11 (.app 1 16 false (tv 8) (tv 10)),cA 12 93 [fa 6,(false,kn),fa 11] 640,oW 11 4 12] [(0,4),(1,4),(3,4)] [4]) .ret)),[.cell 4 true 11],false⟩

def l65_0 : VCode := (.seq (sq [oM 7 4,oM 8 0,oN 9 8,oB 10 .lss 7 9] [0,3,4,10] (xt 10 0)) (.seq (.block 1 (.seq (.region [] [oM 14 0,oM 15 4,oK 16 .add 15 1,o 17 (.sl 7 (tv 14) (some (tv 16)) none none),oM 18 0,oM 19 4,oX 20 7 18 19,oF 21 0 20,oL 22 21,cA 23 124 [fa 17,fa 22] 1088,oM 13 23,oE 24 13 0,oE 25 13 1,oa 5 (.new [zi,zi,zs,zi,zi,.nil] []) 1344,oW 6 5 24,oM 6 25] [(3,6),(3,7),(3,8),(3,13),(6,13),(7,13),(8,13),(9,13)] [0,3,4,6]) (.seq (rd [1344] [oM 26 6,oU 27 26] [0,3,4,27]) (cd 27 (rg [oM 28 3,oM 29 0,oM 30 4,oX 31 7 29 30,oG 32 7 31,oa 33 (.mkSl 7 [(tv 32)]) 1984,o 34 (.app 7 88 false (tv 28) (tv 33)),oM 3 34] [0,3,4]) .skip)))) (rd [1344,1984] [oM 11 4,oK 12 .add 11 1,oM 4 12] [0,3,4])))

def v65 : VFun := ⟨1,(sq [o 2 (.mv kn)] [0] (sq [⟨(some 3),(.mv kn),none,128,[(0,7)]⟩] [0,3] (.seq (sq [oJ 4 0] [0,3,4] (lp 0 l65_0)) (sq [oM 35 3,oM 2 35] [2] .ret)))),[.tmp 2],false⟩

def v40 : VFun := ⟨2,(sq [oa 2 (.box (tv 0)) 64,oa 4 (.new zE []) 128] [1,2,4] (.seq (.region [] [oG 5 11 2,cA 6 97 [fa 5] 256,oM 7 1,oa 8 (.app 1 16 true kn (tv 7)) 384,oG 9 11 2,cA 10 32 [fa 9] 512,o 11 (.app 1 16 false (tv 8) (tv 10)),cA 12 96 [fa 6,fa 11,(false,kn),(false,kn)] 640,oW 11 4 12] [(0,4),(1,4),(3,4)] [4]) .ret)),[.cell 4 true 11],false⟩

def v84 : VFun := ⟨2,(sq [oa 2 (.box (tv 0)) 64,oa 3 (.box (tv 1)) 128,o 4 (.mv kF)] [2,3] (.seq (sq [oF 5 0 2,oL 6 5,oF 7 0 3,oL 8 7,oB 9 .neq 6 8,oM 10 9,gF 11 1 2 10 false,gL 12 11 10 false,gF 13 1 3 10 false,gL 14 13 10 false,gB 15 .neq 12 14 10 false,oP 16 10 15,oM 17 16,gF 18 2 2 17 false,gL 19 18 17 false,gF 20 2 3 17 false,gL 21 20 17 false,gB 22 .neq 19 21 17 false,oP 23 17 22,oM 24 23,gF 25 3 2 24 false,gL 26 25 24 false,gF 27 3 3 24 false,gL 28 27 24 false,gB 29 .neq 26 28 24 false,oP 30 24 29] [2,3,30] (cd 30 (sq [o 4 (.mv kF)] [4] .ret) .skip)) (sq [oF 31 4 2,oL 32 31,oF 33 4 3,oL 34 33,cA 35 147 [fa 32,fa 34] 2240,oM 4 35] [4] .ret))),[.tmp 4],false⟩

def l85_0 : VCode := (.seq (sq [oM 11 5,oM 12 0,oN 13 12,oB 14 .lss 11 13] [0,1,5,14] (xt 14 0)) (.seq (.block 1 (.seq (.region [] [oM 17 0,oM 18 5,oX 19 1 17 18,oL 20 19,oM 21 1,oM 22 5,oX 23 1 21 22,oL 24 23,oB 25 .neq 20 24] [(2,6),(3,6),(2,7),(3,7)] [0,1,5,25]) (cd 25 (sq [o 4 (.mv kF)] [4] .ret) .skip))) (rg [oM 15 5,oK 16 .add 15 1,oM 5 16] [0,1,5])))

def v85 : VFun := ⟨2,(sq [o 4 (.mv kF)] [0,1] (.seq (sq [oM 6 0,oN 7 6,oM 8 1,oN 9 8,oB 10 .neq 7 9] [0,1,10] (cd 10 (sq [o 4 (.mv kF)] [4] .ret) .skip)) (.seq (sq [oJ 5 0] [0,1,5] (lp 0 l85_0)) (sq [o 4 (.mv kt)] [4] .ret)))),[.tmp 4],false⟩

def l69_0 : VCode := (.seq (sq [oM 8 4,oF 9 5 1,oL 10 9,oN 11 10,oB 12 .lss 8 11] [1,3,4,12] (xt 12 0)) (.seq (.block 1 (rg [oM 15 3,oF 16 5 1,oL 17 16,oM 18 4,oX 19 14 17 18,oF 20 3 19,oG 21 11 20,oa 22 (.mkSl 11 [(tv 21)]) 1280,o 23 (.app 11 152 false (tv 15) (tv 22)),oM 3 23] [1,3,4])) (rd [1280] [oM 13 4,oK 14 .add 13 1,oM 4 14] [1,3,4])))

def v69 : VFun := ⟨1,(sq [oa 1 (.box (tv 0)) 64,o 2 (.mv kn)] [1] (sq [oF 5 4 1,oL 6 5,oa 7 (.app 11 152 true kn (tv 6)) 320,oM 3 7] [1,3] (.seq (sq [oJ 4 0] [1,3,4] (lp 0 l69_0)) (sq [oM 24 3,oM 2 24] [2] .ret)))),[.tmp 2],true⟩

def l86_0 : VCode := (.seq (sq [oM 11 5,oM 12 0,oN 13 12,oB 14 .lss 11 13] [0,1,5,14] (xt 14 0)) (.seq (.block 1 (.seq (.region [] [oM 17 0,oM 18 5,oX 19 11 17 18,oG 20 11 19,oM 21 1,oM 22 5,oX 23 11 21 22,oG 24 11 23,cA 25 35 [fa 20,fa 24] 1344,oU 26 25] [(2,6),(3,6),(2,7),(3,7)] [0,1,5,26]) (cd 26 (sq [o 4 (.mv kF)] [4] .ret) .skip))) (rg [oM 15 5,oK 16 .add 15 1,oM 5 16] [0,1,5])))

def v86 : VFun := ⟨2,(sq [o 4 (.mv kF)] [0,1] (.seq (sq [oM 6 0,oN 7 6,oM 8 1,oN 9 8,oB 10 .neq 7 9] [0,1,10] (cd 10 (sq [o 4 (.mv kF)] [4] .ret) .skip)) (.seq (sq [oJ 5 0] [0,1,5] (lp 0 l86_0)) (sq [o 4 (.mv kt)] [4] .ret)))),[.tmp 4],false⟩

def l28_0 : VCode := (sq [oB 18 .lss 17 16] [0,5,15,16,17,18] (.seq (xt 18 0) (.seq (.block 1 (sq [oX 19 1 15 17,oL 20 19,oM 7 20] [0,5,7,15,16,17] (sq [oM 22 7,oa 23 (.call (kf 73) [fa 22,(false,(.k (.sc (.c (.str [118])))))] []) 704,oM 21 23,oE 24 21 0,oE 25 21 1,oM 8 24,oM 9 25] [0,5,8,9,15,16,17] (sq [oM 27 8,cA 28 74 [fa 27,(false,(ki 10)),(false,(ki 64))] 1152,oM 26 28,oE 29 26 0,oE 30 26 1,oM 10 29,oM 11 30] [0,5,8,9,10,11,15,16,17] (sq [oM 31 9,oM 32 31,gM 33 11 32 true,og 34 (.bin .eql 5 (tv 33) (.k (.sc (.c .nilif)))) 32 true,oQ 35 32 34,oM 36 35,gM 37 10 36 true,og 38 (.bin .gtr 0 (tv 37) (.k (.sc (.c (.int .u64 0))))) 36 true,oQ 39 36 38,oM 40 39,gM 41 10 40 true,gA 42 75 [fa 41,(false,(ki 10))] 40 true 2240,gM 43 8 40 true,gB 44 .eql 42 43 40 true,oQ 45 40 44] [0,5,10,15,16,17,45] (cd 45 (rg [oM 46 5,oM 47 10,oa 48 (.mkSl 1 [(tv 47)]) 2624,o 49 (.app 1 8 false (tv 46) (tv 48)),oM 5 49] [0,5,15,16,17]) .skip)))))) (rd [1184,1185,1186,2624] [oK 50 .add 17 1,oM 17 50] [0,5,15,16,17]))))

def l28_1 : VCode := (sq [oB 61 .lss 60 59] [12,58,59,60,61] (.seq (xt 61 2) (.seq (.block 3 (sq [oX 62 1 58 60,oL 63 62,oM 14 63] [12,14,58,59,60] (sq [oM 64 14,oM 65 12,oB 66 .leq 64 65] [12,58,59,60,66] (cd 66 (rg [oM 67 12,o 68 (.bin .add 0 (tv 67) (.k (.sc (.c (.int .u64 1))))),oM 12 68] [12,58,59,60]) .skip)))) (rg [oK 69 .add 60 1,oM 60 69] [12,58,59,60]))))

def v28 : VFun := ⟨2,(sq [o 4 (.mv (.k (.sc zs)))] [0,1] (sq [⟨(some 5),(.mv kn),none,128,[(0,1)]⟩] [0,1,5] (.seq (sq [oM 15 1,oN 16 15,oJ 17 0] [0,5,15,16,17] (lp 0 l28_0)) (sq [oM 51 5,cA 52 76 [ta 51] 3008] [0,5] (sq [oM 53 0,o 54 (.mx (tv 53) (ki 0)),o 55 (.cvI .u64 (tv 54)),o 56 (.bin .add 0 (tv 55) (.k (.sc (.c (.int .u64 1))))),oM 12 56] [5,12] (.seq (sq [oM 57 5,cA 58 77 [ta 57] 3456,oN 59 58,oJ 60 0] [12,58,59,60] (lp 2 l28_1)) (sq [oM 70 12,cA 71 75 [fa 70,(false,(ki 10))] 4480,o 72 (.bin .add 0 (.k (.sc (.c (.str [118])))) (tv 71)),oM 4 72] [4] .ret))))))),[.tmp 4],false⟩

def l29_0 : VCode := (.seq (.block 1 (sq [oM 11 5,cA 12 26 [fa 11] 448,o 13 (.bin .add 0 (.k (.sc (.c (.str [118])))) (tv 12)),oM 6 13] [0,1,5,6] (.seq (sq [oM 14 1,oM 15 6,cA 16 78 [fa 14,fa 15] 768] [0,1,5,6,16] (cd 16 (.exit 1) .skip)) (.seq (sq [oM 17 0,oK 18 .eql 17 0] [0,1,5,6,18] (cd 18 (sq [oM 19 6,oM 4 19] [4] .ret) .skip)) (rg [oM 20 0,oK 21 .sub 20 1,oM 0 21] [0,1,5]))))) (rg [oM 9 5,oK 10 .add 9 1,oM 5 10] [0,1,5]))

def v29 : VFun := ⟨2,(sq [o 4 (.mv (.k (.sc zs)))] [0,1] (sq [oM 7 0,o 8 (.mx (tv 7) (ki 0)),oM 0 8] [0,1] (sq [oJ 5 1] [0,1,5] (lp 0 l29_0)))),[.tmp 4],false⟩

def v100 : VFun := ⟨2,(sq [oa 4 (.new [zi,zs,zi,zi,.nil] []) 64] [0,1,4] (sq [oM 5 0,oM 6 1,oa 7 (.appN 5 64 (tv 6)) 256,o 8 (.build [zi,zs,zi,zi,.nil] [(0,1,(ki 4)),(1,1,(tv 5)),(4,1,(tv 7))]),oW 5 4 8] [4] .ret)),[.cell 4 true 5],false⟩

def v54 : VFun := ⟨6,(sq [oa 7 (.box (tv 1)) 64,oa 8 (.box (tv 2)) 128,oJ 10 0] [0,3,4,5,7,8] (.seq (.region [] [oL 11 4,oL 12 5,oM 13 0,oG 14 11 7,cA 15 56 [fa 11,fa 12,fa 13,fa 14] 512,oL 16 4,oL 17 5,oM 18 3,oG 19 11 8,cA 20 56 [fa 16,fa 17,fa 18,fa 19] 832,cA 21 55 [fa 15,fa 20] 896,oM 10 21] [(0,1),(0,3),(1,3),(0,5),(1,5),(3,5),(4,5),(0,6),(1,6),(3,6),(4,6),(5,6),(0,8),(1,8),(3,8),(4,8),(5,8),(6,8)] [10]) .ret)),[.tmp 10],false⟩

def l57_0 : VCode := (sq [oB 18 .lss 17 16] [0,1,2,3,4,16,17,18] (.seq (xt 18 0) (.seq (.block 1 (sq [oM 19 17,oM 10 19] [0,1,2,3,4,10,16,17] (.seq (.region [] [oL 20 4,oM 21 0,oM 22 1,oM 23 2,oM 24 10,oX 25 11 23 24,oG 26 11 25,oM 27 3,oM 28 10,oX 29 11 27 28,oG 30 11 29,oa 31 (.call (tv 20) [fa 21,fa 22,fa 26,fa 30] []) 1408,oM 11 31] [(0,5),(0,6),(0,9),(5,9),(6,9),(0,10),(5,10),(6,10)] [0,1,2,3,4,11,16,17]) (sq [oM 32 11,oK 33 .neq 32 0] [0,1,2,3,4,11,16,17,33] (cd 33 (sq [oM 34 11,oM 9 34] [9] .ret) .skip))))) (rd [1440,1441,1442] [oK 35 .add 17 1,oM 17 35] [0,1,2,3,4,16,17]))))

def v57 : VFun := ⟨5,(sq [oJ 9 0] [0,1,2,3,4] (.seq (sq [oM 12 2,oN 13 12,oM 14 3,oN 15 14,o 16 (.mn (tv 13) (tv 15)),oJ 17 0] [0,1,2,3,4,16,17] (lp 0 l57_0)) (sq [oJ 9 0] [9] .ret))),[.tmp 9],false⟩

def l58_0 : VCode := (sq [oB 117 .lss 116 115] [0,1,4,5,9,10,115,116,117] (.seq (xt 117 1) (.seq (.block 2 (sq [oM 118 116,oM 18 118] [0,1,4,5,9,10,18,115,116] (.seq (.region [] [oF 119 5 9,oL 120 119,oM 121 18,oX 122 14 120 121,oG 123 14 122,oF 124 5 10,oL 125 124,oM 126 18,oX 127 14 125 126,oG 128 14 127,oa 19 (.new [zi,zs,.nil,zi,zi,zs,zi,.nil,.nil,zi,zs,zi,zi,.nil] []) 7936,oa 20 (.new [zi,zs,.nil,zi,zi,zs,zi,.nil,.nil,zi,zs,zi,zi,.nil] []) 8000,oW 14 19 123,oW 14 20 128] [(0,5),(1,5),(3,5),(4,5),(0,6),(1,6),(3,6),(4,6),(0,8),(1,8),(3,8),(4,8),(0,9),(1,9),(3,9),(4,9),(0,10),(1,10),(3,10),(4,10),(5,10),(6,10),(8,10),(9,10),(0,11),(1,11),(3,11),(4,11),(5,11),(6,11),(8,11),(9,11),(10,11),(5,12),(6,12),(8,12),(9,12)] [0,1,4,5,9,10,18,19,20,115,116]) (sq [oJ 21 0] [0,1,4,5,9,10,18,19,20,21,115,116] (.seq (sq [oM 129 18,oK 130 .eql 129 0] [0,1,4,5,9,10,19,20,21,115,116,130] (cd 130 (rg [oL 131 5,oM 132 0,oF 133 1 19,oL 134 133,o 135 (.build zE [(0,1,(ki 2)),(2,1,(tv 134))]),oF 136 1 20,oL 137 136,o 138 (.build zE [(0,1,(ki 2)),(2,1,(tv 137))]),oM 139 1,oa 140 (.call (tv 131) [fa 132,fa 135,fa 138,fa 139] []) 8960,oM 21 140] [0,1,4,5,9,10,19,20,21,115,116]) .skip)) (.seq (sq [oM 141 21,oK 142 .eql 141 0] [0,1,4,5,9,10,19,20,21,115,116,142] (cd 142 (.region [] [oL 143 4,oM 144 0,cA 145 61 [fa 144] 9344,oF 146 2 19,oL 147 146,oa 148 (.appF 1 16 (tv 145) (tv 147)) 9536,oM 149 1,cA 150 61 [fa 149] 9664,oF 151 2 20,oL 152 151,oa 153 (.appF 1 16 (tv 150) (tv 152)) 9856,oF 154 3 19,oG 155 11 154,oF 156 3 20,oG 157 11 156,oa 158 (.call (tv 143) [fa 148,fa 153,fa 155,fa 157] []) 10176,oM 21 158] [(0,2),(0,3),(2,3),(0,4),(2,4),(0,5),(0,7),(0,8),(2,8),(3,8),(4,8),(5,8),(7,8),(0,9),(2,9),(3,9),(4,9),(5,9),(7,9),(0,10),(0,11),(2,11),(3,11),(4,11),(5,11),(7,11),(8,11),(9,11),(10,11),(0,12),(2,12),(3,12),(4,12),(5,12),(7,12),(8,12),(9,12),(10,12),(0,13),(2,13),(3,13),(4,13),(5,13),(7,13),(8,13),(9,13),(10,13),(11,13),(12,13),(0,14),(2,14),(3,14),(4,14),(5,14),(7,14),(8,14),(9,14),(10,14),(11,14),(12,14)] [0,1,4,5,9,10,21,115,116]) .skip)) (.seq (rd [7936,8000] [oM 159 21,oK 160 .neq 159 0] [0,1,4,5,9,10,21,115,116,160]) (cd 160 (sq [oM 161 21,oM 11 161] [11] .ret) .skip)))))))) (rd [7936,8000,8992,8993,8994,9536,9856,10208,10209,10210] [oK 162 .add 116 1,oM 116 162] [0,1,4,5,9,10,115,116]))))

def v58 : VFun := ⟨7,(sq [oa 9 (.box (tv 2)) 64,oa 10 (.box (tv 3)) 128,oJ 11 0] [0,1,4,5,6,9,10] (.seq (.seq (.region [] [oG 22 11 9,cA 23 41 [fa 22] 320,oG 24 11 10,cA 25 41 [fa 24] 448,cA 26 55 [fa 23,fa 25] 512,oG 27 11 9,cA 28 60 [fa 27] 640,oG 29 11 10,cA 30 60 [fa 29] 768,cA 31 55 [fa 28,fa 30] 832,oa 32 (.mkSl 1 [(tv 26),(tv 31)]) 896,cA 33 59 [fa 32] 960,oM 12 33] [(0,2),(1,2),(0,5),(1,5),(2,5),(3,5),(4,5),(0,7),(1,7),(2,7),(3,7),(4,7),(5,7),(6,7)] [0,1,4,5,6,9,10,12]) (.seq (rd [896] [oM 34 12,oK 35 .neq 34 0] [0,1,4,5,6,9,10,12,35]) (cd 35 (sq [oM 36 12,oM 11 36] [11] .ret) .skip))) (.seq (sq [oG 37 11 9,cA 38 60 [fa 37] 1408] [0,1,4,5,6,9,10,38] (.block 0 (sq [oK 40 .eql 38 0,oM 39 40] [0,1,4,5,6,9,10,38,39] (cd 39 (.seq (.region [] [oL 41 4,oM 42 0,cA 43 61 [fa 42] 1728,oF 44 2 9,oL 45 44,oa 46 (.mkSl 1 [(tv 45)]) 1920,oa 47 (.app 1 16 true (tv 43) (tv 46)) 1984,oM 48 1,cA 49 61 [fa 48] 2112,oF 50 2 10,oL 51 50,oa 52 (.mkSl 1 [(tv 51)]) 2304,oa 53 (.app 1 16 true (tv 49) (tv 52)) 2368,oF 54 4 9,oL 55 54,o 56 (.idxA 11 (tv 55) (ki 0)),oG 57 11 56,oF 58 4 10,oL 59 58,o 60 (.idxA 11 (tv 59) (ki 0)),oG 61 11 60,oa 62 (.call (tv 41) [fa 47,fa 53,fa 57,fa 61] []) 2944,oM 11 62] [(0,2),(0,3),(2,3),(0,4),(2,4),(0,5),(2,5),(0,6),(0,8),(0,9),(2,9),(3,9),(4,9),(5,9),(6,9),(8,9),(0,10),(2,10),(3,10),(4,10),(5,10),(6,10),(8,10),(0,11),(2,11),(3,11),(4,11),(5,11),(6,11),(8,11),(0,12),(0,13),(2,13),(3,13),(4,13),(5,13),(6,13),(8,13),(9,13),(10,13),(11,13),(12,13),(0,14),(2,14),(3,14),(4,14),(5,14),(6,14),(8,14),(9,14),(10,14),(11,14),(12,14),(0,15),(2,15),(3,15),(4,15),(5,15),(6,15),(8,15),(9,15),(10,15),(11,15),(12,15),(0,16),(2,16),(3,16),(4,16),(5,16),(6,16),(8,16),(9,16),(10,16),(11,16),(12,16),(0,17),(2,17),(3,17),(4,17),(5,17),(6,17),(8,17),(9,17),(10,17),(11,17),(12,17),(13,17),(14,17),(15,17),(16,17),(0,18),(2,18),(3,18),(4,18),(5,18),(6,18),(8,18),(9,18),(10,18),(11,18),(12,18),(13,18),(14,18),(15,18),(16,18),(0,19),(2,19),(3,19),(4,19),(5,19),(6,19),(8,19),(9,19),(10,19),(11,19),(12,19),(13,19),(14,19),(15,19),(16,19),(0,20),(2,20),(3,20),(4,20),(5,20),(6,20),(8,20),(9,20),(10,20),(11,20),(12,20),(13,20),(14,20),(15,20),(16,20)] [11]) .ret) (sq [oK 64 .eql 38 1,oM 63 64] [0,1,4,5,6,9,10,63] (cd 63 (sq [oG 66 11 9,cA 67 62 [fa 66] 3264,oM 65 67,oE 68 65 0,oE 69 65 1,oa 13 (.new zE []) 3520,oW 11 13 68,oM 14 69] [0,1,5,6,10,13,14] (.seq (rd [64] [oG 71 11 10,cA 72 62 [fa 71] 3776,oM 70 72,oE 73 70 0,oE 74 70 1,oa 15 (.new zE []) 4032,oW 11 15 73,oM 16 74] [0,1,5,6,13,14,15,16]) (.seq (.region [128] [oL 75 5,oM 76 0,oG 77 11 13,oG 78 11 15,oM 79 1,oa 80 (.call (tv 75) [fa 76,fa 77,fa 78,fa 79] []) 4544,oM 81 14,oN 82 81,oM 83 16,oN 84 83,cA 85 55 [fa 82,fa 84] 4864,oL 86 6,oM 87 0,oM 88 1,oM 89 14,oM 90 16,oa 91 (.call (tv 86) [fa 87,fa 88,fa 89,fa 90] []) 5248,oa 92 (.mkSl 1 [(tv 80),(tv 85),(tv 91)]) 5312,cA 93 59 [fa 92] 5376,oM 11 93] [(0,2),(0,3),(2,3),(0,7),(2,7),(3,7),(5,7),(0,9),(2,9),(3,9),(5,9),(7,9),(0,11),(2,11),(3,11),(5,11),(7,11),(9,11),(10,11)] [11]) .ret))) .skip)))))) (.seq (.seq (.region [] [oL 94 5,oM 95 0,oF 96 4 9,oL 97 96,o 98 (.idxA 11 (tv 97) (ki 0)),oG 99 11 98,oF 100 4 10,oL 101 100,o 102 (.idxA 11 (tv 101) (ki 0)),oG 103 11 102,oM 104 1,oa 105 (.call (tv 94) [fa 95,fa 99,fa 103,fa 104] []) 6208,oM 17 105] [(0,2),(0,3),(0,4),(0,5),(0,6),(2,6),(3,6),(4,6),(5,6),(0,7),(2,7),(3,7),(4,7),(5,7),(0,8),(2,8),(3,8),(4,8),(5,8),(0,9),(2,9),(3,9),(4,9),(5,9)] [0,1,4,5,9,10,17]) (sq [oM 106 17,oK 107 .neq 106 0] [0,1,4,5,9,10,17,107] (cd 107 (sq [oM 108 17,oM 11 108] [11] .ret) .skip))) (.seq (sq [oF 109 5 9,oL 110 109,oN 111 110,oF 112 5 10,oL 113 112,oN 114 113,o 115 (.mn (tv 111) (tv 114)),oJ 116 0] [0,1,4,5,9,10,115,116] (lp 1 l58_0)) (sq [oF 163 5 9,oL 164 163,oN 165 164,oF 166 5 10,oL 167 166,oN 168 167,cA 169 55 [fa 165,fa 168] 11072,oM 11 169] [11] .ret)))))),[.tmp 11],false⟩

def l63_0 : VCode := (sq [oB 130 .lss 129 128] [1,127,128,129,130] (.seq (xt 130 2) (.seq (.block 3 (sq [oX 131 14 127 129,oG 132 14 131,oa 6 (.new [zi,zs,.nil,zi,zi,zs,zi,.nil,.nil,zi,zs,zi,zi,.nil] []) 9536,oW 14 6 132] [1,6,127,128,129] (sq [oF 133 0 6,oL 134 133,oK 135 .lss 134 0,oM 136 135,gF 137 1 6 136 false,gL 138 137 136 false,gA 139 110 [fa 138] 136 false 10048,gU 140 139 136 false,oP 141 136 140,oM 142 141,gF 143 2 6 142 false,gL 144 143 142 false,gN 145 144 142 false,og 146 (.bin .gtr 0 (tv 145) (ki 4)) 142 false,oP 147 142 146,oM 148 147,gF 149 2 6 148 false,gL 150 149 148 false,gA 151 115 [fa 150,(true,(kf 116))] 148 false 10816,oP 152 148 151] [1,127,128,129,152] (cd 152 (.seq (rd [9536] [o 2 (.mv kF)] [2]) .ret) .skip)))) (rd [9536] [oK 153 .add 129 1,oM 129 153] [1,127,128,129]))))

def v63 : VFun := ⟨1,(sq [oa 1 (.box (tv 0)) 64,o 2 (.mv kF)] [1] (sq [o 3 (.mv kF),oJ 4 0] [1,3,4] (.seq (sq [oF 7 0 1,oL 8 7] [1,3,4,8] (.block 0 (.seq (sq [oK 10 .eql 8 1,oM 9 10] [1,3,4,8,9] (cd 9 .skip (rg [oK 11 .eql 8 2,oM 9 11] [1,3,4,8,9]))) (cd 9 (rg [o 3 (.mv kt)] [1,3,4]) (.seq (sq [oK 13 .eql 8 3,oM 12 13] [1,3,4,8,12] (cd 12 .skip (rg [oK 14 .eql 8 10,oM 12 14] [1,3,4,8,12]))) (cd 12 .skip (sq [oK 16 .eql 8 4,oM 15 16] [1,3,8,15] (cd 15 (rg [o 3 (.mv kt),oJ 4 1] [1,3,4]) (sq [oK 18 .eql 8 5,oM 17 18] [1,3,8,17] (cd 17 (rg [oJ 4 2] [1,3,4]) (.seq (sq [oK 20 .eql 8 6,oM 19 20] [1,3,8,19] (cd 19 .skip (rg [oK 21 .eql 8 7,oM 19 21] [1,3,8,19]))) (cd 19 (rg [o 3 (.mv kt),oJ 4 2] [1,3,4]) (.seq (sq [oK 23 .eql 8 8,oM 22 23] [1,3,8,22] (cd 22 .skip (sq [oK 24 .eql 8 9,oM 22 24] [1,3,8,22] (cd 22 .skip (rg [oK 25 .eql 8 11,oM 22 25] [1,3,22]))))) (cd 22 (rg [oJ 4 1] [1,3,4]) (sq [o 2 (.mv kF)] [2] .ret))))))))))))))) (.seq (.block 1 (sq [oF 27 1 1,oL 28 27,oK 29 .lss 28 0,oM 30 29,gF 31 4 1 30 false,gL 32 31 30 false,gN 33 32 30 false,gM 34 4 30 false,gB 35 .neq 33 34 30 false,oP 36 30 35,oM 37 36,gF 38 5 1 37 false,gL 39 38 37 false,gN 40 39 37 false,og 41 (.bin .gtr 0 (tv 40) (ki 0)) 37 false,gF 42 0 1 37 false,gL 43 42 37 false,og 44 (.bin .eql 0 (tv 43) (ki 8)) 37 false,og 45 (.bin .neq 1 (tv 41) (tv 44)) 37 false,oP 46 37 45,oM 26 46] [1,3,26] (cd 26 (sq [o 2 (.mv kF)] [2] .ret) (sq [oF 48 3 1,oL 49 48,oK 50 .lss 49 0,oM 51 50,gF 52 3 1 51 false,gL 53 52 51 false,og 54 (.bin .gtr 0 (tv 53) (ki 999999999)) 51 false,oP 55 51 54,oM 56 55,gF 57 3 1 56 false,gL 58 57 56 false,og 59 (.bin .neq 0 (tv 58) (ki 0)) 56 false,gM 60 59 56 false,gF 61 0 1 60 true,gL 62 61 60 true,og 63 (.bin .neq 0 (tv 62) (ki 3)) 60 true,og 64 (.pick (tv 60) (tv 63) kF) 56 false,oP 65 56 64,oM 47 65] [1,3,47] (cd 47 (sq [o 2 (.mv kF)] [2] .ret) (sq [oM 67 3,oU 68 67,oM 69 68,gF 70 2 1 69 true,gL 71 70 69 true,og 72 (.bin .neq 0 (tv 71) (.k (.sc zs))) 69 true,oQ 73 69 72,oM 74 73,gF 75 0 1 74 false,gL 76 75 74 false,og 77 (.bin .eql 0 (tv 76) (ki 2)) 74 false,gM 78 77 74 false,gF 79 2 1 78 true,gL 80 79 78 true,gA 81 110 [fa 80] 78 true 5952,gU 82 81 78 true,og 83 (.pick (tv 78) (tv 82) kF) 74 false,oP 84 74 83,oM 85 84,gM 86 3 85 false,gM 87 86 85 false,gF 88 0 1 87 true,gL 89 88 87 true,og 90 (.bin .neq 0 (tv 89) (ki 2)) 87 true,og 91 (.pick (tv 87) (tv 90) kF) 85 false,gM 92 91 85 false,gF 93 2 1 92 true,gL 94 93 92 true,gA 95 111 [fa 94] 92 true 6848,gU 96 95 92 true,og 97 (.pick (tv 92) (tv 96) kF) 85 false,oP 98 85 97,oM 66 98] [1,66] (cd 66 (sq [o 2 (.mv kF)] [2] .ret) (sq [oF 100 0 1,oL 101 100,oK 102 .eql 101 9,oM 103 102,gF 104 6 1 103 true,gG 105 5 104 103 true,gA 106 112 [fa 105] 103 true 7616,gU 107 106 103 true,gM 108 107 103 true,gF 109 6 1 108 false,gG 110 5 109 108 false,gA 111 113 [fa 110] 108 false 7936,gU 112 111 108 false,og 113 (.pick (tv 108) kt (tv 112)) 103 true,oQ 114 103 113,oM 99 114] [1,99] (cd 99 (sq [o 2 (.mv kF)] [2] .ret) (sq [oF 116 0 1,oL 117 116,oK 118 .neq 117 9,oM 119 118,gF 120 6 1 119 true,gG 121 5 120 119 true,og 122 (.build [zi,zs,zi,zi,.nil] []) 119 true,gA 123 114 [fa 121,fa 122] 119 true 8768,gU 124 123 119 true,oQ 125 119 124,oM 115 125] [1,115] (cd 115 (sq [o 2 (.mv kF)] [2] .ret) .skip))))))))))) (.seq (sq [oF 126 5 1,oL 127 126,oN 128 127,oJ 129 0] [1,127,128,129] (lp 2 l63_0)) (sq [oG 154 11 1,cA 155 79 [fa 154] 11200,cA 156 117 [fa 155,(true,(kf 118))] 11264,oU 157 156,oM 2 157] [2] .ret)))))),[.tmp 2],false⟩

def v71 : VFun := ⟨0,(sq [o 0 (.mv kn)] [1000000] (sq [oa 4 (.call (kf 129) [(false,(.k (.sc (.c (.str [100,97,116,97,32,66,111,111,108,32,61,32,84,114,117,101,32,124,32,70,97,108,115,101,59,32,100,97,116,97,32,79,112,116,105,111,110,32,97,32,61,32,78,111,110,101,32,124,32,83,111,109,101,32,97,59,32,100,97,116,97,32,76,105,115,116,32,97,32,61,32,78,105,108,32,124,32,67,111,110,115,32,97,32,40,76,105,115,116,32,97,41,59,100,97,116,97,32,80,97,105,114,32,97,32,98,32,61,32,80,97,105,114,32,97,32,98,59,32,100,97,116,97,32,78,97,116,32,61,32,90,101,114,111,32,124,32,83,117,99,99,32,78,97,116,59,32,100,97,116,97,32,70,117,110,32,97,32,98,32,61,32,70,117,110,32,40,97,32,45,62,32,98,41,59,32,100,97,116,97,32,84,119,111,32,97,32,61,32,66,111,116,104,32,97,32,97,32,124,32,79,110,101,32,40,79,112,116,105,111,110,32,97,41,59])))))] []) 128,oM 3 4,oE 5 3 0,oE 6 3 1,oa 1 (.new [.nil,.nil] []) 384,oa 2 (.new [zi,zi] []) 448,oW 2 1 5,oW 2 2 6] [1] (.seq (rd [448] [oF 7 0 1,oL 8 7,oM 0 8] [0]) .ret))),[.tmp 0],false⟩

def v101 : VFun := ⟨2,(sq [oa 4 (.new [zi,zs,zi,zi,.nil] []) 64] [0,1,4] (sq [oM 5 0,oM 6 1,o 7 (.build [zi,zs,zi,zi,.nil] [(0,1,(ki 3)),(3,1,(tv 5)),(2,1,(tv 6))]),oW 5 4 7] [4] .ret)),[.cell 4 true 5],false⟩

def v34 : VFun := ⟨1,(sq [o 2 (.mv (.k (.sc zs)))] [0] (sq [oa 3 (.mkSl 1 [(.k (.sc (.c (.str [120])))),(.k (.sc (.c (.str [121])))),(.k (.sc (.c (.str [122])))),(.k (.sc (.c (.str [102])))),(.k (.sc (.c (.str [103])))),(.k (.sc (.c (.str [118,49])))),(.k (.sc (.c (.str [118,50])))),(.k (.sc (.c (.str [105,100]))))]) 128,oM 4 0,cA 5 53 [ta 4,(false,(ki 8))] 256,oX 6 1 3 5,oL 7 6,oM 2 7] [2] .ret)),[.tmp 2],false⟩

def l103_0 : VCode := (.seq (sq [oM 5 4,oM 6 0,oB 7 .lss 5 6] [0,3,4,7] (xt 7 0)) (.seq (.block 1 (rg [oM 10 3,oM 11 4,cA 12 155 [fa 11] 576,oa 13 (.mkSl 5 [(tv 12)]) 640,o 14 (.app 5 64 false (tv 10) (tv 13)),oM 3 14] [0,3,4])) (rd [640] [oM 8 4,oK 9 .add 8 1,oM 4 9] [0,3,4])))

def v103 : VFun := ⟨1,(sq [o 2 (.mv kn)] [0] (sq [⟨(some 3),(.mv kn),none,128,[(0,5)]⟩] [0,3] (.seq (sq [oJ 4 0] [0,3,4] (lp 0 l103_0)) (sq [oM 15 3,oM 2 15] [2] .ret)))),[.tmp 2],false⟩

def l70_0 : VCode := (.seq (sq [oM 61 12,oF 62 2 10,oL 63 62,oN 64 63,oB 65 .lss 61 64] [0,1,2,3,8,10,11,12,65] (xt 65 1)) (.seq (.block 2 (rg [oM 68 11,oM 69 0,oM 70 1,oM 71 2,oM 72 3,oK 73 .sub 72 1,cA 74 70 [ta 69,fa 70,fa 71,fa 73] 4352,oa 75 (.mkSl 5 [(tv 74)]) 4416,o 76 (.app 5 64 false (tv 68) (tv 75)),oM 11 76] [0,1,2,3,8,10,11,12])) (rd [4416] [oM 66 12,oK 67 .add 66 1,oM 12 67] [0,1,2,3,8,10,11,12])))

def v70 : VFun := ⟨4,(sq [oa 8 (.new [zi,zs,zi,zi,.nil] []) 64] [0,1,2,3,8] (sq [oM 14 0,cA 15 53 [ta 14,(false,(ki 7))] 192,oM 9 15] [0,1,2,3,8,9] (.seq (.block 0 (sq [oM 17 9,oK 18 .lss 17 3,oM 19 18,gM 20 2 19 true,gN 21 20 19 true,og 22 (.bin .gtr 0 (tv 21) (ki 0)) 19 true,oQ 23 19 22,oM 16 23] [0,1,2,3,8,9,16] (cd 16 (sq [oM 24 2,oM 25 0,oM 26 2,oN 27 26,cA 28 53 [ta 25,fa 27] 1088,oX 29 5 24 28,oG 30 5 29,oW 5 8 30] [8] .ret) (sq [oM 32 9,oK 33 .lss 32 4,oM 34 33,gM 35 3 34 false,og 36 (.bin .lss 0 (tv 35) (ki 1)) 34 false,oP 37 34 36,oM 31 37] [0,1,2,3,8,9,31] (cd 31 (sq [cA 38 47 [] 1792,oW 5 8 38] [8] .ret) (.seq (sq [oM 40 9,oK 41 .eql 40 4,oM 42 41,gM 43 1 42 true,gN 44 43 42 true,og 45 (.bin .gtr 0 (tv 44) (ki 0)) 42 true,oQ 46 42 45,oM 39 46] [0,1,2,3,8,9,39] (cd 39 .skip (rg [oM 47 9,oK 48 .eql 47 5,oM 49 48,gM 50 1 49 true,gN 51 50 49 true,og 52 (.bin .gtr 0 (tv 51) (ki 0)) 49 true,oQ 53 49 52,oM 39 53] [0,1,2,3,8,39]))) (cd 39 (sq [oM 54 1,oM 55 0,oM 56 1,oN 57 56,cA 58 53 [ta 55,fa 57] 3200,oX 59 4 54 58,oG 60 4 59,oa 10 (.new [zi,zs,.nil,.nil] []) 3392,oW 4 10 60] [0,1,2,3,8,10] (sq [⟨(some 11),(.mv kn),none,3520,[(0,5)]⟩] [0,1,2,3,8,10,11] (.seq (sq [oJ 12 0] [0,1,2,3,8,10,11,12] (lp 1 l70_0)) (sq [oF 77 1 10,oL 78 77,oM 79 11,cA 80 100 [fa 78,fa 79] 4992,oW 5 8 80] [8] .ret)))) .skip))))))) (sq [oM 81 0,oM 82 1,oM 83 2,oM 84 3,oK 85 .sub 84 1,cA 86 70 [ta 81,fa 82,fa 83,fa 85] 5440,oa 13 (.new [zi,zs,zi,zi,.nil] []) 5504,oW 5 13 86] [0,1,2,3,8,13] (.seq (.region [] [oG 87 5 13,oM 88 0,oM 89 1,oM 90 2,oM 91 3,oK 92 .sub 91 1,cA 93 70 [ta 88,fa 89,fa 90,fa 92] 6016,cA 94 128 [fa 87,fa 93] 6080,oW 5 8 94] [(0,6)] [8]) .ret))))),[.cell 8 true 5],false⟩

def l102_0 : VCode := (.seq (sq [oM 11 7,oM 12 5,oN 13 12,oB 14 .lss 11 13] [1,2,4,5,6,7,14] (xt 14 0)) (.seq (.block 1 (sq [oM 17 1,oM 18 5,oM 19 7,oX 20 1 18 19,oL 21 20,cA 22 152 [fa 17,fa 21] 1152] [1,2,4,5,6,7,22] (cd 22 (.region [] [oM 23 6,oM 24 5,oM 25 7,oX 26 1 24 25,oL 27 26,oM 28 6,oN 29 28,cA 30 153 [fa 29] 1664,o 31 (.build [zi,zi,zs,zi,zi,.nil] [(0,1,(tv 27)),(1,5,(tv 30))]),oa 32 (.mkSl 6 [(tv 31)]) 1792,o 33 (.app 6 72 false (tv 23) (tv 32)),oM 6 33] [(3,6),(4,6),(3,7),(4,7)] [1,2,4,5,6,7]) .skip))) (rd [1792] [oM 15 7,oK 16 .add 15 1,oM 7 16] [1,2,4,5,6,7])))

def v102 : VFun := ⟨2,(sq [oa 2 (.box (tv 0)) 64,oa 4 (.new [zi,zi,zs,zi,zi,.nil] []) 128] [1,2,4] (sq [oG 8 5 2,oa 9 (.mkSl 5 [(tv 8)]) 256,cA 10 151 [fa 9] 320,oM 5 10] [1,2,4,5] (.seq (rd [256] [⟨(some 6),(.mv kn),none,448,[(0,6)]⟩] [1,2,4,5,6]) (.seq (sq [oJ 7 0] [1,2,4,5,6,7] (lp 0 l102_0)) (sq [oM 34 6,oN 35 34,oG 36 5 2,oM 37 6,cA 38 154 [fa 36,fa 37] 2432,o 39 (.build [zi,zi,zs,zi,zi,.nil] [(0,1,(tv 35)),(1,5,(tv 38))]),oW 6 4 39] [4] .ret))))),[.cell 4 true 6],false⟩

def v104 : VFun := ⟨3,(sq [oa 5 (.box (tv 2)) 64,o 6 (.mv kn)] [0,1,5] (.seq (.region [] [oM 7 0,oa 8 (.app 7 88 true kn (tv 7)) 256,oM 9 1,oG 10 6 5,o 11 (.build [zs,zi,zi,zs,zi,zi,.nil] [(0,1,(tv 9)),(1,6,(tv 10))]),oa 12 (.mkSl 7 [(tv 11)]) 512,o 13 (.app 7 88 false (tv 8) (tv 12)),oM 6 13] [(1,3),(1,5)] [6]) .ret)),[.tmp 6],false⟩

def l109_0 : VCode := (.seq (sq [oM 7 2,oM 8 3,oB 9 .lss 7 8] [0,2,3,9] (xt 9 0)) (.seq (.block 1 (.region [] [oM 14 0,oM 15 2,oM 16 0,oM 17 3,oM 18 0,oM 19 3,oX 20 11 18 19,oG 21 11 20,oM 22 0,oM 23 2,oX 24 11 22 23,oG 25 11 24,oX 26 11 14 15,oW 11 26 21,oX 27 11 16 17,oW 11 27 25] [(6,10),(7,10),(6,11),(7,11)] [0,2,3])) (rg [oM 10 2,oK 11 .add 10 1,oM 12 3,oK 13 .sub 12 1,oM 2 11,oM 3 13] [0,2,3])))

def v109 : VFun := ⟨1,(sq [oM 4 0,oN 5 4,oK 6 .sub 5 1,oJ 2 0,oM 3 6] [0,2,3] (lp 0 l109_0)),[],false⟩

def l150_0 : VCode := (sq [oB 9 .lss 8 7] [0,3,6,7,8,9] (.seq (xt 9 0) (.seq (.block 1 (sq [oM 10 8,oX 11 7 6 8,oG 12 7 11,oa 5 (.new [zs,zi,zi,zs,zi,zi,.nil] []) 640,oM 4 10,oW 7 5 12] [0,3,4,5,6,7,8] (sq [oM 13 0,oM 14 4,oK 15 .add 14 1,o 16 (.sl 7 (tv 13) (some (tv 15)) none none),o 17 (.fn 212 [(tv 5)]),cA 18 211 [fa 16,ta 17] 1152,oU 19 18] [0,3,5,6,7,8,19] (cd 19 (rg [oM 20 3,oG 21 7 5,oa 22 (.mkSl 7 [(tv 21)]) 1408,o 23 (.app 7 88 false (tv 20) (tv 22)),oM 3 23] [0,3,6,7,8]) .skip)))) (rd [640,1408] [oK 24 .add 8 1,oM 8 24] [0,3,6,7,8]))))

def v150 : VFun := ⟨1,(sq [o 2 (.mv kn)] [0] (sq [⟨(some 3),(.mv kn),none,128,[(0,7)]⟩] [0,3] (.seq (sq [oM 6 0,oN 7 6,oJ 8 0] [0,3,6,7,8] (lp 0 l150_0)) (sq [oM 25 3,oM 2 25] [2] .ret)))),[.tmp 2],false⟩

def l94_0 : VCode := (sq [oB 12 .lss 11 10] [1,2,3,9,10,11,12] (.seq (xt 12 0) (.seq (.block 1 (sq [oM 13 11,oX 14 11 9 11,oG 15 11 14,oa 5 (.new zE []) 832,oM 4 13,oW 11 5 15] [1,2,3,4,5,9,10,11] (rg [oM 16 3,oM 17 4,oG 18 11 5,cA 19 94 [fa 18] 1216,oX 20 11 16 17,oW 11 20 19] [1,2,3,9,10,11]))) (rd [832] [oK 21 .add 11 1,oM 11 21] [1,2,3,9,10,11]))))

def l94_1 : VCode := (sq [oB 30 .lss 29 28] [1,2,28,29,30] (.seq (xt 30 2) (.seq (.block 3 (sq [oM 31 29,oM 6 31] [1,2,6,28,29] (rg [oF 32 5 1,oL 33 32,oM 34 6,oX 35 14 33 34,oF 36 0 35,on (.store 1 (tv 36) (ki 0) [])] [1,2,28,29]))) (rg [oK 37 .add 29 1,oM 29 37] [1,2,28,29]))))

def v94 : VFun := ⟨1,(sq [oa 1 (.box (tv 0)) 64,oa 2 (.new zE []) 128] [1,2] (sq [oG 7 11 1,cA 8 79 [fa 7] 256,oM 3 8] [1,2,3] (.seq (sq [oM 9 3,oN 10 9,oJ 11 0] [1,2,3,9,10,11] (lp 0 l94_0)) (sq [oG 22 11 1,oM 23 3,cA 24 146 [fa 22,fa 23] 1664,oW 11 1 24] [1,2] (sq [oF 25 1 1,on (.store 1 (tv 25) (ki 0) [])] [1,2] (.seq (sq [oF 26 5 1,oL 27 26,oN 28 27,oJ 29 0] [1,2,28,29] (lp 2 l94_1)) (sq [oG 38 11 1,oW 11 2 38] [2] .ret))))))),[.cell 2 true 11],false⟩

def l30_0 : VCode := (sq [oB 30 .lss 29 28] [1,3,6,16,17,18,27,28,29,30] (.seq (xt 30 2) (.seq (.block 3 (sq [oX 31 1 27 29,oL 32 31,oM 8 32] [1,3,6,8,16,17,18,27,28,29] (sq [oM 33 6,oM 34 8,cA 35 81 [fa 33,fa 34] 2304,oU 36 35,oM 37 36,gM 38 3 37 true,gM 39 8 37 true,gA 40 81 [fa 38,fa 39] 37 true 2624,gU 41 40 37 true,oQ 42 37 41] [1,3,6,8,16,17,18,27,28,29,42] (cd 42 (rg [oM 43 3,oM 44 8,oa 45 (.mkSl 1 [(tv 44)]) 2944,o 46 (.app 1 16 false (tv 43) (tv 45)),oM 3 46] [1,3,6,16,17,18,27,28,29]) .skip)))) (rd [2944] [oK 47 .add 29 1,oM 29 47] [1,3,6,16,17,18,27,28,29]))))

def l30_1 : VCode := (sq [oB 19 .lss 18 17] [1,3,16,17,18,19] (.seq (xt 19 0) (.seq (.block 1 (sq [oM 20 18,oX 21 11 16 18,oG 22 11 21,oa 5 (.new zE []) 1216,oM 4 20,oW 11 5 22] [1,3,4,5,16,17,18] (sq [oG 23 11 1,oM 24 4,cA 25 80 [fa 23,fa 24] 1536,oM 6 25] [1,3,5,6,16,17,18] (sq [oG 26 11 5,cA 27 30 [fa 26] 1728,oN 28 27,oJ 29 0] [1,3,6,16,17,18,27,28,29] (lp 2 l30_0))))) (rd [1216] [oK 48 .add 18 1,oM 18 48] [1,3,16,17,18]))))

def v30 : VFun := ⟨1,(sq [oa 1 (.box (tv 0)) 64,o 2 (.mv kn)] [1] (.seq (sq [oF 9 0 1,oL 10 9,oK 11 .eql 10 1] [1,11] (cd 11 (sq [oF 12 2 1,oL 13 12,oa 14 (.mkSl 1 [(tv 13)]) 512,oM 2 14] [2] .ret) .skip)) (sq [⟨(some 3),(.mv kn),none,640,[(0,1)]⟩] [1,3] (.seq (sq [oG 15 11 1,cA 16 79 [fa 15] 768,oN 17 16,oJ 18 0] [1,3,16,17,18] (lp 0 l30_1)) (sq [oM 49 3,oM 2 49] [2] .ret))))),[.tmp 2],false⟩

def l93_0 : VCode := (.block 1 (sq [oF 25 0 8,oL 26 25,oF 27 2 3,oL 28 27,oB 29 .eql 26 28] [3,6,8,29] (cd 29 (sq [oF 30 1 8,oL 31 30,oF 32 2 3,oW 1 32 31] [3,6] (.exit 0)) .skip)))

def l93_1 : VCode := (sq [oB 53 .lss 52 51] [1,2,3,6,9,10,11,12,13,39,40,41,50,51,52,53] (.seq (xt 53 4) (.seq (.block 5 (sq [oM 54 52,oX 55 1 50 52,oL 56 55,oM 14 54,oM 15 56] [1,2,3,6,9,10,11,12,13,14,15,39,40,41,50,51,52] (sq [oM 57 13,oN 58 57,oM 59 2,cA 60 28 [fa 58,fa 59] 3584,oM 16 60] [1,2,3,6,9,10,11,12,13,14,15,16,39,40,41,50,51,52] (sq [oM 61 13,oM 62 15,oM 63 16,o 64 (.build [zs,zs] [(0,1,(tv 62)),(1,1,(tv 63))]),oa 65 (.mkSl 2 [(tv 64)]) 3968,o 66 (.app 2 32 false (tv 61) (tv 65)),oM 13 66] [1,2,3,6,9,10,11,12,13,14,16,39,40,41,50,51,52] (.seq (rd [3968] [oF 67 4 3,oL 68 67,oN 69 68,oM 17 69] [1,2,3,6,9,10,11,12,13,14,16,17,39,40,41,50,51,52]) (sq [oF 70 0 3,oL 71 70,oK 72 .eql 71 8] [1,2,3,6,9,10,11,12,13,14,16,17,39,40,41,50,51,52,72] (cd 72 (.seq (sq [oM 73 14,oK 74 .eql 73 0] [1,2,3,6,9,10,11,12,13,16,17,39,40,41,50,51,52,74] (cd 74 (rg [oF 75 5 10,oL 76 75,oM 77 11,oM 78 17,oB 79 .sub 77 78,oX 80 14 76 79,oF 81 2 80,⟨none,(.store 1 (tv 81) kn [(0,1)]),none,5184,[]⟩] [1,2,3,6,9,10,11,12,13,16,17,39,40,41,50,51,52]) .skip)) (.region [] [oF 82 5 10,oL 83 82,oM 84 11,oM 85 17,oB 86 .sub 84 85,oF 87 5 10,oL 88 87,oM 89 11,oM 90 17,oB 91 .sub 89 90,oX 92 14 88 91,oF 93 2 92,oL 94 93,oM 95 16,oa 96 (.mkSl 1 [(tv 95)]) 6144,o 97 (.app 1 16 false (tv 94) (tv 96)),oX 98 14 83 86,oF 99 2 98,oW 1 99 97] [(0,5),(1,5),(0,6),(1,6),(0,10),(1,10),(0,11),(1,11),(0,12),(1,12),(0,14),(1,14),(5,14),(6,14),(10,14),(11,14),(12,14),(0,15),(1,15)] [1,2,3,6,9,10,11,12,13,39,40,41,50,51,52])) (rg [oM 100 16,oF 101 2 10,oW 1 101 100] [1,2,3,6,9,10,11,12,13,39,40,41,50,51,52])))))))) (rd [3968,6144] [oK 102 .add 52 1,oM 52 102] [1,2,3,6,9,10,11,12,13,39,40,41,50,51,52]))))

def l93_2 : VCode := (sq [oB 42 .lss 41 40] [1,2,3,6,9,10,39,40,41,42] (.seq (xt 42 2) (.seq (.block 3 (sq [oM 43 41,oX 44 11 39 41,oG 45 11 44,oa 12 (.new zE []) 2304,oM 11 43,oW 11 12 45] [1,2,3,6,9,10,11,12,39,40,41] (sq [oM 46 1,cA 47 133 [fa 46] 2560,oM 13 47] [1,2,3,6,9,10,11,12,13,39,40,41] (.seq (sq [oG 48 11 3,oM 49 11,cA 50 80 [fa 48,fa 49] 2816,oN 51 50,oJ 52 0] [1,2,3,6,9,10,11,12,13,39,40,41,50,51,52] (lp 4 l93_1)) (rg [oM 103 9,oM 104 11,oG 105 11 12,oM 106 13,oM 107 2,cA 108 93 [fa 105,fa 106,fa 107] 7104,oX 109 11 103 104,oW 11 109 108] [1,2,3,6,9,10,39,40,41]))))) (.melt 5185 (rd [2304,2592,2593,2594,5185] [oK 110 .add 41 1,oM 41 110] [1,2,3,6,9,10,39,40,41])))))

def v93 : VFun := ⟨3,(sq [oa 3 (.box (tv 0)) 64,oa 6 (.new zE []) 128] [1,2,3,6] (.seq (sq [oF 18 0 3,oL 19 18,oK 20 .eql 19 1] [1,2,3,6,20] (cd 20 (.seq (sq [oM 21 1,cA 22 149 [fa 21] 448] [3,6,22] (.block 0 (.rangeB (tv 22) 210 2 true 23 24 (rd [512] [oa 8 (.new [zs,zs] []) 512,oW 2 8 24] [3,6,8])
 l93_0))) (sq [oG 33 11 3,oW 11 6 33] [6] .ret)) .skip)) (sq [oG 34 11 3,cA 35 79 [fa 34] 1408,oM 9 35] [1,2,3,6,9] (sq [oG 36 11 3,oM 37 9,cA 38 146 [fa 36,ta 37] 1664,oa 10 (.new zE []) 1728,oW 11 10 38] [1,2,3,6,9,10] (.seq (sq [oM 39 9,oN 40 39,oJ 41 0] [1,2,3,6,9,10,39,40,41] (lp 2 l93_2)) (sq [oG 111 11 10,oM 112 9,cA 113 146 [fa 111,fa 112] 7552,oW 11 6 113] [6] .ret)))))),[.cell 6 true 11],false⟩

def l124_0 : VCode := (.seq (sq [oM 10 6,oK 11 .geq 10 0] [0,1,4,6,11] (xt 11 0)) (.seq (.block 1 (sq [oM 14 0,oM 15 6,oX 16 7 14 15,oF 17 0 16,oL 18 17,oM 19 1,oB 20 .eql 18 19] [0,1,4,6,20] (cd 20 (sq [oM 21 0,oM 22 6,oX 23 7 21 22,oF 24 1 23,oG 25 6 24,oW 6 4 25,o 5 (.mv kt)] [4,5] .ret) .skip))) (rg [oM 12 6,oK 13 .sub 12 1,oM 6 13] [0,1,4,6])))

def v124 : VFun := ⟨2,(sq [oa 4 (.new [zi,zi,zs,zi,zi,.nil] []) 64,o 5 (.mv kF)] [0,1,4] (.seq (sq [oM 7 0,oN 8 7,oK 9 .sub 8 1,oM 6 9] [0,1,4,6] (lp 0 l124_0)) (sq [o 26 (.build [zi,zi,zs,zi,zi,.nil] []),oW 6 4 26,o 5 (.mv kF)] [4,5] .ret))),[.cell 4 true 6,.tmp 5],false⟩

def l97_0 : VCode := (.seq (sq [oM 9 4,oM 10 3,oN 11 10,oB 12 .lss 9 11] [1,2,3,4,12] (xt 12 0)) (.seq (.block 1 (rg [oM 15 3,oM 16 4,oM 17 3,oM 18 4,oX 19 11 17 18,oG 20 11 19,cA 21 97 [fa 20] 1088,oX 22 11 15 16,oW 11 22 21] [1,2,3,4])) (rg [oM 13 4,oK 14 .add 13 1,oM 4 14] [1,2,3,4])))

def l97_1 : VCode := (.seq (sq [oM 27 6,oF 28 5 5,oL 29 28,oN 30 29,oB 31 .lss 27 30] [2,5,6,31] (xt 31 2)) (.seq (.block 3 (rg [oF 34 5 5,oL 35 34,oM 36 6,oX 37 14 35 36,oF 38 0 37,on (.store 1 (tv 38) (ki 0) [])] [2,5,6])) (rg [oM 32 6,oK 33 .add 32 1,oM 6 33] [2,5,6])))

def v97 : VFun := ⟨1,(sq [oa 1 (.box (tv 0)) 64,oa 2 (.new zE []) 128] [1,2] (sq [oG 7 11 1,cA 8 69 [fa 7] 256,oM 3 8] [1,2,3] (.seq (sq [oJ 4 0] [1,2,3,4] (lp 0 l97_0)) (sq [oG 23 11 1,oM 24 3,cA 25 92 [fa 23,fa 24] 1600,oa 5 (.new zE []) 1664,oW 11 5 25] [2,5] (.seq (rd [64] [oF 26 1 5,on (.store 1 (tv 26) (ki 0) [])] [2,5]) (.seq (sq [oJ 6 0] [2,5,6] (lp 2 l97_1)) (sq [oG 39 11 5,oW 11 2 39] [2] .ret))))))),[.cell 2 true 11],false⟩

set_option maxRecDepth 100000 in
theorem m11 : mFun Go.Proofs.Tryz.prog 11 v11 = true := by kernel_rfl
set_option maxRecDepth 100000 in
theorem m133 : mFun Go.Proofs.Tryz.prog 133 v133 = true := by kernel_rfl
set_option maxRecDepth 100000 in
theorem m144 : mFun Go.Proofs.Tryz.prog 144 v144 = true := by kernel_rfl
set_option maxRecDepth 100000 in
theorem m95 : mFun Go.Proofs.Tryz.prog 95 v95 = true := by kernel_rfl
set_option maxRecDepth 100000 in
theorem m140 : mFun Go.Proofs.Tryz.prog 140 v140 = true := by kernel_rfl
set_option maxRecDepth 100000 in
theorem m12 : mFun Go.Proofs.Tryz.prog 12 v12 = true := by kernel_rfl
set_option maxRecDepth 100000 in
theorem m13 : mFun Go.Proofs.Tryz.prog 13 v13 = true := by kernel_rfl
set_option maxRecDepth 100000 in
theorem m14 : mFun Go.Proofs.Tryz.prog 14 v14 = true := by kernel_rfl
set_option maxRecDepth 100000 in
theorem m41 : mFun Go.Proofs.Tryz.prog 41 v41 = true := by kernel_rfl
set_option maxRecDepth 100000 in
theorem m42 : mFun Go.Proofs.Tryz.prog 42 v42 = true := by kernel_rfl
set_option maxRecDepth 100000 in
theorem m43 : mFun Go.Proofs.Tryz.prog 43 v43 = true := by kernel_rfl
set_option maxRecDepth 100000 in
theorem m17 : mFun Go.Proofs.Tryz.prog 17 v17 = true := by kernel_rfl
set_option maxRecDepth 100000 in
theorem m35 : mFun Go.Proofs.Tryz.prog 35 v35 = true := by kernel_rfl
set_option maxRecDepth 100000 in
theorem m27 : mFun Go.Proofs.Tryz.prog 27 v27 = true := by kernel_rfl
set_option maxRecDepth 100000 in
theorem m44 : mFun Go.Proofs.Tryz.prog 44 v44 = true := by kernel_rfl
set_option maxRecDepth 100000 in
theorem m45 : mFun Go.Proofs.Tryz.prog 45 v45 = true := by kernel_rfl
set_option maxRecDepth 100000 in
theorem m47 : mFun Go.Proofs.Tryz.prog 47 v47 = true := by kernel_rfl
set_option maxRecDepth 100000 in
theorem m46 : mFun Go.Proofs.Tryz.prog 46 v46 = true := by kernel_rfl
set_option maxRecDepth 100000 in
theorem m48 : mFun Go.Proofs.Tryz.prog 48 v48 = true := by kernel_rfl
set_option maxRecDepth 100000 in
theorem m49 : mFun Go.Proofs.Tryz.prog 49 v49 = true := by kernel_rfl
set_option maxRecDepth 100000 in
theorem m15 : mFun Go.Proofs.Tryz.prog 15 v15 = true := by kernel_rfl
set_option maxRecDepth 100000 in
theorem m23 : mFun Go.Proofs.Tryz.prog 23 v23 = true := by kernel_rfl
set_option maxRecDepth 100000 in
theorem m50 : mFun Go.Proofs.Tryz.prog 50 v50 = true := by kernel_rfl
set_option maxRecDepth 100000 in
theorem m52 : mFun Go.Proofs.Tryz.prog 52 v52 = true := by kernel_rfl
set_option maxRecDepth 100000 in
theorem m53 : mFun Go.Proofs.Tryz.prog 53 v53 = true := by kernel_rfl
set_option maxRecDepth 100000 in
theorem m51 : mFun Go.Proofs.Tryz.prog 51 v51 = true := by kernel_rfl
set_option maxRecDepth 100000 in
theorem m62 : mFun Go.Proofs.Tryz.prog 62 v62 = true := by kernel_rfl
set_option maxRecDepth 100000 in
theorem m98 : mFun Go.Proofs.Tryz.prog 98 v98 = true := by kernel_rfl
set_option maxRecDepth 100000 in
theorem m99 : mFun Go.Proofs.Tryz.prog 99 v99 = true := by kernel_rfl
set_option maxRecDepth 100000 in
theorem m39 : mFun Go.Proofs.Tryz.prog 39 v39 = true := by kernel_rfl
set_option maxRecDepth 100000 in
theorem m65 : mFun Go.Proofs.Tryz.prog 65 v65 = true := by kernel_rfl
set_option maxRecDepth 100000 in
theorem m40 : mFun Go.Proofs.Tryz.prog 40 v40 = true := by kernel_rfl
set_option maxRecDepth 100000 in
theorem m84 : mFun Go.Proofs.Tryz.prog 84 v84 = true := by kernel_rfl
set_option maxRecDepth 100000 in
theorem m85 : mFun Go.Proofs.Tryz.prog 85 v85 = true := by kernel_rfl
set_option maxRecDepth 100000 in
theorem m69 : mFun Go.Proofs.Tryz.prog 69 v69 = true := by kernel_rfl
set_option maxRecDepth 100000 in
theorem m86 : mFun Go.Proofs.Tryz.prog 86 v86 = true := by kernel_rfl
set_option maxRecDepth 100000 in
theorem m28 : mFun Go.Proofs.Tryz.prog 28 v28 = true := by kernel_rfl
set_option maxRecDepth 100000 in
theorem m29 : mFun Go.Proofs.Tryz.prog 29 v29 = true := by kernel_rfl
set_option maxRecDepth 100000 in
theorem m100 : mFun Go.Proofs.Tryz.prog 100 v100 = true := by kernel_rfl
set_option maxRecDepth 100000 in
theorem m54 : mFun Go.Proofs.Tryz.prog 54 v54 = true := by kernel_rfl
set_option maxRecDepth 100000 in
theorem m57 : mFun Go.Proofs.Tryz.prog 57 v57 = true := by kernel_rfl
set_option maxRecDepth 100000 in
theorem m58 : mFun Go.Proofs.Tryz.prog 58 v58 = true := by kernel_rfl
set_option maxRecDepth 100000 in
theorem m63 : mFun Go.Proofs.Tryz.prog 63 v63 = true := by kernel_rfl
set_option maxRecDepth 100000 in
theorem m71 : mFun Go.Proofs.Tryz.prog 71 v71 = true := by kernel_rfl
set_option maxRecDepth 100000 in
theorem m101 : mFun Go.Proofs.Tryz.prog 101 v101 = true := by kernel_rfl
set_option maxRecDepth 100000 in
theorem m34 : mFun Go.Proofs.Tryz.prog 34 v34 = true := by kernel_rfl
set_option maxRecDepth 100000 in
theorem m103 : mFun Go.Proofs.Tryz.prog 103 v103 = true := by kernel_rfl
set_option maxRecDepth 100000 in
theorem m70 : mFun Go.Proofs.Tryz.prog 70 v70 = true := by kernel_rfl
set_option maxRecDepth 100000 in
theorem m102 : mFun Go.Proofs.Tryz.prog 102 v102 = true := by kernel_rfl
set_option maxRecDepth 100000 in
theorem m104 : mFun Go.Proofs.Tryz.prog 104 v104 = true := by kernel_rfl
set_option maxRecDepth 100000 in
theorem m109 : mFun Go.Proofs.Tryz.prog 109 v109 = true := by kernel_rfl
set_option maxRecDepth 100000 in
theorem m150 : mFun Go.Proofs.Tryz.prog 150 v150 = true := by kernel_rfl
set_option maxRecDepth 100000 in
theorem m94 : mFun Go.Proofs.Tryz.prog 94 v94 = true := by kernel_rfl
set_option maxRecDepth 100000 in
theorem m30 : mFun Go.Proofs.Tryz.prog 30 v30 = true := by kernel_rfl
set_option maxRecDepth 100000 in
theorem m93 : mFun Go.Proofs.Tryz.prog 93 v93 = true := by kernel_rfl
set_option maxRecDepth 100000 in
theorem m124 : mFun Go.Proofs.Tryz.prog 124 v124 = true := by kernel_rfl
set_option maxRecDepth 100000 in
theorem m97 : mFun Go.Proofs.Tryz.prog 97 v97 = true := by kernel_rfl

end Go.Vs.Tryz
