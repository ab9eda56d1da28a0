/- Functions of the program in the language of the value semantics,part 2 (printed by a program of mine),and that they match. (Parts of one proof,put together.) -/
import Derived.Test.YtlcncicmkkelcaaGreatDoorM4f
import Derived.Test.YtlcncicmkkelcaaGreatDoorProg
import Derived.KernelRfl
set_option linter.unusedSimpArgs false
set_option linter.unusedVariables false
set_option linter.deprecated false

namespace Go.Vs.Tryz
open Go Go.Vs

def v131 : VFun := ⟨2,(sq [oa 2 (.box (tv 0)) 64,oa 3 (.box (tv 1)) 128,o 4 (.mv kF)] [2,3] (.seq (sq [oF 6 0 2,oL 7 6,oF 8 0 3,oL 9 8,oB 10 .neq 7 9,oM 11 10,gF 12 2 2 11 false,gL 13 12 11 false,gF 14 2 3 11 false,gL 15 14 11 false,gB 16 .neq 13 15 11 false,oP 17 11 16,oM 18 17,gF 19 3 2 18 false,gL 20 19 18 false,gF 21 3 3 18 false,gL 22 21 18 false,gB 23 .neq 20 22 18 false,oP 24 18 23,oM 25 24,gF 26 6 2 25 false,gG 27 5 26 25 false,gF 28 6 3 25 false,gG 29 5 28 25 false,gA 30 114 [fa 27,fa 29] 25 false 1792,gU 31 30 25 false,oP 32 25 31] [2,3,32] (cd 32 (sq [o 4 (.mv kF)] [4] .ret) .skip)) (sq [oF 33 5 2,oL 34 33,oF 35 5 3,oL 36 35,cA 37 177 [fa 34,fa 36,(true,(kf 178))] 2304,oM 5 37] [2,3,5] (sq [oM 38 5,oM 39 38,gF 40 4 2 39 true,gL 41 40 39 true,gF 42 4 3 39 true,gL 43 42 39 true,gA 44 180 [fa 41,fa 43,(true,(kf 131))] 39 true 2816,oQ 45 39 44,oM 4 45] [4] .ret)))),[.tmp 4],false⟩

def l147_0 : VCode := (.seq (sq [oM 11 5,oM 12 0,oN 13 12,oB 14 .lss 11 13] [0,1,5,14] (xt 14 0)) (.seq (.block 1 (.seq (.region [] [oM 17 0,oM 18 5,oX 19 5 17 18,oG 20 5 19,oM 21 1,oM 22 5,oX 23 5 21 22,oG 24 5 23,cA 25 84 [fa 20,fa 24] 1344,oU 26 25] [(2,6),(3,6),(2,7),(3,7)] [0,1,5,26]) (cd 26 (sq [o 4 (.mv kF)] [4] .ret) .skip))) (rg [oM 15 5,oK 16 .add 15 1,oM 5 16] [0,1,5])))

def v147 : VFun := ⟨2,(sq [o 4 (.mv kF)] [0,1] (.seq (sq [oM 6 0,oN 7 6,oM 8 1,oN 9 8,oB 10 .neq 7 9] [0,1,10] (cd 10 (sq [o 4 (.mv kF)] [4] .ret) .skip)) (.seq (sq [oJ 5 0] [0,1,5] (lp 0 l147_0)) (sq [o 4 (.mv kt)] [4] .ret)))),[.tmp 4],false⟩

def l129_0 : VCode := (.seq (sq [oM 20 7,o 21 (.nn (tv 20)),oF 22 2 21,oL 23 22,oU 24 23,oM 25 24,gM 26 7 25 true,og 27 (.nn (tv 26)) 25 true,gF 28 1 27 25 true,gL 29 28 25 true,gM 30 4 25 true,gN 31 30 25 true,gB 32 .lss 29 31 25 true,oQ 33 25 32] [2,3,4,5,6,7,33] (xt 33 0)) (.block 1 (sq [oM 34 7,oa 35 (.call (kf 173) [ta 34,(false,(.k (.sc (.c (.str [100,97,116,97])))))] []) 2368] [2,3,4,5,6,7,35] (cd 35 (.region [2688] [oF 36 0 6,oL 37 36,oM 38 7,cA 39 174 [ta 38] 2624,oa 40 (.mkSl 4 [(tv 39)]) 2688,o 41 (.app 4 72 false (tv 37) (tv 40)),oF 42 0 6,oW 1 42 41] [(0,3),(1,3),(0,4),(1,4)] [2,3,4,5,6,7]) (.region [3200] [oF 43 1 6,oL 44 43,oM 45 7,cA 46 175 [ta 45] 3136,oa 47 (.mkSl 20 [(tv 46)]) 3200,o 48 (.app 20 256 false (tv 44) (tv 47)),oF 49 1 6,oW 1 49 48] [(0,3),(1,3),(0,4),(1,4)] [2,3,4,5,6,7])))))

def v129 : VFun := ⟨1,(sq [oa 2 (.new [.nil,.nil] []) 64,oa 3 (.new [zi,zi] []) 128] [0,2,3] (sq [oM 9 0,cA 10 167 [fa 9] 256,oM 8 10,oE 11 8 0,oE 12 8 1,oa 5 (.new [zi,zi] []) 512,oM 4 11,oW 2 5 12] [2,3,4,5] (.seq (sq [oF 13 0 5,oL 14 13,oK 15 .neq 14 0] [2,3,4,5,15] (cd 15 (.seq (.region [] [o 16 (.build [.nil,.nil] []),oG 17 2 5,oW 2 2 16,oW 2 3 17] [(1,2)] [2,3]) .ret) .skip)) (sq [oa 6 (.new [.nil,.nil] [(0,4),(1,20)]) 1152] [2,3,4,5,6] (sq [oM 18 4,cA 19 168 [fa 18,(false,(ki 0))] 1280,oM 7 19] [2,3,4,5,6,7] (.seq (lp 0 l129_0) (.seq (sq [oM 50 7,o 51 (.nn (tv 50)),oF 52 2 51,oL 53 52] [2,3,5,6,7,53] (cd 53 (.seq (.region [] [o 54 (.build [.nil,.nil] []),oM 55 7,o 56 (.nn (tv 55)),oF 57 3 56,oL 58 57,o 59 (.build [zi,zi] [(0,1,(ki 3)),(1,1,(tv 58))]),oW 2 2 54,oW 2 3 59] [(2,6),(3,6),(4,6)] [2,3]) .ret) .skip)) (.seq (sq [o 60 (.ldD true 2 (tv 6)),cA 61 176 [fa 60] 4288,oW 2 5 61] [2,3,5,6] (sq [oF 62 0 5,oL 63 62,oK 64 .neq 63 0] [2,3,5,6,64] (cd 64 (.seq (.region [] [o 65 (.build [.nil,.nil] []),oG 66 2 5,oW 2 2 65,oW 2 3 66] [(1,2)] [2,3]) .ret) .skip))) (.seq (.region [] [o 67 (.ldD true 2 (tv 6)),oG 68 2 5,oW 2 2 67,oW 2 3 68] [(0,1),(1,2)] [2,3]) .ret))))))))),[.cell 2 true 2,.cell 3 true 2],false⟩

def v47 : VFun := ⟨0,(sq [oa 0 (.new [zi,zs,zi,zi,.nil] []) 64] [0] (sq [oa 1 (.call (kf 100) [(false,(.k (.sc (.c (.str [73,110,116]))))),(false,kn)] []) 128,oW 5 0 1] [0] .ret)),[.cell 0 true 5],false⟩

def v100 : VFun := ⟨2,(sq [oa 4 (.new [zi,zs,zi,zi,.nil] []) 64] [0,1,4] (sq [oM 5 0,oM 6 1,oa 7 (.appN 5 64 (tv 6)) 256,o 8 (.build [zi,zs,zi,zi,.nil] [(0,1,(ki 4)),(1,1,(tv 5)),(4,1,(tv 7))]),oW 5 4 8] [4] .ret)),[.cell 4 true 5],false⟩

def v128 : VFun := ⟨2,(sq [oa 2 (.box (tv 0)) 64,oa 3 (.box (tv 1)) 128,oa 4 (.new [zi,zs,zi,zi,.nil] []) 192] [2,3,4] (sq [oG 5 5 2,oG 6 5 3,oa 7 (.mkSl 5 [(tv 5),(tv 6)]) 384,oa 8 (.call (kf 100) [(false,(.k (.sc (.c (.str [45,62]))))),fa 7] []) 448,oW 5 4 8] [4] .ret)),[.cell 4 true 5],false⟩

def v206 : VFun := ⟨3,(sq [oa 3 (.box (tv 0)) 64,o 6 (.mv kF)] [1,2,3] (.seq (sq [oF 7 12 3,oL 8 7,oM 9 1,cA 10 81 [fa 8,fa 9] 384,oU 11 10] [2,3,11] (cd 11 (sq [o 6 (.mv kF)] [6] .ret) .skip)) (sq [oM 12 2,o 13 (.fn 246 [(tv 3)]),cA 14 117 [fa 12,ta 13] 704,oM 6 14] [6] .ret))),[.tmp 6],false⟩

def l208_0 : VCode := (sq [oB 13 .lss 12 11] [1,3,10,11,12,13] (.seq (xt 13 0) (.seq (.block 1 (sq [oM 14 12,oX 15 11 10 12,oG 16 11 15,oa 5 (.new zE []) 960,oM 4 14,oW 11 5 16] [1,3,4,5,10,11,12] (.region [] [oM 17 3,oG 18 11 1,oM 19 4,cA 20 80 [fa 18,fa 19] 1344,o 21 (.app 1 16 false (tv 17) (tv 20)),oG 22 11 5,cA 23 208 [fa 22] 1536,o 24 (.app 1 16 false (tv 21) (tv 23)),oM 3 24] [(1,5),(3,5),(4,5)] [1,3,10,11,12]))) (rd [960,1568,1569,1570] [oK 25 .add 12 1,oM 12 25] [1,3,10,11,12]))))

def v208 : VFun := ⟨1,(sq [oa 1 (.box (tv 0)) 64,o 2 (.mv kn)] [1] (sq [oF 6 2 1,oL 7 6,oa 8 (.mkSl 1 [(tv 7)]) 320,oM 3 8] [1,3] (.seq (sq [oG 9 11 1,cA 10 79 [fa 9] 512,oN 11 10,oJ 12 0] [1,3,10,11,12] (lp 0 l208_0)) (sq [oM 26 3,oM 2 26] [2] .ret)))),[.tmp 2],true⟩

def v207 : VFun := ⟨1,(sq [o 2 (.mv (.k (.sc zs)))] [0] (sq [oM 3 0,cA 4 28 [(false,(ki 0)),fa 3] 192,oM 2 4] [2] .ret)),[.tmp 2],false⟩

def l209_0 : VCode := (sq [oB 25 .lss 24 23] [1,2,3,6,7,22,23,24,25] (.seq (xt 25 0) (.seq (.block 1 (sq [oM 26 24,oX 27 11 22 24,oG 28 11 27,oa 9 (.new zE []) 1600,oM 8 26,oW 11 9 28] [1,2,3,6,7,8,9,22,23,24] (sq [oG 29 11 3,oM 30 8,cA 31 80 [fa 29,fa 30] 1920,oM 32 1,cA 33 81 [fa 31,fa 32] 2048,oU 34 33] [1,2,3,6,7,8,9,22,23,24,34] (cd 34 (rg [oM 35 7,oM 36 8,oG 37 11 9,oM 38 1,oM 39 2,cA 40 209 [fa 37,fa 38,fa 39] 2496,oX 41 11 35 36,oW 11 41 40] [1,2,3,6,7,22,23,24]) .skip)))) (rd [1600] [oK 42 .add 24 1,oM 24 42] [1,2,3,6,7,22,23,24]))))

def v209 : VFun := ⟨3,(sq [oa 3 (.box (tv 0)) 64,oa 6 (.new zE []) 128] [1,2,3,6] (.seq (sq [oF 10 0 3,oL 11 10,oK 12 .eql 11 1] [1,2,3,6,12] (cd 12 (.seq (sq [oF 13 2 3,oL 14 13,oM 15 1,oB 16 .eql 14 15] [2,3,6,16] (cd 16 (rg [oM 17 2,oF 18 2 3,oW 1 18 17] [3,6]) .skip)) (sq [oG 19 11 3,oW 11 6 19] [6] .ret)) .skip)) (sq [oG 20 11 3,cA 21 79 [fa 20] 1024,oM 7 21] [1,2,3,6,7] (.seq (sq [oM 22 7,oN 23 22,oJ 24 0] [1,2,3,6,7,22,23,24] (lp 0 l209_0)) (sq [oG 43 11 3,oM 44 7,cA 45 146 [fa 43,fa 44] 2944,oW 11 6 45] [6] .ret))))),[.cell 6 true 11],false⟩

def v203 : VFun := ⟨2,(sq [oa 2 (.box (tv 0)) 64,o 4 (.mv kn)] [1,2] (.seq (sq [oF 5 0 2,oL 6 5] [1,2,6] (.block 0 (.seq (sq [oK 8 .eql 6 4,oM 7 8] [1,2,6,7] (cd 7 .skip (rg [oK 9 .eql 6 7,oM 7 9] [1,2,6,7]))) (cd 7 (sq [oF 10 2 2,oL 11 10,oa 12 (.mkSl 1 [(tv 11)]) 704,oM 4 12] [4] .ret) (sq [oK 14 .eql 6 6,oM 13 14] [1,2,6,13] (cd 13 (sq [oM 15 1,oK 16 .eql 15 1] [2,16] (cd 16 (sq [oF 17 2 2,oL 18 17,oa 19 (.mkSl 1 [(tv 18)]) 1216,oM 4 19] [4] .ret) .skip)) (sq [oK 21 .eql 6 8,oM 20 21] [1,2,20] (cd 20 (sq [oM 22 1,oF 23 4 2,oL 24 23,oN 25 24,oB 26 .geq 22 25] [1,2,26] (cd 26 (sq [oF 27 5 2,oL 28 27,oM 29 1,oF 30 4 2,oL 31 30,oN 32 31,oB 33 .sub 29 32,oX 34 14 28 33,oF 35 2 34,oL 36 35,oM 4 36] [4] .ret) .skip)) .skip)))))))) (sq [o 4 (.mv kn)] [4] .ret))),[.tmp 4],false⟩

def l204_0 : VCode := (.seq (sq [oM 16 6,oM 17 0,oN 18 17,oB 19 .lss 16 18] [0,1,5,6,19] (xt 19 0)) (.seq (.block 1 (sq [oM 22 0,oM 23 6,oX 24 1 22 23,oL 25 24,oM 7 25] [0,1,5,6,7] (sq [oM 26 1,oM 27 7,oa 28 (.call (tv 26) [fa 27] []) 1536,oU 29 28] [0,1,5,6,7,29] (cd 29 (sq [oM 30 0,oM 31 5,oM 32 7,oX 33 1 30 31,oW 1 33 32] [0,1,5,6] (rg [oM 34 5,oK 35 .add 34 1,oM 5 35] [0,1,5,6])) .skip)))) (rd [1568,1569,1570] [oM 20 6,oK 21 .add 20 1,oM 6 21] [0,1,5,6])))

def v204 : VFun := ⟨2,(sq [o 4 (.mv kn)] [0,1] (sq [oM 8 0,oM 9 1,cA 10 163 [fa 8,ta 9] 256,oM 5 10] [0,1,5] (.seq (sq [oM 11 5,oK 12 .eql 11 (-1)] [0,1,5,12] (cd 12 (sq [oM 13 0,oM 4 13] [4] .ret) .skip)) (.seq (sq [oM 14 5,oK 15 .add 14 1,oM 6 15] [0,1,5,6] (lp 0 l204_0)) (sq [oM 36 0,oM 37 5,o 38 (.sl 1 (tv 36) (some (tv 37)) none none),on (.clr 1 [zs] (tv 38))] [0,5] (sq [oM 39 0,oM 40 5,o 41 (.sl 1 (tv 39) none (some (tv 40)) none),oM 4 41] [4] .ret)))))),[.tmp 4],true⟩

def v217 : VFun := ⟨1,(sq [o 2 (.mv kF)] [0] (sq [oM 3 0,cA 4 249 [fa 3] 192,oM 5 4,gM 6 0 5 false,gA 7 250 [fa 6] 5 false 384,oP 8 5 7,oM 9 8,gM 10 0 9 false,gA 11 251 [fa 10] 9 false 640,oP 12 9 11,oM 13 12,gM 14 0 13 false,og 15 (.bin .eql 0 (tv 14) (.k (.sc (.c (.int .u8 95))))) 13 false,oP 16 13 15,oM 2 16] [2] .ret)),[.tmp 2],false⟩

def v218 : VFun := ⟨1,(sq [oJ 2 0] [0] (.seq (.block 0 (sq [oM 4 0,cA 5 252 [fa 4] 192,oM 3 5] [0,3] (cd 3 (sq [oJ 2 4] [2] .ret) (sq [oM 7 0,cA 8 253 [fa 7] 448,oM 6 8] [0,6] (cd 6 (sq [oJ 2 1] [2] .ret) (sq [oM 10 0,cA 11 254 [fa 10] 704,oM 9 11] [0,9] (cd 9 (sq [oJ 2 2] [2] .ret) (sq [oM 13 0,cA 14 255 [fa 13] 960,oM 12 14] [0,12] (cd 12 (sq [oJ 2 3] [2] .ret) (sq [oM 16 0,cA 17 256 [fa 16] 1216,oM 15 17] [15] (cd 15 (sq [oJ 2 5] [2] .ret) .skip))))))))))) (sq [oJ 2 0] [2] .ret))),[.tmp 2],false⟩

def v219 : VFun := ⟨1,(sq [oJ 2 0] [0] (.seq (.seq (.region [] [oM 3 0,o 4 (.nn (tv 3)),oF 5 1 4,oL 6 5,oM 7 0,o 8 (.nn (tv 7)),oF 9 0 8,oL 10 9,oN 11 10,oB 12 .lss 6 11] [(1,5),(2,5),(3,5),(1,6),(2,6),(3,6),(1,7),(2,7),(3,7),(1,8),(2,8),(3,8)] [0,12]) (cd 12 (.seq (.region [] [oM 13 0,o 14 (.nn (tv 13)),oF 15 0 14,oL 16 15,oM 17 0,o 18 (.nn (tv 17)),oF 19 1 18,oL 20 19,oX 21 3 16 20,oF 22 2 21,oL 23 22,oM 2 23] [(1,5),(2,5),(3,5),(1,6),(2,6),(3,6),(1,7),(2,7),(3,7)] [2]) .ret) .skip)) (sq [oJ 2 0] [2] .ret))),[.tmp 2],false⟩

def v220 : VFun := ⟨2,(sq [o 4 (.mv kF)] [0,1] (.seq (sq [oM 5 0,oM 6 1,cA 7 173 [ta 5,fa 6] 256] [0,7] (cd 7 (sq [oM 8 0,o 9 (.nn (tv 8)),oF 10 1 9,oL 11 10,oK 12 .add 11 1,o 13 (.nn (tv 8)),oF 14 1 13,oW 1 14 12] [1000000] (sq [o 4 (.mv kt)] [4] .ret)) .skip)) (sq [o 4 (.mv kF)] [4] .ret))),[.tmp 4],false⟩

def v221 : VFun := ⟨2,(sq [o 4 (.mv (.k (.sc zs)))] [0,1] (.seq (sq [oM 5 0,oM 6 1,cA 7 228 [ta 5,fa 6] 256,oU 8 7] [0,8] (cd 8 (sq [oM 9 0,cA 10 170 [ta 9] 448] [1000000] (sq [o 4 (.mv (.k (.sc zs)))] [4] .ret)) .skip)) (sq [oM 11 0,o 12 (.nn (tv 11)),oF 13 1 12,oL 14 13,oK 15 .add 14 1,o 16 (.nn (tv 11)),oF 17 1 16,oW 1 17 15] [0] (.seq (.region [] [oM 18 0,o 19 (.nn (tv 18)),oF 20 0 19,oL 21 20,oM 22 0,o 23 (.nn (tv 22)),oF 24 1 23,oL 25 24,oK 26 .sub 25 1,oX 27 3 21 26,oF 28 1 27,oL 29 28,oM 4 29] [(1,5),(2,5),(3,5),(1,6),(2,6),(3,6),(1,7),(2,7),(3,7)] [4]) .ret)))),[.tmp 4],false⟩

def v222 : VFun := ⟨2,(sq [oM 4 0,oM 5 1,cA 6 220 [ta 4,fa 5] 192,oU 7 6] [0,7] (cd 7 (rg [oM 8 0,cA 9 170 [ta 8] 384] [1000000]) .skip)),[],false⟩

def v224 : VFun := ⟨1,(sq [oa 2 (.new zE []) 64] [0,2] (sq [oM 7 0,cA 8 219 [ta 7] 192,oM 3 8] [0,2,3] (.seq (.block 0 (sq [oM 10 0,cA 11 228 [ta 10,(false,(ki 1))] 384,oM 9 11] [0,2,3,9] (cd 9 (sq [oM 12 3,oM 13 0,cA 14 221 [ta 13,(false,(ki 1))] 640,o 15 (.build zE [(0,1,(ki 1)),(1,1,(tv 12)),(2,1,(tv 14))]),oW 11 2 15] [2] .ret) (sq [oM 17 0,cA 18 228 [ta 17,(false,(ki 2))] 896,oM 16 18] [0,2,3,16] (cd 16 (sq [oM 19 3,oM 20 0,cA 21 221 [ta 20,(false,(ki 2))] 1152,o 22 (.build zE [(0,1,(ki 2)),(1,1,(tv 19)),(2,1,(tv 21))]),oW 11 2 22] [2] .ret) (sq [oM 24 0,cA 25 228 [ta 24,(false,(ki 3))] 1408,oM 23 25] [0,2,3,23] (cd 23 (sq [oM 26 3,oM 27 0,cA 28 221 [ta 27,(false,(ki 3))] 1664,cA 29 257 [fa 28] 1728,o 30 (.build zE [(0,1,(ki 3)),(1,1,(tv 26)),(3,1,(tv 29))]),oW 11 2 30] [2] .ret) (sq [oM 32 0,oa 33 (.call (kf 220) [ta 32,(false,(.k (.sc (.c (.str [63])))))] []) 1984,oM 31 33] [0,2,3,31] (cd 31 (sq [oM 34 3,o 35 (.build zE [(0,1,(ki 10)),(1,1,(tv 34))]),oW 11 2 35] [2] .ret) (sq [oM 37 0,oa 38 (.call (kf 220) [ta 37,(false,(.k (.sc (.c (.str [123])))))] []) 2368,oM 36 38] [0,2,3,36] (cd 36 (sq [oM 39 0,cA 40 169 [ta 39] 2560,oa 4 (.new zE []) 2624,oW 11 4 40] [0,2,3,4] (sq [oM 41 0,oa 42 (.call (kf 222) [ta 41,(false,(.k (.sc (.c (.str [125])))))] []) 2816] [2,3,4] (sq [oM 43 3,oG 44 11 4,oa 45 (.mkSl 11 [(tv 44)]) 3008,o 46 (.build zE [(0,1,(ki 11)),(1,1,(tv 43)),(4,1,(tv 45))]),oW 11 2 46] [2] .ret))) .skip))))))))))) (sq [oM 47 0,oa 48 (.call (kf 222) [ta 47,(false,(.k (.sc (.c (.str [40])))))] []) 3264] [0,2,3] (.seq (sq [oM 49 0,o 50 (.nn (tv 49)),oF 51 2 50,oL 52 51] [0,2,3,52] (cd 52 (sq [o 53 (.build zE []),oW 11 2 53] [2] .ret) .skip)) (sq [oM 54 0,cA 55 169 [ta 54] 3776,oa 5 (.new zE []) 3840,oW 11 5 55] [0,2,3,5] (.seq (sq [oM 56 0,oa 57 (.call (kf 220) [ta 56,(false,(.k (.sc (.c (.str [58])))))] []) 4032] [0,2,3,5,57] (cd 57 (sq [oM 58 0,cA 59 231 [ta 58] 4160,oa 6 (.new [zi,zs,zi,zi,.nil] []) 4224,oW 5 6 59] [0,2,3,5,6] (rg [oM 60 3,oG 61 11 5,oa 62 (.mkSl 11 [(tv 61)]) 4480,oG 63 5 6,o 64 (.build zE [(0,1,(ki 9)),(1,1,(tv 60)),(4,1,(tv 62)),(6,5,(tv 63))]),oW 11 5 64] [0,2,5])) .skip)) (.seq (rd [4224] [oM 65 0,oa 66 (.call (kf 222) [ta 65,(false,(.k (.sc (.c (.str [41])))))] []) 4800] [2,5]) (sq [oG 67 11 5,oW 11 2 67] [2] .ret))))))))),[.cell 2 true 11],false⟩

def v225 : VFun := ⟨1,(sq [oa 1 (.box (tv 0)) 64,o 2 (.mv kF)] [1] (.seq (sq [oF 3 0 1,oL 4 3] [1,4] (.block 0 (.seq (sq [oK 6 .eql 4 1,oM 5 6] [1,4,5] (cd 5 .skip (sq [oK 7 .eql 4 2,oM 5 7] [1,4,5] (cd 5 .skip (rg [oK 8 .eql 4 3,oM 5 8] [1,4,5]))))) (cd 5 (sq [o 2 (.mv kt)] [2] .ret) (sq [oK 10 .eql 4 5,oM 9 10] [1,9] (cd 9 (sq [oF 11 1 1,oL 12 11,o 13 (.bin .eql 0 (tv 12) (.k (.sc (.c (.str [63]))))),oM 14 13,gF 15 1 1 14 false,gL 16 15 14 false,og 17 (.bin .eql 0 (tv 16) (.k (.sc (.c (.str [40]))))) 14 false,oP 18 14 17,oM 19 18,gF 20 1 1 19 false,gL 21 20 19 false,og 22 (.bin .eql 0 (tv 21) (.k (.sc (.c (.str [123]))))) 19 false,oP 23 19 22,oM 2 23] [2] .ret) .skip)))))) (sq [o 2 (.mv kF)] [2] .ret))),[.tmp 2],false⟩

def l226_0 : VCode := (.seq (sq [oM 8 5,oM 9 4,oN 10 9,oB 11 .lss 8 10] [3,4,5,11] (xt 11 0)) (.seq (.block 1 (rg [oM 14 3,oM 15 4,oM 16 5,oX 17 11 15 16,oG 18 11 17,cA 19 226 [fa 18] 1088,o 20 (.bin .add 0 (ki 1) (tv 19)),o 21 (.mx (tv 14) (tv 20)),oM 3 21] [3,4,5])) (rg [oM 12 5,oK 13 .add 12 1,oM 5 13] [3,4,5])))

def v226 : VFun := ⟨1,(sq [oa 1 (.box (tv 0)) 64,oJ 2 0] [1] (sq [oJ 3 0] [1,3] (sq [oG 6 11 1,cA 7 69 [fa 6] 320,oM 4 7] [3,4] (.seq (.seq (rd [64] [oJ 5 0] [3,4,5]) (lp 0 l226_0)) (sq [oM 22 3,oM 2 22] [2] .ret))))),[.tmp 2],false⟩

def l227_0 : VCode := (.seq (sq [oM 16 4,oM 17 3,oN 18 17,oB 19 .lss 16 18] [3,4,19] (xt 19 0)) (.seq (.block 1 (sq [oM 22 3,oM 23 4,oX 24 11 22 23,oG 25 11 24,cA 26 227 [fa 25] 1600] [3,4,26] (cd 26 (sq [o 2 (.mv kt)] [2] .ret) .skip))) (rg [oM 20 4,oK 21 .add 20 1,oM 4 21] [3,4])))

def v227 : VFun := ⟨1,(sq [oa 1 (.box (tv 0)) 64,o 2 (.mv kF)] [1] (.seq (sq [oF 5 0 1,oL 6 5,oK 7 .eql 6 9,oM 8 7,gF 9 6 1 8 true,gG 10 5 9 8 true,gA 11 232 [fa 10] 8 true 576,og 12 (.bin .gtr 0 (tv 11) (ki 40)) 8 true,oQ 13 8 12] [1,13] (cd 13 (sq [o 2 (.mv kt)] [2] .ret) .skip)) (sq [oG 14 11 1,cA 15 69 [fa 14] 896,oM 3 15] [3] (.seq (.seq (rd [64] [oJ 4 0] [3,4]) (lp 0 l227_0)) (sq [o 2 (.mv kF)] [2] .ret))))),[.tmp 2],false⟩

def v149 : VFun := ⟨1,(sq [oa 1 (.box (tv 0)) 64,o 2 (.mv (.k (.sc (.c .nilfn))))] [1] (sq [o 3 (.fn 210 [(tv 1)]),oM 2 3] [2] .ret)),[.tmp 2],true⟩

def v114 : VFun := ⟨2,(sq [oa 2 (.box (tv 0)) 64,oa 3 (.box (tv 1)) 128,o 4 (.mv kF)] [2,3] (sq [oG 5 5 2,oG 6 5 3,cA 7 162 [fa 5,fa 6] 384,oK 8 .eql 7 0,oM 4 8] [4] .ret)),[.tmp 4],false⟩

def l177_0 : VCode := (sq [oB 18 .lss 17 16] [1,2,15,16,17,18] (.seq (xt 18 0) (.seq (.block 1 (sq [oM 19 17,oX 20 14 15 17,oG 21 14 20,oa 8 (.new [zi,zs,.nil,zi,zi,zs,zi,.nil,.nil,zi,zs,zi,zi,.nil] []) 960,oM 7 19,oW 14 8 21] [1,2,7,8,15,16,17] (sq [oM 22 1,oM 23 7,oX 24 14 22 23,oG 25 14 24,oa 9 (.new [zi,zs,.nil,zi,zi,zs,zi,.nil,.nil,zi,zs,zi,zi,.nil] []) 1408,oW 14 9 25] [1,2,8,9,15,16,17] (sq [oM 26 2,oG 27 14 8,oG 28 14 9,oa 29 (.call (tv 26) [fa 27,fa 28] []) 1728,oU 30 29] [1,2,15,16,17,30] (cd 30 (.seq (rd [960,1408] [o 6 (.mv kF)] [6]) .ret) .skip))))) (rd [960,1408,1760,1761,1762] [oK 31 .add 17 1,oM 17 31] [1,2,15,16,17]))))

def v177 : VFun := ⟨3,(sq [o 6 (.mv kF)] [0,1,2] (.seq (sq [oM 10 0,oN 11 10,oM 12 1,oN 13 12,oB 14 .neq 11 13] [0,1,2,14] (cd 14 (sq [o 6 (.mv kF)] [6] .ret) .skip)) (.seq (sq [oM 15 0,oN 16 15,oJ 17 0] [1,2,15,16,17] (lp 0 l177_0)) (sq [o 6 (.mv kt)] [6] .ret)))),[.tmp 6],false⟩

def l180_0 : VCode := (sq [oB 18 .lss 17 16] [1,2,15,16,17,18] (.seq (xt 18 0) (.seq (.block 1 (sq [oM 19 17,oX 20 11 15 17,oG 21 11 20,oa 8 (.new zE []) 960,oM 7 19,oW 11 8 21] [1,2,7,8,15,16,17] (sq [oM 22 1,oM 23 7,oX 24 11 22 23,oG 25 11 24,oa 9 (.new zE []) 1408,oW 11 9 25] [1,2,8,9,15,16,17] (sq [oM 26 2,oG 27 11 8,oG 28 11 9,oa 29 (.call (tv 26) [fa 27,fa 28] []) 1728,oU 30 29] [1,2,15,16,17,30] (cd 30 (.seq (rd [960,1408] [o 6 (.mv kF)] [6]) .ret) .skip))))) (rd [960,1408,1760,1761,1762] [oK 31 .add 17 1,oM 17 31] [1,2,15,16,17]))))

def v180 : VFun := ⟨3,(sq [o 6 (.mv kF)] [0,1,2] (.seq (sq [oM 10 0,oN 11 10,oM 12 1,oN 13 12,oB 14 .neq 11 13] [0,1,2,14] (cd 14 (sq [o 6 (.mv kF)] [6] .ret) .skip)) (.seq (sq [oM 15 0,oN 16 15,oJ 17 0] [1,2,15,16,17] (lp 0 l180_0)) (sq [o 6 (.mv kt)] [6] .ret)))),[.tmp 6],false⟩

def v173 : VFun := ⟨2,(sq [o 4 (.mv kF)] [0,1] (.seq (.region [] [oM 5 0,o 6 (.nn (tv 5)),oF 7 2 6,oL 8 7,oU 9 8,oM 10 9,gM 11 0 10 true,og 12 (.nn (tv 11)) 10 true,gF 13 1 12 10 true,gL 14 13 10 true,gM 15 0 10 true,og 16 (.nn (tv 15)) 10 true,gF 17 0 16 10 true,gL 18 17 10 true,gN 19 18 10 true,gB 20 .lss 14 19 10 true,oQ 21 10 20,oM 22 21,gM 23 0 22 true,og 24 (.nn (tv 23)) 22 true,gF 25 0 24 22 true,gL 26 25 22 true,gM 27 0 22 true,og 28 (.nn (tv 27)) 22 true,gF 29 1 28 22 true,gL 30 29 22 true,gX 31 3 26 30 22 true,gF 32 0 31 22 true,gL 33 32 22 true,og 34 (.bin .eql 0 (tv 33) (ki 5)) 22 true,gM 35 34 22 true,gM 36 0 35 false,og 37 (.nn (tv 36)) 35 false,gF 38 0 37 35 false,gL 39 38 35 false,gM 40 0 35 false,og 41 (.nn (tv 40)) 35 false,gF 42 1 41 35 false,gL 43 42 35 false,gX 44 3 39 43 35 false,gF 45 0 44 35 false,gL 46 45 35 false,og 47 (.bin .eql 0 (tv 46) (ki 4)) 35 false,og 48 (.pick (tv 35) kt (tv 47)) 22 true,oQ 49 22 48,oM 50 49,gM 51 0 50 true,og 52 (.nn (tv 51)) 50 true,gF 53 0 52 50 true,gL 54 53 50 true,gM 55 0 50 true,og 56 (.nn (tv 55)) 50 true,gF 57 1 56 50 true,gL 58 57 50 true,gX 59 3 54 58 50 true,gF 60 1 59 50 true,gL 61 60 50 true,gM 62 1 50 true,gB 63 .eql 61 62 50 true,oQ 64 50 63,oM 4 64] [(7,11),(8,11),(9,11),(7,12),(8,12),(9,12),(7,13),(8,13),(9,13),(7,14),(8,14),(9,14),(19,23),(20,23),(21,23),(19,24),(20,24),(21,24),(19,25),(20,25),(21,25),(32,36),(33,36),(34,36),(32,37),(33,37),(34,37),(32,38),(33,38),(34,38),(47,51),(48,51),(49,51),(47,52),(48,52),(49,52),(47,53),(48,53),(49,53)] [4]) .ret)),[.tmp 4],false⟩

def l174_0 : VCode := (.seq (sq [oM 13 0,cA 14 228 [ta 13,(false,(ki 1))] 896] [0,2,3,14] (xt 14 0)) (.block 1 (.region [1216] [oF 15 2 3,oL 16 15,oM 17 0,cA 18 221 [ta 17,(false,(ki 1))] 1152,oa 19 (.mkSl 1 [(tv 18)]) 1216,o 20 (.app 1 16 false (tv 16) (tv 19)),oF 21 2 3,oW 1 21 20] [(0,3),(1,3),(0,4),(1,4)] [0,2,3])))

def l174_1 : VCode := (.seq (sq [oM 34 0,cA 35 229 [ta 34] 2432] [0,2,3,4,35] (xt 35 4)) (.block 5 (.region [2752] [oF 36 2 4,oL 37 36,oM 38 0,cA 39 230 [ta 38] 2688,oa 40 (.mkSl 5 [(tv 39)]) 2752,o 41 (.app 5 64 false (tv 37) (tv 40)),oF 42 2 4,oW 1 42 41] [(0,3),(1,3),(0,4),(1,4)] [0,2,3,4])))

def l174_2 : VCode := (.seq (sq [oM 24 0,o 25 (.nn (tv 24)),oF 26 2 25,oL 27 26,oU 28 27] [0,2,3,28] (xt 28 2)) (.block 3 (.seq (rd [2240,2304,2307] [oM 29 0,cA 30 219 [ta 29] 1984,oM 31 0,cA 32 221 [ta 31,(false,(ki 2))] 2112,o 33 (.build [zi,zs,.nil] [(0,1,(tv 30)),(1,1,(tv 32))]),oa 4 (.new [zi,zs,.nil] []) 2240,⟨none,(.store 3 (tv 4) (tv 33) [(2,5)]),none,2304,[]⟩] [0,2,3,4]) (.seq (lp 4 l174_1) (.seq (rd [3200] [oF 43 3 3,oL 44 43,o 45 (.ldD true 3 (tv 4)),oa 46 (.mkSl 3 [(tv 45)]) 3200,o 47 (.app 3 48 false (tv 44) (tv 46)),oF 48 3 3,oW 1 48 47] [0,2,3]) (.seq (rd [2240,3200] [oM 49 0,oa 50 (.call (kf 220) [ta 49,(false,(.k (.sc (.c (.str [124])))))] []) 3520,oU 51 50] [0,2,3,51]) (cd 51 (.exit 2) .skip)))))))

def v174 : VFun := ⟨1,(sq [oa 2 (.new [zi,zs,.nil,.nil] []) 64] [0,2] (sq [oM 5 0,cA 6 219 [ta 5] 192,o 7 (.build [zi,zs,.nil,.nil] [(0,1,(tv 6))]),oa 3 (.new [zi,zs,.nil,.nil] []) 320,⟨none,(.store 4 (tv 3) (tv 7) [(2,1),(3,3)]),none,384,[]⟩] [0,2,3] (sq [oM 8 0,oa 9 (.call (kf 222) [ta 8,(false,(.k (.sc (.c (.str [100,97,116,97])))))] []) 512] [0,2,3] (sq [oM 10 0,cA 11 221 [ta 10,(false,(ki 2))] 640,oF 12 1 3,oW 1 12 11] [0,2,3] (.seq (lp 0 l174_0) (sq [oM 22 0,oa 23 (.call (kf 222) [ta 22,(false,(.k (.sc (.c (.str [61])))))] []) 1536] [0,2,3] (.seq (lp 2 l174_2) (sq [oM 52 0,oa 53 (.call (kf 222) [ta 52,(false,(.k (.sc (.c (.str [59])))))] []) 3712] [2,3] (sq [o 54 (.ldD true 4 (tv 3)),oW 4 2 54] [2] .ret))))))))),[.cell 2 true 4],false⟩

def l176_0 : VCode := (.seq (sq [oM 43 5,oF 44 3 4,oL 45 44,oN 46 45,oB 47 .lss 43 46] [1,2,3,4,5,47] (xt 47 2)) (.seq (.block 3 (sq [oF 50 3 4,oL 51 50,oM 52 5,oX 53 3 51 52,oF 54 2 53,oL 55 54,oN 56 55,oK 57 .gtr 56 4] [1,2,3,4,5,57] (cd 57 (sq [oF 58 3 4,oL 59 58,oM 60 5,oX 61 3 59 60,oF 62 0 61,oL 63 62,o 64 (.build [zi,zi] [(0,1,(ki 5)),(1,1,(tv 63))]),oW 2 2 64] [2] .ret) .skip))) (rg [oM 48 5,oK 49 .add 48 1,oM 5 49] [1,2,3,4,5])))

def l176_1 : VCode := (.seq (sq [oM 14 3,oF 15 0 1,oL 16 15,oN 17 16,oB 18 .lss 14 17] [1,2,3,18] (xt 18 0)) (.seq (.block 1 (sq [oF 21 0 1,oL 22 21,oM 23 3,oX 24 4 22 23,oG 25 4 24,oa 4 (.new [zi,zs,.nil,.nil] []) 896,oW 4 4 25] [1,2,3,4] (.seq (sq [oM 26 3,oK 27 .geq 26 8,oM 28 27,gF 29 2 4 28 false,gL 30 29 28 false,gN 31 30 28 false,og 32 (.bin .gtr 0 (tv 31) (ki 4)) 28 false,oP 33 28 32,oM 34 33,gF 35 3 4 34 false,gL 36 35 34 false,gN 37 36 34 false,og 38 (.bin .gtr 0 (tv 37) (ki 6)) 34 false,oP 39 34 38] [1,2,3,4,39] (cd 39 (sq [oF 40 0 4,oL 41 40,o 42 (.build [zi,zi] [(0,1,(ki 5)),(1,1,(tv 41))]),oW 2 2 42] [2] .ret) .skip)) (sq [oJ 5 0] [1,2,3,4,5] (lp 2 l176_0))))) (rd [896] [oM 19 3,oK 20 .add 19 1,oM 3 20] [1,2,3])))

def l176_2 : VCode := (.seq (sq [oM 94 9,oF 95 3 7,oL 96 95,oM 97 8,oX 98 3 96 97,oF 99 2 98,oL 100 99,oN 101 100,oB 102 .lss 94 101] [1,2,6,7,8,9,102] (xt 102 8)) (.seq (.block 9 (sq [oF 105 3 7,oL 106 105,oM 107 8,oX 108 3 106 107,oF 109 2 108,oL 110 109,oM 111 9,oX 112 5 110 111,oG 113 5 112,cA 114 232 [fa 113] 7104,oK 115 .gtr 114 40] [1,2,6,7,8,9,115] (cd 115 (sq [oF 116 0 7,oL 117 116,o 118 (.build [zi,zi] [(0,1,(ki 4)),(1,1,(tv 117))]),oW 2 2 118] [2] .ret) .skip))) (rg [oM 103 9,oK 104 .add 103 1,oM 9 104] [1,2,6,7,8,9])))

def l176_3 : VCode := (.seq (sq [oM 87 8,oF 88 3 7,oL 89 88,oN 90 89,oB 91 .lss 87 90] [1,2,6,7,8,91] (xt 91 6)) (.seq (.block 7 (sq [oJ 9 0] [1,2,6,7,8,9] (lp 8 l176_2))) (rg [oM 92 8,oK 93 .add 92 1,oM 8 93] [1,2,6,7,8])))

def l176_4 : VCode := (.seq (sq [oM 75 6,oF 76 0 1,oL 77 76,oN 78 77,oB 79 .lss 75 78] [1,2,6,79] (xt 79 4)) (.seq (.block 5 (sq [oF 82 0 1,oL 83 82,oM 84 6,oX 85 4 83 84,oG 86 4 85,oa 7 (.new [zi,zs,.nil,.nil] []) 5376,oW 4 7 86] [1,2,6,7] (sq [oJ 8 0] [1,2,6,7,8] (lp 6 l176_3)))) (rd [5376] [oM 80 6,oK 81 .add 80 1,oM 6 81] [1,2,6])))

def l176_5 : VCode := (.seq (sq [oM 119 10,oF 120 1 1,oL 121 120,oN 122 121,oB 123 .lss 119 122] [1,2,10,123] (xt 123 10)) (.seq (.block 11 (sq [oF 126 1 1,oL 127 126,oM 128 10,oX 129 20 127 128,oG 130 20 129,oa 11 (.new [zi,(.c (.bool false)),zs,(.c (.bool false)),zi,zs,zi,zi,.nil,zi,zi,zs,zi,.nil,.nil,zi,zs,zi,zi,.nil] []) 8768,oW 20 11 130] [1,2,10,11] (.seq (sq [oF 131 3 11,oL 132 131,oM 133 132,gF 134 4 11 133 true,gG 135 5 134 133 true,gA 136 232 [fa 135] 133 true 9216,og 137 (.bin .gtr 0 (tv 136) (ki 40)) 133 true,oQ 138 133 137,oM 139 138,gF 140 9 11 139 false,gG 141 11 140 139 false,gA 142 171 [fa 141] 139 false 9600,oP 143 139 142] [1,2,10,11,143] (cd 143 (sq [oF 144 0 11,oL 145 144,o 146 (.build [zi,zi] [(0,1,(ki 4)),(1,1,(tv 145))]),oW 2 2 146] [2] .ret) .skip)) (sq [oF 148 9 11,oG 149 11 148,cA 150 172 [fa 149] 10112,oM 147 150,oE 151 147 0,oE 152 147 1,oM 12 151,oM 13 152] [1,2,10,12,13] (.seq (rd [8768] [oM 153 13] [1,2,10,12,153]) (cd 153 (sq [oM 154 12,o 155 (.build [zi,zi] [(0,1,(ki 5)),(1,1,(tv 154))]),oW 2 2 155] [2] .ret) .skip)))))) (rd [8768] [oM 124 10,oK 125 .add 124 1,oM 10 125] [1,2,10])))

def v176 : VFun := ⟨1,(sq [oa 1 (.box (tv 0)) 64,oa 2 (.new [zi,zi] []) 128] [1,2] (.seq (sq [oJ 3 0] [1,2,3] (lp 0 l176_1)) (.seq (sq [oF 65 1 1,oL 66 65,oN 67 66,oK 68 .gtr 67 16] [1,2,68] (cd 68 (sq [oF 69 1 1,oL 70 69,o 71 (.idxA 20 (tv 70) (ki 16)),oF 72 0 71,oL 73 72,o 74 (.build [zi,zi] [(0,1,(ki 5)),(1,1,(tv 73))]),oW 2 2 74] [2] .ret) .skip)) (.seq (sq [oJ 6 0] [1,2,6] (lp 4 l176_4)) (.seq (sq [oJ 10 0] [1,2,10] (lp 10 l176_5)) (sq [o 156 (.build [zi,zi] []),oW 2 2 156] [2] .ret)))))),[.cell 2 true 2],false⟩

def v246 : VFun := ⟨2,(sq [oa 2 (.box (tv 0)) 64,o 3 (.mv kF)] [1,2] (.seq (.region [] [oG 4 11 2,cA 5 30 [fa 4] 256,oF 6 0 1,oL 7 6,cA 8 81 [fa 5,fa 7] 448,oM 3 8] [(0,2),(1,2),(0,3),(1,3)] [3]) .ret)),[.tmp 3],false⟩

def v117 : VFun := ⟨2,(sq [o 4 (.mv kF)] [0,1] (sq [oM 5 0,oM 6 1,cA 7 164 [fa 5,ta 6] 256,oK 8 .geq 7 0,oM 4 8] [4] .ret)),[.tmp 4],false⟩

def l28_0 : VCode := (sq [oB 18 .lss 17 16] [0,5,15,16,17,18] (.seq (xt 18 0) (.seq (.block 1 (sq [oX 19 1 15 17,oL 20 19,oM 7 20] [0,5,7,15,16,17] (sq [oM 22 7,oa 23 (.call (kf 73) [fa 22,(false,(.k (.sc (.c (.str [118])))))] []) 704,oM 21 23,oE 24 21 0,oE 25 21 1,oM 8 24,oM 9 25] [0,5,8,9,15,16,17] (sq [oM 27 8,cA 28 74 [fa 27,(false,(ki 10)),(false,(ki 64))] 1152,oM 26 28,oE 29 26 0,oE 30 26 1,oM 10 29,oM 11 30] [0,5,8,9,10,11,15,16,17] (sq [oM 31 9,oM 32 31,gM 33 11 32 true,og 34 (.bin .eql 5 (tv 33) (.k (.sc (.c .nilif)))) 32 true,oQ 35 32 34,oM 36 35,gM 37 10 36 true,og 38 (.bin .gtr 0 (tv 37) (.k (.sc (.c (.int .u64 0))))) 36 true,oQ 39 36 38,oM 40 39,gM 41 10 40 true,gA 42 75 [fa 41,(false,(ki 10))] 40 true 2240,gM 43 8 40 true,gB 44 .eql 42 43 40 true,oQ 45 40 44] [0,5,10,15,16,17,45] (cd 45 (rg [oM 46 5,oM 47 10,oa 48 (.mkSl 1 [(tv 47)]) 2624,o 49 (.app 1 8 false (tv 46) (tv 48)),oM 5 49] [0,5,15,16,17]) .skip)))))) (rd [1184,1185,1186,2624] [oK 50 .add 17 1,oM 17 50] [0,5,15,16,17]))))

def l28_1 : VCode := (sq [oB 61 .lss 60 59] [12,58,59,60,61] (.seq (xt 61 2) (.seq (.block 3 (sq [oX 62 1 58 60,oL 63 62,oM 14 63] [12,14,58,59,60] (sq [oM 64 14,oM 65 12,oB 66 .leq 64 65] [12,58,59,60,66] (cd 66 (rg [oM 67 12,o 68 (.bin .add 0 (tv 67) (.k (.sc (.c (.int .u64 1))))),oM 12 68] [12,58,59,60]) .skip)))) (rg [oK 69 .add 60 1,oM 60 69] [12,58,59,60]))))

def v28 : VFun := ⟨2,(sq [o 4 (.mv (.k (.sc zs)))] [0,1] (sq [⟨(some 5),(.mv kn),none,128,[(0,1)]⟩] [0,1,5] (.seq (sq [oM 15 1,oN 16 15,oJ 17 0] [0,5,15,16,17] (lp 0 l28_0)) (sq [oM 51 5,cA 52 76 [ta 51] 3008] [0,5] (sq [oM 53 0,o 54 (.mx (tv 53) (ki 0)),o 55 (.cvI .u64 (tv 54)),o 56 (.bin .add 0 (tv 55) (.k (.sc (.c (.int .u64 1))))),oM 12 56] [5,12] (.seq (sq [oM 57 5,cA 58 77 [ta 57] 3456,oN 59 58,oJ 60 0] [12,58,59,60] (lp 2 l28_1)) (sq [oM 70 12,cA 71 75 [fa 70,(false,(ki 10))] 4480,o 72 (.bin .add 0 (.k (.sc (.c (.str [118])))) (tv 71)),oM 4 72] [4] .ret))))))),[.tmp 4],false⟩

def l163_0 : VCode := (sq [oB 9 .lss 8 7] [0,1,7,8,9] (.seq (xt 9 0) (.seq (.block 1 (sq [oM 10 8,oM 5 10] [0,1,5,7,8] (sq [oM 11 1,oM 12 0,oM 13 5,oX 14 1 12 13,oL 15 14,oa 16 (.call (tv 11) [fa 15] []) 832] [0,1,5,7,8,16] (cd 16 (sq [oM 17 5,oM 4 17] [4] .ret) .skip)))) (rd [864,865,866] [oK 18 .add 8 1,oM 8 18] [0,1,7,8]))))

def v163 : VFun := ⟨2,(sq [oJ 4 0] [0,1] (.seq (sq [oM 6 0,oN 7 6,oJ 8 0] [0,1,7,8] (lp 0 l163_0)) (sq [oJ 4 (-1)] [4] .ret))),[.tmp 4],false⟩

def v249 : VFun := ⟨1,(sq [o 2 (.mv kF)] [0] (sq [oM 3 0,o 4 (.bin .geq 0 (tv 3) (.k (.sc (.c (.int .u8 97))))),oM 5 4,gM 6 0 5 true,og 7 (.bin .leq 0 (tv 6) (.k (.sc (.c (.int .u8 122))))) 5 true,oQ 8 5 7,oM 2 8] [2] .ret)),[.tmp 2],false⟩

def v250 : VFun := ⟨1,(sq [o 2 (.mv kF)] [0] (sq [oM 3 0,o 4 (.bin .geq 0 (tv 3) (.k (.sc (.c (.int .u8 65))))),oM 5 4,gM 6 0 5 true,og 7 (.bin .leq 0 (tv 6) (.k (.sc (.c (.int .u8 90))))) 5 true,oQ 8 5 7,oM 2 8] [2] .ret)),[.tmp 2],false⟩

def v251 : VFun := ⟨1,(sq [o 2 (.mv kF)] [0] (sq [oM 3 0,o 4 (.bin .geq 0 (tv 3) (.k (.sc (.c (.int .u8 48))))),oM 5 4,gM 6 0 5 true,og 7 (.bin .leq 0 (tv 6) (.k (.sc (.c (.int .u8 57))))) 5 true,oQ 8 5 7,oM 2 8] [2] .ret)),[.tmp 2],false⟩

def l252_0 : VCode := (.seq (sq [oM 6 4,oM 7 3,oN 8 7,oB 9 .lss 6 8] [0,3,4,9] (xt 9 0)) (.seq (.block 1 (sq [oM 12 3,oM 13 4,oX 14 1 12 13,oL 15 14,oM 16 0,oB 17 .eql 15 16] [0,3,4,17] (cd 17 (sq [o 2 (.mv kt)] [2] .ret) .skip))) (rg [oM 10 4,oK 11 .add 10 1,oM 4 11] [0,3,4])))

def v252 : VFun := ⟨1,(sq [o 2 (.mv kF)] [0] (sq [oa 5 (.mkSl 1 [(.k (.sc (.c (.str [100,97,116,97])))),(.k (.sc (.c (.str [108,101,116])))),(.k (.sc (.c (.str [114,101,99])))),(.k (.sc (.c (.str [105,110])))),(.k (.sc (.c (.str [99,97,115,101])))),(.k (.sc (.c (.str [111,102])))),(.k (.sc (.c (.str [101,110,100]))))]) 128,oM 3 5] [0,3] (.seq (sq [oJ 4 0] [0,3,4] (lp 0 l252_0)) (sq [o 2 (.mv kF)] [2] .ret)))),[.tmp 2],false⟩

def v253 : VFun := ⟨1,(sq [o 2 (.mv kF)] [0] (sq [oM 3 0,cA 4 263 [fa 3] 192,oM 5 4,gM 6 0 5 true,og 7 (.idxS (tv 6) (ki 0)) 5 true,gA 8 249 [fa 7] 5 true 448,oQ 9 5 8,oM 10 9,gM 11 0 10 true,og 12 (.len true (tv 11)) 10 true,og 13 (.bin .leq 0 (tv 12) (ki 12)) 10 true,oQ 14 10 13,oM 15 14,gM 16 0 15 true,gA 17 252 [fa 16] 15 true 1024,gU 18 17 15 true,oQ 19 15 18,oM 2 19] [2] .ret)),[.tmp 2],false⟩

def v254 : VFun := ⟨1,(sq [o 2 (.mv kF)] [0] (sq [oM 3 0,cA 4 263 [fa 3] 192,oM 5 4,gM 6 0 5 true,og 7 (.idxS (tv 6) (ki 0)) 5 true,gA 8 250 [fa 7] 5 true 448,oQ 9 5 8,oM 10 9,gM 11 0 10 true,og 12 (.len true (tv 11)) 10 true,og 13 (.bin .leq 0 (tv 12) (ki 12)) 10 true,oQ 14 10 13,oM 2 14] [2] .ret)),[.tmp 2],false⟩

def l255_0 : VCode := (.seq (sq [oM 21 3,oM 22 0,o 23 (.len true (tv 22)),oB 24 .lss 21 23] [0,3,24] (xt 24 0)) (.seq (.block 1 (sq [oM 27 0,oM 28 3,o 29 (.idxS (tv 27) (tv 28)),cA 30 251 [fa 29] 1792,oU 31 30] [0,3,31] (cd 31 (sq [o 2 (.mv kF)] [2] .ret) .skip))) (rg [oM 25 3,oK 26 .add 25 1,oM 3 26] [0,3])))

def v255 : VFun := ⟨1,(sq [o 2 (.mv kF)] [0] (.seq (sq [oM 4 0,o 5 (.bin .eql 0 (tv 4) (.k (.sc zs))),oM 6 5,gM 7 0 6 false,og 8 (.len true (tv 7)) 6 false,og 9 (.bin .gtr 0 (tv 8) (ki 9)) 6 false,oP 10 6 9,oM 11 10,gM 12 0 11 false,og 13 (.idxS (tv 12) (ki 0)) 11 false,og 14 (.bin .eql 0 (tv 13) (.k (.sc (.c (.int .u8 48))))) 11 false,gM 15 14 11 false,gM 16 0 15 true,og 17 (.len true (tv 16)) 15 true,og 18 (.bin .gtr 0 (tv 17) (ki 1)) 15 true,og 19 (.pick (tv 15) (tv 18) kF) 11 false,oP 20 11 19] [0,20] (cd 20 (sq [o 2 (.mv kF)] [2] .ret) .skip)) (.seq (sq [oJ 3 0] [0,3] (lp 0 l255_0)) (sq [o 2 (.mv kt)] [2] .ret)))),[.tmp 2],false⟩

def l256_0 : VCode := (.seq (sq [oM 6 3,oK 7 .lss 6 11] [0,3,7] (xt 7 0)) (.seq (.block 1 (sq [oM 10 0,oM 11 3,oM 12 3,oK 13 .add 12 1,o 14 (.slS (.k (.sc (.c (.str [92,46,61,59,58,124,40,41,123,125,63])))) (some (tv 11)) (some (tv 13))),oB 15 .eql 10 14] [0,3,15] (cd 15 (sq [o 2 (.mv kt)] [2] .ret) .skip))) (rg [oM 8 3,oK 9 .add 8 1,oM 3 9] [0,3])))

def v256 : VFun := ⟨1,(sq [o 2 (.mv kF)] [0] (.seq (sq [oM 4 0,o 5 (.bin .eql 0 (tv 4) (.k (.sc (.c (.str [45,62])))))] [0,5] (cd 5 (sq [o 2 (.mv kt)] [2] .ret) .skip)) (.seq (sq [oJ 3 0] [0,3] (lp 0 l256_0)) (sq [o 2 (.mv kF)] [2] .ret)))),[.tmp 2],false⟩

def v228 : VFun := ⟨2,(sq [o 4 (.mv kF)] [0,1] (.seq (.region [] [oM 5 0,o 6 (.nn (tv 5)),oF 7 2 6,oL 8 7,oU 9 8,oM 10 9,gM 11 0 10 true,og 12 (.nn (tv 11)) 10 true,gF 13 1 12 10 true,gL 14 13 10 true,gM 15 0 10 true,og 16 (.nn (tv 15)) 10 true,gF 17 0 16 10 true,gL 18 17 10 true,gN 19 18 10 true,gB 20 .lss 14 19 10 true,oQ 21 10 20,oM 22 21,gM 23 0 22 true,og 24 (.nn (tv 23)) 22 true,gF 25 0 24 22 true,gL 26 25 22 true,gM 27 0 22 true,og 28 (.nn (tv 27)) 22 true,gF 29 1 28 22 true,gL 30 29 22 true,gX 31 3 26 30 22 true,gF 32 0 31 22 true,gL 33 32 22 true,gM 34 1 22 true,gB 35 .eql 33 34 22 true,oQ 36 22 35,oM 4 36] [(7,11),(8,11),(9,11),(7,12),(8,12),(9,12),(7,13),(8,13),(9,13),(7,14),(8,14),(9,14),(19,23),(20,23),(21,23),(19,24),(20,24),(21,24),(19,25),(20,25),(21,25)] [4]) .ret)),[.tmp 4],false⟩

def l231_0 : VCode := (.seq (sq [oM 9 0,cA 10 229 [ta 9] 640] [0,2,3,10] (xt 10 0)) (.block 1 (.region [960] [oF 11 4 3,oL 12 11,oM 13 0,cA 14 230 [ta 13] 896,oa 15 (.mkSl 5 [(tv 14)]) 960,o 16 (.app 5 64 false (tv 12) (tv 15)),oF 17 4 3,oW 1 17 16] [(0,3),(1,3),(0,4),(1,4)] [0,2,3])))

def v231 : VFun := ⟨1,(sq [oa 2 (.new [zi,zs,zi,zi,.nil] []) 64] [0,2] (sq [oa 3 (.new [zi,zs,zi,zi,.nil] []) 128] [0,2,3] (.seq (sq [oM 4 0,cA 5 228 [ta 4,(false,(ki 2))] 256] [0,2,3,5] (cd 5 (sq [oM 6 0,cA 7 221 [ta 6,(false,(ki 2))] 384,cA 8 100 [fa 7,(true,kn)] 448,⟨none,(.store 5 (tv 3) (tv 8) [(4,5)]),none,512,[]⟩] [0,2,3] (lp 0 l231_0)) (rg [oM 18 0,cA 19 230 [ta 18] 1280,⟨none,(.store 5 (tv 3) (tv 19) [(4,5)]),none,1344,[]⟩] [0,2,3]))) (.seq (sq [oM 20 0,oa 21 (.call (kf 220) [ta 20,(false,(.k (.sc (.c (.str [45,62])))))] []) 1472] [0,2,3,21] (cd 21 (.seq (.region [] [o 22 (.ldD true 5 (tv 3)),oM 23 0,cA 24 231 [ta 23] 1664,cA 25 128 [fa 22,fa 24] 1728,oW 5 2 25] [(0,2)] [2]) .ret) .skip)) (sq [o 26 (.ldD true 5 (tv 3)),oW 5 2 26] [2] .ret))))),[.cell 2 true 5],false⟩

def l232_0 : VCode := (.seq (sq [oM 5 4,oF 6 4 1,oL 7 6,oN 8 7,oB 9 .lss 5 8] [1,3,4,9] (xt 9 0)) (.seq (.block 1 (rg [oM 12 3,oF 13 4 1,oL 14 13,oM 15 4,oX 16 5 14 15,oG 17 5 16,cA 18 232 [fa 17] 1024,o 19 (.bin .add 0 (ki 1) (tv 18)),o 20 (.mx (tv 12) (tv 19)),oM 3 20] [1,3,4])) (rg [oM 10 4,oK 11 .add 10 1,oM 4 11] [1,3,4])))

def v232 : VFun := ⟨1,(sq [oa 1 (.box (tv 0)) 64,oJ 2 0] [1] (sq [oJ 3 0] [1,3] (.seq (sq [oJ 4 0] [1,3,4] (lp 0 l232_0)) (sq [oM 21 3,oM 2 21] [2] .ret)))),[.tmp 2],false⟩

def v162 : VFun := ⟨2,(sq [oa 2 (.box (tv 0)) 64,oa 3 (.box (tv 1)) 128,oJ 4 0] [2,3] (.seq (.region [] [oF 6 0 2,oL 7 6,oF 8 0 3,oL 9 8,cA 10 55 [fa 7,fa 9] 512,oF 11 1 2,oL 12 11,oF 13 1 3,oL 14 13,cA 15 215 [fa 12,fa 14] 832,oF 16 2 2,oL 17 16,oF 18 2 3,oL 19 18,cA 20 55 [fa 17,fa 19] 1152,oF 21 3 2,oL 22 21,oF 23 3 3,oL 24 23,cA 25 55 [fa 22,fa 24] 1472,oF 26 4 2,oL 27 26,oN 28 27,oF 29 4 3,oL 30 29,oN 31 30,cA 32 55 [fa 28,fa 31] 1920,oa 33 (.mkSl 1 [(tv 10),(tv 15),(tv 20),(tv 25),(tv 32)]) 1984,cA 34 59 [fa 33] 2048,oM 5 34] [(0,2),(1,2),(0,3),(1,3),(0,5),(1,5),(2,5),(3,5),(4,5),(0,6),(1,6),(2,6),(3,6),(4,6),(0,7),(1,7),(2,7),(3,7),(4,7),(5,7),(6,7),(0,8),(1,8),(2,8),(3,8),(4,8),(5,8),(6,8),(0,10),(1,10),(2,10),(3,10),(4,10),(5,10),(6,10),(7,10),(8,10),(9,10),(0,11),(1,11),(2,11),(3,11),(4,11),(5,11),(6,11),(7,11),(8,11),(9,11),(0,12),(1,12),(2,12),(3,12),(4,12),(5,12),(6,12),(7,12),(8,12),(9,12),(10,12),(11,12),(0,13),(1,13),(2,13),(3,13),(4,13),(5,13),(6,13),(7,13),(8,13),(9,13),(10,13),(11,13),(0,15),(1,15),(2,15),(3,15),(4,15),(5,15),(6,15),(7,15),(8,15),(9,15),(10,15),(11,15),(12,15),(13,15),(14,15),(0,16),(1,16),(2,16),(3,16),(4,16),(5,16),(6,16),(7,16),(8,16),(9,16),(10,16),(11,16),(12,16),(13,16),(14,16),(0,17),(1,17),(2,17),(3,17),(4,17),(5,17),(6,17),(7,17),(8,17),(9,17),(10,17),(11,17),(12,17),(13,17),(14,17),(15,17),(16,17),(0,18),(1,18),(2,18),(3,18),(4,18),(5,18),(6,18),(7,18),(8,18),(9,18),(10,18),(11,18),(12,18),(13,18),(14,18),(15,18),(16,18),(0,20),(1,20),(2,20),(3,20),(4,20),(5,20),(6,20),(7,20),(8,20),(9,20),(10,20),(11,20),(12,20),(13,20),(14,20),(15,20),(16,20),(17,20),(18,20),(19,20),(0,21),(1,21),(2,21),(3,21),(4,21),(5,21),(6,21),(7,21),(8,21),(9,21),(10,21),(11,21),(12,21),(13,21),(14,21),(15,21),(16,21),(17,21),(18,21),(19,21),(0,22),(1,22),(2,22),(3,22),(4,22),(5,22),(6,22),(7,22),(8,22),(9,22),(10,22),(11,22),(12,22),(13,22),(14,22),(15,22),(16,22),(17,22),(18,22),(19,22),(0,23),(1,23),(2,23),(3,23),(4,23),(5,23),(6,23),(7,23),(8,23),(9,23),(10,23),(11,23),(12,23),(13,23),(14,23),(15,23),(16,23),(17,23),(18,23),(19,23),(20,23),(21,23),(22,23),(0,24),(1,24),(2,24),(3,24),(4,24),(5,24),(6,24),(7,24),(8,24),(9,24),(10,24),(11,24),(12,24),(13,24),(14,24),(15,24),(16,24),(17,24),(18,24),(19,24),(20,24),(21,24),(22,24),(0,25),(1,25),(2,25),(3,25),(4,25),(5,25),(6,25),(7,25),(8,25),(9,25),(10,25),(11,25),(12,25),(13,25),(14,25),(15,25),(16,25),(17,25),(18,25),(19,25),(20,25),(21,25),(22,25)] [2,3,5]) (.seq (.seq (rd [1984] [oM 35 5,oK 36 .neq 35 0] [2,3,5,36]) (cd 36 (sq [oM 37 5,oM 4 37] [4] .ret) .skip)) (sq [oF 38 4 2,oL 39 38,oF 40 4 3,oL 41 40,cA 42 216 [fa 39,fa 41,(true,(kf 162))] 2688,oM 4 42] [4] .ret)))),[.tmp 4],false⟩

def v229 : VFun := ⟨1,(sq [o 2 (.mv kF)] [0] (sq [oM 3 0,cA 4 228 [ta 3,(false,(ki 1))] 192,oM 5 4,gM 6 0 5 false,gA 7 228 [ta 6,(false,(ki 2))] 5 false 384,oP 8 5 7,oM 9 8,gM 10 0 9 false,⟨(some 11),(.call (kf 173) [ta 10,(false,(.k (.sc (.c (.str [40])))))] []),(some (9,false)),640,[]⟩,oP 12 9 11,oM 2 12] [2] .ret)),[.tmp 2],false⟩

def v230 : VFun := ⟨1,(sq [oa 2 (.new [zi,zs,zi,zi,.nil] []) 64] [0,2] (.seq (.block 0 (sq [oM 5 0,cA 6 228 [ta 5,(false,(ki 1))] 192,oM 4 6] [0,2,4] (cd 4 (sq [oM 7 0,cA 8 221 [ta 7,(false,(ki 1))] 384,cA 9 258 [fa 8] 448,oW 5 2 9] [2] .ret) (sq [oM 11 0,cA 12 228 [ta 11,(false,(ki 2))] 640,oM 10 12] [0,2,10] (cd 10 (sq [oM 13 0,cA 14 221 [ta 13,(false,(ki 2))] 832,cA 15 100 [fa 14,(false,kn)] 896,oW 5 2 15] [2] .ret) .skip))))) (sq [oM 16 0,oa 17 (.call (kf 222) [ta 16,(false,(.k (.sc (.c (.str [40])))))] []) 1088] [0,2] (.seq (sq [oM 18 0,o 19 (.nn (tv 18)),oF 20 2 19,oL 21 20] [0,2,21] (cd 21 (sq [o 22 (.build [zi,zs,zi,zi,.nil] []),oW 5 2 22] [2] .ret) .skip)) (sq [oM 23 0,cA 24 231 [ta 23] 1600,oa 3 (.new [zi,zs,zi,zi,.nil] []) 1664,oW 5 3 24] [0,2,3] (sq [oM 25 0,oa 26 (.call (kf 222) [ta 25,(false,(.k (.sc (.c (.str [41])))))] []) 1856] [2,3] (sq [oG 27 5 3,oW 5 2 27] [2] .ret))))))),[.cell 2 true 5],false⟩

def l164_0 : VCode := (sq [oB 9 .lss 8 7] [0,1,7,8,9] (.seq (xt 9 0) (.seq (.block 1 (sq [oM 10 8,oM 5 10] [0,1,5,7,8] (sq [oM 11 1,oM 12 0,oM 13 5,oX 14 11 12 13,oG 15 11 14,oa 16 (.call (tv 11) [fa 15] []) 832] [0,1,5,7,8,16] (cd 16 (sq [oM 17 5,oM 4 17] [4] .ret) .skip)))) (rd [864,865,866] [oK 18 .add 8 1,oM 8 18] [0,1,7,8]))))

def v164 : VFun := ⟨2,(sq [oJ 4 0] [0,1] (.seq (sq [oM 6 0,oN 7 6,oJ 8 0] [0,1,7,8] (lp 0 l164_0)) (sq [oJ 4 (-1)] [4] .ret))),[.tmp 4],false⟩

def v73 : VFun := ⟨2,(sq [o 4 (.mv (.k (.sc zs))),o 5 (.mv kF)] [0,1] (sq [oM 6 0,oM 7 1,cA 8 134 [fa 6,fa 7] 320,oE 9 8 0,oE 10 8 1,oM 4 9,oM 5 10] [4,5] .ret)),[.tmp 4,.tmp 5],false⟩

def v74 : VFun := ⟨3,(sq [o 6 (.mv (.k (.sc (.c (.int .u64 0))))),o 7 (.mv (.k (.sc (.c .nilif))))] [0,1,2] (sq [oM 11 0,oM 12 1,oM 13 2,cA 14 135 [fa 11,fa 12,fa 13] 384,oM 10 14,oE 15 10 0,oE 16 10 1,oM 8 15,oM 9 16] [0,1,2,8,9] (.seq (sq [oM 17 9,o 18 (.bin .neq 5 (tv 17) (.k (.sc (.c .nilif))))] [0,1,2,8,9,18] (cd 18 (sq [oM 19 8,oM 20 0,oM 21 1,oM 22 2,oM 23 9,oa 24 (.call (kf 136) [(false,(.k (.sc (.c (.str [80,97,114,115,101,85,105,110,116]))))),fa 20,fa 21,fa 22,fa 23] []) 1216,oM 6 19,oM 7 24] [6,7] .ret) .skip)) (sq [oM 25 8,oM 6 25,o 7 (.mv (.k (.sc (.c .nilif))))] [6,7] .ret)))),[.tmp 6,.tmp 7],true⟩

def v75 : VFun := ⟨2,(sq [o 4 (.mv (.k (.sc zs)))] [0,1] (sq [oM 5 0,oM 6 1,cA 7 137 [fa 5,fa 6] 256,oM 4 7] [4] .ret)),[.tmp 4],false⟩

def v76 : VFun := ⟨1,(sq [oM 3 0,oN 4 3,oM 2 4] [0,2] (rg [oM 5 0,oM 6 2,oM 7 2,o 8 (.cvI .u64 (tv 7)),cA 9 139 [fa 8] 512,cA 10 138 [ta 5,(false,(ki 0)),fa 6,fa 9] 576] [1000000])),[],false⟩

def l77_0 : VCode := (.seq (sq [oM 29 5,oM 30 4,oN 31 30,oB 32 .lss 29 31] [0,3,4,5,32] (xt 32 2)) (.seq (.block 3 (.seq (.region [] [oM 35 4,oM 36 5,oX 37 1 35 36,oL 38 37,oM 39 4,oM 40 5,oK 41 .sub 40 1,oX 42 1 39 41,oL 43 42,oB 44 .neq 38 43] [(2,7),(3,7),(2,8),(3,8)] [0,3,4,5,44]) (cd 44 (sq [oM 45 0,oM 46 3,oM 47 4,oM 48 5,oX 49 1 47 48,oL 50 49,oX 51 1 45 46,oW 1 51 50] [0,3,4,5] (rg [oM 52 3,oK 53 .add 52 1,oM 3 53] [0,3,4,5])) .skip))) (rg [oM 33 5,oK 34 .add 33 1,oM 5 34] [0,3,4,5])))

def l77_1 : VCode := (.seq (sq [oM 10 3,oM 11 0,oN 12 11,oB 13 .lss 10 12] [0,3,13] (xt 13 0)) (.seq (.block 1 (.seq (.region [] [oM 16 0,oM 17 3,oX 18 1 16 17,oL 19 18,oM 20 0,oM 21 3,oK 22 .sub 21 1,oX 23 1 20 22,oL 24 23,oB 25 .eql 19 24] [(2,7),(3,7),(2,8),(3,8)] [0,3,25]) (cd 25 (sq [oM 26 0,oM 27 3,o 28 (.sl 1 (tv 26) (some (tv 27)) none none),oM 4 28] [0,3,4] (.seq (sq [oJ 5 1] [0,3,4,5] (lp 2 l77_0)) (sq [oM 54 0,oM 55 3,o 56 (.sl 1 (tv 54) (some (tv 55)) none none),on (.clr 1 [(.c (.int .u64 0))] (tv 56))] [0,3] (sq [oM 57 0,oM 58 3,o 59 (.sl 1 (tv 57) none (some (tv 58)) none),oM 2 59] [2] .ret)))) .skip))) (rg [oM 14 3,oK 15 .add 14 1,oM 3 15] [0,3])))

def v77 : VFun := ⟨1,(sq [o 2 (.mv kn)] [0] (.seq (sq [oM 6 0,oN 7 6,oK 8 .lss 7 2] [0,8] (cd 8 (sq [oM 9 0,oM 2 9] [2] .ret) .skip)) (.seq (sq [oJ 3 1] [0,3] (lp 0 l77_1)) (sq [oM 60 0,oM 2 60] [2] .ret)))),[.tmp 2],true⟩

def l263_0 : VCode := (.seq (sq [oM 4 3,oM 5 0,o 6 (.len true (tv 5)),oB 7 .lss 4 6] [0,3,7] (xt 7 0)) (.seq (.block 1 (sq [oM 10 0,oM 11 3,o 12 (.idxS (tv 10) (tv 11)),cA 13 217 [fa 12] 640,oU 14 13] [0,3,14] (cd 14 (sq [o 2 (.mv kF)] [2] .ret) .skip))) (rg [oM 8 3,oK 9 .add 8 1,oM 3 9] [0,3])))

def v263 : VFun := ⟨1,(sq [o 2 (.mv kF)] [0] (.seq (sq [oJ 3 0] [0,3] (lp 0 l263_0)) (sq [oM 15 0,o 16 (.bin .neq 0 (tv 15) (.k (.sc zs))),oM 2 16] [2] .ret))),[.tmp 2],false⟩

def v55 : VFun := ⟨2,(sq [oJ 4 0] [0,1] (sq [oM 7 0,cA 8 105 [fa 7] 192,oM 5 8] [0,1,5] (sq [oM 9 1,cA 10 105 [fa 9] 384,oM 6 10] [0,1,5,6] (.seq (sq [oM 11 5] [0,1,6,11] (cd 11 (.seq (sq [oM 12 6] [12] (cd 12 (sq [oJ 4 0] [4] .ret) .skip)) (sq [oJ 4 (-1)] [4] .ret)) .skip)) (.seq (sq [oM 13 6] [0,1,13] (cd 13 (sq [oJ 4 1] [4] .ret) .skip)) (.seq (sq [oM 14 0,oM 15 1,oB 16 .lss 14 15] [0,1,16] (cd 16 (sq [oJ 4 (-1)] [4] .ret) .skip)) (.seq (sq [oM 17 0,oM 18 1,oB 19 .gtr 17 18] [19] (cd 19 (sq [oJ 4 1] [4] .ret) .skip)) (sq [oJ 4 0] [4] .ret)))))))),[.tmp 4],false⟩

def v215 : VFun := ⟨2,(sq [oJ 4 0] [0,1] (sq [oM 7 0,cA 8 248 [fa 7] 192,oM 5 8] [0,1,5] (sq [oM 9 1,cA 10 248 [fa 9] 384,oM 6 10] [0,1,5,6] (.seq (sq [oM 11 5] [0,1,6,11] (cd 11 (.seq (sq [oM 12 6] [12] (cd 12 (sq [oJ 4 0] [4] .ret) .skip)) (sq [oJ 4 (-1)] [4] .ret)) .skip)) (.seq (sq [oM 13 6] [0,1,13] (cd 13 (sq [oJ 4 1] [4] .ret) .skip)) (.seq (sq [oM 14 0,oM 15 1,oB 16 .lss 14 15] [0,1,16] (cd 16 (sq [oJ 4 (-1)] [4] .ret) .skip)) (.seq (sq [oM 17 0,oM 18 1,oB 19 .gtr 17 18] [19] (cd 19 (sq [oJ 4 1] [4] .ret) .skip)) (sq [oJ 4 0] [4] .ret)))))))),[.tmp 4],false⟩

def l59_0 : VCode := (sq [oB 9 .lss 8 7] [3,6,7,8,9] (.seq (xt 9 0) (.seq (.block 1 (sq [oX 10 1 6 8,oL 11 10,oM 5 11] [3,5,6,7,8] (sq [oM 12 5,oM 13 3,oB 14 .neq 12 13] [3,5,6,7,8,14] (cd 14 (sq [oM 15 5,oM 2 15] [2] .ret) .skip)))) (rg [oK 16 .add 8 1,oM 8 16] [3,6,7,8]))))

def v59 : VFun := ⟨1,(sq [oJ 2 0] [0] (sq [oJ 3 0] [0,3] (.seq (sq [oM 6 0,oN 7 6,oJ 8 0] [3,6,7,8] (lp 0 l59_0)) (sq [oM 17 3,oM 2 17] [2] .ret)))),[.tmp 2],false⟩

def l216_0 : VCode := (sq [oB 14 .lss 13 12] [0,1,2,11,12,13,14] (.seq (xt 14 0) (.seq (.block 1 (sq [oM 15 13,oX 16 5 11 13,oG 17 5 16,oa 8 (.new [zi,zs,zi,zi,.nil] []) 576,oM 7 15,oW 5 8 17] [0,1,2,7,8,11,12,13] (.seq (sq [oM 18 7,oM 19 1,oN 20 19,oB 21 .geq 18 20] [0,1,2,7,8,11,12,13,21] (cd 21 (sq [oJ 6 1] [6] .ret) .skip)) (sq [oM 22 1,oM 23 7,oX 24 5 22 23,oG 25 5 24,oa 9 (.new [zi,zs,zi,zi,.nil] []) 1344,oW 5 9 25] [0,1,2,8,9,11,12,13] (sq [oM 26 2,oG 27 5 8,oG 28 5 9,oa 29 (.call (tv 26) [fa 27,fa 28] []) 1664,oM 10 29] [0,1,2,10,11,12,13] (.seq (rd [576,1344] [oM 30 10,oK 31 .neq 30 0] [0,1,2,10,11,12,13,31]) (cd 31 (sq [oM 32 10,oM 6 32] [6] .ret) .skip))))))) (rd [576,1344,1696,1697,1698] [oK 33 .add 13 1,oM 13 33] [0,1,2,11,12,13]))))

def v216 : VFun := ⟨3,(sq [oJ 6 0] [0,1,2] (.seq (sq [oM 11 0,oN 12 11,oJ 13 0] [0,1,2,11,12,13] (lp 0 l216_0)) (.seq (sq [oM 34 0,oN 35 34,oM 36 1,oN 37 36,oB 38 .lss 35 37] [38] (cd 38 (sq [oJ 6 (-1)] [6] .ret) .skip)) (sq [oJ 6 0] [6] .ret)))),[.tmp 6],false⟩

def v258 : VFun := ⟨1,(sq [oa 2 (.new [zi,zs,zi,zi,.nil] []) 64] [0,2] (sq [oM 3 0,o 4 (.build [zi,zs,zi,zi,.nil] [(0,1,(ki 5)),(1,1,(tv 3))]),oW 5 2 4] [2] .ret)),[.cell 2 true 5],false⟩

def v134 : VFun := ⟨2,(sq [o 4 (.mv (.k (.sc zs))),o 5 (.mv kF)] [0,1] (.seq (sq [oM 6 0,oM 7 1,cA 8 181 [fa 6,fa 7] 320,oU 9 8] [0,1,9] (cd 9 (sq [oM 10 0,oM 4 10,o 5 (.mv kF)] [4,5] .ret) .skip)) (sq [oM 11 0,oM 12 1,o 13 (.len true (tv 12)),o 14 (.slS (tv 11) (some (tv 13)) none),oM 4 14,o 5 (.mv kt)] [4,5] .ret))),[.tmp 4,.tmp 5],false⟩

def l135_0 : VCode := (sq [oB 102 .lss 101 100] [1,8,9,10,11,12,13,99,100,101,102] (.seq (xt 102 3) (.seq (.block 4 (sq [oX 103 1 99 101,oL 104 103,oM 15 104] [1,8,9,10,11,12,13,15,99,100,101] (sq [o 16 (.mv (.k (.sc (.c (.int .u8 0)))))] [1,8,9,10,11,12,13,15,99,100,101] (.seq (.block 5 (sq [oM 107 15,o 108 (.bin .eql 0 (tv 107) (.k (.sc (.c (.int .u8 95))))),oM 109 108,gM 110 8 109 true,oQ 111 109 110,oM 106 111] [1,8,9,10,11,12,13,15,99,100,101,106] (cd 106 (sq [o 12 (.mv kt)] [1,8,9,10,11,12,13,99,100,101] (.exit 4)) (sq [oM 113 15,o 114 (.bin .leq 0 (.k (.sc (.c (.int .u8 48)))) (tv 113)),oM 115 114,gM 116 15 115 true,og 117 (.bin .leq 0 (tv 116) (.k (.sc (.c (.int .u8 57))))) 115 true,oQ 118 115 117,oM 112 118] [1,8,9,10,11,12,13,15,99,100,101,112] (cd 112 (rg [oM 119 15,o 120 (.bin .sub 0 (tv 119) (.k (.sc (.c (.int .u8 48))))),oM 16 120] [1,8,9,10,11,12,13,16,99,100,101]) (sq [oM 122 15,cA 123 182 [fa 122] 8640,o 124 (.bin .leq 0 (.k (.sc (.c (.int .u8 97)))) (tv 123)),oM 125 124,gM 126 15 125 true,gA 127 182 [fa 126] 125 true 8896,og 128 (.bin .leq 0 (tv 127) (.k (.sc (.c (.int .u8 122))))) 125 true,oQ 129 125 128,oM 121 129] [1,8,9,10,11,12,13,15,99,100,101,121] (cd 121 (rg [oM 130 15,cA 131 182 [fa 130] 9216,o 132 (.bin .sub 0 (tv 131) (.k (.sc (.c (.int .u8 97))))),o 133 (.bin .add 0 (tv 132) (.k (.sc (.c (.int .u8 10))))),oM 16 133] [1,8,9,10,11,12,13,16,99,100,101]) (sq [o 105 (.ifc 209 (ki 2)),o 6 (.mv (.k (.sc (.c (.int .u64 0))))),oM 7 105] [6,7] .ret)))))))) (.seq (sq [oM 134 16,oM 135 1,o 136 (.cvI .u8 (tv 135)),oB 137 .geq 134 136] [1,8,9,10,11,12,13,16,99,100,101,137] (cd 137 (sq [o 138 (.ifc 209 (ki 2)),o 6 (.mv (.k (.sc (.c (.int .u64 0))))),oM 7 138] [6,7] .ret) .skip)) (.seq (sq [oM 139 13,oM 140 10,oB 141 .geq 139 140] [1,8,9,10,11,12,13,16,99,100,101,141] (cd 141 (sq [oM 142 11,o 143 (.ifc 209 (ki 1)),oM 6 142,oM 7 143] [6,7] .ret) .skip)) (sq [oM 144 13,oM 145 1,o 146 (.cvI .u64 (tv 145)),oB 147 .mul 144 146,oM 13 147] [1,8,9,10,11,12,13,16,99,100,101] (sq [oM 148 13,oM 149 16,o 150 (.cvI .u64 (tv 149)),oB 151 .add 148 150,oM 17 151] [1,8,9,10,11,12,13,17,99,100,101] (.seq (sq [oM 152 17,oM 153 13,oB 154 .lss 152 153,oM 155 154,gM 156 17 155 false,gM 157 11 155 false,gB 158 .gtr 156 157 155 false,oP 159 155 158] [1,8,9,10,11,12,17,99,100,101,159] (cd 159 (sq [oM 160 11,o 161 (.ifc 209 (ki 1)),oM 6 160,oM 7 161] [6,7] .ret) .skip)) (rg [oM 162 17,oM 13 162] [1,8,9,10,11,12,13,99,100,101])))))))))) (rg [oK 163 .add 101 1,oM 101 163] [1,8,9,10,11,12,13,99,100,101]))))

def v135 : VFun := ⟨3,(sq [o 6 (.mv (.k (.sc (.c (.int .u64 0))))),o 7 (.mv (.k (.sc (.c .nilif))))] [0,1,2] (.seq (sq [oM 18 0,o 19 (.bin .eql 0 (tv 18) (.k (.sc zs)))] [0,1,2,19] (cd 19 (sq [o 20 (.ifc 209 (ki 2)),o 6 (.mv (.k (.sc (.c (.int .u64 0))))),oM 7 20] [6,7] .ret) .skip)) (sq [oM 21 1,oK 22 .eql 21 0,oM 8 22] [0,1,2,8] (sq [oM 23 0,oM 9 23] [0,1,2,8,9] (.seq (.block 0 (sq [oM 26 1,o 27 (.bin .leq 0 (ki 2) (tv 26)),oM 28 27,gM 29 1 28 true,og 30 (.bin .leq 0 (tv 29) (ki 36)) 28 true,oQ 31 28 30,oM 25 31] [0,1,2,8,9,25] (cd 25 .skip (sq [oM 33 1,oK 34 .eql 33 0,oM 32 34] [0,2,8,9,32] (cd 32 (sq [oJ 1 10] [0,1,2,8,9] (sq [oM 35 0,o 36 (.idxS (tv 35) (ki 0)),o 37 (.bin .eql 0 (tv 36) (.k (.sc (.c (.int .u8 48)))))] [0,1,2,8,9,37] (cd 37 (.block 1 (sq [oM 41 0,o 42 (.len true (tv 41)),oK 43 .geq 42 3,oM 44 43,gM 45 0 44 true,og 46 (.idxS (tv 45) (ki 1)) 44 true,gA 47 182 [fa 46] 44 true 2112,og 48 (.bin .eql 0 (tv 47) (.k (.sc (.c (.int .u8 98))))) 44 true,oQ 49 44 48,oM 40 49] [0,2,8,9,40] (cd 40 (sq [oJ 1 2] [0,1,2,8,9] (rg [oM 50 0,o 51 (.slS (tv 50) (some (ki 2)) none),oM 0 51] [0,1,2,8,9])) (sq [oM 53 0,o 54 (.len true (tv 53)),oK 55 .geq 54 3,oM 56 55,gM 57 0 56 true,og 58 (.idxS (tv 57) (ki 1)) 56 true,gA 59 182 [fa 58] 56 true 3008,og 60 (.bin .eql 0 (tv 59) (.k (.sc (.c (.int .u8 111))))) 56 true,oQ 61 56 60,oM 52 61] [0,2,8,9,52] (cd 52 (sq [oJ 1 8] [0,1,2,8,9] (rg [oM 62 0,o 63 (.slS (tv 62) (some (ki 2)) none),oM 0 63] [0,1,2,8,9])) (sq [oM 65 0,o 66 (.len true (tv 65)),oK 67 .geq 66 3,oM 68 67,gM 69 0 68 true,og 70 (.idxS (tv 69) (ki 1)) 68 true,gA 71 182 [fa 70] 68 true 3904,og 72 (.bin .eql 0 (tv 71) (.k (.sc (.c (.int .u8 120))))) 68 true,oQ 73 68 72,oM 64 73] [0,2,8,9,64] (cd 64 (sq [oJ 1 16] [0,1,2,8,9] (rg [oM 74 0,o 75 (.slS (tv 74) (some (ki 2)) none),oM 0 75] [0,1,2,8,9])) (sq [oJ 1 8] [0,1,2,8,9] (rg [oM 38 0,o 39 (.slS (tv 38) (some (ki 1)) none),oM 0 39] [0,1,2,8,9]))))))))) .skip))) (sq [o 24 (.ifc 209 (ki 3)),o 6 (.mv (.k (.sc (.c (.int .u64 0))))),oM 7 24] [6,7] .ret)))))) (.seq (sq [oM 76 2,oK 77 .eql 76 0] [0,1,2,8,9,77] (cd 77 (rg [oJ 2 64] [0,1,2,8,9]) (sq [oM 78 2,oK 79 .lss 78 0,oM 80 79,gM 81 2 80 false,og 82 (.bin .gtr 0 (tv 81) (ki 64)) 80 false,oP 83 80 82] [0,1,2,8,9,83] (cd 83 (sq [o 84 (.ifc 209 (ki 4)),o 6 (.mv (.k (.sc (.c (.int .u64 0))))),oM 7 84] [6,7] .ret) .skip)))) (sq [o 10 (.mv (.k (.sc (.c (.int .u64 0)))))] [0,1,2,8,9] (.seq (sq [oM 85 1] [0,1,2,8,9,85] (.block 2 (sq [oK 91 .eql 85 10,oM 90 91] [0,1,2,8,9,85,90] (cd 90 (rg [o 10 (.mv (.k (.sc (.c (.int .u64 1844674407370955162)))))] [0,1,2,8,9,10]) (sq [oK 93 .eql 85 16,oM 92 93] [0,1,2,8,9,92] (cd 92 (rg [o 10 (.mv (.k (.sc (.c (.int .u64 1152921504606846976)))))] [0,1,2,8,9,10]) (rg [oM 86 1,o 87 (.cvI .u64 (tv 86)),o 88 (.bin .quo 0 (.k (.sc (.c (.int .u64 18446744073709551615)))) (tv 87)),o 89 (.bin .add 0 (tv 88) (.k (.sc (.c (.int .u64 1))))),oM 10 89] [0,1,2,8,9,10]))))))) (sq [oM 94 2,o 95 (.cvI .u64 (tv 94)),o 96 (.bin .shl 0 (.k (.sc (.c (.int .u64 1)))) (tv 95)),o 97 (.bin .sub 0 (tv 96) (.k (.sc (.c (.int .u64 1))))),oM 11 97] [0,1,8,9,10,11] (sq [o 12 (.mv kF)] [0,1,8,9,10,11,12] (sq [o 13 (.mv (.k (.sc (.c (.int .u64 0)))))] [0,1,8,9,10,11,12,13] (.seq (sq [oM 98 0,o 99 (.cvB (tv 98)),oN 100 99,oJ 101 0] [1,8,9,10,11,12,13,99,100,101] (lp 3 l135_0)) (.seq (sq [oM 164 12,oM 165 164,gM 166 9 165 true,gA 167 183 [fa 166] 165 true 12416,gU 168 167 165 true,oQ 169 165 168] [13,169] (cd 169 (sq [o 170 (.ifc 209 (ki 2)),o 6 (.mv (.k (.sc (.c (.int .u64 0))))),oM 7 170] [6,7] .ret) .skip)) (sq [oM 171 13,oM 6 171,o 7 (.mv (.k (.sc (.c .nilif))))] [6,7] .ret)))))))))))))),[.tmp 6,.tmp 7],false⟩

def v136 : VFun := ⟨5,(sq [o 10 (.mv (.k (.sc (.c .nilif))))] [0,1,2,3,4] (.seq (sq [oM 11 4] [0,1,2,3,4,11] (.block 0 (sq [o 13 (.ifc 209 (ki 2)),o 14 (.bin .eql 215 (tv 11) (tv 13)),oM 12 14] [0,1,2,3,4,11,12] (cd 12 (sq [oM 15 0,oM 16 1,cA 17 184 [fa 15,fa 16] 512,o 18 (.ifc 212 (tv 17)),oM 10 18] [10] .ret) (sq [o 20 (.ifc 209 (ki 1)),o 21 (.bin .eql 215 (tv 11) (tv 20)),oM 19 21] [0,1,2,3,4,11,19] (cd 19 (sq [oM 22 0,oM 23 1,cA 24 185 [fa 22,fa 23] 1024,o 25 (.ifc 212 (tv 24)),oM 10 25] [10] .ret) (sq [o 27 (.ifc 209 (ki 3)),o 28 (.bin .eql 215 (tv 11) (tv 27)),oM 26 28] [0,1,2,3,4,11,26] (cd 26 (sq [oM 29 0,oM 30 1,oM 31 2,cA 32 186 [fa 29,fa 30,fa 31] 1600,o 33 (.ifc 212 (tv 32)),oM 10 33] [10] .ret) (sq [o 35 (.ifc 209 (ki 4)),o 36 (.bin .eql 215 (tv 11) (tv 35)),oM 34 36] [0,1,3,4,34] (cd 34 (sq [oM 37 0,oM 38 1,oM 39 3,cA 40 187 [fa 37,fa 38,fa 39] 2176,o 41 (.ifc 212 (tv 40)),oM 10 41] [10] .ret) .skip)))))))))) (sq [oM 42 4,oM 10 42] [10] .ret))),[.tmp 10],true⟩

def v137 : VFun := ⟨2,(sq [o 4 (.mv (.k (.sc zs)))] [0,1] (.seq (sq [oM 9 1,oK 10 .eql 9 10] [0,1,10] (cd 10 (.seq (sq [oM 11 0,o 12 (.bin .lss 0 (tv 11) (.k (.sc (.c (.int .u64 100)))))] [0,12] (cd 12 (sq [oM 13 0,o 14 (.cvI .i64 (tv 13)),cA 15 188 [fa 14] 512,oM 4 15] [4] .ret) .skip)) (sq [oa 5 (.newA 24 [(.c (.int .u8 0))]) 640] [0,5] (sq [oM 16 0,cA 17 189 [fa 16] 768,oM 6 17] [0,5,6] (sq [oM 18 6,o 19 (.slA 1 24 (tv 5) none (some (tv 18))),oM 20 0,cA 21 190 [ta 19,fa 20] 1088] [5,6] (sq [oM 22 6,o 23 (.slA 1 24 (tv 5) none (some (tv 22))),o 24 (.cvS (tv 23)),oM 4 24] [4] .ret))))) .skip)) (sq [oM 26 0,oM 27 1,cA 28 191 [(false,kn),fa 26,fa 27,(false,kF),(false,kF)] 1536,oM 25 28,oE 29 25 0,oE 30 25 1,oM 7 29,oM 8 30] [8] (sq [oM 31 8,oM 4 31] [4] .ret)))),[.tmp 4],false⟩

def v139 : VFun := ⟨1,(sq [oJ 2 0] [0] (.seq (.cond kF (sq [oM 3 0,o 4 (.cvI .u32 (tv 3)),cA 5 201 [fa 4] 256,oM 2 5] [2] .ret) .skip) (sq [oM 6 0,cA 7 202 [fa 6] 448,oM 2 7] [2] .ret))),[.tmp 2],false⟩

def l138_0 : VCode := (.block 1 (sq [oM 19 2,oM 20 1,oB 21 .sub 19 20,oM 10 21] [0,1,2,3,8,9,10] (.seq (sq [oM 22 10,oK 23 .leq 22 12] [0,1,2,3,8,9,10,23] (cd 23 (sq [oM 24 0,oM 25 1,oM 26 2,cA 27 192 [ta 24,fa 25,fa 26] 768] [1000000] .ret) .skip)) (.seq (sq [oM 28 3,oK 29 .eql 28 0] [0,1,2,3,8,9,10,29] (cd 29 (sq [oM 30 0,oM 31 1,oM 32 2,cA 33 193 [ta 30,fa 31,fa 32] 1152] [1000000] .ret) .skip)) (.seq (sq [oM 34 8,oU 35 34] [0,1,2,3,8,9,10,35] (cd 35 (sq [oM 36 0,oM 37 1,oM 38 2,cA 39 194 [ta 36,fa 37,fa 38] 1536] [0,1,2,3,8,9,10] (rg [oM 40 3,oK 41 .sub 40 1,oM 3 41] [0,1,2,3,8,9,10])) .skip)) (sq [oM 43 0,oM 44 1,oM 45 2,cA 46 195 [ta 43,fa 44,fa 45] 1984,oM 42 46,oE 47 42 0,oE 48 42 1,oM 11 47,oM 12 48] [0,1,2,3,8,9,10,11,12] (.seq (sq [oM 49 12,oK 50 .eql 49 2] [0,1,2,3,8,9,10,11,12,50] (cd 50 (sq [oM 51 0,oM 52 1,oM 53 2,cA 54 196 [ta 51,fa 52,fa 53] 2688] [0,1,2,3,8,9,10,11] (sq [oM 55 2,oK 56 .sub 55 1,oM 57 11,oM 58 1,oB 59 .sub 57 58,oB 60 .sub 56 59,oM 11 60] [0,1,2,3,8,9,10,11] (rg [oJ 12 1] [0,1,2,3,8,9,10,11,12]))) .skip)) (.seq (sq [oM 61 8,oM 62 61,gM 63 9 62 true,oQ 64 62 63,oM 65 64,gM 66 12 65 true,og 67 (.bin .eql 0 (tv 66) (ki 1)) 65 true,oQ 68 65 67] [0,1,2,3,8,9,10,11,68] (cd 68 (sq [oM 69 0,oM 70 1,oM 71 2,cA 72 197 [ta 69,fa 70,fa 71] 3968] [0,1,2,3,8,9,10,11,72] (cd 72 .ret .skip)) .skip)) (.seq (.seq (.region [] [oM 73 1,oK 74 .gtr 73 0,oM 75 74,gM 76 0 75 true,gM 77 1 75 true,og 78 (.bin .sub 0 (tv 77) (ki 1)) 75 true,gX 79 1 76 78 75 true,gL 80 79 75 true,gM 81 0 75 true,gM 82 11 75 true,gX 83 1 81 82 75 true,gL 84 83 75 true,gA 85 198 [fa 80,fa 84] 75 true 4800,gU 86 85 75 true,oQ 87 75 86] [(6,10),(7,10),(6,11),(7,11)] [0,1,2,3,8,9,10,11,87]) (cd 87 (sq [oM 88 0,oM 89 1,oM 90 2,oM 91 11,cA 92 199 [ta 88,fa 89,fa 90,fa 91] 5248,oM 13 92] [0,1,2,3,8,9,13] (sq [oM 93 13,oM 1 93] [0,1,2,3,8,9] (.exit 1))) .skip)) (sq [oM 95 0,oM 96 1,oM 97 2,oM 98 11,cA 99 200 [ta 95,fa 96,fa 97,fa 98] 5760,oM 94 99,oE 100 94 0,oE 101 94 1,oM 14 100,oM 15 101] [0,1,2,3,8,9,10,14,15] (sq [oM 102 15,oM 9 102] [0,1,2,3,8,9,10,14] (sq [oM 103 14,oM 104 1,oB 105 .sub 103 104,oM 106 2,oM 107 14,oB 108 .sub 106 107,oM 16 105,oM 17 108] [0,1,2,3,8,9,10,14,16,17] (sq [oM 109 10,oK 110 .quo 109 8,oM 18 110] [0,1,2,3,8,9,14,16,17,18] (sq [oM 111 16,oM 112 17,oB 113 .lss 111 112] [0,1,2,3,8,9,14,16,17,18,113] (cd 113 (sq [oM 114 16,oM 115 18,oB 116 .geq 114 115,oM 8 116] [0,1,2,3,8,9,14] (sq [oM 117 0,oM 118 1,oM 119 14,oM 120 3,cA 121 138 [ta 117,fa 118,fa 119,fa 120] 7680] [0,1,2,3,8,9,14] (rg [oM 122 14,oK 123 .add 122 1,oM 1 123] [0,1,2,3,8,9]))) (sq [oM 124 17,oM 125 18,oB 126 .geq 124 125,oM 8 126] [0,1,2,3,8,9,14] (sq [oM 127 0,oM 128 14,oK 129 .add 128 1,oM 130 2,oM 131 3,cA 132 138 [ta 127,fa 129,fa 130,fa 131] 8512] [0,1,2,3,8,9,14] (rg [oM 133 14,oM 2 133] [0,1,2,3,8,9]))))))))))))))))))

def v138 : VFun := ⟨4,(sq [o 8 (.mv kt)] [0,1,2,3,8,9] (sq [o 9 (.mv kt)] [0,1,2,3,8,9] (lp 0 l138_0))),[],false⟩

def v105 : VFun := ⟨1,(sq [o 2 (.mv kF)] [0] (sq [oM 3 0,oM 4 0,oB 5 .neq 3 4,oM 2 5] [2] .ret)),[.tmp 2],false⟩

def v248 : VFun := ⟨1,(sq [o 2 (.mv kF)] [0] (sq [oM 3 0,oM 4 0,oB 5 .neq 3 4,oM 2 5] [2] .ret)),[.tmp 2],false⟩

def v181 : VFun := ⟨2,(sq [o 4 (.mv kF)] [0,1] (sq [oM 5 0,o 6 (.len true (tv 5)),oM 7 1,o 8 (.len true (tv 7)),oB 9 .geq 6 8,oM 10 9,gM 11 0 10 true,gM 12 1 10 true,og 13 (.len true (tv 12)) 10 true,og 14 (.slS (tv 11) none (some (tv 13))) 10 true,gM 15 1 10 true,gB 16 .eql 14 15 10 true,oQ 17 10 16,oM 4 17] [4] .ret)),[.tmp 4],false⟩

def v182 : VFun := ⟨1,(sq [o 2 (.mv (.k (.sc (.c (.int .u8 0)))))] [0] (sq [oM 3 0,o 4 (.bin .or 0 (tv 3) (.k (.sc (.c (.int .u8 32))))),oM 2 4] [2] .ret)),[.tmp 2],false⟩

def v184 : VFun := ⟨2,(sq [o 4 (.mv (.k (.sc (.c .nilptr))))] [0,1] (.seq (.region [] [oM 5 0,oM 6 1,cA 7 233 [fa 6] 256,o 8 (.load false 1 (.g 0)),o 9 (.build [zs,zs,(.c .nilif)] [(0,1,(tv 5)),(1,1,(tv 7)),(2,1,(tv 8))]),oa 10 (.box (tv 9)) 448,oM 4 10] [(2,3)] [4]) .ret)),[.tmp 4],true⟩

def v185 : VFun := ⟨2,(sq [o 4 (.mv (.k (.sc (.c .nilptr))))] [0,1] (.seq (.region [] [oM 5 0,oM 6 1,cA 7 233 [fa 6] 256,o 8 (.load false 1 (.g 1)),o 9 (.build [zs,zs,(.c .nilif)] [(0,1,(tv 5)),(1,1,(tv 7)),(2,1,(tv 8))]),oa 10 (.box (tv 9)) 448,oM 4 10] [(2,3)] [4]) .ret)),[.tmp 4],true⟩

def v188 : VFun := ⟨1,(sq [o 2 (.mv (.k (.sc zs)))] [0] (.seq (sq [oM 3 0,oK 4 .lss 3 10] [0,4] (cd 4 (sq [oM 5 0,oM 6 0,oK 7 .add 6 1,o 8 (.slS (.k (.sc (.c (.str [48,49,50,51,52,53,54,55,56,57,97,98,99,100,101,102,103,104,105,106,107,108,109,110,111,112,113,114,115,116,117,118,119,120,121,122])))) (some (tv 5)) (some (tv 7))),oM 2 8] [2] .ret) .skip)) (sq [oM 9 0,oK 10 .mul 9 2,oM 11 0,oK 12 .mul 11 2,oK 13 .add 12 2,o 14 (.slS (.k (.sc (.c (.str d200)))) (some (tv 10)) (some (tv 13))),oM 2 14] [2] .ret))),[.tmp 2],false⟩

set_option maxRecDepth 100000 in
theorem m131 : mFun Go.Proofs.Tryz.prog 131 v131 = true := by kernel_rfl
set_option maxRecDepth 100000 in
theorem m147 : mFun Go.Proofs.Tryz.prog 147 v147 = true := by kernel_rfl
set_option maxRecDepth 100000 in
theorem m129 : mFun Go.Proofs.Tryz.prog 129 v129 = true := by kernel_rfl
set_option maxRecDepth 100000 in
theorem m47 : mFun Go.Proofs.Tryz.prog 47 v47 = true := by kernel_rfl
set_option maxRecDepth 100000 in
theorem m100 : mFun Go.Proofs.Tryz.prog 100 v100 = true := by kernel_rfl
set_option maxRecDepth 100000 in
theorem m128 : mFun Go.Proofs.Tryz.prog 128 v128 = true := by kernel_rfl
set_option maxRecDepth 100000 in
theorem m206 : mFun Go.Proofs.Tryz.prog 206 v206 = true := by kernel_rfl
set_option maxRecDepth 100000 in
theorem m208 : mFun Go.Proofs.Tryz.prog 208 v208 = true := by kernel_rfl
set_option maxRecDepth 100000 in
theorem m207 : mFun Go.Proofs.Tryz.prog 207 v207 = true := by kernel_rfl
set_option maxRecDepth 100000 in
theorem m209 : mFun Go.Proofs.Tryz.prog 209 v209 = true := by kernel_rfl
set_option maxRecDepth 100000 in
theorem m203 : mFun Go.Proofs.Tryz.prog 203 v203 = true := by kernel_rfl
set_option maxRecDepth 100000 in
theorem m204 : mFun Go.Proofs.Tryz.prog 204 v204 = true := by kernel_rfl
set_option maxRecDepth 100000 in
theorem m217 : mFun Go.Proofs.Tryz.prog 217 v217 = true := by kernel_rfl
set_option maxRecDepth 100000 in
theorem m218 : mFun Go.Proofs.Tryz.prog 218 v218 = true := by kernel_rfl
set_option maxRecDepth 100000 in
theorem m219 : mFun Go.Proofs.Tryz.prog 219 v219 = true := by kernel_rfl
set_option maxRecDepth 100000 in
theorem m220 : mFun Go.Proofs.Tryz.prog 220 v220 = true := by kernel_rfl
set_option maxRecDepth 100000 in
theorem m221 : mFun Go.Proofs.Tryz.prog 221 v221 = true := by kernel_rfl
set_option maxRecDepth 100000 in
theorem m222 : mFun Go.Proofs.Tryz.prog 222 v222 = true := by kernel_rfl
set_option maxRecDepth 100000 in
theorem m224 : mFun Go.Proofs.Tryz.prog 224 v224 = true := by kernel_rfl
set_option maxRecDepth 100000 in
theorem m225 : mFun Go.Proofs.Tryz.prog 225 v225 = true := by kernel_rfl
set_option maxRecDepth 100000 in
theorem m226 : mFun Go.Proofs.Tryz.prog 226 v226 = true := by kernel_rfl
set_option maxRecDepth 100000 in
theorem m227 : mFun Go.Proofs.Tryz.prog 227 v227 = true := by kernel_rfl
set_option maxRecDepth 100000 in
theorem m149 : mFun Go.Proofs.Tryz.prog 149 v149 = true := by kernel_rfl
set_option maxRecDepth 100000 in
theorem m114 : mFun Go.Proofs.Tryz.prog 114 v114 = true := by kernel_rfl
set_option maxRecDepth 100000 in
theorem m177 : mFun Go.Proofs.Tryz.prog 177 v177 = true := by kernel_rfl
set_option maxRecDepth 100000 in
theorem m180 : mFun Go.Proofs.Tryz.prog 180 v180 = true := by kernel_rfl
set_option maxRecDepth 100000 in
theorem m173 : mFun Go.Proofs.Tryz.prog 173 v173 = true := by kernel_rfl
set_option maxRecDepth 100000 in
theorem m174 : mFun Go.Proofs.Tryz.prog 174 v174 = true := by kernel_rfl
set_option maxRecDepth 100000 in
theorem m176 : mFun Go.Proofs.Tryz.prog 176 v176 = true := by kernel_rfl
set_option maxRecDepth 100000 in
theorem m246 : mFun Go.Proofs.Tryz.prog 246 v246 = true := by kernel_rfl
set_option maxRecDepth 100000 in
theorem m117 : mFun Go.Proofs.Tryz.prog 117 v117 = true := by kernel_rfl
set_option maxRecDepth 100000 in
theorem m28 : mFun Go.Proofs.Tryz.prog 28 v28 = true := by kernel_rfl
set_option maxRecDepth 100000 in
theorem m163 : mFun Go.Proofs.Tryz.prog 163 v163 = true := by kernel_rfl
set_option maxRecDepth 100000 in
theorem m249 : mFun Go.Proofs.Tryz.prog 249 v249 = true := by kernel_rfl
set_option maxRecDepth 100000 in
theorem m250 : mFun Go.Proofs.Tryz.prog 250 v250 = true := by kernel_rfl
set_option maxRecDepth 100000 in
theorem m251 : mFun Go.Proofs.Tryz.prog 251 v251 = true := by kernel_rfl
set_option maxRecDepth 100000 in
theorem m252 : mFun Go.Proofs.Tryz.prog 252 v252 = true := by kernel_rfl
set_option maxRecDepth 100000 in
theorem m253 : mFun Go.Proofs.Tryz.prog 253 v253 = true := by kernel_rfl
set_option maxRecDepth 100000 in
theorem m254 : mFun Go.Proofs.Tryz.prog 254 v254 = true := by kernel_rfl
set_option maxRecDepth 100000 in
theorem m255 : mFun Go.Proofs.Tryz.prog 255 v255 = true := by kernel_rfl
set_option maxRecDepth 100000 in
theorem m256 : mFun Go.Proofs.Tryz.prog 256 v256 = true := by kernel_rfl
set_option maxRecDepth 100000 in
theorem m228 : mFun Go.Proofs.Tryz.prog 228 v228 = true := by kernel_rfl
set_option maxRecDepth 100000 in
theorem m231 : mFun Go.Proofs.Tryz.prog 231 v231 = true := by kernel_rfl
set_option maxRecDepth 100000 in
theorem m232 : mFun Go.Proofs.Tryz.prog 232 v232 = true := by kernel_rfl
set_option maxRecDepth 100000 in
theorem m162 : mFun Go.Proofs.Tryz.prog 162 v162 = true := by kernel_rfl
set_option maxRecDepth 100000 in
theorem m229 : mFun Go.Proofs.Tryz.prog 229 v229 = true := by kernel_rfl
set_option maxRecDepth 100000 in
theorem m230 : mFun Go.Proofs.Tryz.prog 230 v230 = true := by kernel_rfl
set_option maxRecDepth 100000 in
theorem m164 : mFun Go.Proofs.Tryz.prog 164 v164 = true := by kernel_rfl
set_option maxRecDepth 100000 in
theorem m73 : mFun Go.Proofs.Tryz.prog 73 v73 = true := by kernel_rfl
set_option maxRecDepth 100000 in
theorem m74 : mFun Go.Proofs.Tryz.prog 74 v74 = true := by kernel_rfl
set_option maxRecDepth 100000 in
theorem m75 : mFun Go.Proofs.Tryz.prog 75 v75 = true := by kernel_rfl
set_option maxRecDepth 100000 in
theorem m76 : mFun Go.Proofs.Tryz.prog 76 v76 = true := by kernel_rfl
set_option maxRecDepth 100000 in
theorem m77 : mFun Go.Proofs.Tryz.prog 77 v77 = true := by kernel_rfl
set_option maxRecDepth 100000 in
theorem m263 : mFun Go.Proofs.Tryz.prog 263 v263 = true := by kernel_rfl
set_option maxRecDepth 100000 in
theorem m55 : mFun Go.Proofs.Tryz.prog 55 v55 = true := by kernel_rfl
set_option maxRecDepth 100000 in
theorem m215 : mFun Go.Proofs.Tryz.prog 215 v215 = true := by kernel_rfl
set_option maxRecDepth 100000 in
theorem m59 : mFun Go.Proofs.Tryz.prog 59 v59 = true := by kernel_rfl
set_option maxRecDepth 100000 in
theorem m216 : mFun Go.Proofs.Tryz.prog 216 v216 = true := by kernel_rfl
set_option maxRecDepth 100000 in
theorem m258 : mFun Go.Proofs.Tryz.prog 258 v258 = true := by kernel_rfl
set_option maxRecDepth 100000 in
theorem m134 : mFun Go.Proofs.Tryz.prog 134 v134 = true := by kernel_rfl
set_option maxRecDepth 100000 in
theorem m135 : mFun Go.Proofs.Tryz.prog 135 v135 = true := by kernel_rfl
set_option maxRecDepth 100000 in
theorem m136 : mFun Go.Proofs.Tryz.prog 136 v136 = true := by kernel_rfl
set_option maxRecDepth 100000 in
theorem m137 : mFun Go.Proofs.Tryz.prog 137 v137 = true := by kernel_rfl
set_option maxRecDepth 100000 in
theorem m139 : mFun Go.Proofs.Tryz.prog 139 v139 = true := by kernel_rfl
set_option maxRecDepth 100000 in
theorem m138 : mFun Go.Proofs.Tryz.prog 138 v138 = true := by kernel_rfl
set_option maxRecDepth 100000 in
theorem m105 : mFun Go.Proofs.Tryz.prog 105 v105 = true := by kernel_rfl
set_option maxRecDepth 100000 in
theorem m248 : mFun Go.Proofs.Tryz.prog 248 v248 = true := by kernel_rfl
set_option maxRecDepth 100000 in
theorem m181 : mFun Go.Proofs.Tryz.prog 181 v181 = true := by kernel_rfl
set_option maxRecDepth 100000 in
theorem m182 : mFun Go.Proofs.Tryz.prog 182 v182 = true := by kernel_rfl
set_option maxRecDepth 100000 in
theorem m184 : mFun Go.Proofs.Tryz.prog 184 v184 = true := by kernel_rfl
set_option maxRecDepth 100000 in
theorem m185 : mFun Go.Proofs.Tryz.prog 185 v185 = true := by kernel_rfl
set_option maxRecDepth 100000 in
theorem m188 : mFun Go.Proofs.Tryz.prog 188 v188 = true := by kernel_rfl

end Go.Vs.Tryz
