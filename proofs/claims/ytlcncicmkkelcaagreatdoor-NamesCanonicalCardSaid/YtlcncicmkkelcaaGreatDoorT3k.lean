/- Functions of the program in the language of the value semantics,part 3 (printed by a program of mine),and that they match. (Parts of one proof,put together.) -/
import Derived.Test.YtlcncicmkkelcaaGreatDoorM4k
import Derived.Test.YtlcncicmkkelcaaGreatDoorProg
import Derived.KernelRfl
set_option linter.unusedSimpArgs false
set_option linter.unusedVariables false
set_option linter.deprecated false

/- Functions of the program in the language of the value semantics,part 3 (printed by a program of mine),and that they match. -/
namespace Go.Vs.Tryz
open Go Go.Vs

def v254 : VFun := ⟨1,(sq [o 2 (.mv kF)] [0] (sq [oM 3 0,oa 4 (.call (kf 263) [fa 3] []) 192,oM 5 4,gM 6 0 5 true,og 7 (.idxS (tv 6) (ki 0)) 5 true,⟨(some 8),(.call (kf 250) [fa 7] []),(some (5,true)),448,[]⟩,o 9 (.pick (tv 5) (tv 8) kF),oM 10 9,gM 11 0 10 true,og 12 (.len true (tv 11)) 10 true,og 13 (.bin .leq 0 (tv 12) (ki 12)) 10 true,o 14 (.pick (tv 10) (tv 13) kF),oM 2 14] [2] .ret)),[.tmp 2],false⟩

def l255_0 : VCode := (.seq (sq [oM 21 3,oM 22 0,o 23 (.len true (tv 22)),oB 24 .lss 21 23] [0,3,24] (cd 24 .skip (.exit 0))) (.seq (.block 1 (sq [oM 27 0,oM 28 3,o 29 (.idxS (tv 27) (tv 28)),oa 30 (.call (kf 251) [fa 29] []) 1792,oU 31 30] [0,3,31] (cd 31 (sq [o 2 (.mv kF)] [2] .ret) .skip))) (rg [oM 25 3,oK 26 .add 25 1,oM 3 26] [0,3])))

def v255 : VFun := ⟨1,(sq [o 2 (.mv kF)] [0] (.seq (sq [oM 4 0,o 5 (.bin .eql 0 (tv 4) (.k (.sc zs))),oM 6 5,gM 7 0 6 false,og 8 (.len true (tv 7)) 6 false,og 9 (.bin .gtr 0 (tv 8) (ki 9)) 6 false,o 10 (.pick (tv 6) kt (tv 9)),oM 11 10,gM 12 0 11 false,og 13 (.idxS (tv 12) (ki 0)) 11 false,og 14 (.bin .eql 0 (tv 13) (.k (.sc (.c (.int .u8 48))))) 11 false,gM 15 14 11 false,gM 16 0 15 true,og 17 (.len true (tv 16)) 15 true,og 18 (.bin .gtr 0 (tv 17) (ki 1)) 15 true,og 19 (.pick (tv 15) (tv 18) kF) 11 false,o 20 (.pick (tv 11) kt (tv 19))] [0,20] (cd 20 (sq [o 2 (.mv kF)] [2] .ret) .skip)) (.seq (sq [o 3 (.mv (ki 0))] [0,3] (.block 0 (.loop l255_0))) (sq [o 2 (.mv kt)] [2] .ret)))),[.tmp 2],false⟩

def l256_0 : VCode := (.seq (sq [oM 6 3,oK 7 .lss 6 11] [0,3,7] (cd 7 .skip (.exit 0))) (.seq (.block 1 (sq [oM 10 0,oM 11 3,oM 12 3,oK 13 .add 12 1,o 14 (.slS (.k (.sc (.c (.str [92,46,61,59,58,124,40,41,123,125,63])))) (some (tv 11)) (some (tv 13))),oB 15 .eql 10 14] [0,3,15] (cd 15 (sq [o 2 (.mv kt)] [2] .ret) .skip))) (rg [oM 8 3,oK 9 .add 8 1,oM 3 9] [0,3])))

def v256 : VFun := ⟨1,(sq [o 2 (.mv kF)] [0] (.seq (sq [oM 4 0,o 5 (.bin .eql 0 (tv 4) (.k (.sc (.c (.str [45,62])))))] [0,5] (cd 5 (sq [o 2 (.mv kt)] [2] .ret) .skip)) (.seq (sq [o 3 (.mv (ki 0))] [0,3] (.block 0 (.loop l256_0))) (sq [o 2 (.mv kF)] [2] .ret)))),[.tmp 2],false⟩

def v228 : VFun := ⟨2,(sq [o 4 (.mv kF)] [0,1] (.seq (.region [] [oM 5 0,o 6 (.nn (tv 5)),oF 7 2 6,oL 8 7,oU 9 8,oM 10 9,gM 11 0 10 true,og 12 (.nn (tv 11)) 10 true,gF 13 1 12 10 true,gL 14 13 10 true,gM 15 0 10 true,og 16 (.nn (tv 15)) 10 true,gF 17 0 16 10 true,gL 18 17 10 true,og 19 (.len false (tv 18)) 10 true,og 20 (.bin .lss 0 (tv 14) (tv 19)) 10 true,o 21 (.pick (tv 10) (tv 20) kF),oM 22 21,gM 23 0 22 true,og 24 (.nn (tv 23)) 22 true,gF 25 0 24 22 true,gL 26 25 22 true,gM 27 0 22 true,og 28 (.nn (tv 27)) 22 true,gF 29 1 28 22 true,gL 30 29 22 true,og 31 (.idxA 3 (tv 26) (tv 30)) 22 true,gF 32 0 31 22 true,gL 33 32 22 true,gM 34 1 22 true,og 35 (.bin .eql 0 (tv 33) (tv 34)) 22 true,o 36 (.pick (tv 22) (tv 35) kF),oM 4 36] [(7,11),(8,11),(9,11),(7,12),(8,12),(9,12),(7,13),(8,13),(9,13),(7,14),(8,14),(9,14),(19,23),(20,23),(21,23),(19,24),(20,24),(21,24),(19,25),(20,25),(21,25)] [4]) .ret)),[.tmp 4],false⟩

def l231_0 : VCode := (.seq (sq [oM 9 0,oa 10 (.call (kf 229) [(true,(tv 9))] []) 640] [0,2,3,10] (cd 10 .skip (.exit 0))) (.block 1 (.region [960] [oF 11 4 3,oL 12 11,oM 13 0,oa 14 (.call (kf 230) [(true,(tv 13))] []) 896,oa 15 (.mkSl 5 [(tv 14)]) 960,o 16 (.app 5 64 false (tv 12) (tv 15)),oF 17 4 3,oW 1 17 16] [(0,3),(1,3),(0,4),(1,4)] [0,2,3])))

def v231 : VFun := ⟨1,(sq [oa 2 (.new [zi,zs,zi,zi,.nil] []) 64] [0,2] (sq [oa 3 (.new [zi,zs,zi,zi,.nil] []) 128] [0,2,3] (.seq (sq [oM 4 0,oa 5 (.call (kf 228) [(true,(tv 4)),(false,(ki 2))] []) 256] [0,2,3,5] (cd 5 (sq [oM 6 0,oa 7 (.call (kf 221) [(true,(tv 6)),(false,(ki 2))] []) 384,oa 8 (.call (kf 100) [fa 7,(true,kn)] []) 448,⟨none,(.store 5 (tv 3) (tv 8) [(4,5)]),none,512,[]⟩] [0,2,3] (.block 0 (.loop l231_0))) (rg [oM 18 0,oa 19 (.call (kf 230) [(true,(tv 18))] []) 1280,⟨none,(.store 5 (tv 3) (tv 19) [(4,5)]),none,1344,[]⟩] [0,2,3]))) (.seq (sq [oM 20 0,oa 21 (.call (kf 220) [(true,(tv 20)),(false,(.k (.sc (.c (.str [45,62])))))] []) 1472] [0,2,3,21] (cd 21 (.seq (.region [] [o 22 (.ldD true 5 (tv 3)),oM 23 0,oa 24 (.call (kf 231) [(true,(tv 23))] []) 1664,oa 25 (.call (kf 128) [fa 22,fa 24] []) 1728,oW 5 2 25] [(0,2)] [2]) .ret) .skip)) (sq [o 26 (.ldD true 5 (tv 3)),oW 5 2 26] [2] .ret))))),[.cell 2 true 5],false⟩

def l232_0 : VCode := (.seq (sq [oM 5 4,oF 6 4 1,oL 7 6,oN 8 7,oB 9 .lss 5 8] [1,3,4,9] (cd 9 .skip (.exit 0))) (.seq (.block 1 (rg [oM 12 3,oF 13 4 1,oL 14 13,oM 15 4,oX 16 5 14 15,oG 17 5 16,oa 18 (.call (kf 232) [fa 17] []) 1024,o 19 (.bin .add 0 (ki 1) (tv 18)),o 20 (.mx (tv 12) (tv 19)),oM 3 20] [1,3,4])) (rg [oM 10 4,oK 11 .add 10 1,oM 4 11] [1,3,4])))

def v232 : VFun := ⟨1,(sq [oa 1 (.box (tv 0)) 64,o 2 (.mv (ki 0))] [1] (sq [o 3 (.mv (ki 0))] [1,3] (.seq (sq [o 4 (.mv (ki 0))] [1,3,4] (.block 0 (.loop l232_0))) (sq [oM 21 3,oM 2 21] [2] .ret)))),[.tmp 2],false⟩

def v246 : VFun := ⟨2,(sq [oa 2 (.box (tv 0)) 64,o 3 (.mv kF)] [1,2] (.seq (.region [] [oG 4 11 2,oa 5 (.call (kf 30) [fa 4] []) 256,oF 6 0 1,oL 7 6,oa 8 (.call (kf 81) [fa 5,fa 7] []) 448,oM 3 8] [(0,2),(1,2),(0,3),(1,3)] [3]) .ret)),[.tmp 3],false⟩

def v117 : VFun := ⟨2,(sq [o 4 (.mv kF)] [0,1] (sq [oM 5 0,oM 6 1,oa 7 (.call (kf 164) [fa 5,(true,(tv 6))] []) 256,oK 8 .geq 7 0,oM 4 8] [4] .ret)),[.tmp 4],false⟩

def v162 : VFun := ⟨2,(sq [oa 2 (.box (tv 0)) 64,oa 3 (.box (tv 1)) 128,o 4 (.mv (ki 0))] [2,3] (.seq (.region [] [oF 6 0 2,oL 7 6,oF 8 0 3,oL 9 8,oa 10 (.call (kf 55) [fa 7,fa 9] []) 512,oF 11 1 2,oL 12 11,oF 13 1 3,oL 14 13,oa 15 (.call (kf 215) [fa 12,fa 14] []) 832,oF 16 2 2,oL 17 16,oF 18 2 3,oL 19 18,oa 20 (.call (kf 55) [fa 17,fa 19] []) 1152,oF 21 3 2,oL 22 21,oF 23 3 3,oL 24 23,oa 25 (.call (kf 55) [fa 22,fa 24] []) 1472,oF 26 4 2,oL 27 26,oN 28 27,oF 29 4 3,oL 30 29,oN 31 30,oa 32 (.call (kf 55) [fa 28,fa 31] []) 1920,oa 33 (.mkSl 1 [(tv 10),(tv 15),(tv 20),(tv 25),(tv 32)]) 1984,oa 34 (.call (kf 59) [fa 33] []) 2048,oM 5 34] [(0,2),(1,2),(0,3),(1,3),(0,5),(1,5),(2,5),(3,5),(4,5),(0,6),(1,6),(2,6),(3,6),(4,6),(0,7),(1,7),(2,7),(3,7),(4,7),(5,7),(6,7),(0,8),(1,8),(2,8),(3,8),(4,8),(5,8),(6,8),(0,10),(1,10),(2,10),(3,10),(4,10),(5,10),(6,10),(7,10),(8,10),(9,10),(0,11),(1,11),(2,11),(3,11),(4,11),(5,11),(6,11),(7,11),(8,11),(9,11),(0,12),(1,12),(2,12),(3,12),(4,12),(5,12),(6,12),(7,12),(8,12),(9,12),(10,12),(11,12),(0,13),(1,13),(2,13),(3,13),(4,13),(5,13),(6,13),(7,13),(8,13),(9,13),(10,13),(11,13),(0,15),(1,15),(2,15),(3,15),(4,15),(5,15),(6,15),(7,15),(8,15),(9,15),(10,15),(11,15),(12,15),(13,15),(14,15),(0,16),(1,16),(2,16),(3,16),(4,16),(5,16),(6,16),(7,16),(8,16),(9,16),(10,16),(11,16),(12,16),(13,16),(14,16),(0,17),(1,17),(2,17),(3,17),(4,17),(5,17),(6,17),(7,17),(8,17),(9,17),(10,17),(11,17),(12,17),(13,17),(14,17),(15,17),(16,17),(0,18),(1,18),(2,18),(3,18),(4,18),(5,18),(6,18),(7,18),(8,18),(9,18),(10,18),(11,18),(12,18),(13,18),(14,18),(15,18),(16,18),(0,20),(1,20),(2,20),(3,20),(4,20),(5,20),(6,20),(7,20),(8,20),(9,20),(10,20),(11,20),(12,20),(13,20),(14,20),(15,20),(16,20),(17,20),(18,20),(19,20),(0,21),(1,21),(2,21),(3,21),(4,21),(5,21),(6,21),(7,21),(8,21),(9,21),(10,21),(11,21),(12,21),(13,21),(14,21),(15,21),(16,21),(17,21),(18,21),(19,21),(0,22),(1,22),(2,22),(3,22),(4,22),(5,22),(6,22),(7,22),(8,22),(9,22),(10,22),(11,22),(12,22),(13,22),(14,22),(15,22),(16,22),(17,22),(18,22),(19,22),(0,23),(1,23),(2,23),(3,23),(4,23),(5,23),(6,23),(7,23),(8,23),(9,23),(10,23),(11,23),(12,23),(13,23),(14,23),(15,23),(16,23),(17,23),(18,23),(19,23),(20,23),(21,23),(22,23),(0,24),(1,24),(2,24),(3,24),(4,24),(5,24),(6,24),(7,24),(8,24),(9,24),(10,24),(11,24),(12,24),(13,24),(14,24),(15,24),(16,24),(17,24),(18,24),(19,24),(20,24),(21,24),(22,24),(0,25),(1,25),(2,25),(3,25),(4,25),(5,25),(6,25),(7,25),(8,25),(9,25),(10,25),(11,25),(12,25),(13,25),(14,25),(15,25),(16,25),(17,25),(18,25),(19,25),(20,25),(21,25),(22,25)] [2,3,5]) (.seq (.seq (.region [1984] [oM 35 5,oK 36 .neq 35 0] [] [2,3,5,36]) (cd 36 (sq [oM 37 5,oM 4 37] [4] .ret) .skip)) (sq [oF 38 4 2,oL 39 38,oF 40 4 3,oL 41 40,oa 42 (.call (kf 216) [fa 39,fa 41,(true,(kf 162))] []) 2688,oM 4 42] [4] .ret)))),[.tmp 4],false⟩

def l163_0 : VCode := (sq [oB 9 .lss 8 7] [0,1,7,8,9] (.seq (cd 9 .skip (.exit 0)) (.seq (.block 1 (sq [oM 10 8,oM 5 10] [0,1,5,7,8] (sq [oM 11 1,oM 12 0,oM 13 5,oX 14 1 12 13,oL 15 14,oa 16 (.call (tv 11) [fa 15] []) 832] [0,1,5,7,8,16] (cd 16 (sq [oM 17 5,oM 4 17] [4] .ret) .skip)))) (.region [864,865,866] [oK 18 .add 8 1,oM 8 18] [] [0,1,7,8]))))

def v163 : VFun := ⟨2,(sq [o 4 (.mv (ki 0))] [0,1] (.seq (sq [oM 6 0,oN 7 6,o 8 (.mv (ki 0))] [0,1,7,8] (.block 0 (.loop l163_0))) (sq [o 4 (.mv (ki (-1)))] [4] .ret))),[.tmp 4],false⟩

def v229 : VFun := ⟨1,(sq [o 2 (.mv kF)] [0] (sq [oM 3 0,oa 4 (.call (kf 228) [(true,(tv 3)),(false,(ki 1))] []) 192,oM 5 4,gM 6 0 5 false,⟨(some 7),(.call (kf 228) [(true,(tv 6)),(false,(ki 2))] []),(some (5,false)),384,[]⟩,o 8 (.pick (tv 5) kt (tv 7)),oM 9 8,gM 10 0 9 false,⟨(some 11),(.call (kf 173) [(true,(tv 10)),(false,(.k (.sc (.c (.str [40])))))] []),(some (9,false)),640,[]⟩,o 12 (.pick (tv 9) kt (tv 11)),oM 2 12] [2] .ret)),[.tmp 2],false⟩

def v230 : VFun := ⟨1,(sq [oa 2 (.new [zi,zs,zi,zi,.nil] []) 64] [0,2] (.seq (.block 0 (sq [oM 5 0,oa 6 (.call (kf 228) [(true,(tv 5)),(false,(ki 1))] []) 192,oM 4 6] [0,2,4] (cd 4 (sq [oM 7 0,oa 8 (.call (kf 221) [(true,(tv 7)),(false,(ki 1))] []) 384,oa 9 (.call (kf 258) [fa 8] []) 448,oW 5 2 9] [2] .ret) (sq [oM 11 0,oa 12 (.call (kf 228) [(true,(tv 11)),(false,(ki 2))] []) 640,oM 10 12] [0,2,10] (cd 10 (sq [oM 13 0,oa 14 (.call (kf 221) [(true,(tv 13)),(false,(ki 2))] []) 832,oa 15 (.call (kf 100) [fa 14,(false,kn)] []) 896,oW 5 2 15] [2] .ret) .skip))))) (sq [oM 16 0,oa 17 (.call (kf 222) [(true,(tv 16)),(false,(.k (.sc (.c (.str [40])))))] []) 1088] [0,2] (.seq (sq [oM 18 0,o 19 (.nn (tv 18)),oF 20 2 19,oL 21 20] [0,2,21] (cd 21 (sq [o 22 (.build [zi,zs,zi,zi,.nil] []),oW 5 2 22] [2] .ret) .skip)) (sq [oM 23 0,oa 24 (.call (kf 231) [(true,(tv 23))] []) 1600,oa 3 (.new [zi,zs,zi,zi,.nil] []) 1664,oW 5 3 24] [0,2,3] (sq [oM 25 0,oa 26 (.call (kf 222) [(true,(tv 25)),(false,(.k (.sc (.c (.str [41])))))] []) 1856] [2,3] (sq [oG 27 5 3,oW 5 2 27] [2] .ret))))))),[.cell 2 true 5],false⟩

def v181 : VFun := ⟨2,(sq [o 4 (.mv kF)] [0,1] (sq [oM 5 0,o 6 (.len true (tv 5)),oM 7 1,o 8 (.len true (tv 7)),oB 9 .geq 6 8,oM 10 9,gM 11 0 10 true,gM 12 1 10 true,og 13 (.len true (tv 12)) 10 true,og 14 (.slS (tv 11) none (some (tv 13))) 10 true,gM 15 1 10 true,og 16 (.bin .eql 0 (tv 14) (tv 15)) 10 true,o 17 (.pick (tv 10) (tv 16) kF),oM 4 17] [4] .ret)),[.tmp 4],false⟩

def v182 : VFun := ⟨1,(sq [o 2 (.mv (.k (.sc (.c (.int .u8 0)))))] [0] (sq [oM 3 0,o 4 (.bin .or 0 (tv 3) (.k (.sc (.c (.int .u8 32))))),oM 2 4] [2] .ret)),[.tmp 2],false⟩

def v184 : VFun := ⟨2,(sq [o 4 (.mv (.k (.sc (.c .nilptr))))] [0,1] (.seq (.region [] [oM 5 0,oM 6 1,oa 7 (.call (kf 233) [fa 6] []) 256,o 8 (.load false 1 (.g 0)),o 9 (.build [zs,zs,(.c .nilif)] [(0,1,(tv 5)),(1,1,(tv 7)),(2,1,(tv 8))]),oa 10 (.box (tv 9)) 448,oM 4 10] [(2,3)] [4]) .ret)),[.tmp 4],true⟩

def v185 : VFun := ⟨2,(sq [o 4 (.mv (.k (.sc (.c .nilptr))))] [0,1] (.seq (.region [] [oM 5 0,oM 6 1,oa 7 (.call (kf 233) [fa 6] []) 256,o 8 (.load false 1 (.g 1)),o 9 (.build [zs,zs,(.c .nilif)] [(0,1,(tv 5)),(1,1,(tv 7)),(2,1,(tv 8))]),oa 10 (.box (tv 9)) 448,oM 4 10] [(2,3)] [4]) .ret)),[.tmp 4],true⟩

def v188 : VFun := ⟨1,(sq [o 2 (.mv (.k (.sc zs)))] [0] (.seq (sq [oM 3 0,oK 4 .lss 3 10] [0,4] (cd 4 (sq [oM 5 0,oM 6 0,oK 7 .add 6 1,o 8 (.slS (.k (.sc (.c (.str [48,49,50,51,52,53,54,55,56,57,97,98,99,100,101,102,103,104,105,106,107,108,109,110,111,112,113,114,115,116,117,118,119,120,121,122])))) (some (tv 5)) (some (tv 7))),oM 2 8] [2] .ret) .skip)) (sq [oM 9 0,oK 10 .mul 9 2,oM 11 0,oK 12 .mul 11 2,oK 13 .add 12 2,o 14 (.slS (.k (.sc (.c (.str d200)))) (some (tv 10)) (some (tv 13))),oM 2 14] [2] .ret))),[.tmp 2],false⟩

def v189 : VFun := ⟨1,(sq [o 2 (.mv (ki 0))] [0] (sq [oM 4 0,oa 5 (.call (kf 202) [fa 4] []) 192,oa 6 (.call (kf 236) [fa 5] []) 256,oM 3 6] [0,3] (sq [oM 7 3,oM 8 0,oM 9 3,o 10 (.idxAA 1 20 (.g 2) (tv 9)),oL 11 10,oB 12 .geq 8 11,oa 13 (.call (kf 237) [fa 12] []) 768,oB 14 .add 7 13,oM 2 14] [2] .ret))),[.tmp 2],false⟩

def l190_0 : VCode := (.seq (sq [oM 19 4,oK 20 .geq 19 8] [0,1,4,20] (cd 20 .skip (.exit 0))) (.block 1 (sq [oM 21 1,o 22 (.bin .rem 0 (tv 21) (.k (.sc (.c (.int .u64 100000000))))),o 23 (.cvI .u32 (tv 22)),oM 5 23] [0,1,4,5] (sq [oM 24 1,o 25 (.bin .quo 0 (tv 24) (.k (.sc (.c (.int .u64 100000000))))),oM 1 25] [0,1,4,5] (sq [oM 26 5,o 27 (.bin .quo 0 (tv 26) (.k (.sc (.c (.int .u32 10000))))),oM 28 5,o 29 (.bin .rem 0 (tv 28) (.k (.sc (.c (.int .u32 10000))))),oM 6 27,oM 7 29] [0,1,4,6,7] (sq [oM 30 7,o 31 (.bin .quo 0 (tv 30) (.k (.sc (.c (.int .u32 100))))),o 32 (.bin .mul 0 (tv 31) (.k (.sc (.c (.int .u32 2))))),oM 33 7,o 34 (.bin .rem 0 (tv 33) (.k (.sc (.c (.int .u32 100))))),o 35 (.bin .mul 0 (tv 34) (.k (.sc (.c (.int .u32 2))))),oM 8 32,oM 9 35] [0,1,4,6,8,9] (sq [oM 36 6,o 37 (.bin .quo 0 (tv 36) (.k (.sc (.c (.int .u32 100))))),o 38 (.bin .mul 0 (tv 37) (.k (.sc (.c (.int .u32 2))))),oM 39 6,o 40 (.bin .rem 0 (tv 39) (.k (.sc (.c (.int .u32 100))))),o 41 (.bin .mul 0 (tv 40) (.k (.sc (.c (.int .u32 2))))),oM 10 38,oM 11 41] [0,1,4,8,9,10,11] (sq [oM 42 0,oM 43 4,oK 44 .sub 43 1,oM 45 0,oM 46 4,oK 47 .sub 46 2,oM 48 9,o 49 (.bin .add 0 (tv 48) (.k (.sc (.c (.int .u32 1))))),o 50 (.idxS (.k (.sc (.c (.str d200)))) (tv 49)),oM 51 9,o 52 (.idxS (.k (.sc (.c (.str d200)))) (tv 51)),oX 53 1 42 44,oW 1 53 50,oX 54 1 45 47,oW 1 54 52] [0,1,4,8,10,11] (sq [oM 55 0,oM 56 4,oK 57 .sub 56 3,oM 58 0,oM 59 4,oK 60 .sub 59 4,oM 61 8,o 62 (.bin .add 0 (tv 61) (.k (.sc (.c (.int .u32 1))))),o 63 (.idxS (.k (.sc (.c (.str d200)))) (tv 62)),oM 64 8,o 65 (.idxS (.k (.sc (.c (.str d200)))) (tv 64)),oX 66 1 55 57,oW 1 66 63,oX 67 1 58 60,oW 1 67 65] [0,1,4,10,11] (sq [oM 68 0,oM 69 4,oK 70 .sub 69 5,oM 71 0,oM 72 4,oK 73 .sub 72 6,oM 74 11,o 75 (.bin .add 0 (tv 74) (.k (.sc (.c (.int .u32 1))))),o 76 (.idxS (.k (.sc (.c (.str d200)))) (tv 75)),oM 77 11,o 78 (.idxS (.k (.sc (.c (.str d200)))) (tv 77)),oX 79 1 68 70,oW 1 79 76,oX 80 1 71 73,oW 1 80 78] [0,1,4,10] (sq [oM 81 0,oM 82 4,oK 83 .sub 82 7,oM 84 0,oM 85 4,oK 86 .sub 85 8,oM 87 10,o 88 (.bin .add 0 (tv 87) (.k (.sc (.c (.int .u32 1))))),o 89 (.idxS (.k (.sc (.c (.str d200)))) (tv 88)),oM 90 10,o 91 (.idxS (.k (.sc (.c (.str d200)))) (tv 90)),oX 92 1 81 83,oW 1 92 89,oX 93 1 84 86,oW 1 93 91] [0,1,4] (rg [oM 94 4,oK 95 .sub 94 8,oM 4 95] [0,1,4]))))))))))))

def v190 : VFun := ⟨2,(sq [oM 17 0,oN 18 17,oM 4 18] [0,1,4] (.seq (.block 0 (.loop l190_0)) (sq [oM 96 1,o 97 (.cvI .u32 (tv 96)),oM 12 97] [0,4,12] (.seq (sq [oM 98 4,oK 99 .geq 98 4] [0,4,12,99] (cd 99 (sq [oM 100 12,o 101 (.bin .rem 0 (tv 100) (.k (.sc (.c (.int .u32 10000))))),oM 13 101] [0,4,12,13] (sq [oM 102 12,o 103 (.bin .quo 0 (tv 102) (.k (.sc (.c (.int .u32 10000))))),oM 12 103] [0,4,12,13] (sq [oM 104 13,o 105 (.bin .quo 0 (tv 104) (.k (.sc (.c (.int .u32 100))))),o 106 (.bin .mul 0 (tv 105) (.k (.sc (.c (.int .u32 2))))),oM 107 13,o 108 (.bin .rem 0 (tv 107) (.k (.sc (.c (.int .u32 100))))),o 109 (.bin .mul 0 (tv 108) (.k (.sc (.c (.int .u32 2))))),oM 14 106,oM 15 109] [0,4,12,14,15] (sq [oM 110 0,oM 111 4,oK 112 .sub 111 1,oM 113 0,oM 114 4,oK 115 .sub 114 2,oM 116 15,o 117 (.bin .add 0 (tv 116) (.k (.sc (.c (.int .u32 1))))),o 118 (.idxS (.k (.sc (.c (.str d200)))) (tv 117)),oM 119 15,o 120 (.idxS (.k (.sc (.c (.str d200)))) (tv 119)),oX 121 1 110 112,oW 1 121 118,oX 122 1 113 115,oW 1 122 120] [0,4,12,14] (sq [oM 123 0,oM 124 4,oK 125 .sub 124 3,oM 126 0,oM 127 4,oK 128 .sub 127 4,oM 129 14,o 130 (.bin .add 0 (tv 129) (.k (.sc (.c (.int .u32 1))))),o 131 (.idxS (.k (.sc (.c (.str d200)))) (tv 130)),oM 132 14,o 133 (.idxS (.k (.sc (.c (.str d200)))) (tv 132)),oX 134 1 123 125,oW 1 134 131,oX 135 1 126 128,oW 1 135 133] [0,4,12] (rg [oM 136 4,oK 137 .sub 136 4,oM 4 137] [0,4,12])))))) .skip)) (.seq (sq [oM 138 4,oK 139 .geq 138 2] [0,4,12,139] (cd 139 (sq [oM 140 12,o 141 (.bin .rem 0 (tv 140) (.k (.sc (.c (.int .u32 100))))),o 142 (.bin .mul 0 (tv 141) (.k (.sc (.c (.int .u32 2))))),oM 16 142] [0,4,12,16] (sq [oM 143 12,o 144 (.bin .quo 0 (tv 143) (.k (.sc (.c (.int .u32 100))))),oM 12 144] [0,4,12,16] (sq [oM 145 0,oM 146 4,oK 147 .sub 146 1,oM 148 0,oM 149 4,oK 150 .sub 149 2,oM 151 16,o 152 (.bin .add 0 (tv 151) (.k (.sc (.c (.int .u32 1))))),o 153 (.idxS (.k (.sc (.c (.str d200)))) (tv 152)),oM 154 16,o 155 (.idxS (.k (.sc (.c (.str d200)))) (tv 154)),oX 156 1 145 147,oW 1 156 153,oX 157 1 148 150,oW 1 157 155] [0,4,12] (rg [oM 158 4,oK 159 .sub 158 2,oM 4 159] [0,4,12])))) .skip)) (sq [oM 160 4,oK 161 .gtr 160 0] [0,12,161] (cd 161 (rg [oM 162 0,oM 163 12,o 164 (.bin .add 0 (.k (.sc (.c (.int .u32 48)))) (tv 163)),o 165 (.cvI .u8 (tv 164)),o 166 (.idxA 1 (tv 162) (ki 0)),oW 1 166 165] [1000000]) .skip))))))),[],false⟩

def v202 : VFun := ⟨1,(sq [o 2 (.mv (ki 0))] [0,2] (.seq (sq [oM 3 0,o 4 (.bin .geq 0 (tv 3) (.k (.sc (.c (.int .u64 4294967296)))))] [0,2,4] (cd 4 (sq [oM 5 0,o 6 (.bin .shr 0 (tv 5) (.k (.sc (.c (.int .u64 32))))),oM 0 6] [0] (rg [o 2 (.mv (ki 32))] [0,2])) .skip)) (.seq (sq [oM 7 0,o 8 (.bin .geq 0 (tv 7) (.k (.sc (.c (.int .u64 65536)))))] [0,2,8] (cd 8 (sq [oM 9 0,o 10 (.bin .shr 0 (tv 9) (.k (.sc (.c (.int .u64 16))))),oM 0 10] [0,2] (rg [oM 11 2,oK 12 .add 11 16,oM 2 12] [0,2])) .skip)) (.seq (sq [oM 13 0,o 14 (.bin .geq 0 (tv 13) (.k (.sc (.c (.int .u64 256)))))] [0,2,14] (cd 14 (sq [oM 15 0,o 16 (.bin .shr 0 (tv 15) (.k (.sc (.c (.int .u64 8))))),oM 0 16] [0,2] (rg [oM 17 2,oK 18 .add 17 8,oM 2 18] [0,2])) .skip)) (sq [oM 19 2,oM 20 0,o 21 (.cvI .u8 (tv 20)),o 22 (.idxS (.k (.sc (.c (.str d256)))) (tv 21)),o 23 (.cvI .i64 (tv 22)),oB 24 .add 19 23,oM 2 24] [2] .ret))))),[.tmp 2],false⟩

def l192_0 : VCode := (.seq (.seq (.region [] [oM 16 7,oM 17 1,oB 18 .gtr 16 17,oM 19 18,gM 20 0 19 true,gM 21 7 19 true,og 22 (.idxA 1 (tv 20) (tv 21)) 19 true,gL 23 22 19 true,gM 24 0 19 true,gM 25 7 19 true,og 26 (.bin .sub 0 (tv 25) (ki 1)) 19 true,og 27 (.idxA 1 (tv 24) (tv 26)) 19 true,gL 28 27 19 true,⟨(some 29),(.call (kf 198) [fa 23,fa 28] []),(some (19,true)),1408,[]⟩,o 30 (.pick (tv 19) (tv 29) kF)] [(6,11),(7,11),(6,12),(7,12)] [0,1,2,6,7,30]) (cd 30 .skip (.exit 2))) (.seq (.block 3 (.region [] [oM 33 0,oM 34 7,oM 35 0,oM 36 7,oK 37 .sub 36 1,oM 38 0,oM 39 7,oK 40 .sub 39 1,oX 41 1 38 40,oL 42 41,oM 43 0,oM 44 7,oX 45 1 43 44,oL 46 45,oX 47 1 33 34,oW 1 47 42,oX 48 1 35 37,oW 1 48 46] [(8,12),(9,12),(8,13),(9,13)] [0,1,2,6,7])) (rg [oM 31 7,oK 32 .sub 31 1,oM 7 32] [0,1,2,6,7])))

def l192_1 : VCode := (.seq (sq [oM 10 6,oM 11 2,oB 12 .lss 10 11] [0,1,2,6,12] (cd 12 .skip (.exit 0))) (.seq (.block 1 (sq [oM 15 6,oM 7 15] [0,1,2,6,7] (.block 2 (.loop l192_0)))) (rg [oM 13 6,oK 14 .add 13 1,oM 6 14] [0,1,2,6])))

def v192 : VFun := ⟨3,(sq [oM 8 1,oK 9 .add 8 1,oM 6 9] [0,1,2,6] (.block 0 (.loop l192_1))),[],false⟩

def l193_0 : VCode := (.seq (sq [oM 18 9,oK 19 .geq 18 0] [0,6,7,8,9,19] (cd 19 .skip (.exit 0))) (.seq (.block 1 (rg [oM 22 0,oM 23 9,oM 24 8,oM 25 6,oa 26 (.call (kf 240) [(true,(tv 22)),fa 23,fa 24,fa 25] []) 1152] [0,6,7,8,9])) (rg [oM 20 9,oK 21 .sub 20 1,oM 9 21] [0,6,7,8,9])))

def l193_1 : VCode := (.seq (sq [oM 29 10,oK 30 .geq 29 0] [0,6,7,10,30] (cd 30 .skip (.exit 2))) (.seq (.block 3 (.seq (.region [] [oM 33 0,oM 34 6,oM 35 0,oM 36 6,oM 37 10,oB 38 .add 36 37,oM 39 0,oM 40 6,oM 41 10,oB 42 .add 40 41,oX 43 1 39 42,oL 44 43,oM 45 0,oM 46 6,oX 47 1 45 46,oL 48 47,oX 49 1 33 34,oW 1 49 44,oX 50 1 35 38,oW 1 50 48] [(10,14),(11,14),(10,15),(11,15)] [0,6,7,10]) (rg [oM 51 0,oM 52 7,oM 53 10,oM 54 6,oa 55 (.call (kf 240) [(true,(tv 51)),fa 52,fa 53,fa 54] []) 3264] [0,6,7,10]))) (rg [oM 31 10,oK 32 .sub 31 1,oM 10 32] [0,6,7,10])))

def v193 : VFun := ⟨3,(sq [oM 11 1,oM 6 11] [0,1,2,6] (sq [o 7 (.mv (ki 0))] [0,1,2,6,7] (sq [oM 12 2,oM 13 1,oB 14 .sub 12 13,oM 8 14] [0,6,7,8] (.seq (sq [oM 15 8,oK 16 .sub 15 1,oK 17 .quo 16 2,oM 9 17] [0,6,7,8,9] (.block 0 (.loop l193_0))) (sq [oM 27 8,oK 28 .sub 27 1,oM 10 28] [0,6,7,10] (.block 2 (.loop l193_1))))))),[],false⟩

def l194_0 : VCode := (.seq (sq [oM 26 9,oM 27 1,oM 28 6,oK 29 .quo 28 4,oK 30 .mul 29 2,oB 31 .add 27 30,oK 32 .add 31 1,oB 33 .leq 26 32] [0,1,6,7,8,9,33] (cd 33 .skip (.exit 0))) (.seq (.block 1 (sq [oa 36 (.call (kf 242) [(true,(tv 7))] []) 1856,oM 37 8,o 38 (.bin .sub 0 (tv 37) (.k (.sc (.c (.int .u64 1))))),oB 39 .and 36 38,o 40 (.cvI .i64 (tv 39)),oM 10 40] [0,1,6,7,8,9,10] (.seq (sq [oM 41 10,oM 42 6,oB 43 .geq 41 42] [0,1,6,7,8,9,10,43] (cd 43 (rg [oM 44 10,oM 45 6,oB 46 .sub 44 45,oM 10 46] [0,1,6,7,8,9,10]) .skip)) (.region [] [oM 47 0,oM 48 9,oM 49 0,oM 50 1,oM 51 10,oB 52 .add 50 51,oM 53 0,oM 54 1,oM 55 10,oB 56 .add 54 55,oX 57 1 53 56,oL 58 57,oM 59 0,oM 60 9,oX 61 1 59 60,oL 62 61,oX 63 1 47 48,oW 1 63 58,oX 64 1 49 52,oW 1 64 62] [(10,14),(11,14),(10,15),(11,15)] [0,1,6,7,8,9])))) (rg [oM 34 9,oK 35 .add 34 1,oM 9 35] [0,1,6,7,8,9])))

def v194 : VFun := ⟨3,(sq [oM 11 2,oM 12 1,oB 13 .sub 11 12,oM 6 13] [0,1,6] (sq [oM 14 6,oK 15 .geq 14 8] [0,1,6,15] (cd 15 (sq [oM 16 6,o 17 (.cvI .u64 (tv 16)),oa 7 (.new [(.c (.int .u64 0))] []) 576,oW 1 7 17] [0,1,6,7] (sq [oM 18 6,oa 19 (.call (kf 241) [fa 18] []) 768,oM 8 19] [0,1,6,7,8] (sq [oM 20 1,oM 21 6,oK 22 .quo 21 4,oK 23 .mul 22 2,oB 24 .add 20 23,oK 25 .sub 24 1,oM 9 25] [0,1,6,7,8,9] (.block 0 (.loop l194_0))))) .skip))),[],false⟩

def v195 : VFun := ⟨3,(sq [o 6 (.mv (ki 0)),o 7 (.mv (ki 0))] [0,1,2] (sq [oM 13 2,oM 14 1,oB 15 .sub 13 14,oM 8 15] [0,1,8] (sq [oa 9 (.new [zi] []) 448] [0,1,8,9] (sq [oM 16 1,oM 17 8,oK 18 .quo 17 4,oK 19 .mul 18 1,oB 20 .add 16 19,oM 10 20] [0,1,8,9,10] (sq [oM 21 1,oM 22 8,oK 23 .quo 22 4,oK 24 .mul 23 2,oB 25 .add 21 24,oM 11 25] [0,1,8,9,10,11] (sq [oM 26 1,oM 27 8,oK 28 .quo 27 4,oK 29 .mul 28 3,oB 30 .add 26 29,oM 12 30] [0,8,9,10,11,12] (.seq (sq [oM 31 8,oK 32 .geq 31 8] [0,8,9,10,11,12,32] (cd 32 (.seq (sq [oM 33 8,oK 34 .geq 33 50] [0,9,10,11,12,34] (cd 34 (sq [oM 35 0,oM 36 10,oa 37 (.call (kf 243) [(true,(tv 35)),fa 36,(true,(tv 9))] []) 2048,oM 10 37] [0,9,10,11,12] (sq [oM 38 0,oM 39 11,oa 40 (.call (kf 243) [(true,(tv 38)),fa 39,(true,(tv 9))] []) 2304,oM 11 40] [0,9,10,11,12] (rg [oM 41 0,oM 42 12,oa 43 (.call (kf 243) [(true,(tv 41)),fa 42,(true,(tv 9))] []) 2560,oM 12 43] [0,9,10,11,12]))) .skip)) (rg [oM 44 0,oM 45 10,oM 46 11,oM 47 12,oa 48 (.call (kf 244) [(true,(tv 44)),fa 45,fa 46,fa 47,(true,(tv 9))] []) 2944,oM 11 48] [9,11])) .skip)) (sq [oL 49 9] [11,49] (.block 0 (sq [oK 52 .eql 49 0,oM 51 52] [11,49,51] (cd 51 (sq [oM 53 11,oM 6 53,o 7 (.mv (ki 1))] [6,7] .ret) (sq [oK 55 .eql 49 12,oM 54 55] [11,54] (cd 54 (sq [oM 56 11,oM 6 56,o 7 (.mv (ki 2))] [6,7] .ret) (sq [oM 50 11,oM 6 50,o 7 (.mv (ki 0))] [6,7] .ret)))))))))))))),[.tmp 6,.tmp 7],false⟩

def l196_0 : VCode := (.seq (sq [oM 11 6,oM 12 7,oB 13 .lss 11 12] [0,6,7,13] (cd 13 .skip (.exit 0))) (.block 1 (.seq (.region [] [oM 14 0,oM 15 6,oM 16 0,oM 17 7,oM 18 0,oM 19 7,oX 20 1 18 19,oL 21 20,oM 22 0,oM 23 6,oX 24 1 22 23,oL 25 24,oX 26 1 14 15,oW 1 26 21,oX 27 1 16 17,oW 1 27 25] [(6,10),(7,10),(6,11),(7,11)] [0,6,7]) (sq [oM 28 6,oK 29 .add 28 1,oM 6 29] [0,6,7] (rg [oM 30 7,oK 31 .sub 30 1,oM 7 31] [0,6,7])))))

def v196 : VFun := ⟨3,(sq [oM 8 1,oM 6 8] [0,2,6] (sq [oM 9 2,oK 10 .sub 9 1,oM 7 10] [0,6,7] (.block 0 (.loop l196_0)))),[],false⟩

def l197_0 : VCode := (.seq (.seq (.region [] [oM 17 7,oM 18 2,oB 19 .lss 17 18,oM 20 19,gM 21 0 20 true,gM 22 7 20 true,og 23 (.idxA 1 (tv 21) (tv 22)) 20 true,gL 24 23 20 true,gM 25 0 20 true,gM 26 7 20 true,og 27 (.bin .sub 0 (tv 26) (ki 1)) 20 true,og 28 (.idxA 1 (tv 25) (tv 27)) 20 true,gL 29 28 20 true,⟨(some 30),(.call (kf 198) [fa 24,fa 29] []),(some (20,true)),1344,[]⟩,og 31 (.un .not (tv 30)) 20 true,o 32 (.pick (tv 20) (tv 31) kF)] [(6,11),(7,11),(6,12),(7,12)] [0,1,2,7,8,32]) (cd 32 .skip (.exit 2))) (.block 3 (rg [oM 33 7,oK 34 .add 33 1,oM 7 34] [0,1,2,7,8])))

def l197_1 : VCode := (.seq (sq [oM 64 9,oK 65 .geq 64 1] [0,1,2,7,8,9,65] (cd 65 .skip (.exit 4))) (.seq (.block 5 (.seq (.seq (.region [] [oM 68 0,oM 69 9,oX 70 1 68 69,oL 71 70,oM 72 0,oM 73 9,oK 74 .sub 73 1,oX 75 1 72 74,oL 76 75,oa 77 (.call (kf 198) [fa 71,fa 76] []) 4608,oU 78 77] [(2,7),(3,7),(2,8),(3,8)] [0,1,2,7,8,9,78]) (cd 78 (.exit 4) .skip)) (.region [] [oM 79 0,oM 80 9,oM 81 0,oM 82 9,oK 83 .sub 82 1,oM 84 0,oM 85 9,oK 86 .sub 85 1,oX 87 1 84 86,oL 88 87,oM 89 0,oM 90 9,oX 91 1 89 90,oL 92 91,oX 93 1 79 80,oW 1 93 88,oX 94 1 81 83,oW 1 94 92] [(8,12),(9,12),(8,13),(9,13)] [0,1,2,7,8,9]))) (rg [oM 66 9,oK 67 .sub 66 1,oM 9 67] [0,1,2,7,8,9])))

def l197_2 : VCode := (.seq (sq [oM 101 10,oM 102 2,oB 103 .lss 101 102] [0,1,2,7,8,10,103] (cd 103 .skip (.exit 6))) (.seq (.block 7 (.seq (.seq (.region [] [oM 106 0,oM 107 10,oX 108 1 106 107,oL 109 108,oM 110 0,oM 111 10,oK 112 .sub 111 1,oX 113 1 110 112,oL 114 113,oa 115 (.call (kf 198) [fa 109,fa 114] []) 7296,oU 116 115] [(2,7),(3,7),(2,8),(3,8)] [0,1,2,7,8,10,116]) (cd 116 (.exit 6) .skip)) (.region [] [oM 117 0,oM 118 10,oM 119 0,oM 120 10,oK 121 .sub 120 1,oM 122 0,oM 123 10,oK 124 .sub 123 1,oX 125 1 122 124,oL 126 125,oM 127 0,oM 128 10,oX 129 1 127 128,oL 130 129,oX 131 1 117 118,oW 1 131 126,oX 132 1 119 121,oW 1 132 130] [(8,12),(9,12),(8,13),(9,13)] [0,1,2,7,8,10]))) (rg [oM 104 10,oK 105 .add 104 1,oM 10 105] [0,1,2,7,8,10])))

def l197_3 : VCode := (.seq (sq [oM 13 8,oK 14 .lss 13 5] [0,1,2,7,8,14] (cd 14 .skip (.exit 0))) (.seq (.block 1 (.seq (.block 2 (.loop l197_0)) (.seq (sq [oM 35 7,oM 36 2,oB 37 .eql 35 36] [0,1,2,7,8,37] (cd 37 (sq [o 6 (.mv kt)] [6] .ret) .skip)) (.seq (sq [oM 38 2,oM 39 1,oB 40 .sub 38 39,oK 41 .lss 40 50] [0,1,2,7,8,41] (cd 41 (sq [o 6 (.mv kF)] [6] .ret) .skip)) (.seq (.region [] [oM 42 0,oM 43 7,oM 44 0,oM 45 7,oK 46 .sub 45 1,oM 47 0,oM 48 7,oK 49 .sub 48 1,oX 50 1 47 49,oL 51 50,oM 52 0,oM 53 7,oX 54 1 52 53,oL 55 54,oX 56 1 42 43,oW 1 56 51,oX 57 1 44 46,oW 1 57 55] [(8,12),(9,12),(8,13),(9,13)] [0,1,2,7,8]) (.seq (sq [oM 58 7,oM 59 1,oB 60 .sub 58 59,oK 61 .geq 60 2] [0,1,2,7,8,61] (cd 61 (sq [oM 62 7,oK 63 .sub 62 1,oM 9 63] [0,1,2,7,8,9] (.block 4 (.loop l197_1))) .skip)) (sq [oM 95 2,oM 96 7,oB 97 .sub 95 96,oK 98 .geq 97 2] [0,1,2,7,8,98] (cd 98 (sq [oM 99 7,oK 100 .add 99 1,oM 10 100] [0,1,2,7,8,10] (.block 6 (.loop l197_2))) .skip)))))))) (rg [oM 15 8,oK 16 .add 15 1,oM 8 16] [0,1,2,7,8])))

def v197 : VFun := ⟨3,(sq [o 6 (.mv kF)] [0,1,2] (sq [oM 11 1,oK 12 .add 11 1,oM 7 12] [0,1,2,7] (.seq (sq [o 8 (.mv (ki 0))] [0,1,2,7,8] (.block 0 (.loop l197_3))) (sq [o 6 (.mv kF)] [6] .ret)))),[.tmp 6],false⟩

def v198 : VFun := ⟨2,(sq [o 4 (.mv kF)] [0,1] (sq [oM 5 0,oa 6 (.call (kf 245) [fa 5] []) 192,oM 7 6,gM 8 1 7 true,⟨(some 9),(.call (kf 245) [fa 8] []),(some (7,true)),384,[]⟩,og 10 (.un .not (tv 9)) 7 true,o 11 (.pick (tv 7) (tv 10) kF),oM 12 11,gM 13 0 12 false,gM 14 1 12 false,og 15 (.bin .lss 0 (tv 13) (tv 14)) 12 false,o 16 (.pick (tv 12) kt (tv 15)),oM 4 16] [4] .ret)),[.tmp 4],false⟩

def l199_0 : VCode := (.seq (.seq (.region [] [oM 29 9,oM 30 10,oB 31 .leq 29 30,oM 32 31,gM 33 0 32 true,gM 34 1 32 true,og 35 (.idxA 1 (tv 33) (tv 34)) 32 true,gL 36 35 32 true,gM 37 0 32 true,gM 38 9 32 true,og 39 (.idxA 1 (tv 37) (tv 38)) 32 true,gL 40 39 32 true,⟨(some 41),(.call (kf 198) [fa 36,fa 40] []),(some (32,true)),2304,[]⟩,og 42 (.un .not (tv 41)) 32 true,o 43 (.pick (tv 32) (tv 42) kF)] [(6,10),(7,10),(6,11),(7,11)] [0,1,9,10,43]) (cd 43 .skip (.exit 2))) (.block 3 (rg [oM 44 9,oK 45 .add 44 1,oM 9 45] [0,1,9,10])))

def l199_1 : VCode := (.seq (.seq (.region [] [oM 46 9,oM 47 10,oB 48 .leq 46 47,oM 49 48,gM 50 0 49 true,gM 51 1 49 true,og 52 (.idxA 1 (tv 50) (tv 51)) 49 true,gL 53 52 49 true,gM 54 0 49 true,gM 55 10 49 true,og 56 (.idxA 1 (tv 54) (tv 55)) 49 true,gL 57 56 49 true,⟨(some 58),(.call (kf 198) [fa 53,fa 57] []),(some (49,true)),3456,[]⟩,o 59 (.pick (tv 49) (tv 58) kF)] [(6,10),(7,10),(6,11),(7,11)] [0,1,9,10,59]) (cd 59 .skip (.exit 4))) (.block 5 (rg [oM 60 10,oK 61 .sub 60 1,oM 10 61] [0,1,9,10])))

def l199_2 : VCode := (.block 1 (.seq (.block 2 (.loop l199_0)) (.seq (.block 4 (.loop l199_1)) (.seq (sq [oM 62 9,oM 63 10,oB 64 .gtr 62 63] [0,1,9,10,64] (cd 64 (.exit 0) .skip)) (.seq (.region [] [oM 65 0,oM 66 9,oM 67 0,oM 68 10,oM 69 0,oM 70 10,oX 71 1 69 70,oL 72 71,oM 73 0,oM 74 9,oX 75 1 73 74,oL 76 75,oX 77 1 65 66,oW 1 77 72,oX 78 1 67 68,oW 1 78 76] [(6,10),(7,10),(6,11),(7,11)] [0,1,9,10]) (sq [oM 79 9,oK 80 .add 79 1,oM 9 80] [0,1,9,10] (rg [oM 81 10,oK 82 .sub 81 1,oM 10 82] [0,1,9,10])))))))

def v199 : VFun := ⟨4,(sq [o 8 (.mv (ki 0))] [0,1,2,3] (.seq (.region [] [oM 11 0,oM 12 1,oM 13 0,oM 14 3,oM 15 0,oM 16 3,oX 17 1 15 16,oL 18 17,oM 19 0,oM 20 1,oX 21 1 19 20,oL 22 21,oX 23 1 11 12,oW 1 23 18,oX 24 1 13 14,oW 1 24 22] [(6,10),(7,10),(6,11),(7,11)] [0,1,2]) (sq [oM 25 1,oK 26 .add 25 1,oM 27 2,oK 28 .sub 27 1,oM 9 26,oM 10 28] [0,1,9,10] (.seq (.block 0 (.loop l199_2)) (sq [oM 83 9,oM 8 83] [8] .ret))))),[.tmp 8],false⟩

def l200_0 : VCode := (.seq (.seq (.region [] [oM 30 10,oM 31 11,oB 32 .leq 30 31,oM 33 32,gM 34 0 33 true,gM 35 10 33 true,og 36 (.idxA 1 (tv 34) (tv 35)) 33 true,gL 37 36 33 true,gM 38 0 33 true,gM 39 1 33 true,og 40 (.idxA 1 (tv 38) (tv 39)) 33 true,gL 41 40 33 true,⟨(some 42),(.call (kf 198) [fa 37,fa 41] []),(some (33,true)),2368,[]⟩,o 43 (.pick (tv 33) (tv 42) kF)] [(6,10),(7,10),(6,11),(7,11)] [0,1,10,11,43]) (cd 43 .skip (.exit 0))) (.block 1 (rg [oM 44 10,oK 45 .add 44 1,oM 10 45] [0,1,10,11])))

def l200_1 : VCode := (.seq (.seq (.region [] [oM 46 10,oM 47 11,oB 48 .leq 46 47,oM 49 48,gM 50 0 49 true,gM 51 11 49 true,og 52 (.idxA 1 (tv 50) (tv 51)) 49 true,gL 53 52 49 true,gM 54 0 49 true,gM 55 1 49 true,og 56 (.idxA 1 (tv 54) (tv 55)) 49 true,gL 57 56 49 true,⟨(some 58),(.call (kf 198) [fa 53,fa 57] []),(some (49,true)),3456,[]⟩,og 59 (.un .not (tv 58)) 49 true,o 60 (.pick (tv 49) (tv 59) kF)] [(6,10),(7,10),(6,11),(7,11)] [0,1,10,11,60]) (cd 60 .skip (.exit 2))) (.block 3 (rg [oM 61 11,oK 62 .sub 61 1,oM 11 62] [0,1,10,11])))

def l200_2 : VCode := (.seq (.seq (.region [] [oM 99 10,oM 100 11,oB 101 .leq 99 100,oM 102 101,gM 103 0 102 true,gM 104 10 102 true,og 105 (.idxA 1 (tv 103) (tv 104)) 102 true,gL 106 105 102 true,gM 107 0 102 true,gM 108 1 102 true,og 109 (.idxA 1 (tv 107) (tv 108)) 102 true,gL 110 109 102 true,⟨(some 111),(.call (kf 198) [fa 106,fa 110] []),(some (102,true)),7424,[]⟩,o 112 (.pick (tv 102) (tv 111) kF)] [(6,10),(7,10),(6,11),(7,11)] [0,1,10,11,112]) (cd 112 .skip (.exit 6))) (.block 7 (rg [oM 113 10,oK 114 .add 113 1,oM 10 114] [0,1,10,11])))

def l200_3 : VCode := (.seq (.seq (.region [] [oM 115 10,oM 116 11,oB 117 .leq 115 116,oM 118 117,gM 119 0 118 true,gM 120 11 118 true,og 121 (.idxA 1 (tv 119) (tv 120)) 118 true,gL 122 121 118 true,gM 123 0 118 true,gM 124 1 118 true,og 125 (.idxA 1 (tv 123) (tv 124)) 118 true,gL 126 125 118 true,⟨(some 127),(.call (kf 198) [fa 122,fa 126] []),(some (118,true)),8512,[]⟩,og 128 (.un .not (tv 127)) 118 true,o 129 (.pick (tv 118) (tv 128) kF)] [(6,10),(7,10),(6,11),(7,11)] [0,1,10,11,129]) (cd 129 .skip (.exit 8))) (.block 9 (rg [oM 130 11,oK 131 .sub 130 1,oM 11 131] [0,1,10,11])))

def l200_4 : VCode := (.block 5 (.seq (.block 6 (.loop l200_2)) (.seq (.block 8 (.loop l200_3)) (.seq (sq [oM 132 10,oM 133 11,oB 134 .gtr 132 133] [0,1,10,11,134] (cd 134 (.exit 4) .skip)) (.seq (.region [] [oM 135 0,oM 136 10,oM 137 0,oM 138 11,oM 139 0,oM 140 11,oX 141 1 139 140,oL 142 141,oM 143 0,oM 144 10,oX 145 1 143 144,oL 146 145,oX 147 1 135 136,oW 1 147 142,oX 148 1 137 138,oW 1 148 146] [(6,10),(7,10),(6,11),(7,11)] [0,1,10,11]) (sq [oM 149 10,oK 150 .add 149 1,oM 10 150] [0,1,10,11] (rg [oM 151 11,oK 152 .sub 151 1,oM 11 152] [0,1,10,11])))))))

def v200 : VFun := ⟨4,(sq [o 8 (.mv (ki 0)),o 9 (.mv kF)] [0,1,2,3] (.seq (.region [] [oM 12 0,oM 13 1,oM 14 0,oM 15 3,oM 16 0,oM 17 3,oX 18 1 16 17,oL 19 18,oM 20 0,oM 21 1,oX 22 1 20 21,oL 23 22,oX 24 1 12 13,oW 1 24 19,oX 25 1 14 15,oW 1 25 23] [(6,10),(7,10),(6,11),(7,11)] [0,1,2]) (sq [oM 26 1,oK 27 .add 26 1,oM 28 2,oK 29 .sub 28 1,oM 10 27,oM 11 29] [0,1,10,11] (.seq (.block 0 (.loop l200_0)) (.seq (.block 2 (.loop l200_1)) (.seq (sq [oM 63 10,oM 64 11,oB 65 .gtr 63 64] [0,1,10,11,65] (cd 65 (.seq (.region [] [oM 66 0,oM 67 11,oM 68 0,oM 69 1,oM 70 0,oM 71 1,oX 72 1 70 71,oL 73 72,oM 74 0,oM 75 11,oX 76 1 74 75,oL 77 76,oX 78 1 66 67,oW 1 78 73,oX 79 1 68 69,oW 1 79 77] [(6,10),(7,10),(6,11),(7,11)] [11]) (sq [oM 80 11,oM 8 80,o 9 (.mv kt)] [8,9] .ret)) .skip)) (.seq (.region [] [oM 81 0,oM 82 10,oM 83 0,oM 84 11,oM 85 0,oM 86 11,oX 87 1 85 86,oL 88 87,oM 89 0,oM 90 10,oX 91 1 89 90,oL 92 91,oX 93 1 81 82,oW 1 93 88,oX 94 1 83 84,oW 1 94 92] [(6,10),(7,10),(6,11),(7,11)] [0,1,10,11]) (sq [oM 95 10,oK 96 .add 95 1,oM 10 96] [0,1,10,11] (sq [oM 97 11,oK 98 .sub 97 1,oM 11 98] [0,1,10,11] (.seq (.block 4 (.loop l200_4)) (.seq (.region [] [oM 153 0,oM 154 11,oM 155 0,oM 156 1,oM 157 0,oM 158 1,oX 159 1 157 158,oL 160 159,oM 161 0,oM 162 11,oX 163 1 161 162,oL 164 163,oX 165 1 153 154,oW 1 165 160,oX 166 1 155 156,oW 1 166 164] [(6,10),(7,10),(6,11),(7,11)] [11]) (sq [oM 167 11,oM 8 167,o 9 (.mv kF)] [8,9] .ret)))))))))))),[.tmp 8,.tmp 9],false⟩

def l263_0 : VCode := (.seq (sq [oM 4 3,oM 5 0,o 6 (.len true (tv 5)),oB 7 .lss 4 6] [0,3,7] (cd 7 .skip (.exit 0))) (.seq (.block 1 (sq [oM 10 0,oM 11 3,o 12 (.idxS (tv 10) (tv 11)),oa 13 (.call (kf 217) [fa 12] []) 640,oU 14 13] [0,3,14] (cd 14 (sq [o 2 (.mv kF)] [2] .ret) .skip))) (rg [oM 8 3,oK 9 .add 8 1,oM 3 9] [0,3])))

def v263 : VFun := ⟨1,(sq [o 2 (.mv kF)] [0] (.seq (sq [o 3 (.mv (ki 0))] [0,3] (.block 0 (.loop l263_0))) (sq [oM 15 0,o 16 (.bin .neq 0 (tv 15) (.k (.sc zs))),oM 2 16] [2] .ret))),[.tmp 2],false⟩

def l164_0 : VCode := (sq [oB 9 .lss 8 7] [0,1,7,8,9] (.seq (cd 9 .skip (.exit 0)) (.seq (.block 1 (sq [oM 10 8,oM 5 10] [0,1,5,7,8] (sq [oM 11 1,oM 12 0,oM 13 5,oX 14 11 12 13,oG 15 11 14,oa 16 (.call (tv 11) [fa 15] []) 832] [0,1,5,7,8,16] (cd 16 (sq [oM 17 5,oM 4 17] [4] .ret) .skip)))) (.region [864,865,866] [oK 18 .add 8 1,oM 8 18] [] [0,1,7,8]))))

def v164 : VFun := ⟨2,(sq [o 4 (.mv (ki 0))] [0,1] (.seq (sq [oM 6 0,oN 7 6,o 8 (.mv (ki 0))] [0,1,7,8] (.block 0 (.loop l164_0))) (sq [o 4 (.mv (ki (-1)))] [4] .ret))),[.tmp 4],false⟩

def v55 : VFun := ⟨2,(sq [o 4 (.mv (ki 0))] [0,1] (sq [oM 7 0,oa 8 (.call (kf 105) [fa 7] []) 192,oM 5 8] [0,1,5] (sq [oM 9 1,oa 10 (.call (kf 105) [fa 9] []) 384,oM 6 10] [0,1,5,6] (.seq (sq [oM 11 5] [0,1,6,11] (cd 11 (.seq (sq [oM 12 6] [12] (cd 12 (sq [o 4 (.mv (ki 0))] [4] .ret) .skip)) (sq [o 4 (.mv (ki (-1)))] [4] .ret)) .skip)) (.seq (sq [oM 13 6] [0,1,13] (cd 13 (sq [o 4 (.mv (ki 1))] [4] .ret) .skip)) (.seq (sq [oM 14 0,oM 15 1,oB 16 .lss 14 15] [0,1,16] (cd 16 (sq [o 4 (.mv (ki (-1)))] [4] .ret) .skip)) (.seq (sq [oM 17 0,oM 18 1,oB 19 .gtr 17 18] [19] (cd 19 (sq [o 4 (.mv (ki 1))] [4] .ret) .skip)) (sq [o 4 (.mv (ki 0))] [4] .ret)))))))),[.tmp 4],false⟩

def v215 : VFun := ⟨2,(sq [o 4 (.mv (ki 0))] [0,1] (sq [oM 7 0,oa 8 (.call (kf 248) [fa 7] []) 192,oM 5 8] [0,1,5] (sq [oM 9 1,oa 10 (.call (kf 248) [fa 9] []) 384,oM 6 10] [0,1,5,6] (.seq (sq [oM 11 5] [0,1,6,11] (cd 11 (.seq (sq [oM 12 6] [12] (cd 12 (sq [o 4 (.mv (ki 0))] [4] .ret) .skip)) (sq [o 4 (.mv (ki (-1)))] [4] .ret)) .skip)) (.seq (sq [oM 13 6] [0,1,13] (cd 13 (sq [o 4 (.mv (ki 1))] [4] .ret) .skip)) (.seq (sq [oM 14 0,oM 15 1,oB 16 .lss 14 15] [0,1,16] (cd 16 (sq [o 4 (.mv (ki (-1)))] [4] .ret) .skip)) (.seq (sq [oM 17 0,oM 18 1,oB 19 .gtr 17 18] [19] (cd 19 (sq [o 4 (.mv (ki 1))] [4] .ret) .skip)) (sq [o 4 (.mv (ki 0))] [4] .ret)))))))),[.tmp 4],false⟩

def l59_0 : VCode := (sq [oB 9 .lss 8 7] [3,6,7,8,9] (.seq (cd 9 .skip (.exit 0)) (.seq (.block 1 (sq [oX 10 1 6 8,oL 11 10,oM 5 11] [3,5,6,7,8] (sq [oM 12 5,oM 13 3,oB 14 .neq 12 13] [3,5,6,7,8,14] (cd 14 (sq [oM 15 5,oM 2 15] [2] .ret) .skip)))) (rg [oK 16 .add 8 1,oM 8 16] [3,6,7,8]))))

def v59 : VFun := ⟨1,(sq [o 2 (.mv (ki 0))] [0] (sq [o 3 (.mv (ki 0))] [0,3] (.seq (sq [oM 6 0,oN 7 6,o 8 (.mv (ki 0))] [3,6,7,8] (.block 0 (.loop l59_0))) (sq [oM 17 3,oM 2 17] [2] .ret)))),[.tmp 2],false⟩

def l216_0 : VCode := (sq [oB 14 .lss 13 12] [0,1,2,11,12,13,14] (.seq (cd 14 .skip (.exit 0)) (.seq (.block 1 (sq [oM 15 13,oX 16 5 11 13,oG 17 5 16,oa 8 (.new [zi,zs,zi,zi,.nil] []) 576,oM 7 15,oW 5 8 17] [0,1,2,7,8,11,12,13] (.seq (sq [oM 18 7,oM 19 1,oN 20 19,oB 21 .geq 18 20] [0,1,2,7,8,11,12,13,21] (cd 21 (sq [o 6 (.mv (ki 1))] [6] .ret) .skip)) (sq [oM 22 1,oM 23 7,oX 24 5 22 23,oG 25 5 24,oa 9 (.new [zi,zs,zi,zi,.nil] []) 1344,oW 5 9 25] [0,1,2,8,9,11,12,13] (sq [oM 26 2,oG 27 5 8,oG 28 5 9,oa 29 (.call (tv 26) [fa 27,fa 28] []) 1664,oM 10 29] [0,1,2,10,11,12,13] (.seq (.region [576,1344] [oM 30 10,oK 31 .neq 30 0] [] [0,1,2,10,11,12,13,31]) (cd 31 (sq [oM 32 10,oM 6 32] [6] .ret) .skip))))))) (.region [576,1344,1696,1697,1698] [oK 33 .add 13 1,oM 13 33] [] [0,1,2,11,12,13]))))

def v216 : VFun := ⟨3,(sq [o 6 (.mv (ki 0))] [0,1,2] (.seq (sq [oM 11 0,oN 12 11,o 13 (.mv (ki 0))] [0,1,2,11,12,13] (.block 0 (.loop l216_0))) (.seq (sq [oM 34 0,oN 35 34,oM 36 1,oN 37 36,oB 38 .lss 35 37] [38] (cd 38 (sq [o 6 (.mv (ki (-1)))] [6] .ret) .skip)) (sq [o 6 (.mv (ki 0))] [6] .ret)))),[.tmp 6],false⟩

def v258 : VFun := ⟨1,(sq [oa 2 (.new [zi,zs,zi,zi,.nil] []) 64] [0,2] (sq [oM 3 0,o 4 (.build [zi,zs,zi,zi,.nil] [(0,1,(ki 5)),(1,1,(tv 3))]),oW 5 2 4] [2] .ret)),[.cell 2 true 5],false⟩

def v236 : VFun := ⟨1,(sq [o 2 (.mv (ki 0))] [0] (sq [oM 3 0,oK 4 .mul 3 78913,o 5 (.bin .shr 0 (tv 4) (.k (.sc (.c (.int .u64 18))))),oM 2 5] [2] .ret)),[.tmp 2],false⟩

def v237 : VFun := ⟨1,(sq [o 2 (.mv (ki 0))] [0] (.seq (sq [oM 3 0] [3] (cd 3 (sq [o 2 (.mv (ki 1))] [2] .ret) .skip)) (sq [o 2 (.mv (ki 0))] [2] .ret))),[.tmp 2],false⟩

def l240_0 : VCode := (.block 1 (sq [oM 11 8,o 12 (.bin .mul 0 (ki 2) (tv 11)),oK 13 .add 12 1,oM 9 13] [0,2,3,8,9] (.seq (sq [oM 14 9,oM 15 2,oB 16 .geq 14 15] [0,2,3,8,9,16] (cd 16 (.exit 0) .skip)) (.seq (.seq (.region [] [oM 17 9,oK 18 .add 17 1,oM 19 2,oB 20 .lss 18 19,oM 21 20,gM 22 0 21 true,gM 23 3 21 true,gM 24 9 21 true,og 25 (.bin .add 0 (tv 23) (tv 24)) 21 true,og 26 (.idxA 1 (tv 22) (tv 25)) 21 true,gL 27 26 21 true,gM 28 0 21 true,gM 29 3 21 true,gM 30 9 21 true,og 31 (.bin .add 0 (tv 29) (tv 30)) 21 true,og 32 (.bin .add 0 (tv 31) (ki 1)) 21 true,og 33 (.idxA 1 (tv 28) (tv 32)) 21 true,gL 34 33 21 true,⟨(some 35),(.call (kf 198) [fa 27,fa 34] []),(some (21,true)),1792,[]⟩,o 36 (.pick (tv 21) (tv 35) kF)] [(9,16),(10,16),(9,17),(10,17)] [0,2,3,8,9,36]) (cd 36 (rg [oM 37 9,oK 38 .add 37 1,oM 9 38] [0,2,3,8,9]) .skip)) (.seq (.seq (.region [] [oM 39 0,oM 40 3,oM 41 8,oB 42 .add 40 41,oX 43 1 39 42,oL 44 43,oM 45 0,oM 46 3,oM 47 9,oB 48 .add 46 47,oX 49 1 45 48,oL 50 49,oa 51 (.call (kf 198) [fa 44,fa 50] []) 2880,oU 52 51] [(4,10),(5,10),(4,11),(5,11)] [0,2,3,8,9,52]) (cd 52 .ret .skip)) (.seq (.region [] [oM 53 0,oM 54 3,oM 55 8,oB 56 .add 54 55,oM 57 0,oM 58 3,oM 59 9,oB 60 .add 58 59,oM 61 0,oM 62 3,oM 63 9,oB 64 .add 62 63,oX 65 1 61 64,oL 66 65,oM 67 0,oM 68 3,oM 69 8,oB 70 .add 68 69,oX 71 1 67 70,oL 72 71,oX 73 1 53 56,oW 1 73 66,oX 74 1 57 60,oW 1 74 72] [(12,18),(13,18),(12,19),(13,19)] [0,2,3,9]) (rg [oM 75 9,oM 8 75] [0,2,3,8])))))))

def v240 : VFun := ⟨4,(sq [oM 10 1,oM 8 10] [0,2,3,8] (.block 0 (.loop l240_0))),[],false⟩

def v241 : VFun := ⟨1,(sq [o 2 (.mv (.k (.sc (.c (.int .u64 0)))))] [0] (sq [oM 3 0,o 4 (.cvI .u64 (tv 3)),oa 5 (.call (kf 139) [fa 4] []) 256,o 6 (.bin .shl 0 (.k (.sc (.c (.int .u64 1)))) (tv 5)),oM 2 6] [2] .ret)),[.tmp 2],false⟩

def v242 : VFun := ⟨1,(sq [o 2 (.mv (.k (.sc (.c (.int .u64 0)))))] [0] (.seq (.region [] [oM 3 0,o 4 (.nn (tv 3)),oL 5 4,oM 6 0,o 7 (.nn (tv 6)),oL 8 7,o 9 (.bin .shl 0 (tv 8) (.k (.sc (.c (.int .u64 13))))),oB 10 .xor 5 9,o 11 (.nn (tv 3)),oW 1 11 10] [(1,4),(2,4),(1,5),(2,5)] [0]) (.seq (.region [] [oM 12 0,o 13 (.nn (tv 12)),oL 14 13,oM 15 0,o 16 (.nn (tv 15)),oL 17 16,o 18 (.bin .shr 0 (tv 17) (.k (.sc (.c (.int .u64 7))))),oB 19 .xor 14 18,o 20 (.nn (tv 12)),oW 1 20 19] [(1,4),(2,4),(1,5),(2,5)] [0]) (.seq (.region [] [oM 21 0,o 22 (.nn (tv 21)),oL 23 22,oM 24 0,o 25 (.nn (tv 24)),oL 26 25,o 27 (.bin .shl 0 (tv 26) (.k (.sc (.c (.int .u64 17))))),oB 28 .xor 23 27,o 29 (.nn (tv 21)),oW 1 29 28] [(1,4),(2,4),(1,5),(2,5)] [0]) (sq [oM 30 0,o 31 (.nn (tv 30)),oL 32 31,oM 2 32] [2] .ret))))),[.tmp 2],false⟩

def v243 : VFun := ⟨3,(sq [o 6 (.mv (ki 0))] [0,1,2] (sq [oM 7 0,oM 8 1,oK 9 .sub 8 1,oM 10 1,oM 11 1,oK 12 .add 11 1,oM 13 2,oa 14 (.call (kf 244) [(true,(tv 7)),fa 9,fa 10,fa 12,(true,(tv 13))] []) 576,oM 6 14] [6] .ret)),[.tmp 6],false⟩

def v244 : VFun := ⟨5,(sq [o 10 (.mv (ki 0))] [0,1,2,3,4] (sq [oM 12 0,oM 13 1,oM 14 2,oM 15 4,oa 16 (.call (kf 262) [(true,(tv 12)),fa 13,fa 14,(true,(tv 15))] []) 384,oM 11 16,oE 17 11 0,oE 18 11 1,oM 1 17,oM 2 18] [0,1,2,3,4] (sq [oM 20 0,oM 21 2,oM 22 3,oM 23 4,oa 24 (.call (kf 262) [(true,(tv 20)),fa 21,fa 22,(true,(tv 23))] []) 1024,oM 19 24,oE 25 19 0,oE 26 19 1,oM 2 25,oM 3 26] [0,1,2,4] (sq [oM 28 0,oM 29 1,oM 30 2,oM 31 4,oa 32 (.call (kf 262) [(true,(tv 28)),fa 29,fa 30,(true,(tv 31))] []) 1664,oM 27 32,oE 33 27 0,oE 34 27 1,oM 1 33,oM 2 34] [2] (sq [oM 35 2,oM 10 35] [10] .ret))))),[.tmp 10],false⟩

def v245 : VFun := ⟨1,(sq [o 2 (.mv kF)] [0] (sq [oM 3 0,oM 4 0,oB 5 .neq 3 4,oM 2 5] [2] .ret)),[.tmp 2],false⟩

def v105 : VFun := ⟨1,(sq [o 2 (.mv kF)] [0] (sq [oM 3 0,oM 4 0,oB 5 .neq 3 4,oM 2 5] [2] .ret)),[.tmp 2],false⟩

def v248 : VFun := ⟨1,(sq [o 2 (.mv kF)] [0] (sq [oM 3 0,oM 4 0,oB 5 .neq 3 4,oM 2 5] [2] .ret)),[.tmp 2],false⟩

def v262 : VFun := ⟨4,(sq [o 8 (.mv (ki 0)),o 9 (.mv (ki 0))] [0,1,2,3] (.seq (.seq (.region [] [oM 10 0,oM 11 2,oX 12 1 10 11,oL 13 12,oM 14 0,oM 15 1,oX 16 1 14 15,oL 17 16,oa 18 (.call (kf 198) [fa 13,fa 17] []) 704] [(2,6),(3,6),(2,7),(3,7)] [1,2,3,18]) (cd 18 (sq [oM 19 3,o 20 (.nn (tv 19)),oL 21 20,oK 22 .add 21 1,o 23 (.nn (tv 19)),oW 1 23 22] [1,2] (sq [oM 24 2,oM 25 1,oM 8 24,oM 9 25] [8,9] .ret)) .skip)) (sq [oM 26 1,oM 27 2,oM 8 26,oM 9 27] [8,9] .ret))),[.tmp 8,.tmp 9],false⟩

set_option maxRecDepth 100000 in
theorem m254 : mFun Go.Proofs.Tryz.prog 254 v254 = true := by kernel_rfl
set_option maxRecDepth 100000 in
theorem m255 : mFun Go.Proofs.Tryz.prog 255 v255 = true := by kernel_rfl
set_option maxRecDepth 100000 in
theorem m256 : mFun Go.Proofs.Tryz.prog 256 v256 = true := by kernel_rfl
set_option maxRecDepth 100000 in
theorem m228 : mFun Go.Proofs.Tryz.prog 228 v228 = true := by kernel_rfl
set_option maxRecDepth 100000 in
theorem m231 : mFun Go.Proofs.Tryz.prog 231 v231 = true := by kernel_rfl
set_option maxRecDepth 100000 in
theorem m232 : mFun Go.Proofs.Tryz.prog 232 v232 = true := by kernel_rfl
set_option maxRecDepth 100000 in
theorem m246 : mFun Go.Proofs.Tryz.prog 246 v246 = true := by kernel_rfl
set_option maxRecDepth 100000 in
theorem m117 : mFun Go.Proofs.Tryz.prog 117 v117 = true := by kernel_rfl
set_option maxRecDepth 100000 in
theorem m162 : mFun Go.Proofs.Tryz.prog 162 v162 = true := by kernel_rfl
set_option maxRecDepth 100000 in
theorem m163 : mFun Go.Proofs.Tryz.prog 163 v163 = true := by kernel_rfl
set_option maxRecDepth 100000 in
theorem m229 : mFun Go.Proofs.Tryz.prog 229 v229 = true := by kernel_rfl
set_option maxRecDepth 100000 in
theorem m230 : mFun Go.Proofs.Tryz.prog 230 v230 = true := by kernel_rfl
set_option maxRecDepth 100000 in
theorem m181 : mFun Go.Proofs.Tryz.prog 181 v181 = true := by kernel_rfl
set_option maxRecDepth 100000 in
theorem m182 : mFun Go.Proofs.Tryz.prog 182 v182 = true := by kernel_rfl
set_option maxRecDepth 100000 in
theorem m184 : mFun Go.Proofs.Tryz.prog 184 v184 = true := by kernel_rfl
set_option maxRecDepth 100000 in
theorem m185 : mFun Go.Proofs.Tryz.prog 185 v185 = true := by kernel_rfl
set_option maxRecDepth 100000 in
theorem m188 : mFun Go.Proofs.Tryz.prog 188 v188 = true := by kernel_rfl
set_option maxRecDepth 100000 in
theorem m189 : mFun Go.Proofs.Tryz.prog 189 v189 = true := by kernel_rfl
set_option maxRecDepth 100000 in
theorem m190 : mFun Go.Proofs.Tryz.prog 190 v190 = true := by kernel_rfl
set_option maxRecDepth 100000 in
theorem m202 : mFun Go.Proofs.Tryz.prog 202 v202 = true := by kernel_rfl
set_option maxRecDepth 100000 in
theorem m192 : mFun Go.Proofs.Tryz.prog 192 v192 = true := by kernel_rfl
set_option maxRecDepth 100000 in
theorem m193 : mFun Go.Proofs.Tryz.prog 193 v193 = true := by kernel_rfl
set_option maxRecDepth 100000 in
theorem m194 : mFun Go.Proofs.Tryz.prog 194 v194 = true := by kernel_rfl
set_option maxRecDepth 100000 in
theorem m195 : mFun Go.Proofs.Tryz.prog 195 v195 = true := by kernel_rfl
set_option maxRecDepth 100000 in
theorem m196 : mFun Go.Proofs.Tryz.prog 196 v196 = true := by kernel_rfl
set_option maxRecDepth 100000 in
theorem m197 : mFun Go.Proofs.Tryz.prog 197 v197 = true := by kernel_rfl
set_option maxRecDepth 100000 in
theorem m198 : mFun Go.Proofs.Tryz.prog 198 v198 = true := by kernel_rfl
set_option maxRecDepth 100000 in
theorem m199 : mFun Go.Proofs.Tryz.prog 199 v199 = true := by kernel_rfl
set_option maxRecDepth 100000 in
theorem m200 : mFun Go.Proofs.Tryz.prog 200 v200 = true := by kernel_rfl
set_option maxRecDepth 100000 in
theorem m263 : mFun Go.Proofs.Tryz.prog 263 v263 = true := by kernel_rfl
set_option maxRecDepth 100000 in
theorem m164 : mFun Go.Proofs.Tryz.prog 164 v164 = true := by kernel_rfl
set_option maxRecDepth 100000 in
theorem m55 : mFun Go.Proofs.Tryz.prog 55 v55 = true := by kernel_rfl
set_option maxRecDepth 100000 in
theorem m215 : mFun Go.Proofs.Tryz.prog 215 v215 = true := by kernel_rfl
set_option maxRecDepth 100000 in
theorem m59 : mFun Go.Proofs.Tryz.prog 59 v59 = true := by kernel_rfl
set_option maxRecDepth 100000 in
theorem m216 : mFun Go.Proofs.Tryz.prog 216 v216 = true := by kernel_rfl
set_option maxRecDepth 100000 in
theorem m258 : mFun Go.Proofs.Tryz.prog 258 v258 = true := by kernel_rfl
set_option maxRecDepth 100000 in
theorem m236 : mFun Go.Proofs.Tryz.prog 236 v236 = true := by kernel_rfl
set_option maxRecDepth 100000 in
theorem m237 : mFun Go.Proofs.Tryz.prog 237 v237 = true := by kernel_rfl
set_option maxRecDepth 100000 in
theorem m240 : mFun Go.Proofs.Tryz.prog 240 v240 = true := by kernel_rfl
set_option maxRecDepth 100000 in
theorem m241 : mFun Go.Proofs.Tryz.prog 241 v241 = true := by kernel_rfl
set_option maxRecDepth 100000 in
theorem m242 : mFun Go.Proofs.Tryz.prog 242 v242 = true := by kernel_rfl
set_option maxRecDepth 100000 in
theorem m243 : mFun Go.Proofs.Tryz.prog 243 v243 = true := by kernel_rfl
set_option maxRecDepth 100000 in
theorem m244 : mFun Go.Proofs.Tryz.prog 244 v244 = true := by kernel_rfl
set_option maxRecDepth 100000 in
theorem m245 : mFun Go.Proofs.Tryz.prog 245 v245 = true := by kernel_rfl
set_option maxRecDepth 100000 in
theorem m105 : mFun Go.Proofs.Tryz.prog 105 v105 = true := by kernel_rfl
set_option maxRecDepth 100000 in
theorem m248 : mFun Go.Proofs.Tryz.prog 248 v248 = true := by kernel_rfl
set_option maxRecDepth 100000 in
theorem m262 : mFun Go.Proofs.Tryz.prog 262 v262 = true := by kernel_rfl

end Go.Vs.Tryz
