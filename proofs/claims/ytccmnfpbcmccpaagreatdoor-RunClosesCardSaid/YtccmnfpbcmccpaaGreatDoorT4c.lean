/- Functions of the program in the language of the value semantics,part 4 (printed by a program of mine),and that they match. (Parts of one proof,put together.) -/
import Derived.Test.YtccmnfpbcmccpaaGreatDoorM4c
import Derived.Test.YtccmnfpbcmccpaaGreatDoorProg
import Derived.KernelRfl
set_option linter.unusedSimpArgs false
set_option linter.unusedVariables false
set_option linter.deprecated false
set_option maxRecDepth 100000

namespace Go.Vs.Tryz
open Go Go.Vs

def Zlb : VCode := (.seq (sq [oM 14 6,oM 15 1,oN 16 15,oB 17 .lss 14 16] [1,5,6,17] (xt 17 0)) (.seq (.block 1 (rg [oM 20 5,oM 21 1,oM 22 6,oX 23 5 21 22,oG 24 5 23,cA 25 302 [ta 20,fa 24] 1344] [1,5,6])) (rg [oM 18 6,oK 19 .add 18 1,oM 6 19] [1,5,6])))

def v297 : VFun := ⟨2,(sq [oa 2 (.box (tv 0)) 64,o 4 (.mv kn)] [1,2] (.seq (.region [] [oG 7 2 2,oF 8 0 2,oL 9 8,oN 10 9,oa 11 (.mkS 1 1 [(.c (.bool false))] (tv 10)) 448,o 12 (.build [.nil,.nil,.nil,.nil] [(0,2,(tv 7)),(3,1,(tv 11))]),oa 13 (.box (tv 12)) 576,oM 5 13] [(0,1),(0,2),(0,3),(0,4)] [1,5]) (.seq (.seq (rd [64] [oJ 6 0] [1,5,6]) (lp 0 Zlb)) (sq [oM 26 5,o 27 (.nn (tv 26)),oF 28 2 27,oL 29 28,oM 4 29] [4] .ret)))),[.tmp 4],false⟩

def v255 : VFun := ⟨2,(sq [oa 2 (.box (tv 0)) 64,o 4 (.mv kn)] [1,2] (.seq (sq [oF 5 0 2,oL 6 5] [1,2,6] (.block 0 (.seq (sq [oK 8 .eql 6 4,oM 7 8] [1,2,6,7] (cd 7 .skip (rg [oK 9 .eql 6 7,oM 7 9] [1,2,6,7]))) (cd 7 (sq [oF 10 2 2,oL 11 10,oa 12 (.mkSl 1 [(tv 11)]) 704,oM 4 12] [4] .ret) (sq [oK 14 .eql 6 6,oM 13 14] [1,2,6,13] (cd 13 (sq [oM 15 1,oK 16 .eql 15 1] [2,16] (cd 16 (sq [oF 17 2 2,oL 18 17,oa 19 (.mkSl 1 [(tv 18)]) 1216,oM 4 19] [4] .ret) .skip)) (sq [oK 21 .eql 6 8,oM 20 21] [1,2,20] (cd 20 (sq [oM 22 1,oF 23 4 2,oL 24 23,oN 25 24,oB 26 .geq 22 25] [1,2,26] (cd 26 (sq [oF 27 5 2,oL 28 27,oM 29 1,oF 30 4 2,oL 31 30,oN 32 31,oB 33 .sub 29 32,oX 34 14 28 33,oF 35 2 34,oL 36 35,oM 4 36] [4] .ret) .skip)) .skip)))))))) (sq [o 4 (.mv kn)] [4] .ret))),[.tmp 4],false⟩

def l256_0 : VCode := (.seq (sq [oM 16 6,oM 17 0,oN 18 17,oB 19 .lss 16 18] [0,1,5,6,19] (xt 19 0)) (.seq (.block 1 (sq [oM 22 0,oM 23 6,oX 24 1 22 23,oL 25 24,oM 7 25] [0,1,5,6,7] (sq [oM 26 1,oM 27 7,oa 28 (.call (tv 26) [fa 27] []) 1536,oU 29 28] [0,1,5,6,7,29] (cd 29 (sq [oM 30 0,oM 31 5,oM 32 7,oX 33 1 30 31,oW 1 33 32] [0,1,5,6] (rg [oM 34 5,oK 35 .add 34 1,oM 5 35] [0,1,5,6])) .skip)))) (rd [1568,1569,1570] [oM 20 6,oK 21 .add 20 1,oM 6 21] [0,1,5,6])))

def v256 : VFun := ⟨2,(sq [o 4 (.mv kn)] [0,1] (sq [oM 8 0,oM 9 1,cA 10 147 [fa 8,ta 9] 256,oM 5 10] [0,1,5] (.seq (sq [oM 11 5,oK 12 .eql 11 (-1)] [0,1,5,12] (cd 12 (sq [oM 13 0,oM 4 13] [4] .ret) .skip)) (.seq (sq [oM 14 5,oK 15 .add 14 1,oM 6 15] [0,1,5,6] (lp 0 l256_0)) (sq [oM 36 0,oM 37 5,o 38 (.sl 1 (tv 36) (some (tv 37)) none none),on (.clr 1 [zs] (tv 38))] [0,5] (sq [oM 39 0,oM 40 5,o 41 (.sl 1 (tv 39) none (some (tv 40)) none),oM 4 41] [4] .ret)))))),[.tmp 4],true⟩

def Zlq : VCode := (.seq (sq [oM 64 4,oF 65 4 3,oL 66 65,oN 67 66,oB 68 .lss 64 67] [0,3,4,68] (xt 68 1)) (.seq (.block 2 (rg [oM 71 0,oF 72 4 3,oL 73 72,oM 74 4,oX 75 5 73 74,oG 76 5 75,cA 77 302 [ta 71,fa 76] 4800] [0,3,4])) (rg [oM 69 4,oK 70 .add 69 1,oM 4 70] [0,3,4])))

def v302 : VFun := ⟨2,(sq [oa 3 (.box (tv 1)) 64] [0,3] (.seq (sq [oF 5 0 3,oL 6 5,oK 7 .eql 6 1] [0,3,7] (cd 7 (.seq (.block 0 (.seq (.region [] [oM 9 0,o 10 (.nn (tv 9)),oF 11 0 10,oG 12 2 11,oG 13 5 3,cA 14 251 [fa 12,fa 13] 640,oU 15 14,oM 8 15] [(1,4),(2,4),(3,4)] [0,3,8]) (cd 8 (.seq (.region [] [oM 16 0,o 17 (.nn (tv 16)),oF 18 2 17,oL 19 18,oF 20 2 3,oL 21 20,cA 22 211 [fa 19,fa 21] 1216,oU 23 22] [(1,4),(2,4),(3,4),(1,5),(2,5),(3,5)] [0,3,23]) (cd 23 (.region [] [oM 24 0,oM 25 0,o 26 (.nn (tv 25)),oF 27 2 26,oL 28 27,oF 29 2 3,oL 30 29,oa 31 (.mkSl 1 [(tv 30)]) 1792,oa 32 (.app 1 8 true (tv 28) (tv 31)) 1856,o 33 (.nn (tv 24)),oF 34 2 33,oW 1 34 32] [(2,5),(3,5),(4,5),(2,6),(3,6),(4,6),(2,7),(3,7),(4,7)] [1000000]) .skip)) (.seq (.region [] [oM 36 0,o 37 (.nn (tv 36)),oF 38 3 37,oL 39 38,oF 40 2 3,oL 41 40,oX 42 1 39 41,oL 43 42,oU 44 43,oM 35 44] [(1,4),(2,4),(3,4),(1,5),(2,5),(3,5)] [0,3,35]) (cd 35 (.seq (.region [] [oM 45 0,o 46 (.nn (tv 45)),oF 47 3 46,oL 48 47,oF 49 2 3,oL 50 49,oX 51 1 48 50,on (.store 1 (tv 51) kt [])] [(1,4),(2,4),(3,4),(1,5),(2,5),(3,5)] [0,3]) (.region [] [oM 52 0,oM 53 0,o 54 (.nn (tv 53)),oF 55 0 54,oF 56 0 55,oL 57 56,oF 58 2 3,oL 59 58,oX 60 8 57 59,oF 61 1 60,oG 62 5 61,cA 63 302 [ta 52,fa 62] 3968] [(2,6),(3,6),(4,6),(5,6),(2,7),(3,7),(4,7),(5,7)] [1000000])) .skip))))) .ret) .skip)) (sq [oJ 4 0] [0,3,4] (lp 1 Zlq)))),[],false⟩

theorem m297 : mFun Go.Proofs.Tryz.prog 297 v297 = true := by kernel_rfl
theorem m255 : mFun Go.Proofs.Tryz.prog 255 v255 = true := by kernel_rfl
theorem m256 : mFun Go.Proofs.Tryz.prog 256 v256 = true := by kernel_rfl
theorem m302 : mFun Go.Proofs.Tryz.prog 302 v302 = true := by kernel_rfl

end Go.Vs.Tryz
