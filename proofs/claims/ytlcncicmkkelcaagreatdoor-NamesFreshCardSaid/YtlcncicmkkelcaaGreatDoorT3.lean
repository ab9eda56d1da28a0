/- Functions of the program in the language of the value semantics, part 3 (printed by a program of mine), and that they match. (Parts of one proof, put together.) -/
import Derived.Test.YtlcncicmkkelcaaGreatDoorM4
import Derived.Test.YtlcncicmkkelcaaGreatDoorProg
import Derived.KernelRfl
set_option linter.unusedSimpArgs false
set_option linter.unusedVariables false
set_option linter.deprecated false

/- Functions of the program in the language of the value semantics, part 3 (printed by a program of mine), and that they match. -/
namespace Go.Vs.Tryz
open Go Go.Vs

def v55 : VFun := ⟨2,
 (.seq (.region [] [o 4 (.mv (ki 0))] [] [0, 1])
 (.seq (.region [] [o 7 (.mv (tv 0)),
 oa 8 (.call (kf 105) [(false, (tv 7))] []) 192,
 o 5 (.mv (tv 8))] [] [0, 1, 5])
 (.seq (.region [] [o 9 (.mv (tv 1)),
 oa 10 (.call (kf 105) [(false, (tv 9))] []) 384,
 o 6 (.mv (tv 10))] [] [0, 1, 5, 6])
 (.seq (.seq (.region [] [o 11 (.mv (tv 5))] [] [0, 1, 6, 11])
 (.cond (tv 11) (.seq (.seq (.region [] [o 12 (.mv (tv 6))] [] [12])
 (.cond (tv 12) (.seq (.region [] [o 4 (.mv (ki 0))] [] [4])
 .ret)
 .skip))
 (.seq (.region [] [o 4 (.mv (ki (-1)))] [] [4])
 .ret))
 .skip))
 (.seq (.seq (.region [] [o 13 (.mv (tv 6))] [] [0, 1, 13])
 (.cond (tv 13) (.seq (.region [] [o 4 (.mv (ki 1))] [] [4])
 .ret)
 .skip))
 (.seq (.seq (.region [] [o 14 (.mv (tv 0)),
 o 15 (.mv (tv 1)),
 o 16 (.bin .lss 0 (tv 14) (tv 15))] [] [0, 1, 16])
 (.cond (tv 16) (.seq (.region [] [o 4 (.mv (ki (-1)))] [] [4])
 .ret)
 .skip))
 (.seq (.seq (.region [] [o 17 (.mv (tv 0)),
 o 18 (.mv (tv 1)),
 o 19 (.bin .gtr 0 (tv 17) (tv 18))] [] [19])
 (.cond (tv 19) (.seq (.region [] [o 4 (.mv (ki 1))] [] [4])
 .ret)
 .skip))
 (.seq (.region [] [o 4 (.mv (ki 0))] [] [4])
 .ret)))))))),
 [.tmp 4], false⟩

def v215 : VFun := ⟨2,
 (.seq (.region [] [o 4 (.mv (ki 0))] [] [0, 1])
 (.seq (.region [] [o 7 (.mv (tv 0)),
 oa 8 (.call (kf 248) [(false, (tv 7))] []) 192,
 o 5 (.mv (tv 8))] [] [0, 1, 5])
 (.seq (.region [] [o 9 (.mv (tv 1)),
 oa 10 (.call (kf 248) [(false, (tv 9))] []) 384,
 o 6 (.mv (tv 10))] [] [0, 1, 5, 6])
 (.seq (.seq (.region [] [o 11 (.mv (tv 5))] [] [0, 1, 6, 11])
 (.cond (tv 11) (.seq (.seq (.region [] [o 12 (.mv (tv 6))] [] [12])
 (.cond (tv 12) (.seq (.region [] [o 4 (.mv (ki 0))] [] [4])
 .ret)
 .skip))
 (.seq (.region [] [o 4 (.mv (ki (-1)))] [] [4])
 .ret))
 .skip))
 (.seq (.seq (.region [] [o 13 (.mv (tv 6))] [] [0, 1, 13])
 (.cond (tv 13) (.seq (.region [] [o 4 (.mv (ki 1))] [] [4])
 .ret)
 .skip))
 (.seq (.seq (.region [] [o 14 (.mv (tv 0)),
 o 15 (.mv (tv 1)),
 o 16 (.bin .lss 0 (tv 14) (tv 15))] [] [0, 1, 16])
 (.cond (tv 16) (.seq (.region [] [o 4 (.mv (ki (-1)))] [] [4])
 .ret)
 .skip))
 (.seq (.seq (.region [] [o 17 (.mv (tv 0)),
 o 18 (.mv (tv 1)),
 o 19 (.bin .gtr 0 (tv 17) (tv 18))] [] [19])
 (.cond (tv 19) (.seq (.region [] [o 4 (.mv (ki 1))] [] [4])
 .ret)
 .skip))
 (.seq (.region [] [o 4 (.mv (ki 0))] [] [4])
 .ret)))))))),
 [.tmp 4], false⟩

def l59_0 : VCode := (.seq (.region [] [o 9 (.bin .lss 0 (tv 8) (tv 7))] [] [3, 6, 7, 8, 9])
 (.seq (.cond (tv 9) .skip
 (.exit 0))
 (.seq (.block 1 (.seq (.region [] [o 10 (.idxA 1 (tv 6) (tv 8)),
 o 11 (.load false 1 (tv 10)),
 o 5 (.mv (tv 11))] [] [3, 5, 6, 7, 8])
 (.seq (.region [] [o 12 (.mv (tv 5)),
 o 13 (.mv (tv 3)),
 o 14 (.bin .neq 0 (tv 12) (tv 13))] [] [3, 5, 6, 7, 8, 14])
 (.cond (tv 14) (.seq (.region [] [o 15 (.mv (tv 5)),
 o 2 (.mv (tv 15))] [] [2])
 .ret)
 .skip))))
 (.region [] [o 16 (.bin .add 0 (tv 8) (ki 1)),
 o 8 (.mv (tv 16))] [] [3, 6, 7, 8]))))

def v59 : VFun := ⟨1,
 (.seq (.region [] [o 2 (.mv (ki 0))] [] [0])
 (.seq (.region [] [o 3 (.mv (ki 0))] [] [0, 3])
 (.seq (.seq (.region [] [o 6 (.mv (tv 0)),
 o 7 (.len false (tv 6)),
 o 8 (.mv (ki 0))] [] [3, 6, 7, 8])
 (.block 0 (.loop l59_0)))
 (.seq (.region [] [o 17 (.mv (tv 3)),
 o 2 (.mv (tv 17))] [] [2])
 .ret)))),
 [.tmp 2], false⟩

def l216_0 : VCode := (.seq (.region [] [o 14 (.bin .lss 0 (tv 13) (tv 12))] [] [0, 1, 2, 11, 12, 13, 14])
 (.seq (.cond (tv 14) .skip
 (.exit 0))
 (.seq (.block 1 (.seq (.region [] [o 15 (.mv (tv 13)),
 o 16 (.idxA 5 (tv 11) (tv 13)),
 o 17 (.load true 5 (tv 16)),
 oa 8 (.new [zi, zs, zi, zi, .nil] []) 576,
 o 7 (.mv (tv 15)),
 on (.store 5 (tv 8) (tv 17) [])] [] [0, 1, 2, 7, 8, 11, 12, 13])
 (.seq (.seq (.region [] [o 18 (.mv (tv 7)),
 o 19 (.mv (tv 1)),
 o 20 (.len false (tv 19)),
 o 21 (.bin .geq 0 (tv 18) (tv 20))] [] [0, 1, 2, 7, 8, 11, 12, 13, 21])
 (.cond (tv 21) (.seq (.region [] [o 6 (.mv (ki 1))] [] [6])
 .ret)
 .skip))
 (.seq (.region [] [o 22 (.mv (tv 1)),
 o 23 (.mv (tv 7)),
 o 24 (.idxA 5 (tv 22) (tv 23)),
 o 25 (.load true 5 (tv 24)),
 oa 9 (.new [zi, zs, zi, zi, .nil] []) 1344,
 on (.store 5 (tv 9) (tv 25) [])] [] [0, 1, 2, 8, 9, 11, 12, 13])
 (.seq (.region [] [o 26 (.mv (tv 2)),
 o 27 (.load true 5 (tv 8)),
 o 28 (.load true 5 (tv 9)),
 oa 29 (.call (tv 26) [(false, (tv 27)), (false, (tv 28))] []) 1664,
 o 10 (.mv (tv 29))] [] [0, 1, 2, 10, 11, 12, 13])
 (.seq (.region [576, 1344] [o 30 (.mv (tv 10)),
 o 31 (.bin .neq 0 (tv 30) (ki 0))] [] [0, 1, 2, 10, 11, 12, 13, 31])
 (.cond (tv 31) (.seq (.region [] [o 32 (.mv (tv 10)),
 o 6 (.mv (tv 32))] [] [6])
 .ret)
 .skip)))))))
 (.region [576, 1344, 1696, 1697, 1698] [o 33 (.bin .add 0 (tv 13) (ki 1)),
 o 13 (.mv (tv 33))] [] [0, 1, 2, 11, 12, 13]))))

def v216 : VFun := ⟨3,
 (.seq (.region [] [o 6 (.mv (ki 0))] [] [0, 1, 2])
 (.seq (.seq (.region [] [o 11 (.mv (tv 0)),
 o 12 (.len false (tv 11)),
 o 13 (.mv (ki 0))] [] [0, 1, 2, 11, 12, 13])
 (.block 0 (.loop l216_0)))
 (.seq (.seq (.region [] [o 34 (.mv (tv 0)),
 o 35 (.len false (tv 34)),
 o 36 (.mv (tv 1)),
 o 37 (.len false (tv 36)),
 o 38 (.bin .lss 0 (tv 35) (tv 37))] [] [38])
 (.cond (tv 38) (.seq (.region [] [o 6 (.mv (ki (-1)))] [] [6])
 .ret)
 .skip))
 (.seq (.region [] [o 6 (.mv (ki 0))] [] [6])
 .ret)))),
 [.tmp 6], false⟩

def v258 : VFun := ⟨1,
 (.seq (.region [] [oa 2 (.new [zi, zs, zi, zi, .nil] []) 64] [] [0, 2])
 (.seq (.region [] [o 3 (.mv (tv 0)),
 o 4 (.build [zi, zs, zi, zi, .nil] [(0, 1, (ki 5)), (1, 1, (tv 3))]),
 on (.store 5 (tv 2) (tv 4) [])] [] [2])
 .ret)),
 [.cell 2 true 5], false⟩

def v105 : VFun := ⟨1,
 (.seq (.region [] [o 2 (.mv kF)] [] [0])
 (.seq (.region [] [o 3 (.mv (tv 0)),
 o 4 (.mv (tv 0)),
 o 5 (.bin .neq 0 (tv 3) (tv 4)),
 o 2 (.mv (tv 5))] [] [2])
 .ret)),
 [.tmp 2], false⟩

def v248 : VFun := ⟨1,
 (.seq (.region [] [o 2 (.mv kF)] [] [0])
 (.seq (.region [] [o 3 (.mv (tv 0)),
 o 4 (.mv (tv 0)),
 o 5 (.bin .neq 0 (tv 3) (tv 4)),
 o 2 (.mv (tv 5))] [] [2])
 .ret)),
 [.tmp 2], false⟩

set_option maxRecDepth 100000 in
theorem m55 : mFun Go.Proofs.Tryz.prog 55 v55 = true := by kernel_rfl
set_option maxRecDepth 100000 in
theorem m215 : mFun Go.Proofs.Tryz.prog 215 v215 = true := by kernel_rfl
set_option maxRecDepth 100000 in
theorem m59 : mFun Go.Proofs.Tryz.prog 59 v59 = true := by kernel_rfl
set_option maxRecDepth 100000 in
theorem m216 : mFun Go.Proofs.Tryz.prog 216 v216 = true := by kernel_rfl
set_option maxRecDepth 100000 in
theorem m258 : mFun Go.Proofs.Tryz.prog 258 v258 = true := by kernel_rfl
set_option maxRecDepth 100000 in
theorem m105 : mFun Go.Proofs.Tryz.prog 105 v105 = true := by kernel_rfl
set_option maxRecDepth 100000 in
theorem m248 : mFun Go.Proofs.Tryz.prog 248 v248 = true := by kernel_rfl

end Go.Vs.Tryz
