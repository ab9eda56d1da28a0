/- The functions of the program in the language of the value semantics (printed by a program of mine), and that they match. -/
import Derived.Test.YtogldkeabdgjgaaVs29
import Derived.Test.YtogldkeabdgjgaaProg
import Derived.KernelRfl
namespace Go.Vs.Try
open Go Go.Vs

def l3_0 : VCode := (.region [] [⟨(some 16), (.mv (.t 0)), none, 0, []⟩,
   ⟨(some 17), (.len false (.t 16)), none, 0, []⟩,
   ⟨(some 18), (.bin .gtr 0 (.t 17) (.k (.sc (.c (.int .i64 200))))), none, 0, []⟩] [] [])

def l3_1 : VCode := (.region [] [⟨(some 19), (.call (.k (.sc (.c (.fn 7 [] [])))) [] []), none, 576, []⟩,
   ⟨(some 20), (.call (.k (.sc (.c (.fn 8 [] [])))) [] []), none, 640, []⟩,
   ⟨(some 3), (.mv (.t 19)), none, 0, []⟩,
   ⟨(some 4), (.mv (.t 20)), none, 0, []⟩] [] [])

def l3_2 : VCode := (.region [] [⟨(some 21), (.mv (.t 5)), none, 0, []⟩,
   ⟨(some 22), (.mv (.t 0)), none, 0, []⟩,
   ⟨(some 23), (.len false (.t 22)), none, 0, []⟩,
   ⟨(some 24), (.bin .lss 0 (.t 21) (.t 23)), none, 0, []⟩] [] [])

def l3_3 : VCode := (.region [] [⟨(some 27), (.mv (.t 0)), none, 0, []⟩,
   ⟨(some 28), (.mv (.t 5)), none, 0, []⟩,
   ⟨(some 29), (.idxA 1 (.t 27) (.t 28)), none, 0, []⟩,
   ⟨(some 30), (.load false 1 (.t 29)), none, 0, []⟩,
   ⟨(some 31), (.call (.k (.sc (.c (.fn 9 [] [])))) [(false, (.t 30)), (false, (.k (.sc (.c (.int .i64 3)))))] []), none, 1408, []⟩,
   ⟨(some 32), (.bin .eql 0 (.t 31) (.k (.sc (.c (.int .i64 0))))), none, 0, []⟩] [] [])

def l3_4 : VCode := (.region [] [⟨(some 34), (.mv (.t 3)), none, 0, []⟩,
   ⟨(some 35), (.call (.k (.sc (.c (.fn 10 [] [])))) [(false, (.t 34))] []), none, 1600, []⟩,
   ⟨(some 33), (.mv (.t 35)), none, 0, []⟩,
   ⟨(some 36), (.ext 0 (.t 33)), none, 0, []⟩,
   ⟨(some 37), (.ext 1 (.t 33)), none, 0, []⟩,
   ⟨(some 6), (.mv (.t 36)), none, 0, []⟩,
   ⟨(some 7), (.mv (.t 37)), none, 0, []⟩] [] [])

def l3_5 : VCode := (.region [] [⟨(some 39), (.mv (.t 4)), none, 0, []⟩,
   ⟨(some 40), (.call (.k (.sc (.c (.fn 11 [] [])))) [(false, (.t 39))] []), none, 2048, []⟩,
   ⟨(some 38), (.mv (.t 40)), none, 0, []⟩,
   ⟨(some 41), (.ext 0 (.t 38)), none, 0, []⟩,
   ⟨(some 42), (.ext 1 (.t 38)), none, 0, []⟩,
   ⟨(some 8), (.mv (.t 41)), none, 0, []⟩,
   ⟨(some 9), (.mv (.t 42)), none, 0, []⟩] [] [])

def l3_6 : VCode := (.region [] [⟨(some 43), (.mv (.t 7)), none, 0, []⟩,
   ⟨(some 44), (.mv (.t 9)), none, 0, []⟩,
   ⟨(some 45), (.bin .neq 1 (.t 43) (.t 44)), none, 0, []⟩] [] [])

def l3_7 : VCode := (.region [] [⟨(some 46), (.mv (.t 6)), none, 0, []⟩,
   ⟨(some 47), (.mv (.t 8)), none, 0, []⟩,
   ⟨(some 3), (.mv (.t 46)), none, 0, []⟩,
   ⟨(some 4), (.mv (.t 47)), none, 0, []⟩] [] [])

def l3_8 : VCode := (.region [] [⟨(some 48), (.mv (.t 3)), none, 0, []⟩,
   ⟨(some 49), (.mv (.t 0)), none, 0, []⟩,
   ⟨(some 50), (.mv (.t 5)), none, 0, []⟩,
   ⟨(some 51), (.idxA 1 (.t 49) (.t 50)), none, 0, []⟩,
   ⟨(some 52), (.load false 1 (.t 51)), none, 0, []⟩,
   ⟨(some 53), (.call (.k (.sc (.c (.fn 13 [] [])))) [(false, (.t 52))] []), none, 3264, []⟩,
   ⟨(some 54), (.call (.k (.sc (.c (.fn 12 [] [])))) [(false, (.t 48)), (false, (.t 53))] []), none, 3328, []⟩,
   ⟨(some 55), (.mv (.t 4)), none, 0, []⟩,
   ⟨(some 56), (.mv (.t 0)), none, 0, []⟩,
   ⟨(some 57), (.mv (.t 5)), none, 0, []⟩,
   ⟨(some 58), (.idxA 1 (.t 56) (.t 57)), none, 0, []⟩,
   ⟨(some 59), (.load false 1 (.t 58)), none, 0, []⟩,
   ⟨(some 60), (.call (.k (.sc (.c (.fn 13 [] [])))) [(false, (.t 59))] []), none, 3712, []⟩,
   ⟨(some 61), (.call (.k (.sc (.c (.fn 14 [] [])))) [(false, (.t 55)), (false, (.t 60))] []), none, 3776, []⟩,
   ⟨(some 3), (.mv (.t 54)), none, 0, []⟩,
   ⟨(some 4), (.mv (.t 61)), none, 0, []⟩] [(3, 10), (4, 10), (5, 10), (6, 10), (3, 11), (4, 11), (5, 11), (6, 11)] [])

def l3_9 : VCode := (.region [4288] [⟨(some 63), (.mv (.t 3)), none, 0, []⟩,
   ⟨(some 64), (.call (.k (.sc (.c (.fn 15 [] [])))) [(false, (.t 63))] []), none, 4032, []⟩,
   ⟨(some 62), (.mv (.t 64)), none, 0, []⟩,
   ⟨(some 65), (.ext 0 (.t 62)), none, 0, []⟩,
   ⟨(some 66), (.ext 1 (.t 62)), none, 0, []⟩,
   ⟨(some 10), (.new [.nil, .nil, .nil, .nil, .nil] []), none, 4288, []⟩,
   ⟨none, (.store 5 (.t 10) (.t 65) []), none, 0, []⟩,
   ⟨(some 11), (.mv (.t 66)), none, 0, []⟩] [] [])

def l3_10 : VCode := (.region [4800] [⟨(some 68), (.mv (.t 4)), none, 0, []⟩,
   ⟨(some 69), (.call (.k (.sc (.c (.fn 16 [] [])))) [(false, (.t 68))] []), none, 4544, []⟩,
   ⟨(some 67), (.mv (.t 69)), none, 0, []⟩,
   ⟨(some 70), (.ext 0 (.t 67)), none, 0, []⟩,
   ⟨(some 71), (.ext 1 (.t 67)), none, 0, []⟩,
   ⟨(some 12), (.new [.nil, .nil, .nil, .nil, .nil] []), none, 4800, []⟩,
   ⟨none, (.store 5 (.t 12) (.t 70) []), none, 0, []⟩,
   ⟨(some 13), (.mv (.t 71)), none, 0, []⟩] [] [])

def l3_11 : VCode := (.region [] [⟨(some 72), (.mv (.t 3)), none, 0, []⟩,
   ⟨(some 73), (.mv (.t 4)), none, 0, []⟩,
   ⟨(some 74), (.call (.k (.sc (.c (.fn 17 [] [])))) [(false, (.t 72)), (false, (.t 73))] []), none, 5120, []⟩,
   ⟨(some 75), (.un .not (.t 74)), none, 0, []⟩,
   ⟨(some 76), (.mv (.t 75)), none, 0, []⟩,
   ⟨(some 77), (.mv (.t 11)), (some (76, false)), 0, []⟩,
   ⟨(some 78), (.mv (.t 13)), (some (76, false)), 0, []⟩,
   ⟨(some 79), (.bin .neq 1 (.t 77) (.t 78)), (some (76, false)), 0, []⟩,
   ⟨(some 80), (.pick (.t 76) (.k (.sc (.c (.bool true)))) (.t 79)), none, 0, []⟩,
   ⟨(some 81), (.mv (.t 80)), none, 0, []⟩,
   ⟨(some 82), (.load true 5 (.t 10)), (some (81, false)), 0, []⟩,
   ⟨(some 83), (.call (.k (.sc (.c (.fn 18 [] [])))) [(false, (.t 82))] []), (some (81, false)), 5696, []⟩,
   ⟨(some 84), (.load true 5 (.t 12)), (some (81, false)), 0, []⟩,
   ⟨(some 85), (.call (.k (.sc (.c (.fn 18 [] [])))) [(false, (.t 84))] []), (some (81, false)), 5824, []⟩,
   ⟨(some 86), (.bin .neq 0 (.t 83) (.t 85)), (some (81, false)), 0, []⟩,
   ⟨(some 87), (.pick (.t 81) (.k (.sc (.c (.bool true)))) (.t 86)), none, 0, []⟩] [(10, 12), (11, 12)] [])

def l3_12 : VCode := (.region [] [⟨(some 25), (.mv (.t 5)), none, 0, []⟩,
   ⟨(some 26), (.bin .add 0 (.t 25) (.k (.sc (.c (.int .i64 1))))), none, 0, []⟩,
   ⟨(some 5), (.mv (.t 26)), none, 0, []⟩] [] [])

def l3_13 : VCode := (.seq (.seq l3_2
 (.cond (.t 24) .skip
 (.exit 0)))
 (.seq (.block 1 (.seq (.seq l3_3
  (.cond (.t 32) (.seq l3_4
   (.seq l3_5
   (.seq (.seq l3_6
   (.cond (.t 45) (.seq (.region [] [⟨(some 2), (.mv (.k (.sc (.c (.bool false))))), none, 0, []⟩] [] [])
    .ret)
   .skip))
   l3_7)))
  l3_8))
  (.seq l3_9
  (.seq l3_10
  (.seq l3_11
  (.cond (.t 87) (.seq (.region [] [⟨(some 2), (.mv (.k (.sc (.c (.bool false))))), none, 0, []⟩] [] [])
   .ret)
  .skip))))))
 l3_12))

def v3 : VFun := ⟨1,
 (.seq (.region [] [⟨(some 2), (.mv (.k (.sc (.c (.bool false))))), none, 0, []⟩] [] [])
 (.seq (.seq (.region [] [⟨(some 14), (.call (.k (.sc (.c (.fn 6 [] [])))) [] []), none, 128, []⟩,
   ⟨(some 15), (.un .not (.t 14)), none, 0, []⟩] [] [])
 (.cond (.t 15) (.seq (.region [] [⟨(some 2), (.mv (.k (.sc (.c (.bool false))))), none, 0, []⟩] [] [])
  .ret)
 .skip))
 (.seq (.seq l3_0
 (.cond (.t 18) (.seq (.region [] [⟨(some 2), (.mv (.k (.sc (.c (.bool true))))), none, 0, []⟩] [] [])
  .ret)
 .skip))
 (.seq l3_1
 (.seq (.seq (.region [] [⟨(some 5), (.mv (.k (.sc (.c (.int .i64 0))))), none, 0, []⟩] [] [])
 (.block 0 (.loop l3_13)))
 (.seq (.region [] [⟨(some 2), (.mv (.k (.sc (.c (.bool true))))), none, 0, []⟩] [] [])
 .ret)))))),
 [.tmp 2], false⟩

def l4_0 : VCode := (.region [] [⟨(some 20), (.mv (.t 2)), none, 0, []⟩,
   ⟨(some 21), (.len false (.t 20)), none, 0, []⟩,
   ⟨(some 22), (.bin .gtr 0 (.t 21) (.k (.sc (.c (.int .i64 40))))), none, 0, []⟩,
   ⟨(some 23), (.mv (.t 22)), none, 0, []⟩,
   ⟨(some 24), (.mv (.t 3)), (some (23, false)), 0, []⟩,
   ⟨(some 25), (.len false (.t 24)), (some (23, false)), 0, []⟩,
   ⟨(some 26), (.bin .gtr 0 (.t 25) (.k (.sc (.c (.int .i64 40))))), (some (23, false)), 0, []⟩,
   ⟨(some 27), (.pick (.t 23) (.k (.sc (.c (.bool true)))) (.t 26)), none, 0, []⟩] [] [])

def l4_1 : VCode := (.region [] [⟨(some 29), (.mv (.t 10)), none, 0, []⟩,
   ⟨(some 30), (.mv (.t 0)), none, 0, []⟩,
   ⟨(some 31), (.call (.k (.sc (.c (.fn 9 [] [])))) [(false, (.t 30)), (false, (.k (.sc (.c (.int .i64 40)))))] []), none, 1216, []⟩,
   ⟨(some 32), (.bin .lss 0 (.t 29) (.t 31)), none, 0, []⟩] [] [])

def l4_2 : VCode := (.region [] [⟨(some 35), (.mv (.t 9)), none, 0, []⟩,
   ⟨(some 36), (.mv (.t 10)), none, 0, []⟩,
   ⟨(some 37), (.call (.k (.sc (.c (.fn 13 [] [])))) [(false, (.t 36))] []), none, 1472, []⟩,
   ⟨(some 38), (.call (.k (.sc (.c (.fn 12 [] [])))) [(false, (.t 35)), (false, (.t 37))] []), none, 1536, []⟩,
   ⟨(some 9), (.mv (.t 38)), none, 0, []⟩] [] [])

def l4_3 : VCode := (.region [] [⟨(some 33), (.mv (.t 10)), none, 0, []⟩,
   ⟨(some 34), (.bin .add 0 (.t 33) (.k (.sc (.c (.int .i64 1))))), none, 0, []⟩,
   ⟨(some 10), (.mv (.t 34)), none, 0, []⟩] [] [])

def l4_4 : VCode := (.seq (.seq l4_1
 (.cond (.t 32) .skip
 (.exit 0)))
 (.seq (.block 1 l4_2)
 l4_3))

def l4_5 : VCode := (.region [] [⟨(some 39), (.mv (.t 11)), none, 0, []⟩,
   ⟨(some 40), (.mv (.t 1)), none, 0, []⟩,
   ⟨(some 41), (.call (.k (.sc (.c (.fn 9 [] [])))) [(false, (.t 40)), (false, (.k (.sc (.c (.int .i64 5)))))] []), none, 2048, []⟩,
   ⟨(some 42), (.bin .lss 0 (.t 39) (.t 41)), none, 0, []⟩] [] [])

def l4_6 : VCode := (.region [] [⟨(some 46), (.mv (.t 9)), none, 0, []⟩,
   ⟨(some 47), (.call (.k (.sc (.c (.fn 10 [] [])))) [(false, (.t 46))] []), none, 2240, []⟩,
   ⟨(some 45), (.mv (.t 47)), none, 0, []⟩,
   ⟨(some 48), (.ext 0 (.t 45)), none, 0, []⟩,
   ⟨(some 49), (.ext 1 (.t 45)), none, 0, []⟩,
   ⟨(some 9), (.mv (.t 48)), none, 0, []⟩] [] [])

def l4_7 : VCode := (.region [] [⟨(some 43), (.mv (.t 11)), none, 0, []⟩,
   ⟨(some 44), (.bin .add 0 (.t 43) (.k (.sc (.c (.int .i64 1))))), none, 0, []⟩,
   ⟨(some 11), (.mv (.t 44)), none, 0, []⟩] [] [])

def l4_8 : VCode := (.seq (.seq l4_5
 (.cond (.t 42) .skip
 (.exit 2)))
 (.seq (.block 3 l4_6)
 l4_7))

def l4_9 : VCode := (.region [] [⟨(some 50), (.mv (.t 9)), none, 0, []⟩,
   ⟨(some 51), (.app 5 120 true (.k (.sc .nil)) (.t 50)), none, 2816, []⟩,
   ⟨(some 12), (.mv (.t 51)), none, 0, []⟩] [] [])

def l4_10 : VCode := (.region [] [⟨(some 52), (.mv (.t 9)), none, 0, []⟩,
   ⟨(some 53), (.mv (.t 9)), none, 0, []⟩,
   ⟨(some 13), (.mv (.t 52)), none, 0, []⟩,
   ⟨(some 14), (.mv (.t 53)), none, 0, []⟩] [] [])

def l4_11 : VCode := (.region [] [⟨(some 54), (.mv (.t 15)), none, 0, []⟩,
   ⟨(some 55), (.mv (.t 12)), none, 0, []⟩,
   ⟨(some 56), (.app 5 120 false (.t 54) (.t 55)), none, 0, []⟩,
   ⟨(some 57), (.mv (.t 16)), none, 0, []⟩,
   ⟨(some 58), (.mv (.t 12)), none, 0, []⟩,
   ⟨(some 59), (.app 5 120 false (.t 57) (.t 58)), none, 0, []⟩,
   ⟨(some 15), (.mv (.t 56)), none, 0, []⟩,
   ⟨(some 16), (.mv (.t 59)), none, 0, []⟩] [] [])

def l4_12 : VCode := (.region [] [⟨(some 60), (.mv (.t 17)), none, 0, []⟩,
   ⟨(some 61), (.mv (.t 2)), none, 0, []⟩,
   ⟨(some 62), (.len false (.t 61)), none, 0, []⟩,
   ⟨(some 63), (.bin .lss 0 (.t 60) (.t 62)), none, 0, []⟩,
   ⟨(some 64), (.mv (.t 63)), none, 0, []⟩,
   ⟨(some 65), (.mv (.t 17)), (some (64, false)), 0, []⟩,
   ⟨(some 66), (.mv (.t 3)), (some (64, false)), 0, []⟩,
   ⟨(some 67), (.len false (.t 66)), (some (64, false)), 0, []⟩,
   ⟨(some 68), (.bin .lss 0 (.t 65) (.t 67)), (some (64, false)), 0, []⟩,
   ⟨(some 69), (.pick (.t 64) (.k (.sc (.c (.bool true)))) (.t 68)), none, 0, []⟩] [] [])

def l4_13 : VCode := (.region [] [⟨(some 72), (.mv (.t 17)), none, 0, []⟩,
   ⟨(some 73), (.mv (.t 2)), none, 0, []⟩,
   ⟨(some 74), (.len false (.t 73)), none, 0, []⟩,
   ⟨(some 75), (.bin .lss 0 (.t 72) (.t 74)), none, 0, []⟩] [] [])

def l4_14 : VCode := (.region [] [⟨(some 76), (.mv (.t 13)), none, 0, []⟩,
   ⟨(some 77), (.mv (.t 2)), none, 0, []⟩,
   ⟨(some 78), (.mv (.t 17)), none, 0, []⟩,
   ⟨(some 79), (.idxA 1 (.t 77) (.t 78)), none, 0, []⟩,
   ⟨(some 80), (.load false 1 (.t 79)), none, 0, []⟩,
   ⟨(some 81), (.call (.k (.sc (.c (.fn 13 [] [])))) [(false, (.t 80))] []), none, 5120, []⟩,
   ⟨(some 82), (.call (.k (.sc (.c (.fn 12 [] [])))) [(false, (.t 76)), (false, (.t 81))] []), none, 5184, []⟩,
   ⟨(some 83), (.mv (.t 15)), none, 0, []⟩,
   ⟨(some 84), (.mv (.t 2)), none, 0, []⟩,
   ⟨(some 85), (.mv (.t 17)), none, 0, []⟩,
   ⟨(some 86), (.idxA 1 (.t 84) (.t 85)), none, 0, []⟩,
   ⟨(some 87), (.load false 1 (.t 86)), none, 0, []⟩,
   ⟨(some 88), (.call (.k (.sc (.c (.fn 13 [] [])))) [(false, (.t 87))] []), none, 5568, []⟩,
   ⟨(some 89), (.call (.k (.sc (.c (.fn 14 [] [])))) [(false, (.t 83)), (false, (.t 88))] []), none, 5632, []⟩,
   ⟨(some 13), (.mv (.t 82)), none, 0, []⟩,
   ⟨(some 15), (.mv (.t 89)), none, 0, []⟩] [(3, 10), (4, 10), (5, 10), (6, 10), (3, 11), (4, 11), (5, 11), (6, 11)] [])

def l4_15 : VCode := (.region [] [⟨(some 90), (.mv (.t 17)), none, 0, []⟩,
   ⟨(some 91), (.mv (.t 3)), none, 0, []⟩,
   ⟨(some 92), (.len false (.t 91)), none, 0, []⟩,
   ⟨(some 93), (.bin .lss 0 (.t 90) (.t 92)), none, 0, []⟩] [] [])

def l4_16 : VCode := (.region [] [⟨(some 94), (.mv (.t 14)), none, 0, []⟩,
   ⟨(some 95), (.mv (.t 3)), none, 0, []⟩,
   ⟨(some 96), (.mv (.t 17)), none, 0, []⟩,
   ⟨(some 97), (.idxA 1 (.t 95) (.t 96)), none, 0, []⟩,
   ⟨(some 98), (.load false 1 (.t 97)), none, 0, []⟩,
   ⟨(some 99), (.call (.k (.sc (.c (.fn 13 [] [])))) [(false, (.t 98))] []), none, 6400, []⟩,
   ⟨(some 100), (.call (.k (.sc (.c (.fn 12 [] [])))) [(false, (.t 94)), (false, (.t 99))] []), none, 6464, []⟩,
   ⟨(some 101), (.mv (.t 16)), none, 0, []⟩,
   ⟨(some 102), (.mv (.t 3)), none, 0, []⟩,
   ⟨(some 103), (.mv (.t 17)), none, 0, []⟩,
   ⟨(some 104), (.idxA 1 (.t 102) (.t 103)), none, 0, []⟩,
   ⟨(some 105), (.load false 1 (.t 104)), none, 0, []⟩,
   ⟨(some 106), (.call (.k (.sc (.c (.fn 13 [] [])))) [(false, (.t 105))] []), none, 6848, []⟩,
   ⟨(some 107), (.call (.k (.sc (.c (.fn 14 [] [])))) [(false, (.t 101)), (false, (.t 106))] []), none, 6912, []⟩,
   ⟨(some 14), (.mv (.t 100)), none, 0, []⟩,
   ⟨(some 16), (.mv (.t 107)), none, 0, []⟩] [(3, 10), (4, 10), (5, 10), (6, 10), (3, 11), (4, 11), (5, 11), (6, 11)] [])

def l4_17 : VCode := (.region [] [⟨(some 108), (.mv (.t 13)), none, 0, []⟩,
   ⟨(some 109), (.mv (.t 15)), none, 0, []⟩,
   ⟨(some 110), (.call (.k (.sc (.c (.fn 17 [] [])))) [(false, (.t 108)), (false, (.t 109))] []), none, 7232, []⟩,
   ⟨(some 111), (.un .not (.t 110)), none, 0, []⟩,
   ⟨(some 112), (.mv (.t 111)), none, 0, []⟩,
   ⟨(some 113), (.mv (.t 14)), (some (112, false)), 0, []⟩,
   ⟨(some 114), (.mv (.t 16)), (some (112, false)), 0, []⟩,
   ⟨(some 115), (.call (.k (.sc (.c (.fn 17 [] [])))) [(false, (.t 113)), (false, (.t 114))] []), (some (112, false)), 7552, []⟩,
   ⟨(some 116), (.un .not (.t 115)), (some (112, false)), 0, []⟩,
   ⟨(some 117), (.pick (.t 112) (.k (.sc (.c (.bool true)))) (.t 116)), none, 0, []⟩,
   ⟨(some 118), (.mv (.t 117)), none, 0, []⟩,
   ⟨(some 119), (.mv (.t 9)), (some (118, false)), 0, []⟩,
   ⟨(some 120), (.mv (.t 12)), (some (118, false)), 0, []⟩,
   ⟨(some 121), (.call (.k (.sc (.c (.fn 17 [] [])))) [(false, (.t 119)), (false, (.t 120))] []), (some (118, false)), 7936, []⟩,
   ⟨(some 122), (.un .not (.t 121)), (some (118, false)), 0, []⟩,
   ⟨(some 123), (.pick (.t 118) (.k (.sc (.c (.bool true)))) (.t 122)), none, 0, []⟩] [] [])

def l4_18 : VCode := (.region [] [⟨(some 70), (.mv (.t 17)), none, 0, []⟩,
   ⟨(some 71), (.bin .add 0 (.t 70) (.k (.sc (.c (.int .i64 1))))), none, 0, []⟩,
   ⟨(some 17), (.mv (.t 71)), none, 0, []⟩] [] [])

def l4_19 : VCode := (.seq (.seq l4_12
 (.cond (.t 69) .skip
 (.exit 4)))
 (.seq (.block 5 (.seq (.seq l4_13
  (.cond (.t 75) l4_14
  .skip))
  (.seq (.seq l4_15
  (.cond (.t 93) l4_16
  .skip))
  (.seq l4_17
  (.cond (.t 123) (.seq (.region [] [⟨(some 8), (.mv (.k (.sc (.c (.bool false))))), none, 0, []⟩] [] [])
   .ret)
  .skip)))))
 l4_18))

def v4 : VFun := ⟨4,
 (.seq (.region [] [⟨(some 8), (.mv (.k (.sc (.c (.bool false))))), none, 0, []⟩] [] [])
 (.seq (.seq (.region [] [⟨(some 18), (.call (.k (.sc (.c (.fn 6 [] [])))) [] []), none, 128, []⟩,
   ⟨(some 19), (.un .not (.t 18)), none, 0, []⟩] [] [])
 (.cond (.t 19) (.seq (.region [] [⟨(some 8), (.mv (.k (.sc (.c (.bool false))))), none, 0, []⟩] [] [])
  .ret)
 .skip))
 (.seq (.seq l4_0
 (.cond (.t 27) (.seq (.region [] [⟨(some 8), (.mv (.k (.sc (.c (.bool true))))), none, 0, []⟩] [] [])
  .ret)
 .skip))
 (.seq (.region [] [⟨(some 28), (.call (.k (.sc (.c (.fn 7 [] [])))) [] []), none, 896, []⟩,
   ⟨(some 9), (.mv (.t 28)), none, 0, []⟩] [] [])
 (.seq (.seq (.region [] [⟨(some 10), (.mv (.k (.sc (.c (.int .i64 0))))), none, 0, []⟩] [] [])
 (.block 0 (.loop l4_4)))
 (.seq (.seq (.region [] [⟨(some 11), (.mv (.k (.sc (.c (.int .i64 0))))), none, 0, []⟩] [] [])
 (.block 2 (.loop l4_8)))
 (.seq l4_9
 (.seq l4_10
 (.seq (.region [] [⟨(some 15), (.mv (.k (.sc .nil))), none, 3200, [(0, 5)]⟩,
   ⟨(some 16), (.mv (.k (.sc .nil))), none, 3264, [(0, 5)]⟩] [] [])
 (.seq l4_11
 (.seq (.seq (.region [] [⟨(some 17), (.mv (.k (.sc (.c (.int .i64 0))))), none, 0, []⟩] [] [])
 (.block 4 (.loop l4_19)))
 (.seq (.region [] [⟨(some 8), (.mv (.k (.sc (.c (.bool true))))), none, 0, []⟩] [] [])
 .ret)))))))))))),
 [.tmp 8], false⟩

def l5_0 : VCode := (.region [] [⟨(some 13), (.mv (.t 1)), none, 0, []⟩,
   ⟨(some 14), (.len false (.t 13)), none, 0, []⟩,
   ⟨(some 15), (.bin .gtr 0 (.t 14) (.k (.sc (.c (.int .i64 40))))), none, 0, []⟩] [] [])

def l5_1 : VCode := (.region [] [⟨(some 17), (.mv (.t 6)), none, 0, []⟩,
   ⟨(some 18), (.mv (.t 0)), none, 0, []⟩,
   ⟨(some 19), (.call (.k (.sc (.c (.fn 9 [] [])))) [(false, (.t 18)), (false, (.k (.sc (.c (.int .i64 25)))))] []), none, 896, []⟩,
   ⟨(some 20), (.bin .lss 0 (.t 17) (.t 19)), none, 0, []⟩] [] [])

def l5_2 : VCode := (.region [] [⟨(some 23), (.mv (.t 5)), none, 0, []⟩,
   ⟨(some 24), (.mv (.t 6)), none, 0, []⟩,
   ⟨(some 25), (.call (.k (.sc (.c (.fn 13 [] [])))) [(false, (.t 24))] []), none, 1152, []⟩,
   ⟨(some 26), (.call (.k (.sc (.c (.fn 12 [] [])))) [(false, (.t 23)), (false, (.t 25))] []), none, 1216, []⟩,
   ⟨(some 5), (.mv (.t 26)), none, 0, []⟩] [] [])

def l5_3 : VCode := (.region [] [⟨(some 21), (.mv (.t 6)), none, 0, []⟩,
   ⟨(some 22), (.bin .add 0 (.t 21) (.k (.sc (.c (.int .i64 1))))), none, 0, []⟩,
   ⟨(some 6), (.mv (.t 22)), none, 0, []⟩] [] [])

def l5_4 : VCode := (.seq (.seq l5_1
 (.cond (.t 20) .skip
 (.exit 0)))
 (.seq (.block 1 l5_2)
 l5_3))

def l5_5 : VCode := (.region [] [⟨(some 28), (.mv (.t 8)), none, 0, []⟩,
   ⟨(some 29), (.mv (.t 1)), none, 0, []⟩,
   ⟨(some 30), (.len false (.t 29)), none, 0, []⟩,
   ⟨(some 31), (.bin .lss 0 (.t 28) (.t 30)), none, 0, []⟩] [] [])

def l5_6 : VCode := (.region [] [⟨(some 34), (.mv (.t 7)), none, 0, []⟩,
   ⟨(some 35), (.mv (.t 1)), none, 0, []⟩,
   ⟨(some 36), (.mv (.t 8)), none, 0, []⟩,
   ⟨(some 37), (.idxA 1 (.t 35) (.t 36)), none, 0, []⟩,
   ⟨(some 38), (.load false 1 (.t 37)), none, 0, []⟩,
   ⟨(some 39), (.call (.k (.sc (.c (.fn 13 [] [])))) [(false, (.t 38))] []), none, 2304, []⟩,
   ⟨(some 40), (.call (.k (.sc (.c (.fn 12 [] [])))) [(false, (.t 34)), (false, (.t 39))] []), none, 2368, []⟩,
   ⟨(some 7), (.mv (.t 40)), none, 0, []⟩] [] [])

def l5_7 : VCode := (.region [] [⟨(some 32), (.mv (.t 8)), none, 0, []⟩,
   ⟨(some 33), (.bin .add 0 (.t 32) (.k (.sc (.c (.int .i64 1))))), none, 0, []⟩,
   ⟨(some 8), (.mv (.t 33)), none, 0, []⟩] [] [])

def l5_8 : VCode := (.seq (.seq l5_5
 (.cond (.t 31) .skip
 (.exit 2)))
 (.seq (.block 3 l5_6)
 l5_7))

def l5_9 : VCode := (.region [] [⟨(some 41), (.mv (.t 5)), none, 0, []⟩,
   ⟨(some 42), (.len false (.t 41)), none, 0, []⟩,
   ⟨(some 43), (.mv (.t 1)), none, 0, []⟩,
   ⟨(some 44), (.len false (.t 43)), none, 0, []⟩,
   ⟨(some 45), (.bin .add 0 (.t 42) (.t 44)), none, 0, []⟩,
   ⟨(some 46), (.bin .sub 0 (.t 45) (.k (.sc (.c (.int .i64 30))))), none, 0, []⟩,
   ⟨(some 9), (.mv (.t 46)), none, 0, []⟩] [] [])

def l5_10 : VCode := (.region [] [⟨(some 47), (.mv (.t 10)), none, 0, []⟩,
   ⟨(some 48), (.mv (.t 1)), none, 0, []⟩,
   ⟨(some 49), (.len false (.t 48)), none, 0, []⟩,
   ⟨(some 50), (.bin .lss 0 (.t 47) (.t 49)), none, 0, []⟩] [] [])

def l5_11 : VCode := (.region [] [⟨(some 54), (.mv (.t 7)), none, 0, []⟩,
   ⟨(some 55), (.call (.k (.sc (.c (.fn 10 [] [])))) [(false, (.t 54))] []), none, 3520, []⟩,
   ⟨(some 53), (.mv (.t 55)), none, 0, []⟩,
   ⟨(some 56), (.ext 0 (.t 53)), none, 0, []⟩,
   ⟨(some 57), (.ext 1 (.t 53)), none, 0, []⟩,
   ⟨(some 7), (.mv (.t 56)), none, 0, []⟩] [] [])

def l5_12 : VCode := (.region [] [⟨(some 51), (.mv (.t 10)), none, 0, []⟩,
   ⟨(some 52), (.bin .add 0 (.t 51) (.k (.sc (.c (.int .i64 1))))), none, 0, []⟩,
   ⟨(some 10), (.mv (.t 52)), none, 0, []⟩] [] [])

def l5_13 : VCode := (.seq (.seq l5_10
 (.cond (.t 50) .skip
 (.exit 4)))
 (.seq (.block 5 l5_11)
 l5_12))

def l5_14 : VCode := (.region [] [⟨(some 60), (.mv (.t 7)), none, 0, []⟩,
   ⟨(some 61), (.mv (.t 5)), none, 0, []⟩,
   ⟨(some 62), (.call (.k (.sc (.c (.fn 17 [] [])))) [(false, (.t 60)), (false, (.t 61))] []), none, 4288, []⟩,
   ⟨(some 4), (.mv (.t 62)), none, 0, []⟩] [] [])

def l5_15 : VCode := (.region [] [⟨(some 63), (.mv (.t 9)), none, 0, []⟩,
   ⟨(some 64), (.mv (.t 5)), none, 0, []⟩,
   ⟨(some 65), (.len false (.t 64)), none, 0, []⟩,
   ⟨(some 66), (.bin .geq 0 (.t 63) (.t 65)), none, 0, []⟩] [] [])

def l5_16 : VCode := (.region [] [⟨(some 67), (.mv (.t 7)), none, 0, []⟩,
   ⟨(some 68), (.len false (.t 67)), none, 0, []⟩,
   ⟨(some 69), (.bin .eql 0 (.t 68) (.k (.sc (.c (.int .i64 0))))), none, 0, []⟩,
   ⟨(some 4), (.mv (.t 69)), none, 0, []⟩] [] [])

def l5_17 : VCode := (.region [] [⟨(some 70), (.mv (.t 7)), none, 0, []⟩,
   ⟨(some 71), (.mv (.t 5)), none, 0, []⟩,
   ⟨(some 72), (.mv (.t 9)), none, 0, []⟩,
   ⟨(some 73), (.sl 5 (.t 71) (some (.t 72)) none none), none, 0, []⟩,
   ⟨(some 74), (.call (.k (.sc (.c (.fn 17 [] [])))) [(false, (.t 70)), (false, (.t 73))] []), none, 5184, []⟩,
   ⟨(some 4), (.mv (.t 74)), none, 0, []⟩] [] [])

def v5 : VFun := ⟨2,
 (.seq (.region [] [⟨(some 4), (.mv (.k (.sc (.c (.bool false))))), none, 0, []⟩] [] [])
 (.seq (.seq (.region [] [⟨(some 11), (.call (.k (.sc (.c (.fn 6 [] [])))) [] []), none, 128, []⟩,
   ⟨(some 12), (.un .not (.t 11)), none, 0, []⟩] [] [])
 (.cond (.t 12) (.seq (.region [] [⟨(some 4), (.mv (.k (.sc (.c (.bool false))))), none, 0, []⟩] [] [])
  .ret)
 .skip))
 (.seq (.seq l5_0
 (.cond (.t 15) (.seq (.region [] [⟨(some 4), (.mv (.k (.sc (.c (.bool true))))), none, 0, []⟩] [] [])
  .ret)
 .skip))
 (.seq (.region [] [⟨(some 16), (.call (.k (.sc (.c (.fn 7 [] [])))) [] []), none, 576, []⟩,
   ⟨(some 5), (.mv (.t 16)), none, 0, []⟩] [] [])
 (.seq (.seq (.region [] [⟨(some 6), (.mv (.k (.sc (.c (.int .i64 0))))), none, 0, []⟩] [] [])
 (.block 0 (.loop l5_4)))
 (.seq (.region [] [⟨(some 27), (.mv (.t 5)), none, 0, []⟩,
   ⟨(some 7), (.mv (.t 27)), none, 0, []⟩] [] [])
 (.seq (.seq (.region [] [⟨(some 8), (.mv (.k (.sc (.c (.int .i64 0))))), none, 0, []⟩] [] [])
 (.block 2 (.loop l5_8)))
 (.seq l5_9
 (.seq (.seq (.region [] [⟨(some 10), (.mv (.k (.sc (.c (.int .i64 0))))), none, 0, []⟩] [] [])
 (.block 4 (.loop l5_13)))
 (.seq (.seq (.region [] [⟨(some 58), (.mv (.t 9)), none, 0, []⟩,
   ⟨(some 59), (.bin .leq 0 (.t 58) (.k (.sc (.c (.int .i64 0))))), none, 0, []⟩] [] [])
 (.cond (.t 59) (.seq l5_14
  .ret)
 .skip))
 (.seq (.seq l5_15
 (.cond (.t 66) (.seq l5_16
  .ret)
 .skip))
 (.seq l5_17
 .ret)))))))))))),
 [.tmp 4], false⟩

def v6 : VFun := ⟨0,
 (.seq (.region [] [⟨(some 0), (.mv (.k (.sc (.c (.bool false))))), none, 0, []⟩] [] [])
 (.seq (.region [] [⟨(some 8), (.call (.k (.sc (.c (.fn 7 [] [])))) [] []), none, 128, []⟩,
   ⟨(some 9), (.call (.k (.sc (.c (.fn 13 [] [])))) [(false, (.k (.sc (.c (.int .i64 3)))))] []), none, 192, []⟩,
   ⟨(some 10), (.call (.k (.sc (.c (.fn 12 [] [])))) [(false, (.t 8)), (false, (.t 9))] []), none, 256, []⟩,
   ⟨(some 1), (.mv (.t 10)), none, 0, []⟩] [] [])
 (.seq (.region [] [⟨(some 12), (.mv (.t 1)), none, 0, []⟩,
   ⟨(some 13), (.call (.k (.sc (.c (.fn 15 [] [])))) [(false, (.t 12))] []), none, 448, []⟩,
   ⟨(some 11), (.mv (.t 13)), none, 0, []⟩,
   ⟨(some 14), (.ext 0 (.t 11)), none, 0, []⟩,
   ⟨(some 15), (.ext 1 (.t 11)), none, 0, []⟩,
   ⟨(some 2), (.new [.nil, .nil, .nil, .nil, .nil] []), none, 704, []⟩,
   ⟨none, (.store 5 (.t 2) (.t 14) []), none, 0, []⟩,
   ⟨(some 3), (.mv (.t 15)), none, 0, []⟩] [] [])
 (.seq (.region [] [⟨(some 17), (.mv (.t 1)), none, 0, []⟩,
   ⟨(some 18), (.call (.k (.sc (.c (.fn 10 [] [])))) [(false, (.t 17))] []), none, 960, []⟩,
   ⟨(some 16), (.mv (.t 18)), none, 0, []⟩,
   ⟨(some 19), (.ext 0 (.t 16)), none, 0, []⟩,
   ⟨(some 20), (.ext 1 (.t 16)), none, 0, []⟩,
   ⟨(some 4), (.mv (.t 19)), none, 0, []⟩,
   ⟨(some 5), (.mv (.t 20)), none, 0, []⟩] [] [])
 (.seq (.region [] [⟨(some 22), (.mv (.t 4)), none, 0, []⟩,
   ⟨(some 23), (.call (.k (.sc (.c (.fn 15 [] [])))) [(false, (.t 22))] []), none, 1408, []⟩,
   ⟨(some 21), (.mv (.t 23)), none, 0, []⟩,
   ⟨(some 24), (.ext 0 (.t 21)), none, 0, []⟩,
   ⟨(some 25), (.ext 1 (.t 21)), none, 0, []⟩,
   ⟨(some 6), (.new [.nil, .nil, .nil, .nil, .nil] []), none, 1664, []⟩,
   ⟨none, (.store 5 (.t 6) (.t 24) []), none, 0, []⟩,
   ⟨(some 7), (.mv (.t 25)), none, 0, []⟩] [] [])
 (.seq (.region [] [⟨(some 26), (.mv (.t 3)), none, 0, []⟩,
   ⟨(some 27), (.mv (.t 26)), none, 0, []⟩,
   ⟨(some 28), (.load true 5 (.t 2)), (some (27, true)), 0, []⟩,
   ⟨(some 29), (.call (.k (.sc (.c (.fn 18 [] [])))) [(false, (.t 28))] []), (some (27, true)), 2048, []⟩,
   ⟨(some 30), (.bin .eql 0 (.t 29) (.k (.sc (.c (.int .i64 3))))), (some (27, true)), 0, []⟩,
   ⟨(some 31), (.pick (.t 27) (.t 30) (.k (.sc (.c (.bool false))))), none, 0, []⟩,
   ⟨(some 32), (.mv (.t 31)), none, 0, []⟩,
   ⟨(some 33), (.mv (.t 5)), (some (32, true)), 0, []⟩,
   ⟨(some 34), (.pick (.t 32) (.t 33) (.k (.sc (.c (.bool false))))), none, 0, []⟩,
   ⟨(some 35), (.mv (.t 34)), none, 0, []⟩,
   ⟨(some 36), (.mv (.t 4)), (some (35, true)), 0, []⟩,
   ⟨(some 37), (.len false (.t 36)), (some (35, true)), 0, []⟩,
   ⟨(some 38), (.bin .eql 0 (.t 37) (.k (.sc (.c (.int .i64 0))))), (some (35, true)), 0, []⟩,
   ⟨(some 39), (.pick (.t 35) (.t 38) (.k (.sc (.c (.bool false))))), none, 0, []⟩,
   ⟨(some 40), (.mv (.t 39)), none, 0, []⟩,
   ⟨(some 41), (.mv (.t 7)), (some (40, true)), 0, []⟩,
   ⟨(some 42), (.un .not (.t 41)), (some (40, true)), 0, []⟩,
   ⟨(some 43), (.pick (.t 40) (.t 42) (.k (.sc (.c (.bool false))))), none, 0, []⟩,
   ⟨(some 44), (.mv (.t 43)), none, 0, []⟩,
   ⟨(some 45), (.mv (.t 1)), (some (44, true)), 0, []⟩,
   ⟨(some 46), (.len false (.t 45)), (some (44, true)), 0, []⟩,
   ⟨(some 47), (.bin .eql 0 (.t 46) (.k (.sc (.c (.int .i64 1))))), (some (44, true)), 0, []⟩,
   ⟨(some 48), (.pick (.t 44) (.t 47) (.k (.sc (.c (.bool false))))), none, 0, []⟩,
   ⟨(some 0), (.mv (.t 48)), none, 0, []⟩] [] [])
 .ret)))))),
 [.tmp 0], false⟩

def v7 : VFun := ⟨0,
 (.seq (.region [] [⟨(some 0), (.mv (.k (.sc .nil))), none, 0, []⟩] [] [])
 (.seq (.region [] [⟨(some 0), (.mv (.k (.sc .nil))), none, 0, []⟩] [] [])
 .ret)),
 [.tmp 0], false⟩

def v8 : VFun := ⟨0,
 (.seq (.region [] [⟨(some 0), (.mv (.k (.sc .nil))), none, 0, []⟩] [] [])
 (.seq (.region [] [⟨(some 0), (.mv (.k (.sc .nil))), none, 0, []⟩] [] [])
 .ret)),
 [.tmp 0], false⟩

def v9 : VFun := ⟨2,
 (.seq (.region [] [⟨(some 4), (.mv (.k (.sc (.c (.int .i64 0))))), none, 0, []⟩] [] [])
 (.seq (.seq (.region [] [⟨(some 5), (.mv (.t 1)), none, 0, []⟩,
   ⟨(some 6), (.bin .lss 0 (.t 5) (.k (.sc (.c (.int .i64 1))))), none, 0, []⟩] [] [])
 (.cond (.t 6) (.seq (.region [] [⟨(some 4), (.mv (.k (.sc (.c (.int .i64 0))))), none, 0, []⟩] [] [])
  .ret)
 .skip))
 (.seq (.region [] [⟨(some 7), (.mv (.t 0)), none, 0, []⟩,
   ⟨(some 8), (.mv (.t 1)), none, 0, []⟩,
   ⟨(some 9), (.bin .rem 0 (.t 7) (.t 8)), none, 0, []⟩,
   ⟨(some 0), (.mv (.t 9)), none, 0, []⟩] [] [])
 (.seq (.seq (.region [] [⟨(some 10), (.mv (.t 0)), none, 0, []⟩,
   ⟨(some 11), (.bin .lss 0 (.t 10) (.k (.sc (.c (.int .i64 0))))), none, 0, []⟩] [] [])
 (.cond (.t 11) (.region [] [⟨(some 12), (.mv (.t 0)), none, 0, []⟩,
    ⟨(some 13), (.mv (.t 1)), none, 0, []⟩,
    ⟨(some 14), (.bin .add 0 (.t 12) (.t 13)), none, 0, []⟩,
    ⟨(some 0), (.mv (.t 14)), none, 0, []⟩] [] [])
 .skip))
 (.seq (.region [] [⟨(some 15), (.mv (.t 0)), none, 0, []⟩,
   ⟨(some 4), (.mv (.t 15)), none, 0, []⟩] [] [])
 .ret))))),
 [.tmp 4], false⟩

def v10 : VFun := ⟨1,
 (.seq (.region [] [⟨(some 2), (.mv (.k (.sc .nil))), none, 0, []⟩,
   ⟨(some 3), (.mv (.k (.sc (.c (.bool false))))), none, 0, []⟩] [] [])
 (.seq (.region [] [⟨(some 5), (.mv (.t 0)), none, 0, []⟩,
   ⟨(some 6), (.len false (.t 5)), none, 0, []⟩,
   ⟨(some 7), (.bin .sub 0 (.t 6) (.k (.sc (.c (.int .i64 1))))), none, 0, []⟩,
   ⟨(some 4), (.mv (.t 7)), none, 0, []⟩] [] [])
 (.seq (.seq (.region [] [⟨(some 8), (.mv (.t 4)), none, 0, []⟩,
   ⟨(some 9), (.bin .lss 0 (.t 8) (.k (.sc (.c (.int .i64 0))))), none, 0, []⟩] [] [])
 (.cond (.t 9) (.seq (.region [] [⟨(some 10), (.mv (.t 0)), none, 0, []⟩,
    ⟨(some 2), (.mv (.t 10)), none, 0, []⟩,
    ⟨(some 3), (.mv (.k (.sc (.c (.bool false))))), none, 0, []⟩] [] [])
  .ret)
 .skip))
 (.seq (.region [] [⟨(some 11), (.mv (.t 0)), none, 0, []⟩,
   ⟨(some 12), (.mv (.t 4)), none, 0, []⟩,
   ⟨(some 13), (.mv (.t 4)), none, 0, []⟩,
   ⟨(some 14), (.sl 5 (.t 11) none (some (.t 12)) (some (.t 13))), none, 0, []⟩,
   ⟨(some 2), (.mv (.t 14)), none, 0, []⟩,
   ⟨(some 3), (.mv (.k (.sc (.c (.bool true))))), none, 0, []⟩] [] [])
 .ret)))),
 [.tmp 2, .tmp 3], false⟩

def v11 : VFun := ⟨1,
 (.seq (.region [] [⟨(some 2), (.mv (.k (.sc .nil))), none, 0, []⟩,
   ⟨(some 3), (.mv (.k (.sc (.c (.bool false))))), none, 0, []⟩] [] [])
 (.seq (.seq (.region [] [⟨(some 4), (.mv (.t 0)), none, 0, []⟩,
   ⟨(some 5), (.len false (.t 4)), none, 0, []⟩,
   ⟨(some 6), (.bin .eql 0 (.t 5) (.k (.sc (.c (.int .i64 0))))), none, 0, []⟩] [] [])
 (.cond (.t 6) (.seq (.region [] [⟨(some 7), (.mv (.t 0)), none, 0, []⟩,
    ⟨(some 2), (.mv (.t 7)), none, 0, []⟩,
    ⟨(some 3), (.mv (.k (.sc (.c (.bool false))))), none, 0, []⟩] [] [])
  .ret)
 .skip))
 (.seq (.region [] [⟨(some 8), (.mv (.t 0)), none, 0, []⟩,
   ⟨(some 9), (.mv (.t 0)), none, 0, []⟩,
   ⟨(some 10), (.len false (.t 9)), none, 0, []⟩,
   ⟨(some 11), (.bin .sub 0 (.t 10) (.k (.sc (.c (.int .i64 1))))), none, 0, []⟩,
   ⟨(some 12), (.sl 5 (.t 8) none (some (.t 11)) none), none, 0, []⟩,
   ⟨(some 13), (.app 5 120 true (.k (.sc .nil)) (.t 12)), none, 896, []⟩,
   ⟨(some 2), (.mv (.t 13)), none, 0, []⟩,
   ⟨(some 3), (.mv (.k (.sc (.c (.bool true))))), none, 0, []⟩] [] [])
 .ret))),
 [.tmp 2, .tmp 3], false⟩

def v13 : VFun := ⟨1,
 (.seq (.region [] [⟨(some 2), (.new [.nil, .nil, .nil, .nil, .nil] []), none, 64, []⟩] [] [])
 (.seq (.region [] [⟨(some 3), (.mv (.t 0)), none, 0, []⟩,
   ⟨(some 4), (.call (.k (.sc (.c (.fn 9 [] [])))) [(false, (.t 3)), (false, (.k (.sc (.c (.int .i64 1000)))))] []), none, 192, []⟩,
   ⟨(some 5), (.build [(.c (.int .i64 0)), (.c (.int .i64 0)), (.c (.str [])), (.c (.int .i64 0)), .nil, .nil, (.c (.int .i64 0)), (.c (.str [])), (.c (.int .i64 0)), (.c (.int .i64 0)), .nil] [(0, 1, (.k (.sc (.c (.int .i64 3))))), (3, 1, (.t 4))]), none, 0, []⟩,
   ⟨(some 6), (.build [(.c (.int .i64 0)), (.c (.bool false)), (.c (.str [])), (.c (.bool false)), (.c (.int .i64 0)), (.c (.str [])), (.c (.int .i64 0)), (.c (.int .i64 0)), .nil, (.c (.int .i64 0)), (.c (.int .i64 0)), (.c (.str [])), (.c (.int .i64 0)), .nil, .nil, (.c (.int .i64 0)), (.c (.str [])), (.c (.int .i64 0)), (.c (.int .i64 0)), .nil] [(2, 1, (.k (.sc (.c (.str [120]))))), (9, 11, (.t 5))]), none, 0, []⟩,
   ⟨(some 7), (.mkSl 20 [(.t 6)]), none, 384, []⟩,
   ⟨(some 8), (.build [.nil, .nil] [(1, 1, (.t 7))]), none, 0, []⟩,
   ⟨(some 9), (.build [.nil, .nil, .nil, .nil, .nil] [(0, 2, (.t 8))]), none, 0, []⟩,
   ⟨none, (.store 5 (.t 2) (.t 9) []), none, 0, []⟩] [] [])
 .ret)),
 [.cell 2 true 5], false⟩

def v12 : VFun := ⟨2,
 (.seq (.region [] [⟨(some 3), (.box (.t 1)), none, 64, []⟩,
   ⟨(some 4), (.mv (.k (.sc .nil))), none, 0, []⟩] [] [])
 (.seq (.region [] [⟨(some 6), (.mv (.t 0)), none, 0, []⟩,
   ⟨(some 7), (.len false (.t 6)), none, 0, []⟩,
   ⟨(some 8), (.bin .sub 0 (.t 7) (.k (.sc (.c (.int .i64 30))))), none, 0, []⟩,
   ⟨(some 9), (.bin .add 0 (.t 8) (.k (.sc (.c (.int .i64 1))))), none, 0, []⟩,
   ⟨(some 10), (.mx (.t 9) (.k (.sc (.c (.int .i64 0))))), none, 0, []⟩,
   ⟨(some 5), (.mv (.t 10)), none, 0, []⟩] [] [])
 (.seq (.region [] [⟨(some 11), (.mv (.t 0)), none, 0, []⟩,
   ⟨(some 12), (.mv (.t 5)), none, 0, []⟩,
   ⟨(some 13), (.mv (.t 0)), none, 0, []⟩,
   ⟨(some 14), (.len false (.t 13)), none, 0, []⟩,
   ⟨(some 15), (.mv (.t 0)), none, 0, []⟩,
   ⟨(some 16), (.len false (.t 15)), none, 0, []⟩,
   ⟨(some 17), (.sl 5 (.t 11) (some (.t 12)) (some (.t 14)) (some (.t 16))), none, 0, []⟩,
   ⟨(some 18), (.load true 5 (.t 3)), none, 0, []⟩,
   ⟨(some 19), (.mkSl 5 [(.t 18)]), none, 1088, []⟩,
   ⟨(some 20), (.app 5 120 true (.t 17) (.t 19)), none, 1152, []⟩,
   ⟨(some 4), (.mv (.t 20)), none, 0, []⟩] [(3, 5), (3, 7), (5, 7), (6, 7), (3, 8), (5, 8), (6, 8)] [])
 .ret))),
 [.tmp 4], false⟩

def l14_0 : VCode := (.seq (.seq (.region [] [⟨(some 11), (.mv (.t 5)), none, 0, []⟩,
   ⟨(some 12), (.len false (.t 11)), none, 0, []⟩,
   ⟨(some 13), (.bin .gtr 0 (.t 12) (.k (.sc (.c (.int .i64 30))))), none, 0, []⟩] [] [])
 (.cond (.t 13) .skip
 (.exit 0)))
 (.block 1 (.region [] [⟨(some 14), (.mv (.t 5)), none, 0, []⟩,
    ⟨(some 15), (.sl 5 (.t 14) (some (.k (.sc (.c (.int .i64 1))))) none none), none, 0, []⟩,
    ⟨(some 5), (.mv (.t 15)), none, 0, []⟩] [] [])))

def v14 : VFun := ⟨2,
 (.seq (.region [] [⟨(some 3), (.box (.t 1)), none, 64, []⟩,
   ⟨(some 4), (.mv (.k (.sc .nil))), none, 0, []⟩] [] [])
 (.seq (.region [] [⟨(some 6), (.mv (.t 0)), none, 0, []⟩,
   ⟨(some 7), (.app 5 120 true (.k (.sc .nil)) (.t 6)), none, 256, []⟩,
   ⟨(some 8), (.load true 5 (.t 3)), none, 0, []⟩,
   ⟨(some 9), (.mkSl 5 [(.t 8)]), none, 384, []⟩,
   ⟨(some 10), (.app 5 120 false (.t 7) (.t 9)), none, 0, []⟩,
   ⟨(some 5), (.mv (.t 10)), none, 0, []⟩] [(1, 2), (1, 3)] [])
 (.seq (.block 0 (.loop l14_0))
 (.seq (.region [] [⟨(some 16), (.mv (.t 5)), none, 0, []⟩,
   ⟨(some 4), (.mv (.t 16)), none, 0, []⟩] [] [])
 .ret)))),
 [.tmp 4], false⟩

def v15 : VFun := ⟨1,
 (.seq (.region [] [⟨(some 2), (.new [.nil, .nil, .nil, .nil, .nil] []), none, 64, []⟩,
   ⟨(some 3), (.mv (.k (.sc (.c (.bool false))))), none, 0, []⟩] [] [])
 (.seq (.seq (.region [] [⟨(some 4), (.mv (.t 0)), none, 0, []⟩,
   ⟨(some 5), (.len false (.t 4)), none, 0, []⟩,
   ⟨(some 6), (.bin .eql 0 (.t 5) (.k (.sc (.c (.int .i64 0))))), none, 0, []⟩] [] [])
 (.cond (.t 6) (.seq (.region [] [⟨(some 7), (.build [.nil, .nil, .nil, .nil, .nil] []), none, 0, []⟩,
    ⟨none, (.store 5 (.t 2) (.t 7) []), none, 0, []⟩,
    ⟨(some 3), (.mv (.k (.sc (.c (.bool false))))), none, 0, []⟩] [] [])
  .ret)
 .skip))
 (.seq (.region [] [⟨(some 8), (.mv (.t 0)), none, 0, []⟩,
   ⟨(some 9), (.mv (.t 0)), none, 0, []⟩,
   ⟨(some 10), (.len false (.t 9)), none, 0, []⟩,
   ⟨(some 11), (.bin .sub 0 (.t 10) (.k (.sc (.c (.int .i64 1))))), none, 0, []⟩,
   ⟨(some 12), (.idxA 5 (.t 8) (.t 11)), none, 0, []⟩,
   ⟨(some 13), (.load true 5 (.t 12)), none, 0, []⟩,
   ⟨none, (.store 5 (.t 2) (.t 13) []), none, 0, []⟩,
   ⟨(some 3), (.mv (.k (.sc (.c (.bool true))))), none, 0, []⟩] [] [])
 .ret))),
 [.cell 2 true 5, .tmp 3], false⟩

def v16 : VFun := ⟨1,
 (.seq (.region [] [⟨(some 2), (.new [.nil, .nil, .nil, .nil, .nil] []), none, 64, []⟩,
   ⟨(some 3), (.mv (.k (.sc (.c (.bool false))))), none, 0, []⟩] [] [])
 (.seq (.seq (.region [] [⟨(some 4), (.mv (.t 0)), none, 0, []⟩,
   ⟨(some 5), (.len false (.t 4)), none, 0, []⟩,
   ⟨(some 6), (.bin .eql 0 (.t 5) (.k (.sc (.c (.int .i64 0))))), none, 0, []⟩] [] [])
 (.cond (.t 6) (.seq (.region [] [⟨(some 7), (.build [.nil, .nil, .nil, .nil, .nil] []), none, 0, []⟩,
    ⟨none, (.store 5 (.t 2) (.t 7) []), none, 0, []⟩,
    ⟨(some 3), (.mv (.k (.sc (.c (.bool false))))), none, 0, []⟩] [] [])
  .ret)
 .skip))
 (.seq (.region [] [⟨(some 8), (.mv (.t 0)), none, 0, []⟩,
   ⟨(some 9), (.mv (.t 0)), none, 0, []⟩,
   ⟨(some 10), (.len false (.t 9)), none, 0, []⟩,
   ⟨(some 11), (.bin .sub 0 (.t 10) (.k (.sc (.c (.int .i64 1))))), none, 0, []⟩,
   ⟨(some 12), (.idxA 5 (.t 8) (.t 11)), none, 0, []⟩,
   ⟨(some 13), (.load true 5 (.t 12)), none, 0, []⟩,
   ⟨none, (.store 5 (.t 2) (.t 13) []), none, 0, []⟩,
   ⟨(some 3), (.mv (.k (.sc (.c (.bool true))))), none, 0, []⟩] [] [])
 .ret))),
 [.cell 2 true 5, .tmp 3], false⟩

def l17_0 : VCode := (.seq (.seq (.region [] [⟨(some 11), (.mv (.t 5)), none, 0, []⟩,
   ⟨(some 12), (.mv (.t 0)), none, 0, []⟩,
   ⟨(some 13), (.len false (.t 12)), none, 0, []⟩,
   ⟨(some 14), (.bin .lss 0 (.t 11) (.t 13)), none, 0, []⟩] [] [])
 (.cond (.t 14) .skip
 (.exit 0)))
 (.seq (.block 1 (.seq (.region [] [⟨(some 17), (.mv (.t 0)), none, 0, []⟩,
    ⟨(some 18), (.mv (.t 5)), none, 0, []⟩,
    ⟨(some 19), (.idxA 5 (.t 17) (.t 18)), none, 0, []⟩,
    ⟨(some 20), (.load true 5 (.t 19)), none, 0, []⟩,
    ⟨(some 21), (.call (.k (.sc (.c (.fn 18 [] [])))) [(false, (.t 20))] []), none, 1088, []⟩,
    ⟨(some 22), (.mv (.t 1)), none, 0, []⟩,
    ⟨(some 23), (.mv (.t 5)), none, 0, []⟩,
    ⟨(some 24), (.idxA 5 (.t 22) (.t 23)), none, 0, []⟩,
    ⟨(some 25), (.load true 5 (.t 24)), none, 0, []⟩,
    ⟨(some 26), (.call (.k (.sc (.c (.fn 18 [] [])))) [(false, (.t 25))] []), none, 1408, []⟩,
    ⟨(some 27), (.bin .neq 0 (.t 21) (.t 26)), none, 0, []⟩] [(2, 7), (3, 7), (4, 7), (2, 8), (3, 8), (4, 8)] [])
  (.cond (.t 27) (.seq (.region [] [⟨(some 4), (.mv (.k (.sc (.c (.bool false))))), none, 0, []⟩] [] [])
   .ret)
  .skip)))
 (.region [] [⟨(some 15), (.mv (.t 5)), none, 0, []⟩,
   ⟨(some 16), (.bin .add 0 (.t 15) (.k (.sc (.c (.int .i64 1))))), none, 0, []⟩,
   ⟨(some 5), (.mv (.t 16)), none, 0, []⟩] [] [])))

def v17 : VFun := ⟨2,
 (.seq (.region [] [⟨(some 4), (.mv (.k (.sc (.c (.bool false))))), none, 0, []⟩] [] [])
 (.seq (.seq (.region [] [⟨(some 6), (.mv (.t 0)), none, 0, []⟩,
   ⟨(some 7), (.len false (.t 6)), none, 0, []⟩,
   ⟨(some 8), (.mv (.t 1)), none, 0, []⟩,
   ⟨(some 9), (.len false (.t 8)), none, 0, []⟩,
   ⟨(some 10), (.bin .neq 0 (.t 7) (.t 9)), none, 0, []⟩] [] [])
 (.cond (.t 10) (.seq (.region [] [⟨(some 4), (.mv (.k (.sc (.c (.bool false))))), none, 0, []⟩] [] [])
  .ret)
 .skip))
 (.seq (.seq (.region [] [⟨(some 5), (.mv (.k (.sc (.c (.int .i64 0))))), none, 0, []⟩] [] [])
 (.block 0 (.loop l17_0)))
 (.seq (.region [] [⟨(some 4), (.mv (.k (.sc (.c (.bool true))))), none, 0, []⟩] [] [])
 .ret)))),
 [.tmp 4], false⟩

def v18 : VFun := ⟨1,
 (.seq (.region [] [⟨(some 1), (.box (.t 0)), none, 64, []⟩,
   ⟨(some 2), (.mv (.k (.sc (.c (.int .i64 0))))), none, 0, []⟩] [] [])
 (.seq (.seq (.region [] [⟨(some 3), (.fld 0 (.t 1)), none, 0, []⟩,
   ⟨(some 4), (.fld 1 (.t 3)), none, 0, []⟩,
   ⟨(some 5), (.load false 1 (.t 4)), none, 0, []⟩,
   ⟨(some 6), (.len false (.t 5)), none, 0, []⟩,
   ⟨(some 7), (.bin .neq 0 (.t 6) (.k (.sc (.c (.int .i64 1))))), none, 0, []⟩] [] [])
 (.cond (.t 7) (.seq (.region [] [⟨(some 2), (.mv (.k (.sc (.c (.int .i64 (-1)))))), none, 0, []⟩] [] [])
  .ret)
 .skip))
 (.seq (.region [] [⟨(some 8), (.fld 0 (.t 1)), none, 0, []⟩,
   ⟨(some 9), (.fld 1 (.t 8)), none, 0, []⟩,
   ⟨(some 10), (.load false 1 (.t 9)), none, 0, []⟩,
   ⟨(some 11), (.idxA 20 (.t 10) (.k (.sc (.c (.int .i64 0))))), none, 0, []⟩,
   ⟨(some 12), (.fld 9 (.t 11)), none, 0, []⟩,
   ⟨(some 13), (.fld 3 (.t 12)), none, 0, []⟩,
   ⟨(some 14), (.load false 1 (.t 13)), none, 0, []⟩,
   ⟨(some 2), (.mv (.t 14)), none, 0, []⟩] [] [])
 .ret))),
 [.tmp 2], false⟩

def tab : List (Nat × VFun) := [(3, v3), (4, v4), (5, v5), (6, v6), (7, v7), (8, v8), (9, v9), (10, v10), (11, v11), (13, v13), (12, v12), (14, v14), (15, v15), (16, v16), (17, v17), (18, v18)]
def T : FuncId → Option VFun := get? tab

theorem m3 : mFun Go.Proofs.Try.prog 3 v3 = true := by kernel_rfl
theorem m4 : mFun Go.Proofs.Try.prog 4 v4 = true := by kernel_rfl
theorem m5 : mFun Go.Proofs.Try.prog 5 v5 = true := by kernel_rfl
theorem m6 : mFun Go.Proofs.Try.prog 6 v6 = true := by kernel_rfl
theorem m7 : mFun Go.Proofs.Try.prog 7 v7 = true := by kernel_rfl
theorem m8 : mFun Go.Proofs.Try.prog 8 v8 = true := by kernel_rfl
theorem m9 : mFun Go.Proofs.Try.prog 9 v9 = true := by kernel_rfl
theorem m10 : mFun Go.Proofs.Try.prog 10 v10 = true := by kernel_rfl
theorem m11 : mFun Go.Proofs.Try.prog 11 v11 = true := by kernel_rfl
theorem m13 : mFun Go.Proofs.Try.prog 13 v13 = true := by kernel_rfl
theorem m12 : mFun Go.Proofs.Try.prog 12 v12 = true := by kernel_rfl
theorem m14 : mFun Go.Proofs.Try.prog 14 v14 = true := by kernel_rfl
theorem m15 : mFun Go.Proofs.Try.prog 15 v15 = true := by kernel_rfl
theorem m16 : mFun Go.Proofs.Try.prog 16 v16 = true := by kernel_rfl
theorem m17 : mFun Go.Proofs.Try.prog 17 v17 = true := by kernel_rfl
theorem m18 : mFun Go.Proofs.Try.prog 18 v18 = true := by kernel_rfl

theorem T_ok : ∀ f vf, T f = some vf → mFun Go.Proofs.Try.prog f vf = true := AllT.get (l := tab) ⟨m3, m4, m5, m6, m7, m8, m9, m10, m11, m13, m12, m14, m15, m16, m17, m18, trivial⟩

theorem follows : Go.Proofs.Try.prog.follows .mixedOrders = true := by kernel_rfl

end Go.Vs.Try
