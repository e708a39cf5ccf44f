/- Functions as ideal code. (Printed by wip/tools/Print.lean) -/
import Derived.Test.YtaejfnbifbflkaaGreatI0b
namespace Go.Idl
set_option maxRecDepth 100000
-- swath/swathlaw13.InterpNone
def C3L0 : IC :=
  (.seq (.ops [⟨(some 28), .op (.bin .lss (.t 27) (.t 26)), none⟩])
  (.seq (.cond (.t 28)
    .skip
    (.exit 0))
  (.seq (.block 1
    (.seq (.ops [⟨(some 29), .op (.iaddr (.sl 1) (.t 25) (.t 27)), none⟩,
      ⟨(some 30), .op (.load none (.t 29)), none⟩,
      ⟨(some 9), .op (.mov (.t 30)), none⟩])
    (.seq (.ops [⟨(some 32), .op (.mov (.t 9)), none⟩,
      ⟨(some 33), .call 5 [(.t 32)], none⟩,
      ⟨(some 31), .op (.mov (.t 33)), none⟩,
      ⟨(some 34), .op (.extract (.t 31) 0), none⟩,
      ⟨(some 35), .op (.extract (.t 31) 1), none⟩,
      ⟨(some 10), .op (.alloc [(.int .i64 0), (.int .i64 0), (.int .i64 0), (.int .i64 0), (.int .i64 0), (.slice none 0 0)]), none⟩,
      ⟨none, .op (.store 6 (.t 10) (.t 34)), none⟩,
      ⟨(some 11), .op (.mov (.t 35)), none⟩])
    (.seq (.ops [⟨(some 37), .op (.mov (.t 9)), none⟩,
      ⟨(some 38), .call 6 [(.t 37)], none⟩,
      ⟨(some 36), .op (.mov (.t 38)), none⟩,
      ⟨(some 39), .op (.extract (.t 36) 0), none⟩,
      ⟨(some 40), .op (.extract (.t 36) 1), none⟩,
      ⟨(some 41), .op (.extract (.t 36) 2), none⟩,
      ⟨(some 12), .op (.mov (.t 39)), none⟩,
      ⟨(some 13), .op (.mov (.t 40)), none⟩,
      ⟨(some 14), .op (.mov (.t 41)), none⟩])
    (.seq (.ops [⟨(some 43), .op (.mov (.t 9)), none⟩,
      ⟨(some 44), .op (.load (some 2) (.t 3)), none⟩,
      ⟨(some 45), .call 7 [(.t 43), (.t 44)], none⟩,
      ⟨(some 42), .op (.mov (.t 45)), none⟩,
      ⟨(some 46), .op (.extract (.t 42) 0), none⟩,
      ⟨(some 47), .op (.extract (.t 42) 1), none⟩,
      ⟨(some 15), .op (.alloc [(.int .i64 0), (.int .i64 0)]), none⟩,
      ⟨none, .op (.store 2 (.t 15) (.t 46)), none⟩,
      ⟨(some 16), .op (.mov (.t 47)), none⟩])
    (.seq (.ops [⟨(some 48), .op (.mov (.t 9)), none⟩,
      ⟨(some 49), .call 8 [(.t 48)], none⟩,
      ⟨(some 50), .op (.bin .neq (.t 49) (.c (.int .i64 1))), none⟩,
      ⟨(some 51), .op (.mov (.t 50)), none⟩,
      ⟨(some 52), .op (.mov (.t 11)), (some (51, false))⟩,
      ⟨(some 53), .op (.pick (.t 51) (.c (.bool true)) (.t 52)), none⟩,
      ⟨(some 54), .op (.mov (.t 53)), none⟩,
      ⟨(some 55), .op (.mov (.t 12)), (some (54, false))⟩,
      ⟨(some 56), .op (.mov (.t 13)), (some (54, false))⟩,
      ⟨(some 57), .op (.bin .add (.t 55) (.t 56)), (some (54, false))⟩,
      ⟨(some 58), .op (.mov (.t 14)), (some (54, false))⟩,
      ⟨(some 59), .op (.bin .add (.t 57) (.t 58)), (some (54, false))⟩,
      ⟨(some 60), .op (.bin .neq (.t 59) (.c (.int .i64 0))), (some (54, false))⟩,
      ⟨(some 61), .op (.pick (.t 54) (.c (.bool true)) (.t 60)), none⟩,
      ⟨(some 62), .op (.mov (.t 61)), none⟩,
      ⟨(some 63), .op (.mov (.t 9)), (some (62, false))⟩,
      ⟨(some 64), .call 9 [(.t 63)], (some (62, false))⟩,
      ⟨(some 65), .op (.len .sl (.t 64)), (some (62, false))⟩,
      ⟨(some 66), .op (.bin .neq (.t 65) (.c (.int .i64 0))), (some (62, false))⟩,
      ⟨(some 67), .op (.pick (.t 62) (.c (.bool true)) (.t 66)), none⟩,
      ⟨(some 68), .op (.mov (.t 67)), none⟩,
      ⟨(some 69), .op (.mov (.t 9)), (some (68, false))⟩,
      ⟨(some 70), .op (.mov (.t 2)), (some (68, false))⟩,
      ⟨(some 71), .call 10 [(.t 69), (.t 70)], (some (68, false))⟩,
      ⟨(some 72), .op (.bin .eql (.t 71) (.c (.int .i64 0))), (some (68, false))⟩,
      ⟨(some 73), .op (.pick (.t 68) (.c (.bool true)) (.t 72)), none⟩,
      ⟨(some 74), .op (.mov (.t 73)), none⟩,
      ⟨(some 75), .op (.mov (.t 9)), (some (74, false))⟩,
      ⟨(some 76), .op (.mov (.t 1)), (some (74, false))⟩,
      ⟨(some 77), .call 11 [(.t 75), (.t 76)], (some (74, false))⟩,
      ⟨(some 78), .op (.build [(.int .i64 0), (.int .i64 0)] []), (some (74, false))⟩,
      ⟨(some 79), .op (.eqs [(.int .i64), (.int .i64)] true (.t 77) (.t 78)), (some (74, false))⟩,
      ⟨(some 80), .op (.pick (.t 74) (.c (.bool true)) (.t 79)), none⟩,
      ⟨(some 81), .op (.mov (.t 80)), none⟩,
      ⟨(some 82), .op (.mov (.t 9)), (some (81, false))⟩,
      ⟨(some 83), .call 12 [(.t 82)], (some (81, false))⟩,
      ⟨(some 84), .op (.pick (.t 81) (.c (.bool true)) (.t 83)), none⟩,
      ⟨(some 85), .op (.mov (.t 84)), none⟩,
      ⟨(some 86), .op (.mov (.t 9)), (some (85, false))⟩,
      ⟨(some 87), .op (.load (some 2) (.t 3)), (some (85, false))⟩,
      ⟨(some 88), .call 13 [(.t 86), (.t 87)], (some (85, false))⟩,
      ⟨(some 89), .op (.bin .neq (.t 88) (.c (.int .i64 6))), (some (85, false))⟩,
      ⟨(some 90), .op (.pick (.t 85) (.c (.bool true)) (.t 89)), none⟩,
      ⟨(some 91), .op (.mov (.t 90)), none⟩,
      ⟨(some 92), .op (.mov (.t 16)), (some (91, false))⟩,
      ⟨(some 93), .op (.bin .neq (.t 92) (.c (.int .i64 6))), (some (91, false))⟩,
      ⟨(some 94), .op (.pick (.t 91) (.c (.bool true)) (.t 93)), none⟩,
      ⟨(some 95), .op (.mov (.t 94)), none⟩,
      ⟨(some 96), .op (.mov (.t 9)), (some (95, false))⟩,
      ⟨(some 97), .call 14 [(.t 96)], (some (95, false))⟩,
      ⟨(some 98), .op (.bin .neq (.t 97) (.c (.int .i64 0))), (some (95, false))⟩,
      ⟨(some 99), .op (.pick (.t 95) (.c (.bool true)) (.t 98)), none⟩,
      ⟨(some 100), .op (.mov (.t 99)), none⟩,
      ⟨(some 101), .op (.mov (.t 9)), (some (100, false))⟩,
      ⟨(some 102), .op (.mov (.t 1)), (some (100, false))⟩,
      ⟨(some 103), .call 15 [(.t 101), (.t 102)], (some (100, false))⟩,
      ⟨(some 104), .op (.field 3 none (.t 103)), (some (100, false))⟩,
      ⟨(some 105), .op (.len .sl (.t 104)), (some (100, false))⟩,
      ⟨(some 106), .op (.bin .neq (.t 105) (.c (.int .i64 0))), (some (100, false))⟩,
      ⟨(some 107), .op (.pick (.t 100) (.c (.bool true)) (.t 106)), none⟩])
    (.cond (.t 107)
      (.seq (.ops [⟨(some 6), .op (.mov (.c (.bool false))), none⟩])
      .ret)
      .skip)))))))
  (.ops [⟨(some 108), .op (.bin .add (.t 27) (.c (.int .i64 1))), none⟩,
    ⟨(some 27), .op (.mov (.t 108)), none⟩]))))
def C3 : IFn := ⟨109, (.seq (.ops [⟨(some 3), .op (.box (.t 0)), none⟩,
    ⟨(some 6), .op (.mov (.c (.bool false))), none⟩])
  (.seq (.seq (.ops [⟨(some 17), .call 4 [], none⟩,
    ⟨(some 18), .op (.un .not (.t 17)), none⟩])
  (.cond (.t 18)
    (.seq (.ops [⟨(some 6), .op (.mov (.c (.bool false))), none⟩])
    .ret)
    .skip))
  (.seq (.seq (.ops [⟨(some 19), .op (.mov (.t 2)), none⟩,
    ⟨(some 20), .op (.len .sl (.t 19)), none⟩,
    ⟨(some 21), .op (.bin .gtr (.t 20) (.c (.int .i64 100))), none⟩])
  (.cond (.t 21)
    (.seq (.ops [⟨(some 6), .op (.mov (.c (.bool true))), none⟩])
    .ret)
    .skip))
  (.seq (.ops [⟨(some 7), .op (.mov (.c (.pointer none))), none⟩])
  (.seq (.seq (.ops [⟨(some 22), .op (.mov (.t 7)), none⟩,
    ⟨(some 23), .op (.build [(.slice none 0 0), (.int .i64 0), (.int .i64 0), (.pointer none), (.slice none 0 0), (.slice none 0 0), (.slice none 0 0), (.int .i64 0), (.int .i64 0), (.int .i64 0), (.int .i64 0), (.int .i64 0), (.int .i64 0), (.int .i64 0), (.slice none 0 0), (.int .i64 0), (.int .i64 0), (.int .i64 0), (.bool false), (.bool false), .nilFunc, .nilFunc, .nilFunc, .nilFunc, .nilFunc, .nilFunc, .nilFunc, .nilFunc, .nilFunc, .nilFunc, .nilFunc, .nilFunc, .nilFunc, .nilFunc, .nilFunc, .nilFunc, .nilFunc, .nilFunc, .nilFunc, .nilFunc, .nilFunc, .nilFunc, .nilFunc, .nilFunc, .nilFunc, .nilFunc, .nilFunc, .nilFunc, .nilFunc] []), none⟩,
    ⟨(some 24), .op (.box (.t 23)), none⟩,
    ⟨(some 25), .op (.lit 1 2 [(.pointer none), (.pointer none)] [(0, 1, (.t 22)), (1, 1, (.t 24))]), none⟩,
    ⟨(some 26), .op (.len .sl (.t 25)), none⟩,
    ⟨(some 27), .op (.mov (.c (.int .i64 0))), none⟩])
  (.block 0
    (.loop C3L0)))
  (.seq (.ops [⟨(some 6), .op (.mov (.c (.bool true))), none⟩])
  .ret)))))), [.tmp 6]⟩
-- (*swath/interp.Machine).Here
def C5 : IFn := ⟨47, (.seq (.ops [⟨(some 2), .op (.alloc [(.int .i64 0), (.int .i64 0), (.int .i64 0), (.int .i64 0), (.int .i64 0), (.slice none 0 0)]), none⟩,
    ⟨(some 3), .op (.mov (.c (.bool false))), none⟩])
  (.seq (.seq (.ops [⟨(some 6), .op (.mov (.t 0)), none⟩,
    ⟨(some 7), .call 19 [(.t 6)], none⟩,
    ⟨(some 8), .op (.un .not (.t 7)), none⟩,
    ⟨(some 9), .op (.mov (.t 8)), none⟩,
    ⟨(some 10), .op (.mov (.t 0)), (some (9, false))⟩,
    ⟨(some 11), .op (.nilck (.t 10)), (some (9, false))⟩,
    ⟨(some 12), .op (.faddr 18 (.t 11)), (some (9, false))⟩,
    ⟨(some 13), .op (.load none (.t 12)), (some (9, false))⟩,
    ⟨(some 14), .op (.pick (.t 9) (.c (.bool true)) (.t 13)), none⟩])
  (.cond (.t 14)
    (.seq (.ops [⟨(some 15), .op (.build [(.int .i64 0), (.int .i64 0), (.int .i64 0), (.int .i64 0), (.int .i64 0), (.slice none 0 0)] []), none⟩,
      ⟨none, .op (.store 6 (.t 2) (.t 15)), none⟩,
      ⟨(some 3), .op (.mov (.c (.bool false))), none⟩])
    .ret)
    .skip))
  (.seq (.draw [⟨(some 16), .op (.mov (.t 0)), none⟩,
    ⟨(some 17), .op (.nilck (.t 16)), none⟩,
    ⟨(some 18), .op (.faddr 4 (.t 17)), none⟩,
    ⟨(some 19), .op (.load none (.t 18)), none⟩,
    ⟨(some 20), .op (.mov (.t 0)), none⟩,
    ⟨(some 21), .op (.nilck (.t 20)), none⟩,
    ⟨(some 22), .op (.faddr 4 (.t 21)), none⟩,
    ⟨(some 23), .op (.load none (.t 22)), none⟩,
    ⟨(some 24), .op (.len .sl (.t 23)), none⟩,
    ⟨(some 25), .op (.bin .sub (.t 24) (.c (.int .i64 1))), none⟩,
    ⟨(some 26), .op (.iaddr (.sl 4) (.t 19) (.t 25)), none⟩,
    ⟨(some 27), .op (.load (some 4) (.t 26)), none⟩,
    ⟨(some 4), .op (.alloc [(.int .i64 0), (.int .i64 0), (.slice none 0 0), (.int .i64 0)]), none⟩,
    ⟨none, .op (.store 4 (.t 4) (.t 27)), none⟩]
    [[], [0], [1, 0], [2, 1, 0], [], [4], [5, 4], [6, 5, 4], [7, 6, 5, 4], [8, 7, 6, 5, 4], [9, 8, 7, 6, 5, 4, 3, 2, 1, 0], [10, 9, 8, 7, 6, 5, 4, 3, 2, 1, 0], [], [12, 11, 10, 9, 8, 7, 6, 5, 4, 3, 2, 1, 0]])
  (.seq (.draw [⟨(some 28), .op (.mov (.t 0)), none⟩,
    ⟨(some 29), .op (.nilck (.t 28)), none⟩,
    ⟨(some 30), .op (.faddr 0 (.t 29)), none⟩,
    ⟨(some 31), .op (.faddr 0 (.t 30)), none⟩,
    ⟨(some 32), .op (.load none (.t 31)), none⟩,
    ⟨(some 33), .op (.faddr 0 (.t 4)), none⟩,
    ⟨(some 34), .op (.load none (.t 33)), none⟩,
    ⟨(some 35), .op (.iaddr (.sl 4) (.t 32) (.t 34)), none⟩,
    ⟨(some 36), .op (.faddr 3 (.t 35)), none⟩,
    ⟨(some 37), .op (.load none (.t 36)), none⟩,
    ⟨(some 38), .op (.faddr 1 (.t 4)), none⟩,
    ⟨(some 39), .op (.load none (.t 38)), none⟩,
    ⟨(some 40), .op (.iaddr (.sl 6) (.t 37) (.t 39)), none⟩,
    ⟨(some 41), .op (.load (some 6) (.t 40)), none⟩,
    ⟨(some 5), .op (.alloc [(.int .i64 0), (.int .i64 0), (.int .i64 0), (.int .i64 0), (.int .i64 0), (.slice none 0 0)]), none⟩,
    ⟨none, .op (.store 6 (.t 5) (.t 41)), none⟩]
    [[], [0], [1, 0], [2, 1, 0], [3, 2, 1, 0], [], [5], [6, 5, 4, 3, 2, 1, 0], [7, 6, 5, 4, 3, 2, 1, 0], [8, 7, 6, 5, 4, 3, 2, 1, 0], [], [10], [11, 10, 9, 8, 7, 6, 5, 4, 3, 2, 1, 0], [12, 11, 10, 9, 8, 7, 6, 5, 4, 3, 2, 1, 0], [], [14, 13, 12, 11, 10, 9, 8, 7, 6, 5, 4, 3, 2, 1, 0]])
  (.seq (.ops [⟨(some 42), .op (.faddr 5 (.t 5)), none⟩,
    ⟨(some 43), .op (.load none (.t 42)), none⟩,
    ⟨(some 44), .call 20 [(.t 43)], none⟩,
    ⟨(some 45), .op (.faddr 5 (.t 5)), none⟩,
    ⟨none, .op (.store 1 (.t 45) (.t 44)), none⟩])
  (.seq (.ops [⟨(some 46), .op (.load (some 6) (.t 5)), none⟩,
    ⟨none, .op (.store 6 (.t 2) (.t 46)), none⟩,
    ⟨(some 3), .op (.mov (.c (.bool true))), none⟩])
  .ret)))))), [.cell 2 (some 6), .tmp 3]⟩
-- (*swath/interp.Machine).At
def C6 : IFn := ⟨36, (.seq (.ops [⟨(some 2), .op (.mov (.c (.int .i64 0))), none⟩,
    ⟨(some 3), .op (.mov (.c (.int .i64 0))), none⟩,
    ⟨(some 4), .op (.mov (.c (.int .i64 0))), none⟩])
  (.seq (.seq (.ops [⟨(some 6), .op (.mov (.t 0)), none⟩,
    ⟨(some 7), .call 19 [(.t 6)], none⟩,
    ⟨(some 8), .op (.un .not (.t 7)), none⟩,
    ⟨(some 9), .op (.mov (.t 8)), none⟩,
    ⟨(some 10), .op (.mov (.t 0)), (some (9, false))⟩,
    ⟨(some 11), .op (.nilck (.t 10)), (some (9, false))⟩,
    ⟨(some 12), .op (.faddr 18 (.t 11)), (some (9, false))⟩,
    ⟨(some 13), .op (.load none (.t 12)), (some (9, false))⟩,
    ⟨(some 14), .op (.pick (.t 9) (.c (.bool true)) (.t 13)), none⟩])
  (.cond (.t 14)
    (.seq (.ops [⟨(some 2), .op (.mov (.c (.int .i64 0))), none⟩,
      ⟨(some 3), .op (.mov (.c (.int .i64 0))), none⟩,
      ⟨(some 4), .op (.mov (.c (.int .i64 0))), none⟩])
    .ret)
    .skip))
  (.seq (.draw [⟨(some 15), .op (.mov (.t 0)), none⟩,
    ⟨(some 16), .op (.nilck (.t 15)), none⟩,
    ⟨(some 17), .op (.faddr 4 (.t 16)), none⟩,
    ⟨(some 18), .op (.load none (.t 17)), none⟩,
    ⟨(some 19), .op (.mov (.t 0)), none⟩,
    ⟨(some 20), .op (.nilck (.t 19)), none⟩,
    ⟨(some 21), .op (.faddr 4 (.t 20)), none⟩,
    ⟨(some 22), .op (.load none (.t 21)), none⟩,
    ⟨(some 23), .op (.len .sl (.t 22)), none⟩,
    ⟨(some 24), .op (.bin .sub (.t 23) (.c (.int .i64 1))), none⟩,
    ⟨(some 25), .op (.iaddr (.sl 4) (.t 18) (.t 24)), none⟩,
    ⟨(some 26), .op (.load (some 4) (.t 25)), none⟩,
    ⟨(some 5), .op (.alloc [(.int .i64 0), (.int .i64 0), (.slice none 0 0), (.int .i64 0)]), none⟩,
    ⟨none, .op (.store 4 (.t 5) (.t 26)), none⟩]
    [[], [0], [1, 0], [2, 1, 0], [], [4], [5, 4], [6, 5, 4], [7, 6, 5, 4], [8, 7, 6, 5, 4], [9, 8, 7, 6, 5, 4, 3, 2, 1, 0], [10, 9, 8, 7, 6, 5, 4, 3, 2, 1, 0], [], [12, 11, 10, 9, 8, 7, 6, 5, 4, 3, 2, 1, 0]])
  (.seq (.draw [⟨(some 27), .op (.faddr 0 (.t 5)), none⟩,
    ⟨(some 28), .op (.load none (.t 27)), none⟩,
    ⟨(some 29), .op (.faddr 1 (.t 5)), none⟩,
    ⟨(some 30), .op (.load none (.t 29)), none⟩,
    ⟨(some 31), .op (.mov (.t 0)), none⟩,
    ⟨(some 32), .op (.nilck (.t 31)), none⟩,
    ⟨(some 33), .op (.faddr 4 (.t 32)), none⟩,
    ⟨(some 34), .op (.load none (.t 33)), none⟩,
    ⟨(some 35), .op (.len .sl (.t 34)), none⟩,
    ⟨(some 2), .op (.mov (.t 28)), none⟩,
    ⟨(some 3), .op (.mov (.t 30)), none⟩,
    ⟨(some 4), .op (.mov (.t 35)), none⟩]
    [[], [0], [], [2], [], [4], [5, 4], [6, 5, 4], [7, 6, 5, 4], [1, 0], [9, 1, 0, 3, 2], [10, 9, 1, 0, 3, 2, 8, 7, 6, 5, 4]])
  .ret)))), [.tmp 2, .tmp 3, .tmp 4]⟩
-- (*swath/interp.Machine).Img
def C7 : IFn := ⟨40, (.seq (.ops [⟨(some 3), .op (.box (.t 1)), none⟩,
    ⟨(some 4), .op (.alloc [(.int .i64 0), (.int .i64 0)]), none⟩,
    ⟨(some 5), .op (.mov (.c (.int .i64 0))), none⟩])
  (.seq (.block 0
    (.seq (.ops [⟨(some 7), .op (.mov (.t 0)), none⟩,
      ⟨(some 8), .call 19 [(.t 7)], none⟩,
      ⟨(some 9), .op (.un .not (.t 8)), none⟩,
      ⟨(some 10), .op (.mov (.t 9)), none⟩,
      ⟨(some 11), .op (.faddr 0 (.t 3)), (some (10, false))⟩,
      ⟨(some 12), .op (.load none (.t 11)), (some (10, false))⟩,
      ⟨(some 13), .op (.bin .neq (.t 12) (.c (.int .i64 0))), (some (10, false))⟩,
      ⟨(some 14), .op (.pick (.t 10) (.c (.bool true)) (.t 13)), none⟩,
      ⟨(some 6), .op (.mov (.t 14)), none⟩])
    (.cond (.t 6)
      (.seq (.ops [⟨(some 15), .op (.build [(.int .i64 0), (.int .i64 0)] []), none⟩,
        ⟨none, .op (.store 2 (.t 4) (.t 15)), none⟩,
        ⟨(some 5), .op (.mov (.c (.int .i64 6))), none⟩])
      .ret)
      (.seq (.draw [⟨(some 17), .op (.faddr 1 (.t 3)), none⟩,
        ⟨(some 18), .op (.load none (.t 17)), none⟩,
        ⟨(some 19), .op (.bin .lss (.t 18) (.c (.int .i64 0))), none⟩,
        ⟨(some 20), .op (.mov (.t 19)), none⟩,
        ⟨(some 21), .op (.faddr 1 (.t 3)), (some (20, false))⟩,
        ⟨(some 22), .op (.load none (.t 21)), (some (20, false))⟩,
        ⟨(some 23), .op (.mov (.t 0)), (some (20, false))⟩,
        ⟨(some 24), .op (.nilck (.t 23)), (some (20, false))⟩,
        ⟨(some 25), .op (.faddr 5 (.t 24)), (some (20, false))⟩,
        ⟨(some 26), .op (.load none (.t 25)), (some (20, false))⟩,
        ⟨(some 27), .op (.len .sl (.t 26)), (some (20, false))⟩,
        ⟨(some 28), .op (.bin .geq (.t 22) (.t 27)), (some (20, false))⟩,
        ⟨(some 29), .op (.pick (.t 20) (.c (.bool true)) (.t 28)), none⟩,
        ⟨(some 16), .op (.mov (.t 29)), none⟩]
        [[], [0], [1, 0], [2, 1, 0], [3, 2, 1, 0], [3, 2, 1, 0, 4], [3, 2, 1, 0], [3, 2, 1, 0, 6], [3, 2, 1, 0, 7, 6], [3, 2, 1, 0, 8, 7, 6], [3, 2, 1, 0, 9, 8, 7, 6], [3, 2, 1, 0, 10, 9, 8, 7, 6, 5, 4], [11, 3, 2, 1, 0, 10, 9, 8, 7, 6, 5, 4], [3, 2, 1, 0, 12, 11, 10, 9, 8, 7, 6, 5, 4]])
      (.cond (.t 16)
        (.seq (.ops [⟨(some 30), .op (.build [(.int .i64 0), (.int .i64 0)] []), none⟩,
          ⟨none, .op (.store 2 (.t 4) (.t 30)), none⟩,
          ⟨(some 5), .op (.mov (.c (.int .i64 2))), none⟩])
        .ret)
        .skip)))))
  (.seq (.draw [⟨(some 31), .op (.mov (.t 0)), none⟩,
    ⟨(some 32), .op (.nilck (.t 31)), none⟩,
    ⟨(some 33), .op (.faddr 5 (.t 32)), none⟩,
    ⟨(some 34), .op (.load none (.t 33)), none⟩,
    ⟨(some 35), .op (.faddr 1 (.t 3)), none⟩,
    ⟨(some 36), .op (.load none (.t 35)), none⟩,
    ⟨(some 37), .op (.iaddr (.sl 1) (.t 34) (.t 36)), none⟩,
    ⟨(some 38), .op (.load none (.t 37)), none⟩,
    ⟨(some 39), .call 21 [(.t 38)], none⟩,
    ⟨none, .op (.store 2 (.t 4) (.t 39)), none⟩,
    ⟨(some 5), .op (.mov (.c (.int .i64 0))), none⟩]
    [[], [0], [1, 0], [2, 1, 0], [], [4], [5, 4, 3, 2, 1, 0], [6, 5, 4, 3, 2, 1, 0], [7, 6, 5, 4, 3, 2, 1, 0], [8, 7, 6, 5, 4, 3, 2, 1, 0], [9, 8, 7, 6, 5, 4, 3, 2, 1, 0]])
  .ret))), [.cell 4 (some 2), .tmp 5]⟩
-- (*swath/interp.Machine).Next
def C8 : IFn := ⟨64, (.seq (.ops [⟨(some 2), .op (.mov (.c (.int .i64 0))), none⟩])
  (.seq (.seq (.ops [⟨(some 4), .op (.mov (.t 0)), none⟩,
    ⟨(some 5), .call 19 [(.t 4)], none⟩,
    ⟨(some 6), .op (.un .not (.t 5)), none⟩,
    ⟨(some 7), .op (.mov (.t 6)), none⟩,
    ⟨(some 8), .op (.mov (.t 0)), (some (7, false))⟩,
    ⟨(some 9), .op (.nilck (.t 8)), (some (7, false))⟩,
    ⟨(some 10), .op (.faddr 18 (.t 9)), (some (7, false))⟩,
    ⟨(some 11), .op (.load none (.t 10)), (some (7, false))⟩,
    ⟨(some 12), .op (.pick (.t 7) (.c (.bool true)) (.t 11)), none⟩])
  (.cond (.t 12)
    (.seq (.ops [⟨(some 2), .op (.mov (.c (.int .i64 1))), none⟩])
    .ret)
    .skip))
  (.seq (.seq (.ops [⟨(some 13), .op (.mov (.t 0)), none⟩,
    ⟨(some 14), .op (.nilck (.t 13)), none⟩,
    ⟨(some 15), .op (.faddr 9 (.t 14)), none⟩,
    ⟨(some 16), .op (.load none (.t 15)), none⟩,
    ⟨(some 17), .op (.bin .geq (.t 16) (.c (.int .i64 1000000))), none⟩])
  (.cond (.t 17)
    (.seq (.ops [⟨(some 18), .op (.mov (.t 0)), none⟩,
      ⟨(some 19), .op (.build [(.int .i64 0), (.int .i64 0)] []), none⟩,
      ⟨(some 20), .call 22 [(.t 18), (.c (.int .i64 2)), (.t 19), (.c (.int .i64 0))], none⟩])
    (.seq (.ops [⟨(some 2), .op (.mov (.c (.int .i64 1))), none⟩])
    .ret))
    .skip))
  (.seq (.ops [⟨(some 21), .op (.mov (.t 0)), none⟩,
    ⟨(some 22), .op (.nilck (.t 21)), none⟩,
    ⟨(some 23), .op (.faddr 9 (.t 22)), none⟩,
    ⟨(some 24), .op (.load none (.t 23)), none⟩,
    ⟨(some 25), .op (.bin .add (.t 24) (.c (.int .i64 1))), none⟩,
    ⟨(some 26), .op (.nilck (.t 21)), none⟩,
    ⟨(some 27), .op (.faddr 9 (.t 26)), none⟩,
    ⟨none, .op (.store 1 (.t 27) (.t 25)), none⟩])
  (.seq (.draw [⟨(some 28), .op (.mov (.t 0)), none⟩,
    ⟨(some 29), .op (.nilck (.t 28)), none⟩,
    ⟨(some 30), .op (.faddr 4 (.t 29)), none⟩,
    ⟨(some 31), .op (.load none (.t 30)), none⟩,
    ⟨(some 32), .op (.mov (.t 0)), none⟩,
    ⟨(some 33), .op (.nilck (.t 32)), none⟩,
    ⟨(some 34), .op (.faddr 4 (.t 33)), none⟩,
    ⟨(some 35), .op (.load none (.t 34)), none⟩,
    ⟨(some 36), .op (.len .sl (.t 35)), none⟩,
    ⟨(some 37), .op (.bin .sub (.t 36) (.c (.int .i64 1))), none⟩,
    ⟨(some 38), .op (.iaddr (.sl 4) (.t 31) (.t 37)), none⟩,
    ⟨(some 3), .op (.mov (.t 38)), none⟩]
    [[], [0], [1, 0], [2, 1, 0], [], [4], [5, 4], [6, 5, 4], [7, 6, 5, 4], [8, 7, 6, 5, 4], [9, 8, 7, 6, 5, 4, 3, 2, 1, 0], [10, 9, 8, 7, 6, 5, 4, 3, 2, 1, 0]])
  (.seq (.draw [⟨(some 39), .op (.mov (.t 0)), none⟩,
    ⟨(some 40), .op (.mov (.t 3)), none⟩,
    ⟨(some 41), .op (.mov (.t 0)), none⟩,
    ⟨(some 42), .op (.nilck (.t 41)), none⟩,
    ⟨(some 43), .op (.faddr 0 (.t 42)), none⟩,
    ⟨(some 44), .op (.faddr 0 (.t 43)), none⟩,
    ⟨(some 45), .op (.load none (.t 44)), none⟩,
    ⟨(some 46), .op (.mov (.t 3)), none⟩,
    ⟨(some 47), .op (.nilck (.t 46)), none⟩,
    ⟨(some 48), .op (.faddr 0 (.t 47)), none⟩,
    ⟨(some 49), .op (.load none (.t 48)), none⟩,
    ⟨(some 50), .op (.iaddr (.sl 4) (.t 45) (.t 49)), none⟩,
    ⟨(some 51), .op (.faddr 3 (.t 50)), none⟩,
    ⟨(some 52), .op (.load none (.t 51)), none⟩,
    ⟨(some 53), .op (.mov (.t 3)), none⟩,
    ⟨(some 54), .op (.nilck (.t 53)), none⟩,
    ⟨(some 55), .op (.faddr 1 (.t 54)), none⟩,
    ⟨(some 56), .op (.load none (.t 55)), none⟩,
    ⟨(some 57), .op (.iaddr (.sl 6) (.t 52) (.t 56)), none⟩,
    ⟨(some 58), .op (.load (some 6) (.t 57)), none⟩,
    ⟨(some 59), .call 23 [(.t 39), (.t 40), (.t 58)], none⟩]
    [[], [], [], [2], [3, 2], [4, 3, 2], [5, 4, 3, 2], [], [7], [8, 7], [9, 8, 7], [10, 9, 8, 7, 6, 5, 4, 3, 2], [11, 10, 9, 8, 7, 6, 5, 4, 3, 2], [12, 11, 10, 9, 8, 7, 6, 5, 4, 3, 2], [], [14], [15, 14], [16, 15, 14], [17, 16, 15, 14, 13, 12, 11, 10, 9, 8, 7, 6, 5, 4, 3, 2], [18, 17, 16, 15, 14, 13, 12, 11, 10, 9, 8, 7, 6, 5, 4, 3, 2], [19, 18, 17, 16, 15, 14, 13, 12, 11, 10, 9, 8, 7, 6, 5, 4, 3, 2, 1, 0]])
  (.seq (.seq (.ops [⟨(some 60), .op (.mov (.t 0)), none⟩,
    ⟨(some 61), .op (.nilck (.t 60)), none⟩,
    ⟨(some 62), .op (.faddr 18 (.t 61)), none⟩,
    ⟨(some 63), .op (.load none (.t 62)), none⟩])
  (.cond (.t 63)
    (.seq (.ops [⟨(some 2), .op (.mov (.c (.int .i64 1))), none⟩])
    .ret)
    .skip))
  (.seq (.ops [⟨(some 2), .op (.mov (.c (.int .i64 0))), none⟩])
  .ret)))))))), [.tmp 2]⟩
-- (*swath/interp.Machine).Frames
def C9 : IFn := ⟨11, (.seq (.ops [⟨(some 2), .op (.mov (.c (.slice none 0 0))), none⟩])
  (.seq (.seq (.ops [⟨(some 3), .op (.mov (.t 0)), none⟩,
    ⟨(some 4), .call 19 [(.t 3)], none⟩,
    ⟨(some 5), .op (.un .not (.t 4)), none⟩])
  (.cond (.t 5)
    (.seq (.ops [⟨(some 2), .op (.mov (.c (.slice none 0 0))), none⟩])
    .ret)
    .skip))
  (.seq (.ops [⟨(some 6), .op (.mov (.t 0)), none⟩,
    ⟨(some 7), .op (.nilck (.t 6)), none⟩,
    ⟨(some 8), .op (.faddr 4 (.t 7)), none⟩,
    ⟨(some 9), .op (.load none (.t 8)), none⟩,
    ⟨(some 10), .call 24 [(.t 9)], none⟩,
    ⟨(some 2), .op (.mov (.t 10)), none⟩])
  .ret))), [.tmp 2]⟩
-- (*swath/interp.Machine).SetFrames
def C10 : IFn := ⟨24, (.seq (.ops [⟨(some 4), .op (.mov (.c (.int .i64 0))), none⟩])
  (.seq (.block 0
    (.seq (.ops [⟨(some 6), .op (.mov (.t 0)), none⟩,
      ⟨(some 7), .call 19 [(.t 6)], none⟩,
      ⟨(some 8), .op (.un .not (.t 7)), none⟩,
      ⟨(some 5), .op (.mov (.t 8)), none⟩])
    (.cond (.t 5)
      (.seq (.ops [⟨(some 4), .op (.mov (.c (.int .i64 3))), none⟩])
      .ret)
      (.seq (.ops [⟨(some 10), .op (.mov (.t 0)), none⟩,
        ⟨(some 11), .op (.mov (.t 1)), none⟩,
        ⟨(some 12), .call 25 [(.t 10), (.t 11)], none⟩,
        ⟨(some 13), .op (.un .not (.t 12)), none⟩,
        ⟨(some 9), .op (.mov (.t 13)), none⟩])
      (.cond (.t 9)
        (.seq (.ops [⟨(some 4), .op (.mov (.c (.int .i64 1))), none⟩])
        .ret)
        (.seq (.ops [⟨(some 15), .op (.mov (.t 0)), none⟩,
          ⟨(some 16), .op (.nilck (.t 15)), none⟩,
          ⟨(some 17), .op (.faddr 18 (.t 16)), none⟩,
          ⟨(some 18), .op (.load none (.t 17)), none⟩,
          ⟨(some 14), .op (.mov (.t 18)), none⟩])
        (.cond (.t 14)
          (.seq (.ops [⟨(some 4), .op (.mov (.c (.int .i64 3))), none⟩])
          .ret)
          .skip)))))))
  (.seq (.ops [⟨(some 19), .op (.mov (.t 0)), none⟩,
    ⟨(some 20), .op (.mov (.t 1)), none⟩,
    ⟨(some 21), .call 24 [(.t 20)], none⟩,
    ⟨(some 22), .op (.nilck (.t 19)), none⟩,
    ⟨(some 23), .op (.faddr 4 (.t 22)), none⟩,
    ⟨none, .op (.store 1 (.t 23) (.t 21)), none⟩])
  (.seq (.ops [⟨(some 4), .op (.mov (.c (.int .i64 0))), none⟩])
  .ret)))), [.tmp 4]⟩
-- (*swath/interp.Machine).Reg
def C11 : IFn := ⟨44, (.seq (.ops [⟨(some 4), .op (.alloc [(.int .i64 0), (.int .i64 0)]), none⟩])
  (.seq (.seq (.ops [⟨(some 6), .op (.mov (.t 0)), none⟩,
    ⟨(some 7), .call 19 [(.t 6)], none⟩,
    ⟨(some 8), .op (.un .not (.t 7)), none⟩,
    ⟨(some 9), .op (.mov (.t 8)), none⟩,
    ⟨(some 10), .op (.mov (.t 0)), (some (9, false))⟩,
    ⟨(some 11), .op (.nilck (.t 10)), (some (9, false))⟩,
    ⟨(some 12), .op (.faddr 4 (.t 11)), (some (9, false))⟩,
    ⟨(some 13), .op (.load none (.t 12)), (some (9, false))⟩,
    ⟨(some 14), .op (.len .sl (.t 13)), (some (9, false))⟩,
    ⟨(some 15), .op (.bin .eql (.t 14) (.c (.int .i64 0))), (some (9, false))⟩,
    ⟨(some 16), .op (.pick (.t 9) (.c (.bool true)) (.t 15)), none⟩])
  (.cond (.t 16)
    (.seq (.ops [⟨(some 17), .op (.build [(.int .i64 0), (.int .i64 0)] []), none⟩,
      ⟨none, .op (.store 2 (.t 4) (.t 17)), none⟩])
    .ret)
    .skip))
  (.seq (.seq (.draw [⟨(some 18), .op (.mov (.t 0)), none⟩,
    ⟨(some 19), .op (.nilck (.t 18)), none⟩,
    ⟨(some 20), .op (.faddr 4 (.t 19)), none⟩,
    ⟨(some 21), .op (.load none (.t 20)), none⟩,
    ⟨(some 22), .op (.mov (.t 0)), none⟩,
    ⟨(some 23), .op (.nilck (.t 22)), none⟩,
    ⟨(some 24), .op (.faddr 4 (.t 23)), none⟩,
    ⟨(some 25), .op (.load none (.t 24)), none⟩,
    ⟨(some 26), .op (.len .sl (.t 25)), none⟩,
    ⟨(some 27), .op (.bin .sub (.t 26) (.c (.int .i64 1))), none⟩,
    ⟨(some 28), .op (.iaddr (.sl 4) (.t 21) (.t 27)), none⟩,
    ⟨(some 29), .op (.faddr 2 (.t 28)), none⟩,
    ⟨(some 30), .op (.load none (.t 29)), none⟩,
    ⟨(some 5), .op (.mov (.t 30)), none⟩]
    [[], [0], [1, 0], [2, 1, 0], [], [4], [5, 4], [6, 5, 4], [7, 6, 5, 4], [8, 7, 6, 5, 4], [9, 8, 7, 6, 5, 4, 3, 2, 1, 0], [10, 9, 8, 7, 6, 5, 4, 3, 2, 1, 0], [11, 10, 9, 8, 7, 6, 5, 4, 3, 2, 1, 0], [12, 11, 10, 9, 8, 7, 6, 5, 4, 3, 2, 1, 0]])
  (.seq (.ops [⟨(some 31), .op (.mov (.t 1)), none⟩,
    ⟨(some 32), .op (.bin .geq (.t 31) (.c (.int .i64 0))), none⟩,
    ⟨(some 33), .op (.mov (.t 32)), none⟩,
    ⟨(some 34), .op (.mov (.t 1)), (some (33, true))⟩,
    ⟨(some 35), .op (.mov (.t 5)), (some (33, true))⟩,
    ⟨(some 36), .op (.len .sl (.t 35)), (some (33, true))⟩,
    ⟨(some 37), .op (.bin .lss (.t 34) (.t 36)), (some (33, true))⟩,
    ⟨(some 38), .op (.pick (.t 33) (.t 37) (.c (.bool false))), none⟩])
  (.cond (.t 38)
    (.seq (.ops [⟨(some 39), .op (.mov (.t 5)), none⟩,
      ⟨(some 40), .op (.mov (.t 1)), none⟩,
      ⟨(some 41), .op (.iaddr (.sl 2) (.t 39) (.t 40)), none⟩,
      ⟨(some 42), .op (.load (some 2) (.t 41)), none⟩,
      ⟨none, .op (.store 2 (.t 4) (.t 42)), none⟩])
    .ret)
    .skip)))
  (.seq (.ops [⟨(some 43), .op (.build [(.int .i64 0), (.int .i64 0)] []), none⟩,
    ⟨none, .op (.store 2 (.t 4) (.t 43)), none⟩])
  .ret)))), [.cell 4 (some 2)]⟩
-- (*swath/interp.Machine).Step
def C12 : IFn := ⟨32, (.seq (.ops [⟨(some 2), .op (.mov (.c (.bool false))), none⟩])
  (.seq (.seq (.ops [⟨(some 3), .op (.mov (.t 0)), none⟩,
    ⟨(some 4), .call 19 [(.t 3)], none⟩,
    ⟨(some 5), .op (.un .not (.t 4)), none⟩,
    ⟨(some 6), .op (.mov (.t 5)), none⟩,
    ⟨(some 7), .op (.mov (.t 0)), (some (6, false))⟩,
    ⟨(some 8), .op (.nilck (.t 7)), (some (6, false))⟩,
    ⟨(some 9), .op (.faddr 7 (.t 8)), (some (6, false))⟩,
    ⟨(some 10), .op (.load none (.t 9)), (some (6, false))⟩,
    ⟨(some 11), .op (.bin .leq (.t 10) (.c (.int .i64 0))), (some (6, false))⟩,
    ⟨(some 12), .op (.pick (.t 6) (.c (.bool true)) (.t 11)), none⟩])
  (.cond (.t 12)
    (.seq (.ops [⟨(some 2), .op (.mov (.c (.bool false))), none⟩])
    .ret)
    .skip))
  (.seq (.ops [⟨(some 13), .op (.mov (.t 0)), none⟩,
    ⟨(some 14), .op (.nilck (.t 13)), none⟩,
    ⟨(some 15), .op (.faddr 7 (.t 14)), none⟩,
    ⟨(some 16), .op (.load none (.t 15)), none⟩,
    ⟨(some 17), .op (.bin .sub (.t 16) (.c (.int .i64 1))), none⟩,
    ⟨(some 18), .op (.nilck (.t 13)), none⟩,
    ⟨(some 19), .op (.faddr 7 (.t 18)), none⟩,
    ⟨none, .op (.store 1 (.t 19) (.t 17)), none⟩])
  (.seq (.ops [⟨(some 20), .op (.mov (.t 0)), none⟩,
    ⟨(some 21), .op (.nilck (.t 20)), none⟩,
    ⟨(some 22), .op (.faddr 9 (.t 21)), none⟩,
    ⟨none, .op (.store 1 (.t 22) (.c (.int .i64 0))), none⟩])
  (.seq (.ops [⟨(some 23), .op (.mov (.t 0)), none⟩,
    ⟨(some 24), .op (.nilck (.t 23)), none⟩,
    ⟨(some 25), .op (.faddr 10 (.t 24)), none⟩,
    ⟨(some 26), .op (.faddr 6 (.t 25)), none⟩,
    ⟨(some 27), .op (.load none (.t 26)), none⟩,
    ⟨(some 28), .op (.bin .add (.t 27) (.c (.int .i64 1))), none⟩,
    ⟨(some 29), .op (.nilck (.t 23)), none⟩,
    ⟨(some 30), .op (.faddr 10 (.t 29)), none⟩,
    ⟨(some 31), .op (.faddr 6 (.t 30)), none⟩,
    ⟨none, .op (.store 1 (.t 31) (.t 28)), none⟩])
  (.seq (.ops [⟨(some 2), .op (.mov (.c (.bool true))), none⟩])
  .ret)))))), [.tmp 2]⟩
-- (*swath/interp.Machine).Out
def C13 : IFn := ⟨26, (.seq (.ops [⟨(some 3), .op (.box (.t 1)), none⟩,
    ⟨(some 4), .op (.mov (.c (.int .i64 0))), none⟩])
  (.seq (.seq (.ops [⟨(some 5), .op (.mov (.t 0)), none⟩,
    ⟨(some 6), .call 19 [(.t 5)], none⟩,
    ⟨(some 7), .op (.un .not (.t 6)), none⟩,
    ⟨(some 8), .op (.mov (.t 7)), none⟩,
    ⟨(some 9), .op (.faddr 0 (.t 3)), (some (8, false))⟩,
    ⟨(some 10), .op (.load none (.t 9)), (some (8, false))⟩,
    ⟨(some 11), .op (.bin .neq (.t 10) (.c (.int .i64 0))), (some (8, false))⟩,
    ⟨(some 12), .op (.pick (.t 8) (.c (.bool true)) (.t 11)), none⟩])
  (.cond (.t 12)
    (.seq (.ops [⟨(some 4), .op (.mov (.c (.int .i64 6))), none⟩])
    .ret)
    .skip))
  (.seq (.draw [⟨(some 13), .op (.mov (.t 0)), none⟩,
    ⟨(some 14), .op (.mov (.t 0)), none⟩,
    ⟨(some 15), .op (.nilck (.t 14)), none⟩,
    ⟨(some 16), .op (.faddr 10 (.t 15)), none⟩,
    ⟨(some 17), .op (.faddr 4 (.t 16)), none⟩,
    ⟨(some 18), .op (.load none (.t 17)), none⟩,
    ⟨(some 19), .op (.faddr 1 (.t 3)), none⟩,
    ⟨(some 20), .op (.load none (.t 19)), none⟩,
    ⟨(some 21), .op (.lit 1 1 [(.int .i64 0)] [(0, 1, (.t 20))]), none⟩,
    ⟨(some 22), .op (.append 1 8 (.t 18) (.t 21)), none⟩,
    ⟨(some 23), .op (.nilck (.t 13)), none⟩,
    ⟨(some 24), .op (.faddr 10 (.t 23)), none⟩,
    ⟨(some 25), .op (.faddr 4 (.t 24)), none⟩,
    ⟨none, .op (.store 1 (.t 25) (.t 22)), none⟩]
    [[], [], [1], [2, 1], [3, 2, 1], [4, 3, 2, 1], [], [6], [7, 6], [8, 7, 6, 5, 4, 3, 2, 1], [9, 8, 7, 6, 5, 4, 3, 2, 1, 0], [9, 8, 7, 6, 5, 4, 3, 2, 1, 0, 10], [9, 8, 7, 6, 5, 4, 3, 2, 1, 0, 11, 10], [9, 8, 7, 6, 5, 4, 3, 2, 1, 0, 12, 11, 10]])
  (.seq (.ops [⟨(some 4), .op (.mov (.c (.int .i64 0))), none⟩])
  .ret)))), [.tmp 4]⟩
-- (*swath/interp.Machine).Depth
def C14 : IFn := ⟨10, (.seq (.ops [⟨(some 2), .op (.mov (.c (.int .i64 0))), none⟩])
  (.seq (.seq (.ops [⟨(some 3), .op (.mov (.t 0)), none⟩,
    ⟨(some 4), .call 19 [(.t 3)], none⟩,
    ⟨(some 5), .op (.un .not (.t 4)), none⟩])
  (.cond (.t 5)
    (.seq (.ops [⟨(some 2), .op (.mov (.c (.int .i64 0))), none⟩])
    .ret)
    .skip))
  (.seq (.ops [⟨(some 6), .op (.mov (.t 0)), none⟩,
    ⟨(some 7), .op (.nilck (.t 6)), none⟩,
    ⟨(some 8), .op (.faddr 8 (.t 7)), none⟩,
    ⟨(some 9), .op (.load none (.t 8)), none⟩,
    ⟨(some 2), .op (.mov (.t 9)), none⟩])
  .ret))), [.tmp 2]⟩
-- (*swath/interp.Machine).Func
def C15L0 : IC :=
  (.seq (.ops [⟨(some 41), .op (.bin .lss (.t 40) (.t 39)), none⟩])
  (.seq (.cond (.t 41)
    .skip
    (.exit 0))
  (.seq (.block 1
    (.seq (.ops [⟨(some 42), .op (.mov (.t 40)), none⟩,
      ⟨(some 6), .op (.mov (.t 42)), none⟩])
    (.draw [⟨(some 43), .op (.faddr 3 (.t 5)), none⟩,
      ⟨(some 44), .op (.load none (.t 43)), none⟩,
      ⟨(some 45), .op (.mov (.t 6)), none⟩,
      ⟨(some 46), .op (.faddr 3 (.t 5)), none⟩,
      ⟨(some 47), .op (.load none (.t 46)), none⟩,
      ⟨(some 48), .op (.mov (.t 6)), none⟩,
      ⟨(some 49), .op (.iaddr (.sl 6) (.t 47) (.t 48)), none⟩,
      ⟨(some 50), .op (.faddr 5 (.t 49)), none⟩,
      ⟨(some 51), .op (.load none (.t 50)), none⟩,
      ⟨(some 52), .call 20 [(.t 51)], none⟩,
      ⟨(some 53), .op (.iaddr (.sl 6) (.t 44) (.t 45)), none⟩,
      ⟨(some 54), .op (.faddr 5 (.t 53)), none⟩,
      ⟨none, .op (.store 1 (.t 54) (.t 52)), none⟩]
      [[], [0], [], [], [3], [], [5, 4, 3], [6, 5, 4, 3], [7, 6, 5, 4, 3], [8, 7, 6, 5, 4, 3], [9, 8, 7, 6, 5, 4, 3, 2, 1, 0], [9, 8, 7, 6, 5, 4, 3, 2, 1, 0, 10], [9, 8, 7, 6, 5, 4, 3, 2, 1, 0, 11, 10]])))
  (.ops [⟨(some 55), .op (.bin .add (.t 40) (.c (.int .i64 1))), none⟩,
    ⟨(some 40), .op (.mov (.t 55)), none⟩]))))
def C15 : IFn := ⟨57, (.seq (.ops [⟨(some 4), .op (.alloc [(.string ⟨#[]⟩), (.int .i64 0), (.int .i64 0), (.slice none 0 0)]), none⟩])
  (.seq (.seq (.ops [⟨(some 7), .op (.mov (.t 0)), none⟩,
    ⟨(some 8), .call 19 [(.t 7)], none⟩,
    ⟨(some 9), .op (.un .not (.t 8)), none⟩,
    ⟨(some 10), .op (.mov (.t 9)), none⟩,
    ⟨(some 11), .op (.mov (.t 1)), (some (10, false))⟩,
    ⟨(some 12), .op (.bin .lss (.t 11) (.c (.int .i64 0))), (some (10, false))⟩,
    ⟨(some 13), .op (.pick (.t 10) (.c (.bool true)) (.t 12)), none⟩,
    ⟨(some 14), .op (.mov (.t 13)), none⟩,
    ⟨(some 15), .op (.mov (.t 1)), (some (14, false))⟩,
    ⟨(some 16), .op (.mov (.t 0)), (some (14, false))⟩,
    ⟨(some 17), .op (.nilck (.t 16)), (some (14, false))⟩,
    ⟨(some 18), .op (.faddr 0 (.t 17)), (some (14, false))⟩,
    ⟨(some 19), .op (.faddr 0 (.t 18)), (some (14, false))⟩,
    ⟨(some 20), .op (.load none (.t 19)), (some (14, false))⟩,
    ⟨(some 21), .op (.len .sl (.t 20)), (some (14, false))⟩,
    ⟨(some 22), .op (.bin .geq (.t 15) (.t 21)), (some (14, false))⟩,
    ⟨(some 23), .op (.pick (.t 14) (.c (.bool true)) (.t 22)), none⟩])
  (.cond (.t 23)
    (.seq (.ops [⟨(some 24), .op (.build [(.string ⟨#[]⟩), (.int .i64 0), (.int .i64 0), (.slice none 0 0)] []), none⟩,
      ⟨none, .op (.store 4 (.t 4) (.t 24)), none⟩])
    .ret)
    .skip))
  (.seq (.ops [⟨(some 25), .op (.mov (.t 0)), none⟩,
    ⟨(some 26), .op (.nilck (.t 25)), none⟩,
    ⟨(some 27), .op (.faddr 0 (.t 26)), none⟩,
    ⟨(some 28), .op (.faddr 0 (.t 27)), none⟩,
    ⟨(some 29), .op (.load none (.t 28)), none⟩,
    ⟨(some 30), .op (.mov (.t 1)), none⟩,
    ⟨(some 31), .op (.iaddr (.sl 4) (.t 29) (.t 30)), none⟩,
    ⟨(some 32), .op (.load (some 4) (.t 31)), none⟩,
    ⟨(some 5), .op (.alloc [(.string ⟨#[]⟩), (.int .i64 0), (.int .i64 0), (.slice none 0 0)]), none⟩,
    ⟨none, .op (.store 4 (.t 5) (.t 32)), none⟩])
  (.seq (.ops [⟨(some 33), .op (.faddr 3 (.t 5)), none⟩,
    ⟨(some 34), .op (.load none (.t 33)), none⟩,
    ⟨(some 35), .call 26 [(.t 34)], none⟩,
    ⟨(some 36), .op (.faddr 3 (.t 5)), none⟩,
    ⟨none, .op (.store 1 (.t 36) (.t 35)), none⟩])
  (.seq (.seq (.ops [⟨(some 37), .op (.faddr 3 (.t 5)), none⟩,
    ⟨(some 38), .op (.load none (.t 37)), none⟩,
    ⟨(some 39), .op (.len .sl (.t 38)), none⟩,
    ⟨(some 40), .op (.mov (.c (.int .i64 0))), none⟩])
  (.block 0
    (.loop C15L0)))
  (.seq (.ops [⟨(some 56), .op (.load (some 4) (.t 5)), none⟩,
    ⟨none, .op (.store 4 (.t 4) (.t 56)), none⟩])
  .ret)))))), [.cell 4 (some 4)]⟩
-- (*swath/interp.Machine).is
def C19 : IFn := ⟨11, (.seq (.ops [⟨(some 2), .op (.mov (.c (.bool false))), none⟩])
  (.seq (.ops [⟨(some 3), .op (.mov (.t 0)), none⟩,
    ⟨(some 4), .op (.isnil .ptr true (.t 3)), none⟩,
    ⟨(some 5), .op (.mov (.t 4)), none⟩,
    ⟨(some 6), .op (.mov (.t 0)), (some (5, true))⟩,
    ⟨(some 7), .op (.nilck (.t 6)), (some (5, true))⟩,
    ⟨(some 8), .op (.faddr 19 (.t 7)), (some (5, true))⟩,
    ⟨(some 9), .op (.load none (.t 8)), (some (5, true))⟩,
    ⟨(some 10), .op (.pick (.t 5) (.t 9) (.c (.bool false))), none⟩,
    ⟨(some 2), .op (.mov (.t 10)), none⟩])
  .ret)), [.tmp 2]⟩

end Go.Idl
