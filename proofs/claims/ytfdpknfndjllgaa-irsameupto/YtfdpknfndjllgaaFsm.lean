/- Functions as ideal code. (Printed by wip/tools/Print.lean) -/
import Derived.Test.YtfdpknfndjllgaaI0b
namespace Go.Idl
-- swath/swathlaw10.IrSame
def C6 : IFn := ⟨36, (.seq (.ops [⟨(some 2), .op (.box (.t 0)), none⟩,
    ⟨(some 3), .op (.box (.t 1)), none⟩,
    ⟨(some 4), .op (.mov (.c (.bool false))), none⟩])
  (.seq (.seq (.ops [⟨(some 5), .call 7 [], none⟩,
    ⟨(some 6), .op (.un .not (.t 5)), none⟩])
  (.cond (.t 6)
    (.seq (.ops [⟨(some 4), .op (.mov (.c (.bool false))), none⟩])
    .ret)
    .skip))
  (.seq (.seq (.ops [⟨(some 7), .op (.load (some 3) (.t 2)), none⟩,
    ⟨(some 8), .call 8 [(.t 7)], none⟩,
    ⟨(some 9), .op (.un .not (.t 8)), none⟩,
    ⟨(some 10), .op (.mov (.t 9)), none⟩,
    ⟨(some 11), .op (.load (some 3) (.t 3)), (some (10, false))⟩,
    ⟨(some 12), .call 8 [(.t 11)], (some (10, false))⟩,
    ⟨(some 13), .op (.un .not (.t 12)), (some (10, false))⟩,
    ⟨(some 14), .op (.pick (.t 10) (.c (.bool true)) (.t 13)), none⟩])
  (.cond (.t 14)
    (.seq (.ops [⟨(some 4), .op (.mov (.c (.bool true))), none⟩])
    .ret)
    .skip))
  (.seq (.draw [⟨(some 15), .op (.load (some 3) (.t 2)), none⟩,
    ⟨(some 16), .op (.load (some 3) (.t 3)), none⟩,
    ⟨(some 17), .call 18 [(.t 15), (.t 16)], none⟩,
    ⟨(some 18), .op (.load (some 3) (.t 2)), none⟩,
    ⟨(some 19), .op (.load (some 3) (.t 3)), none⟩,
    ⟨(some 20), .call 19 [(.t 18), (.t 19)], none⟩,
    ⟨(some 21), .op (.beq false (.t 17) (.t 20)), none⟩,
    ⟨(some 22), .op (.mov (.t 21)), none⟩,
    ⟨(some 23), .op (.load (some 3) (.t 2)), (some (22, true))⟩,
    ⟨(some 24), .op (.load (some 3) (.t 2)), (some (22, true))⟩,
    ⟨(some 25), .call 18 [(.t 23), (.t 24)], (some (22, true))⟩,
    ⟨(some 26), .op (.pick (.t 22) (.t 25) (.c (.bool false))), none⟩,
    ⟨(some 27), .op (.mov (.t 26)), none⟩,
    ⟨(some 28), .op (.load (some 3) (.t 2)), (some (27, true))⟩,
    ⟨(some 29), .op (.load (some 3) (.t 3)), (some (27, true))⟩,
    ⟨(some 30), .call 18 [(.t 28), (.t 29)], (some (27, true))⟩,
    ⟨(some 31), .op (.load (some 3) (.t 3)), (some (27, true))⟩,
    ⟨(some 32), .op (.load (some 3) (.t 2)), (some (27, true))⟩,
    ⟨(some 33), .call 18 [(.t 31), (.t 32)], (some (27, true))⟩,
    ⟨(some 34), .op (.beq false (.t 30) (.t 33)), (some (27, true))⟩,
    ⟨(some 35), .op (.pick (.t 27) (.t 34) (.c (.bool false))), none⟩,
    ⟨(some 4), .op (.mov (.t 35)), none⟩]
    [[], [], [1, 0], [], [], [2, 1, 0, 4, 3], [5, 2, 1, 0, 4, 3], [5, 2, 1, 0, 4, 3, 6], [7, 5, 2, 1, 0, 4, 3, 6], [7, 5, 2, 1, 0, 4, 3, 6], [7, 5, 2, 1, 0, 4, 3, 6, 9, 8], [10, 7, 5, 2, 1, 0, 4, 3, 6, 9, 8], [10, 7, 5, 2, 1, 0, 4, 3, 6, 9, 8, 11], [12, 10, 7, 5, 2, 1, 0, 4, 3, 6, 9, 8, 11], [12, 10, 7, 5, 2, 1, 0, 4, 3, 6, 9, 8, 11], [12, 10, 7, 5, 2, 1, 0, 4, 3, 6, 9, 8, 11, 14, 13], [12, 10, 7, 5, 2, 1, 0, 4, 3, 6, 9, 8, 11], [12, 10, 7, 5, 2, 1, 0, 4, 3, 6, 9, 8, 11], [12, 10, 7, 5, 2, 1, 0, 4, 3, 6, 9, 8, 11, 15, 14, 13, 17, 16], [12, 10, 7, 5, 2, 1, 0, 4, 3, 6, 9, 8, 11, 18, 15, 14, 13, 17, 16], [19, 12, 10, 7, 5, 2, 1, 0, 4, 3, 6, 9, 8, 11, 18, 15, 14, 13, 17, 16], [20, 19, 12, 10, 7, 5, 2, 1, 0, 4, 3, 6, 9, 8, 11, 18, 15, 14, 13, 17, 16]])
  .ret)))), [.tmp 4]⟩
-- swath/swathlaw10.few
def C8 : IFn := ⟨6, (.seq (.ops [⟨(some 1), .op (.box (.t 0)), none⟩,
    ⟨(some 2), .op (.mov (.c (.bool false))), none⟩])
  (.seq (.ops [⟨(some 3), .op (.load (some 3) (.t 1)), none⟩,
    ⟨(some 4), .call 20 [(.t 3)], none⟩,
    ⟨(some 5), .op (.bin .leq (.t 4) (.c (.int .i64 2000))), none⟩,
    ⟨(some 2), .op (.mov (.t 5)), none⟩])
  .ret)), [.tmp 2]⟩
-- swath/ir.Same
def C18 : IFn := ⟨24, (.seq (.ops [⟨(some 2), .op (.box (.t 0)), none⟩,
    ⟨(some 3), .op (.box (.t 1)), none⟩,
    ⟨(some 4), .op (.mov (.c (.bool false))), none⟩])
  (.seq (.ops [⟨(some 5), .op (.faddr 1 (.t 2)), none⟩,
    ⟨(some 6), .op (.load none (.t 5)), none⟩,
    ⟨(some 7), .op (.faddr 1 (.t 3)), none⟩,
    ⟨(some 8), .op (.load none (.t 7)), none⟩,
    ⟨(some 9), .op (.bin .eql (.t 6) (.t 8)), none⟩,
    ⟨(some 10), .op (.mov (.t 9)), none⟩,
    ⟨(some 11), .op (.faddr 2 (.t 2)), (some (10, true))⟩,
    ⟨(some 12), .op (.load none (.t 11)), (some (10, true))⟩,
    ⟨(some 13), .op (.faddr 2 (.t 3)), (some (10, true))⟩,
    ⟨(some 14), .op (.load none (.t 13)), (some (10, true))⟩,
    ⟨(some 15), .op (.bin .eql (.t 12) (.t 14)), (some (10, true))⟩,
    ⟨(some 16), .op (.pick (.t 10) (.t 15) (.c (.bool false))), none⟩,
    ⟨(some 17), .op (.mov (.t 16)), none⟩,
    ⟨(some 18), .op (.faddr 0 (.t 2)), (some (17, true))⟩,
    ⟨(some 19), .op (.load none (.t 18)), (some (17, true))⟩,
    ⟨(some 20), .op (.faddr 0 (.t 3)), (some (17, true))⟩,
    ⟨(some 21), .op (.load none (.t 20)), (some (17, true))⟩,
    ⟨(some 22), .call 32 [(.t 19), (.t 21), (.c (.func (.func 33) #[] #[]))], (some (17, true))⟩,
    ⟨(some 23), .op (.pick (.t 17) (.t 22) (.c (.bool false))), none⟩,
    ⟨(some 4), .op (.mov (.t 23)), none⟩])
  .ret)), [.tmp 4]⟩
-- swath/swathref10.Same
def C19L0 : IC :=
  (.seq (.ops [⟨(some 80), .op (.bin .lss (.t 79) (.t 78)), none⟩])
  (.seq (.cond (.t 80)
    .skip
    (.exit 2))
  (.seq (.block 3
    (.seq (.ops [⟨(some 81), .op (.mov (.t 79)), none⟩,
      ⟨(some 8), .op (.mov (.t 81)), none⟩])
    (.seq (.draw [⟨(some 82), .op (.faddr 3 (.t 6)), none⟩,
      ⟨(some 83), .op (.load none (.t 82)), none⟩,
      ⟨(some 84), .op (.mov (.t 8)), none⟩,
      ⟨(some 85), .op (.iaddr (.sl 6) (.t 83) (.t 84)), none⟩,
      ⟨(some 86), .op (.load (some 6) (.t 85)), none⟩,
      ⟨(some 87), .op (.faddr 3 (.t 7)), none⟩,
      ⟨(some 88), .op (.load none (.t 87)), none⟩,
      ⟨(some 89), .op (.mov (.t 8)), none⟩,
      ⟨(some 90), .op (.iaddr (.sl 6) (.t 88) (.t 89)), none⟩,
      ⟨(some 91), .op (.load (some 6) (.t 90)), none⟩,
      ⟨(some 9), .op (.alloc [(.int .i64 0), (.int .i64 0), (.int .i64 0), (.int .i64 0), (.int .i64 0), (.slice none 0 0)]), none⟩,
      ⟨(some 10), .op (.alloc [(.int .i64 0), (.int .i64 0), (.int .i64 0), (.int .i64 0), (.int .i64 0), (.slice none 0 0)]), none⟩,
      ⟨none, .op (.store 6 (.t 9) (.t 86)), none⟩,
      ⟨none, .op (.store 6 (.t 10) (.t 91)), none⟩]
      [[], [0], [], [2, 1, 0], [3, 2, 1, 0], [], [5], [], [7, 6, 5], [8, 7, 6, 5], [], [], [11, 10, 4, 3, 2, 1, 0], [12, 11, 10, 4, 3, 2, 1, 0, 9, 8, 7, 6, 5]])
    (.seq (.ops [⟨(some 92), .op (.faddr 0 (.t 9)), none⟩,
      ⟨(some 93), .op (.load none (.t 92)), none⟩,
      ⟨(some 94), .op (.faddr 0 (.t 10)), none⟩,
      ⟨(some 95), .op (.load none (.t 94)), none⟩,
      ⟨(some 96), .op (.bin .neq (.t 93) (.t 95)), none⟩,
      ⟨(some 97), .op (.mov (.t 96)), none⟩,
      ⟨(some 98), .op (.faddr 1 (.t 9)), (some (97, false))⟩,
      ⟨(some 99), .op (.load none (.t 98)), (some (97, false))⟩,
      ⟨(some 100), .op (.faddr 1 (.t 10)), (some (97, false))⟩,
      ⟨(some 101), .op (.load none (.t 100)), (some (97, false))⟩,
      ⟨(some 102), .op (.bin .neq (.t 99) (.t 101)), (some (97, false))⟩,
      ⟨(some 103), .op (.pick (.t 97) (.c (.bool true)) (.t 102)), none⟩,
      ⟨(some 104), .op (.mov (.t 103)), none⟩,
      ⟨(some 105), .op (.faddr 2 (.t 9)), (some (104, false))⟩,
      ⟨(some 106), .op (.load none (.t 105)), (some (104, false))⟩,
      ⟨(some 107), .op (.faddr 2 (.t 10)), (some (104, false))⟩,
      ⟨(some 108), .op (.load none (.t 107)), (some (104, false))⟩,
      ⟨(some 109), .op (.bin .neq (.t 106) (.t 108)), (some (104, false))⟩,
      ⟨(some 110), .op (.pick (.t 104) (.c (.bool true)) (.t 109)), none⟩,
      ⟨(some 111), .op (.mov (.t 110)), none⟩,
      ⟨(some 112), .op (.faddr 3 (.t 9)), (some (111, false))⟩,
      ⟨(some 113), .op (.load none (.t 112)), (some (111, false))⟩,
      ⟨(some 114), .op (.faddr 3 (.t 10)), (some (111, false))⟩,
      ⟨(some 115), .op (.load none (.t 114)), (some (111, false))⟩,
      ⟨(some 116), .op (.bin .neq (.t 113) (.t 115)), (some (111, false))⟩,
      ⟨(some 117), .op (.pick (.t 111) (.c (.bool true)) (.t 116)), none⟩,
      ⟨(some 118), .op (.mov (.t 117)), none⟩,
      ⟨(some 119), .op (.faddr 4 (.t 9)), (some (118, false))⟩,
      ⟨(some 120), .op (.load none (.t 119)), (some (118, false))⟩,
      ⟨(some 121), .op (.faddr 4 (.t 10)), (some (118, false))⟩,
      ⟨(some 122), .op (.load none (.t 121)), (some (118, false))⟩,
      ⟨(some 123), .op (.bin .neq (.t 120) (.t 122)), (some (118, false))⟩,
      ⟨(some 124), .op (.pick (.t 118) (.c (.bool true)) (.t 123)), none⟩,
      ⟨(some 125), .op (.mov (.t 124)), none⟩,
      ⟨(some 126), .op (.faddr 5 (.t 9)), (some (125, false))⟩,
      ⟨(some 127), .op (.load none (.t 126)), (some (125, false))⟩,
      ⟨(some 128), .op (.faddr 5 (.t 10)), (some (125, false))⟩,
      ⟨(some 129), .op (.load none (.t 128)), (some (125, false))⟩,
      ⟨(some 130), .call 37 [(.t 127), (.t 129)], (some (125, false))⟩,
      ⟨(some 131), .op (.un .not (.t 130)), (some (125, false))⟩,
      ⟨(some 132), .op (.pick (.t 125) (.c (.bool true)) (.t 131)), none⟩])
    (.cond (.t 132)
      (.seq (.ops [⟨(some 4), .op (.mov (.c (.bool false))), none⟩])
      .ret)
      .skip)))))
  (.ops [⟨(some 133), .op (.bin .add (.t 79) (.c (.int .i64 1))), none⟩,
    ⟨(some 79), .op (.mov (.t 133)), none⟩]))))
def C19L1 : IC :=
  (.seq (.ops [⟨(some 36), .op (.bin .lss (.t 35) (.t 34)), none⟩])
  (.seq (.cond (.t 36)
    .skip
    (.exit 0))
  (.seq (.block 1
    (.seq (.ops [⟨(some 37), .op (.mov (.t 35)), none⟩,
      ⟨(some 5), .op (.mov (.t 37)), none⟩])
    (.seq (.draw [⟨(some 38), .op (.faddr 0 (.t 2)), none⟩,
      ⟨(some 39), .op (.load none (.t 38)), none⟩,
      ⟨(some 40), .op (.mov (.t 5)), none⟩,
      ⟨(some 41), .op (.iaddr (.sl 4) (.t 39) (.t 40)), none⟩,
      ⟨(some 42), .op (.load (some 4) (.t 41)), none⟩,
      ⟨(some 43), .op (.faddr 0 (.t 3)), none⟩,
      ⟨(some 44), .op (.load none (.t 43)), none⟩,
      ⟨(some 45), .op (.mov (.t 5)), none⟩,
      ⟨(some 46), .op (.iaddr (.sl 4) (.t 44) (.t 45)), none⟩,
      ⟨(some 47), .op (.load (some 4) (.t 46)), none⟩,
      ⟨(some 6), .op (.alloc [(.string ⟨#[]⟩), (.int .i64 0), (.int .i64 0), (.slice none 0 0)]), none⟩,
      ⟨(some 7), .op (.alloc [(.string ⟨#[]⟩), (.int .i64 0), (.int .i64 0), (.slice none 0 0)]), none⟩,
      ⟨none, .op (.store 4 (.t 6) (.t 42)), none⟩,
      ⟨none, .op (.store 4 (.t 7) (.t 47)), none⟩]
      [[], [0], [], [2, 1, 0], [3, 2, 1, 0], [], [5], [], [7, 6, 5], [8, 7, 6, 5], [], [], [11, 10, 4, 3, 2, 1, 0], [12, 11, 10, 4, 3, 2, 1, 0, 9, 8, 7, 6, 5]])
    (.seq (.seq (.ops [⟨(some 48), .op (.faddr 0 (.t 6)), none⟩,
      ⟨(some 49), .op (.load none (.t 48)), none⟩,
      ⟨(some 50), .op (.faddr 0 (.t 7)), none⟩,
      ⟨(some 51), .op (.load none (.t 50)), none⟩,
      ⟨(some 52), .op (.bin .neq (.t 49) (.t 51)), none⟩,
      ⟨(some 53), .op (.mov (.t 52)), none⟩,
      ⟨(some 54), .op (.faddr 1 (.t 6)), (some (53, false))⟩,
      ⟨(some 55), .op (.load none (.t 54)), (some (53, false))⟩,
      ⟨(some 56), .op (.faddr 1 (.t 7)), (some (53, false))⟩,
      ⟨(some 57), .op (.load none (.t 56)), (some (53, false))⟩,
      ⟨(some 58), .op (.bin .neq (.t 55) (.t 57)), (some (53, false))⟩,
      ⟨(some 59), .op (.pick (.t 53) (.c (.bool true)) (.t 58)), none⟩,
      ⟨(some 60), .op (.mov (.t 59)), none⟩,
      ⟨(some 61), .op (.faddr 2 (.t 6)), (some (60, false))⟩,
      ⟨(some 62), .op (.load none (.t 61)), (some (60, false))⟩,
      ⟨(some 63), .op (.faddr 2 (.t 7)), (some (60, false))⟩,
      ⟨(some 64), .op (.load none (.t 63)), (some (60, false))⟩,
      ⟨(some 65), .op (.bin .neq (.t 62) (.t 64)), (some (60, false))⟩,
      ⟨(some 66), .op (.pick (.t 60) (.c (.bool true)) (.t 65)), none⟩,
      ⟨(some 67), .op (.mov (.t 66)), none⟩,
      ⟨(some 68), .op (.faddr 3 (.t 6)), (some (67, false))⟩,
      ⟨(some 69), .op (.load none (.t 68)), (some (67, false))⟩,
      ⟨(some 70), .op (.len .sl (.t 69)), (some (67, false))⟩,
      ⟨(some 71), .op (.faddr 3 (.t 7)), (some (67, false))⟩,
      ⟨(some 72), .op (.load none (.t 71)), (some (67, false))⟩,
      ⟨(some 73), .op (.len .sl (.t 72)), (some (67, false))⟩,
      ⟨(some 74), .op (.bin .neq (.t 70) (.t 73)), (some (67, false))⟩,
      ⟨(some 75), .op (.pick (.t 67) (.c (.bool true)) (.t 74)), none⟩])
    (.cond (.t 75)
      (.seq (.ops [⟨(some 4), .op (.mov (.c (.bool false))), none⟩])
      .ret)
      .skip))
    (.seq (.ops [⟨(some 76), .op (.faddr 3 (.t 6)), none⟩,
      ⟨(some 77), .op (.load none (.t 76)), none⟩,
      ⟨(some 78), .op (.len .sl (.t 77)), none⟩,
      ⟨(some 79), .op (.mov (.c (.int .i64 0))), none⟩])
    (.block 2
      (.loop C19L0)))))))
  (.ops [⟨(some 134), .op (.bin .add (.t 35) (.c (.int .i64 1))), none⟩,
    ⟨(some 35), .op (.mov (.t 134)), none⟩]))))
def C19 : IFn := ⟨135, (.seq (.ops [⟨(some 2), .op (.box (.t 0)), none⟩,
    ⟨(some 3), .op (.box (.t 1)), none⟩,
    ⟨(some 4), .op (.mov (.c (.bool false))), none⟩])
  (.seq (.seq (.ops [⟨(some 11), .op (.faddr 0 (.t 2)), none⟩,
    ⟨(some 12), .op (.load none (.t 11)), none⟩,
    ⟨(some 13), .op (.len .sl (.t 12)), none⟩,
    ⟨(some 14), .op (.faddr 0 (.t 3)), none⟩,
    ⟨(some 15), .op (.load none (.t 14)), none⟩,
    ⟨(some 16), .op (.len .sl (.t 15)), none⟩,
    ⟨(some 17), .op (.bin .neq (.t 13) (.t 16)), none⟩,
    ⟨(some 18), .op (.mov (.t 17)), none⟩,
    ⟨(some 19), .op (.faddr 1 (.t 2)), (some (18, false))⟩,
    ⟨(some 20), .op (.load none (.t 19)), (some (18, false))⟩,
    ⟨(some 21), .op (.faddr 1 (.t 3)), (some (18, false))⟩,
    ⟨(some 22), .op (.load none (.t 21)), (some (18, false))⟩,
    ⟨(some 23), .op (.bin .neq (.t 20) (.t 22)), (some (18, false))⟩,
    ⟨(some 24), .op (.pick (.t 18) (.c (.bool true)) (.t 23)), none⟩,
    ⟨(some 25), .op (.mov (.t 24)), none⟩,
    ⟨(some 26), .op (.faddr 2 (.t 2)), (some (25, false))⟩,
    ⟨(some 27), .op (.load none (.t 26)), (some (25, false))⟩,
    ⟨(some 28), .op (.faddr 2 (.t 3)), (some (25, false))⟩,
    ⟨(some 29), .op (.load none (.t 28)), (some (25, false))⟩,
    ⟨(some 30), .op (.bin .neq (.t 27) (.t 29)), (some (25, false))⟩,
    ⟨(some 31), .op (.pick (.t 25) (.c (.bool true)) (.t 30)), none⟩])
  (.cond (.t 31)
    (.seq (.ops [⟨(some 4), .op (.mov (.c (.bool false))), none⟩])
    .ret)
    .skip))
  (.seq (.seq (.ops [⟨(some 32), .op (.faddr 0 (.t 2)), none⟩,
    ⟨(some 33), .op (.load none (.t 32)), none⟩,
    ⟨(some 34), .op (.len .sl (.t 33)), none⟩,
    ⟨(some 35), .op (.mov (.c (.int .i64 0))), none⟩])
  (.block 0
    (.loop C19L1)))
  (.seq (.ops [⟨(some 4), .op (.mov (.c (.bool true))), none⟩])
  .ret)))), [.tmp 4]⟩
-- swath/swathref10.Size
def C20L0 : IC :=
  (.seq (.ops [⟨(some 30), .op (.bin .lss (.t 29) (.t 28)), none⟩])
  (.seq (.cond (.t 30)
    .skip
    (.exit 2))
  (.seq (.block 3
    (.seq (.ops [⟨(some 31), .op (.iaddr (.sl 6) (.t 27) (.t 29)), none⟩,
      ⟨(some 32), .op (.load (some 6) (.t 31)), none⟩,
      ⟨(some 7), .op (.alloc [(.int .i64 0), (.int .i64 0), (.int .i64 0), (.int .i64 0), (.int .i64 0), (.slice none 0 0)]), none⟩,
      ⟨none, .op (.store 6 (.t 7) (.t 32)), none⟩])
    (.ops [⟨(some 33), .op (.mov (.t 3)), none⟩,
      ⟨(some 34), .op (.faddr 5 (.t 7)), none⟩,
      ⟨(some 35), .op (.load none (.t 34)), none⟩,
      ⟨(some 36), .op (.len .sl (.t 35)), none⟩,
      ⟨(some 37), .op (.bin .add (.t 33) (.t 36)), none⟩,
      ⟨(some 3), .op (.mov (.t 37)), none⟩])))
  (.ops [⟨(some 38), .op (.bin .add (.t 29) (.c (.int .i64 1))), none⟩,
    ⟨(some 29), .op (.mov (.t 38)), none⟩]))))
def C20L1 : IC :=
  (.seq (.ops [⟨(some 12), .op (.bin .lss (.t 11) (.t 10)), none⟩])
  (.seq (.cond (.t 12)
    .skip
    (.exit 0))
  (.seq (.block 1
    (.seq (.ops [⟨(some 13), .op (.iaddr (.sl 4) (.t 9) (.t 11)), none⟩,
      ⟨(some 14), .op (.load (some 4) (.t 13)), none⟩,
      ⟨(some 5), .op (.alloc [(.string ⟨#[]⟩), (.int .i64 0), (.int .i64 0), (.slice none 0 0)]), none⟩,
      ⟨none, .op (.store 4 (.t 5) (.t 14)), none⟩])
    (.seq (.ops [⟨(some 15), .op (.mov (.t 3)), none⟩,
      ⟨(some 16), .op (.faddr 3 (.t 5)), none⟩,
      ⟨(some 17), .op (.load none (.t 16)), none⟩,
      ⟨(some 18), .op (.len .sl (.t 17)), none⟩,
      ⟨(some 19), .op (.bin .add (.c (.int .i64 1)) (.t 18)), none⟩,
      ⟨(some 20), .op (.faddr 0 (.t 5)), none⟩,
      ⟨(some 21), .op (.load none (.t 20)), none⟩,
      ⟨(some 22), .op (.len .str (.t 21)), none⟩,
      ⟨(some 23), .op (.bin .quo (.t 22) (.c (.int .i64 10))), none⟩,
      ⟨(some 24), .op (.bin .add (.t 19) (.t 23)), none⟩,
      ⟨(some 25), .op (.bin .add (.t 15) (.t 24)), none⟩,
      ⟨(some 3), .op (.mov (.t 25)), none⟩])
    (.seq (.ops [⟨(some 26), .op (.faddr 3 (.t 5)), none⟩,
      ⟨(some 27), .op (.load none (.t 26)), none⟩,
      ⟨(some 28), .op (.len .sl (.t 27)), none⟩,
      ⟨(some 29), .op (.mov (.c (.int .i64 0))), none⟩])
    (.block 2
      (.loop C20L0))))))
  (.ops [⟨(some 39), .op (.bin .add (.t 11) (.c (.int .i64 1))), none⟩,
    ⟨(some 11), .op (.mov (.t 39)), none⟩]))))
def C20 : IFn := ⟨41, (.seq (.ops [⟨(some 1), .op (.box (.t 0)), none⟩,
    ⟨(some 2), .op (.mov (.c (.int .i64 0))), none⟩])
  (.seq (.ops [⟨(some 3), .op (.mov (.c (.int .i64 0))), none⟩])
  (.seq (.seq (.ops [⟨(some 8), .op (.faddr 0 (.t 1)), none⟩,
    ⟨(some 9), .op (.load none (.t 8)), none⟩,
    ⟨(some 10), .op (.len .sl (.t 9)), none⟩,
    ⟨(some 11), .op (.mov (.c (.int .i64 0))), none⟩])
  (.block 0
    (.loop C20L1)))
  (.seq (.ops [⟨(some 40), .op (.mov (.t 3)), none⟩,
    ⟨(some 2), .op (.mov (.t 40)), none⟩])
  .ret)))), [.tmp 2]⟩
-- slices.EqualFunc[[]swath/api.Func,[]swath/api.Func,swath/api.Func,swath/api.Func]
def C32L0 : IC :=
  (.seq (.ops [⟨(some 18), .op (.bin .lss (.t 17) (.t 16)), none⟩])
  (.seq (.cond (.t 18)
    .skip
    (.exit 0))
  (.seq (.block 1
    (.seq (.ops [⟨(some 19), .op (.mov (.t 17)), none⟩,
      ⟨(some 20), .op (.iaddr (.sl 4) (.t 15) (.t 17)), none⟩,
      ⟨(some 21), .op (.load (some 4) (.t 20)), none⟩,
      ⟨(some 8), .op (.alloc [(.string ⟨#[]⟩), (.int .i64 0), (.int .i64 0), (.slice none 0 0)]), none⟩,
      ⟨(some 7), .op (.mov (.t 19)), none⟩,
      ⟨none, .op (.store 4 (.t 8) (.t 21)), none⟩])
    (.seq (.ops [⟨(some 22), .op (.mov (.t 1)), none⟩,
      ⟨(some 23), .op (.mov (.t 7)), none⟩,
      ⟨(some 24), .op (.iaddr (.sl 4) (.t 22) (.t 23)), none⟩,
      ⟨(some 25), .op (.load (some 4) (.t 24)), none⟩,
      ⟨(some 9), .op (.alloc [(.string ⟨#[]⟩), (.int .i64 0), (.int .i64 0), (.slice none 0 0)]), none⟩,
      ⟨none, .op (.store 4 (.t 9) (.t 25)), none⟩])
    (.seq (.ops [⟨(some 26), .op (.mov (.t 2)), none⟩,
      ⟨(some 27), .op (.load (some 4) (.t 8)), none⟩,
      ⟨(some 28), .op (.load (some 4) (.t 9)), none⟩,
      ⟨(some 29), .callv (.t 26) [(.t 27), (.t 28)], none⟩,
      ⟨(some 30), .op (.un .not (.t 29)), none⟩])
    (.cond (.t 30)
      (.seq (.ops [⟨(some 6), .op (.mov (.c (.bool false))), none⟩])
      .ret)
      .skip)))))
  (.ops [⟨(some 31), .op (.bin .add (.t 17) (.c (.int .i64 1))), none⟩,
    ⟨(some 17), .op (.mov (.t 31)), none⟩]))))
def C32 : IFn := ⟨32, (.seq (.ops [⟨(some 6), .op (.mov (.c (.bool false))), none⟩])
  (.seq (.seq (.ops [⟨(some 10), .op (.mov (.t 0)), none⟩,
    ⟨(some 11), .op (.len .sl (.t 10)), none⟩,
    ⟨(some 12), .op (.mov (.t 1)), none⟩,
    ⟨(some 13), .op (.len .sl (.t 12)), none⟩,
    ⟨(some 14), .op (.bin .neq (.t 11) (.t 13)), none⟩])
  (.cond (.t 14)
    (.seq (.ops [⟨(some 6), .op (.mov (.c (.bool false))), none⟩])
    .ret)
    .skip))
  (.seq (.seq (.ops [⟨(some 15), .op (.mov (.t 0)), none⟩,
    ⟨(some 16), .op (.len .sl (.t 15)), none⟩,
    ⟨(some 17), .op (.mov (.c (.int .i64 0))), none⟩])
  (.block 0
    (.loop C32L0)))
  (.seq (.ops [⟨(some 6), .op (.mov (.c (.bool true))), none⟩])
  .ret)))), [.tmp 6]⟩
-- swath/ir.Same$1
def C33 : IFn := ⟨31, (.seq (.ops [⟨(some 2), .op (.box (.t 0)), none⟩,
    ⟨(some 3), .op (.box (.t 1)), none⟩,
    ⟨(some 4), .op (.mov (.c (.bool false))), none⟩])
  (.seq (.ops [⟨(some 5), .op (.faddr 0 (.t 2)), none⟩,
    ⟨(some 6), .op (.load none (.t 5)), none⟩,
    ⟨(some 7), .op (.faddr 0 (.t 3)), none⟩,
    ⟨(some 8), .op (.load none (.t 7)), none⟩,
    ⟨(some 9), .op (.bin .eql (.t 6) (.t 8)), none⟩,
    ⟨(some 10), .op (.mov (.t 9)), none⟩,
    ⟨(some 11), .op (.faddr 1 (.t 2)), (some (10, true))⟩,
    ⟨(some 12), .op (.load none (.t 11)), (some (10, true))⟩,
    ⟨(some 13), .op (.faddr 1 (.t 3)), (some (10, true))⟩,
    ⟨(some 14), .op (.load none (.t 13)), (some (10, true))⟩,
    ⟨(some 15), .op (.bin .eql (.t 12) (.t 14)), (some (10, true))⟩,
    ⟨(some 16), .op (.pick (.t 10) (.t 15) (.c (.bool false))), none⟩,
    ⟨(some 17), .op (.mov (.t 16)), none⟩,
    ⟨(some 18), .op (.faddr 2 (.t 2)), (some (17, true))⟩,
    ⟨(some 19), .op (.load none (.t 18)), (some (17, true))⟩,
    ⟨(some 20), .op (.faddr 2 (.t 3)), (some (17, true))⟩,
    ⟨(some 21), .op (.load none (.t 20)), (some (17, true))⟩,
    ⟨(some 22), .op (.bin .eql (.t 19) (.t 21)), (some (17, true))⟩,
    ⟨(some 23), .op (.pick (.t 17) (.t 22) (.c (.bool false))), none⟩,
    ⟨(some 24), .op (.mov (.t 23)), none⟩,
    ⟨(some 25), .op (.faddr 3 (.t 2)), (some (24, true))⟩,
    ⟨(some 26), .op (.load none (.t 25)), (some (24, true))⟩,
    ⟨(some 27), .op (.faddr 3 (.t 3)), (some (24, true))⟩,
    ⟨(some 28), .op (.load none (.t 27)), (some (24, true))⟩,
    ⟨(some 29), .call 34 [(.t 26), (.t 28), (.c (.func (.func 35) #[] #[]))], (some (24, true))⟩,
    ⟨(some 30), .op (.pick (.t 24) (.t 29) (.c (.bool false))), none⟩,
    ⟨(some 4), .op (.mov (.t 30)), none⟩])
  .ret)), [.tmp 4]⟩
-- slices.EqualFunc[[]swath/api.Ins,[]swath/api.Ins,swath/api.Ins,swath/api.Ins]
def C34L0 : IC :=
  (.seq (.ops [⟨(some 18), .op (.bin .lss (.t 17) (.t 16)), none⟩])
  (.seq (.cond (.t 18)
    .skip
    (.exit 0))
  (.seq (.block 1
    (.seq (.ops [⟨(some 19), .op (.mov (.t 17)), none⟩,
      ⟨(some 20), .op (.iaddr (.sl 6) (.t 15) (.t 17)), none⟩,
      ⟨(some 21), .op (.load (some 6) (.t 20)), none⟩,
      ⟨(some 8), .op (.alloc [(.int .i64 0), (.int .i64 0), (.int .i64 0), (.int .i64 0), (.int .i64 0), (.slice none 0 0)]), none⟩,
      ⟨(some 7), .op (.mov (.t 19)), none⟩,
      ⟨none, .op (.store 6 (.t 8) (.t 21)), none⟩])
    (.seq (.ops [⟨(some 22), .op (.mov (.t 1)), none⟩,
      ⟨(some 23), .op (.mov (.t 7)), none⟩,
      ⟨(some 24), .op (.iaddr (.sl 6) (.t 22) (.t 23)), none⟩,
      ⟨(some 25), .op (.load (some 6) (.t 24)), none⟩,
      ⟨(some 9), .op (.alloc [(.int .i64 0), (.int .i64 0), (.int .i64 0), (.int .i64 0), (.int .i64 0), (.slice none 0 0)]), none⟩,
      ⟨none, .op (.store 6 (.t 9) (.t 25)), none⟩])
    (.seq (.ops [⟨(some 26), .op (.mov (.t 2)), none⟩,
      ⟨(some 27), .op (.load (some 6) (.t 8)), none⟩,
      ⟨(some 28), .op (.load (some 6) (.t 9)), none⟩,
      ⟨(some 29), .callv (.t 26) [(.t 27), (.t 28)], none⟩,
      ⟨(some 30), .op (.un .not (.t 29)), none⟩])
    (.cond (.t 30)
      (.seq (.ops [⟨(some 6), .op (.mov (.c (.bool false))), none⟩])
      .ret)
      .skip)))))
  (.ops [⟨(some 31), .op (.bin .add (.t 17) (.c (.int .i64 1))), none⟩,
    ⟨(some 17), .op (.mov (.t 31)), none⟩]))))
def C34 : IFn := ⟨32, (.seq (.ops [⟨(some 6), .op (.mov (.c (.bool false))), none⟩])
  (.seq (.seq (.ops [⟨(some 10), .op (.mov (.t 0)), none⟩,
    ⟨(some 11), .op (.len .sl (.t 10)), none⟩,
    ⟨(some 12), .op (.mov (.t 1)), none⟩,
    ⟨(some 13), .op (.len .sl (.t 12)), none⟩,
    ⟨(some 14), .op (.bin .neq (.t 11) (.t 13)), none⟩])
  (.cond (.t 14)
    (.seq (.ops [⟨(some 6), .op (.mov (.c (.bool false))), none⟩])
    .ret)
    .skip))
  (.seq (.seq (.ops [⟨(some 15), .op (.mov (.t 0)), none⟩,
    ⟨(some 16), .op (.len .sl (.t 15)), none⟩,
    ⟨(some 17), .op (.mov (.c (.int .i64 0))), none⟩])
  (.block 0
    (.loop C34L0)))
  (.seq (.ops [⟨(some 6), .op (.mov (.c (.bool true))), none⟩])
  .ret)))), [.tmp 6]⟩
-- swath/ir.Same$1$1
def C35 : IFn := ⟨45, (.seq (.ops [⟨(some 2), .op (.box (.t 0)), none⟩,
    ⟨(some 3), .op (.box (.t 1)), none⟩,
    ⟨(some 4), .op (.mov (.c (.bool false))), none⟩])
  (.seq (.ops [⟨(some 5), .op (.faddr 0 (.t 2)), none⟩,
    ⟨(some 6), .op (.load none (.t 5)), none⟩,
    ⟨(some 7), .op (.faddr 0 (.t 3)), none⟩,
    ⟨(some 8), .op (.load none (.t 7)), none⟩,
    ⟨(some 9), .op (.bin .eql (.t 6) (.t 8)), none⟩,
    ⟨(some 10), .op (.mov (.t 9)), none⟩,
    ⟨(some 11), .op (.faddr 1 (.t 2)), (some (10, true))⟩,
    ⟨(some 12), .op (.load none (.t 11)), (some (10, true))⟩,
    ⟨(some 13), .op (.faddr 1 (.t 3)), (some (10, true))⟩,
    ⟨(some 14), .op (.load none (.t 13)), (some (10, true))⟩,
    ⟨(some 15), .op (.bin .eql (.t 12) (.t 14)), (some (10, true))⟩,
    ⟨(some 16), .op (.pick (.t 10) (.t 15) (.c (.bool false))), none⟩,
    ⟨(some 17), .op (.mov (.t 16)), none⟩,
    ⟨(some 18), .op (.faddr 2 (.t 2)), (some (17, true))⟩,
    ⟨(some 19), .op (.load none (.t 18)), (some (17, true))⟩,
    ⟨(some 20), .op (.faddr 2 (.t 3)), (some (17, true))⟩,
    ⟨(some 21), .op (.load none (.t 20)), (some (17, true))⟩,
    ⟨(some 22), .op (.bin .eql (.t 19) (.t 21)), (some (17, true))⟩,
    ⟨(some 23), .op (.pick (.t 17) (.t 22) (.c (.bool false))), none⟩,
    ⟨(some 24), .op (.mov (.t 23)), none⟩,
    ⟨(some 25), .op (.faddr 3 (.t 2)), (some (24, true))⟩,
    ⟨(some 26), .op (.load none (.t 25)), (some (24, true))⟩,
    ⟨(some 27), .op (.faddr 3 (.t 3)), (some (24, true))⟩,
    ⟨(some 28), .op (.load none (.t 27)), (some (24, true))⟩,
    ⟨(some 29), .op (.bin .eql (.t 26) (.t 28)), (some (24, true))⟩,
    ⟨(some 30), .op (.pick (.t 24) (.t 29) (.c (.bool false))), none⟩,
    ⟨(some 31), .op (.mov (.t 30)), none⟩,
    ⟨(some 32), .op (.faddr 4 (.t 2)), (some (31, true))⟩,
    ⟨(some 33), .op (.load none (.t 32)), (some (31, true))⟩,
    ⟨(some 34), .op (.faddr 4 (.t 3)), (some (31, true))⟩,
    ⟨(some 35), .op (.load none (.t 34)), (some (31, true))⟩,
    ⟨(some 36), .op (.bin .eql (.t 33) (.t 35)), (some (31, true))⟩,
    ⟨(some 37), .op (.pick (.t 31) (.t 36) (.c (.bool false))), none⟩,
    ⟨(some 38), .op (.mov (.t 37)), none⟩,
    ⟨(some 39), .op (.faddr 5 (.t 2)), (some (38, true))⟩,
    ⟨(some 40), .op (.load none (.t 39)), (some (38, true))⟩,
    ⟨(some 41), .op (.faddr 5 (.t 3)), (some (38, true))⟩,
    ⟨(some 42), .op (.load none (.t 41)), (some (38, true))⟩,
    ⟨(some 43), .call 36 [(.t 40), (.t 42)], (some (38, true))⟩,
    ⟨(some 44), .op (.pick (.t 38) (.t 43) (.c (.bool false))), none⟩,
    ⟨(some 4), .op (.mov (.t 44)), none⟩])
  .ret)), [.tmp 4]⟩
-- slices.Equal[[]int,int]
def C36L0 : IC :=
  (.seq (.ops [⟨(some 14), .op (.bin .lss (.t 13) (.t 12)), none⟩])
  (.seq (.cond (.t 14)
    .skip
    (.exit 0))
  (.seq (.block 1
    (.seq (.ops [⟨(some 15), .op (.mov (.t 13)), none⟩,
      ⟨(some 5), .op (.mov (.t 15)), none⟩])
    (.seq (.draw [⟨(some 16), .op (.mov (.t 0)), none⟩,
      ⟨(some 17), .op (.mov (.t 5)), none⟩,
      ⟨(some 18), .op (.iaddr (.sl 1) (.t 16) (.t 17)), none⟩,
      ⟨(some 19), .op (.load none (.t 18)), none⟩,
      ⟨(some 20), .op (.mov (.t 1)), none⟩,
      ⟨(some 21), .op (.mov (.t 5)), none⟩,
      ⟨(some 22), .op (.iaddr (.sl 1) (.t 20) (.t 21)), none⟩,
      ⟨(some 23), .op (.load none (.t 22)), none⟩,
      ⟨(some 24), .op (.bin .neq (.t 19) (.t 23)), none⟩]
      [[], [], [1, 0], [2, 1, 0], [], [], [5, 4], [6, 5, 4], [7, 6, 5, 4, 3, 2, 1, 0]])
    (.cond (.t 24)
      (.seq (.ops [⟨(some 4), .op (.mov (.c (.bool false))), none⟩])
      .ret)
      .skip))))
  (.ops [⟨(some 25), .op (.bin .add (.t 13) (.c (.int .i64 1))), none⟩,
    ⟨(some 13), .op (.mov (.t 25)), none⟩]))))
def C36 : IFn := ⟨26, (.seq (.ops [⟨(some 4), .op (.mov (.c (.bool false))), none⟩])
  (.seq (.seq (.ops [⟨(some 6), .op (.mov (.t 0)), none⟩,
    ⟨(some 7), .op (.len .sl (.t 6)), none⟩,
    ⟨(some 8), .op (.mov (.t 1)), none⟩,
    ⟨(some 9), .op (.len .sl (.t 8)), none⟩,
    ⟨(some 10), .op (.bin .neq (.t 7) (.t 9)), none⟩])
  (.cond (.t 10)
    (.seq (.ops [⟨(some 4), .op (.mov (.c (.bool false))), none⟩])
    .ret)
    .skip))
  (.seq (.seq (.ops [⟨(some 11), .op (.mov (.t 0)), none⟩,
    ⟨(some 12), .op (.len .sl (.t 11)), none⟩,
    ⟨(some 13), .op (.mov (.c (.int .i64 0))), none⟩])
  (.block 0
    (.loop C36L0)))
  (.seq (.ops [⟨(some 4), .op (.mov (.c (.bool true))), none⟩])
  .ret)))), [.tmp 4]⟩
-- swath/swathref10.ints
def C37L0 : IC :=
  (.seq (.ops [⟨(some 14), .op (.bin .lss (.t 13) (.t 12)), none⟩])
  (.seq (.cond (.t 14)
    .skip
    (.exit 0))
  (.seq (.block 1
    (.seq (.ops [⟨(some 15), .op (.mov (.t 13)), none⟩,
      ⟨(some 5), .op (.mov (.t 15)), none⟩])
    (.seq (.draw [⟨(some 16), .op (.mov (.t 0)), none⟩,
      ⟨(some 17), .op (.mov (.t 5)), none⟩,
      ⟨(some 18), .op (.iaddr (.sl 1) (.t 16) (.t 17)), none⟩,
      ⟨(some 19), .op (.load none (.t 18)), none⟩,
      ⟨(some 20), .op (.mov (.t 1)), none⟩,
      ⟨(some 21), .op (.mov (.t 5)), none⟩,
      ⟨(some 22), .op (.iaddr (.sl 1) (.t 20) (.t 21)), none⟩,
      ⟨(some 23), .op (.load none (.t 22)), none⟩,
      ⟨(some 24), .op (.bin .neq (.t 19) (.t 23)), none⟩]
      [[], [], [1, 0], [2, 1, 0], [], [], [5, 4], [6, 5, 4], [7, 6, 5, 4, 3, 2, 1, 0]])
    (.cond (.t 24)
      (.seq (.ops [⟨(some 4), .op (.mov (.c (.bool false))), none⟩])
      .ret)
      .skip))))
  (.ops [⟨(some 25), .op (.bin .add (.t 13) (.c (.int .i64 1))), none⟩,
    ⟨(some 13), .op (.mov (.t 25)), none⟩]))))
def C37 : IFn := ⟨26, (.seq (.ops [⟨(some 4), .op (.mov (.c (.bool false))), none⟩])
  (.seq (.seq (.ops [⟨(some 6), .op (.mov (.t 0)), none⟩,
    ⟨(some 7), .op (.len .sl (.t 6)), none⟩,
    ⟨(some 8), .op (.mov (.t 1)), none⟩,
    ⟨(some 9), .op (.len .sl (.t 8)), none⟩,
    ⟨(some 10), .op (.bin .neq (.t 7) (.t 9)), none⟩])
  (.cond (.t 10)
    (.seq (.ops [⟨(some 4), .op (.mov (.c (.bool false))), none⟩])
    .ret)
    .skip))
  (.seq (.seq (.ops [⟨(some 11), .op (.mov (.t 0)), none⟩,
    ⟨(some 12), .op (.len .sl (.t 11)), none⟩,
    ⟨(some 13), .op (.mov (.c (.int .i64 0))), none⟩])
  (.block 0
    (.loop C37L0)))
  (.seq (.ops [⟨(some 4), .op (.mov (.c (.bool true))), none⟩])
  .ret)))), [.tmp 4]⟩

end Go.Idl
