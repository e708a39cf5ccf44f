/- Functions as ideal code. (Printed by wip/tools/Print.lean) -/
import Derived.Test.YtlphecjgkknpnaaI0b
namespace Go.Idl
-- swath/swathlaw05.TreeSame
def C5L0 : IC :=
  (.seq (.ops [⟨(some 22), .op (.bin .lss (.t 21) (.t 20)), none⟩])
  (.seq (.cond (.t 22)
    .skip
    (.exit 0))
  (.seq (.block 1
    (.seq (.ops [⟨(some 23), .op (.mov (.t 21)), none⟩,
      ⟨(some 6), .op (.mov (.t 23)), none⟩])
    (.ops [⟨(some 24), .op (.mov (.t 5)), none⟩,
      ⟨(some 25), .op (.mov (.t 6)), none⟩,
      ⟨(some 26), .op (.mov (.t 6)), none⟩,
      ⟨(some 27), .op (.iaddr (.sl 4) (.t 24) (.t 25)), none⟩,
      ⟨(some 28), .op (.faddr 3 (.t 27)), none⟩,
      ⟨none, .op (.store 1 (.t 28) (.t 26)), none⟩])))
  (.ops [⟨(some 29), .op (.bin .add (.t 21) (.c (.int .i64 1))), none⟩,
    ⟨(some 21), .op (.mov (.t 29)), none⟩]))))

def C5 : IFn := ⟨51, (.seq (.ops [⟨(some 4), .op (.mov (.c (.bool false))), none⟩])
  (.seq (.seq (.ops [⟨(some 7), .call 9 [], none⟩,
    ⟨(some 8), .op (.un .not (.t 7)), none⟩])
  (.cond (.t 8)
    (.seq (.ops [⟨(some 4), .op (.mov (.c (.bool false))), none⟩])
    .ret)
    .skip))
  (.seq (.seq (.ops [⟨(some 9), .op (.mov (.t 0)), none⟩,
    ⟨(some 10), .call 10 [(.t 9)], none⟩,
    ⟨(some 11), .op (.un .not (.t 10)), none⟩,
    ⟨(some 12), .op (.mov (.t 11)), none⟩,
    ⟨(some 13), .op (.mov (.t 1)), (some (12, false))⟩,
    ⟨(some 14), .call 10 [(.t 13)], (some (12, false))⟩,
    ⟨(some 15), .op (.un .not (.t 14)), (some (12, false))⟩,
    ⟨(some 16), .op (.pick (.t 12) (.c (.bool true)) (.t 15)), none⟩])
  (.cond (.t 16)
    (.seq (.ops [⟨(some 4), .op (.mov (.c (.bool true))), none⟩])
    .ret)
    .skip))
  (.seq (.ops [⟨(some 17), .op (.mov (.t 0)), none⟩,
    ⟨(some 18), .call 15 [(.t 17)], none⟩,
    ⟨(some 5), .op (.mov (.t 18)), none⟩])
  (.seq (.seq (.ops [⟨(some 19), .op (.mov (.t 5)), none⟩,
    ⟨(some 20), .op (.len .sl (.t 19)), none⟩,
    ⟨(some 21), .op (.mov (.c (.int .i64 0))), none⟩])
  (.block 0
    (.loop C5L0)))
  (.seq (.ops [⟨(some 30), .op (.mov (.t 0)), none⟩,
    ⟨(some 31), .op (.mov (.t 1)), none⟩,
    ⟨(some 32), .call 16 [(.t 30), (.t 31)], none⟩,
    ⟨(some 33), .op (.mov (.t 0)), none⟩,
    ⟨(some 34), .op (.mov (.t 1)), none⟩,
    ⟨(some 35), .call 17 [(.t 33), (.t 34)], none⟩,
    ⟨(some 36), .op (.beq false (.t 32) (.t 35)), none⟩,
    ⟨(some 37), .op (.mov (.t 36)), none⟩,
    ⟨(some 38), .op (.mov (.t 1)), (some (37, true))⟩,
    ⟨(some 39), .op (.mov (.t 0)), (some (37, true))⟩,
    ⟨(some 40), .call 16 [(.t 38), (.t 39)], (some (37, true))⟩,
    ⟨(some 41), .op (.mov (.t 0)), (some (37, true))⟩,
    ⟨(some 42), .op (.mov (.t 1)), (some (37, true))⟩,
    ⟨(some 43), .call 16 [(.t 41), (.t 42)], (some (37, true))⟩,
    ⟨(some 44), .op (.beq false (.t 40) (.t 43)), (some (37, true))⟩,
    ⟨(some 45), .op (.pick (.t 37) (.t 44) (.c (.bool false))), none⟩,
    ⟨(some 46), .op (.mov (.t 45)), none⟩,
    ⟨(some 47), .op (.mov (.t 0)), (some (46, true))⟩,
    ⟨(some 48), .op (.mov (.t 5)), (some (46, true))⟩,
    ⟨(some 49), .call 16 [(.t 47), (.t 48)], (some (46, true))⟩,
    ⟨(some 50), .op (.pick (.t 46) (.t 49) (.c (.bool false))), none⟩,
    ⟨(some 4), .op (.mov (.t 50)), none⟩])
  .ret)))))), [.tmp 4]⟩

-- swath/swathref05.Twin
def C15L0 : IC :=
  (.seq (.ops [⟨(some 10), .op (.bin .lss (.t 9) (.t 8)), none⟩])
  (.seq (.cond (.t 10)
    .skip
    (.exit 0))
  (.seq (.block 1
    (.seq (.ops [⟨(some 11), .op (.mov (.t 9)), none⟩,
      ⟨(some 4), .op (.mov (.t 11)), none⟩])
    (.ops [⟨(some 12), .op (.mov (.t 3)), none⟩,
      ⟨(some 13), .op (.mov (.t 4)), none⟩,
      ⟨(some 14), .op (.mov (.t 3)), none⟩,
      ⟨(some 15), .op (.mov (.t 4)), none⟩,
      ⟨(some 16), .op (.iaddr (.sl 4) (.t 14) (.t 15)), none⟩,
      ⟨(some 17), .op (.faddr 2 (.t 16)), none⟩,
      ⟨(some 18), .op (.load none (.t 17)), none⟩,
      ⟨(some 19), .op (.append 1 8 (.c (.slice none 0 0)) (.t 18)), none⟩,
      ⟨(some 20), .op (.iaddr (.sl 4) (.t 12) (.t 13)), none⟩,
      ⟨(some 21), .op (.faddr 2 (.t 20)), none⟩,
      ⟨none, .op (.store 1 (.t 21) (.t 19)), none⟩])))
  (.ops [⟨(some 22), .op (.bin .add (.t 9) (.c (.int .i64 1))), none⟩,
    ⟨(some 9), .op (.mov (.t 22)), none⟩]))))

def C15 : IFn := ⟨24, (.seq (.ops [⟨(some 2), .op (.mov (.c (.slice none 0 0))), none⟩])
  (.seq (.ops [⟨(some 5), .op (.mov (.t 0)), none⟩,
    ⟨(some 6), .op (.append 4 56 (.c (.slice none 0 0)) (.t 5)), none⟩,
    ⟨(some 3), .op (.mov (.t 6)), none⟩])
  (.seq (.seq (.ops [⟨(some 7), .op (.mov (.t 3)), none⟩,
    ⟨(some 8), .op (.len .sl (.t 7)), none⟩,
    ⟨(some 9), .op (.mov (.c (.int .i64 0))), none⟩])
  (.block 0
    (.loop C15L0)))
  (.seq (.ops [⟨(some 23), .op (.mov (.t 3)), none⟩,
    ⟨(some 2), .op (.mov (.t 23)), none⟩])
  .ret)))), [.tmp 2]⟩

-- swath/tree.Same
def C16L0 : IC :=
  (.seq (.ops [⟨(some 51), .op (.bin .lss (.t 50) (.t 49)), none⟩])
  (.seq (.cond (.t 51)
    .skip
    (.exit 2))
  (.seq (.block 3
    (.seq (.ops [⟨(some 52), .op (.mov (.t 50)), none⟩,
      ⟨(some 53), .op (.iaddr (.sl 1) (.t 48) (.t 50)), none⟩,
      ⟨(some 54), .op (.load none (.t 53)), none⟩,
      ⟨(some 8), .op (.mov (.t 52)), none⟩,
      ⟨(some 9), .op (.mov (.t 54)), none⟩])
    (.seq (.ops [⟨(some 55), .op (.faddr 2 (.t 7)), none⟩,
      ⟨(some 56), .op (.load none (.t 55)), none⟩,
      ⟨(some 57), .op (.mov (.t 8)), none⟩,
      ⟨(some 58), .op (.iaddr (.sl 1) (.t 56) (.t 57)), none⟩,
      ⟨(some 59), .op (.load none (.t 58)), none⟩,
      ⟨(some 60), .op (.mov (.t 9)), none⟩,
      ⟨(some 61), .op (.bin .neq (.t 59) (.t 60)), none⟩])
    (.cond (.t 61)
      (.seq (.ops [⟨(some 4), .op (.mov (.c (.bool false))), none⟩])
      .ret)
      .skip))))
  (.ops [⟨(some 62), .op (.bin .add (.t 50) (.c (.int .i64 1))), none⟩,
    ⟨(some 50), .op (.mov (.t 62)), none⟩]))))

def C16L1 : IC :=
  (.seq (.ops [⟨(some 18), .op (.bin .lss (.t 17) (.t 16)), none⟩])
  (.seq (.cond (.t 18)
    .skip
    (.exit 0))
  (.seq (.block 1
    (.seq (.ops [⟨(some 19), .op (.mov (.t 17)), none⟩,
      ⟨(some 20), .op (.iaddr (.sl 4) (.t 15) (.t 17)), none⟩,
      ⟨(some 21), .op (.load (some 4) (.t 20)), none⟩,
      ⟨(some 6), .op (.alloc [(.int .i64 0), (.string ⟨#[]⟩), (.slice none 0 0), (.int .i64 0)]), none⟩,
      ⟨(some 5), .op (.mov (.t 19)), none⟩,
      ⟨none, .op (.store 4 (.t 6) (.t 21)), none⟩])
    (.seq (.ops [⟨(some 22), .op (.mov (.t 1)), none⟩,
      ⟨(some 23), .op (.mov (.t 5)), none⟩,
      ⟨(some 24), .op (.iaddr (.sl 4) (.t 22) (.t 23)), none⟩,
      ⟨(some 25), .op (.load (some 4) (.t 24)), none⟩,
      ⟨(some 7), .op (.alloc [(.int .i64 0), (.string ⟨#[]⟩), (.slice none 0 0), (.int .i64 0)]), none⟩,
      ⟨none, .op (.store 4 (.t 7) (.t 25)), none⟩])
    (.seq (.seq (.ops [⟨(some 26), .op (.faddr 0 (.t 6)), none⟩,
      ⟨(some 27), .op (.load none (.t 26)), none⟩,
      ⟨(some 28), .op (.faddr 0 (.t 7)), none⟩,
      ⟨(some 29), .op (.load none (.t 28)), none⟩,
      ⟨(some 30), .op (.bin .neq (.t 27) (.t 29)), none⟩,
      ⟨(some 31), .op (.mov (.t 30)), none⟩,
      ⟨(some 32), .op (.faddr 1 (.t 6)), (some (31, false))⟩,
      ⟨(some 33), .op (.load none (.t 32)), (some (31, false))⟩,
      ⟨(some 34), .op (.faddr 1 (.t 7)), (some (31, false))⟩,
      ⟨(some 35), .op (.load none (.t 34)), (some (31, false))⟩,
      ⟨(some 36), .op (.bin .neq (.t 33) (.t 35)), (some (31, false))⟩,
      ⟨(some 37), .op (.pick (.t 31) (.c (.bool true)) (.t 36)), none⟩,
      ⟨(some 38), .op (.mov (.t 37)), none⟩,
      ⟨(some 39), .op (.faddr 2 (.t 6)), (some (38, false))⟩,
      ⟨(some 40), .op (.load none (.t 39)), (some (38, false))⟩,
      ⟨(some 41), .op (.len .sl (.t 40)), (some (38, false))⟩,
      ⟨(some 42), .op (.faddr 2 (.t 7)), (some (38, false))⟩,
      ⟨(some 43), .op (.load none (.t 42)), (some (38, false))⟩,
      ⟨(some 44), .op (.len .sl (.t 43)), (some (38, false))⟩,
      ⟨(some 45), .op (.bin .neq (.t 41) (.t 44)), (some (38, false))⟩,
      ⟨(some 46), .op (.pick (.t 38) (.c (.bool true)) (.t 45)), none⟩])
    (.cond (.t 46)
      (.seq (.ops [⟨(some 4), .op (.mov (.c (.bool false))), none⟩])
      .ret)
      .skip))
    (.seq (.ops [⟨(some 47), .op (.faddr 2 (.t 6)), none⟩,
      ⟨(some 48), .op (.load none (.t 47)), none⟩,
      ⟨(some 49), .op (.len .sl (.t 48)), none⟩,
      ⟨(some 50), .op (.mov (.c (.int .i64 0))), none⟩])
    (.block 2
      (.loop C16L0)))))))
  (.ops [⟨(some 63), .op (.bin .add (.t 17) (.c (.int .i64 1))), none⟩,
    ⟨(some 17), .op (.mov (.t 63)), none⟩]))))

def C16 : IFn := ⟨64, (.seq (.ops [⟨(some 4), .op (.mov (.c (.bool false))), none⟩])
  (.seq (.seq (.ops [⟨(some 10), .op (.mov (.t 0)), none⟩,
    ⟨(some 11), .op (.len .sl (.t 10)), none⟩,
    ⟨(some 12), .op (.mov (.t 1)), none⟩,
    ⟨(some 13), .op (.len .sl (.t 12)), none⟩,
    ⟨(some 14), .op (.bin .neq (.t 11) (.t 13)), none⟩])
  (.cond (.t 14)
    (.seq (.ops [⟨(some 4), .op (.mov (.c (.bool false))), none⟩])
    .ret)
    .skip))
  (.seq (.seq (.ops [⟨(some 15), .op (.mov (.t 0)), none⟩,
    ⟨(some 16), .op (.len .sl (.t 15)), none⟩,
    ⟨(some 17), .op (.mov (.c (.int .i64 0))), none⟩])
  (.block 0
    (.loop C16L1)))
  (.seq (.ops [⟨(some 4), .op (.mov (.c (.bool true))), none⟩])
  .ret)))), [.tmp 4]⟩

-- swath/swathref05.Same
def C17L0 : IC :=
  (.seq (.ops [⟨(some 52), .op (.bin .lss (.t 51) (.t 50)), none⟩])
  (.seq (.cond (.t 52)
    .skip
    (.exit 2))
  (.seq (.block 3
    (.seq (.ops [⟨(some 53), .op (.mov (.t 51)), none⟩,
      ⟨(some 8), .op (.mov (.t 53)), none⟩])
    (.seq (.draw [⟨(some 54), .op (.faddr 2 (.t 6)), none⟩,
      ⟨(some 55), .op (.load none (.t 54)), none⟩,
      ⟨(some 56), .op (.mov (.t 8)), none⟩,
      ⟨(some 57), .op (.iaddr (.sl 1) (.t 55) (.t 56)), none⟩,
      ⟨(some 58), .op (.load none (.t 57)), none⟩,
      ⟨(some 59), .op (.faddr 2 (.t 7)), none⟩,
      ⟨(some 60), .op (.load none (.t 59)), none⟩,
      ⟨(some 61), .op (.mov (.t 8)), none⟩,
      ⟨(some 62), .op (.iaddr (.sl 1) (.t 60) (.t 61)), none⟩,
      ⟨(some 63), .op (.load none (.t 62)), none⟩,
      ⟨(some 64), .op (.bin .neq (.t 58) (.t 63)), none⟩]
      [[], [0], [], [2, 1, 0], [3, 2, 1, 0], [], [5], [], [7, 6, 5], [8, 7, 6, 5], [9, 8, 7, 6, 5, 4, 3, 2, 1, 0]])
    (.cond (.t 64)
      (.seq (.ops [⟨(some 4), .op (.mov (.c (.bool false))), none⟩])
      .ret)
      .skip))))
  (.ops [⟨(some 65), .op (.bin .add (.t 51) (.c (.int .i64 1))), none⟩,
    ⟨(some 51), .op (.mov (.t 65)), none⟩]))))

def C17L1 : IC :=
  (.seq (.ops [⟨(some 17), .op (.bin .lss (.t 16) (.t 15)), none⟩])
  (.seq (.cond (.t 17)
    .skip
    (.exit 0))
  (.seq (.block 1
    (.seq (.ops [⟨(some 18), .op (.mov (.t 16)), none⟩,
      ⟨(some 5), .op (.mov (.t 18)), none⟩])
    (.seq (.draw [⟨(some 19), .op (.mov (.t 0)), none⟩,
      ⟨(some 20), .op (.mov (.t 5)), none⟩,
      ⟨(some 21), .op (.iaddr (.sl 4) (.t 19) (.t 20)), none⟩,
      ⟨(some 22), .op (.load (some 4) (.t 21)), none⟩,
      ⟨(some 23), .op (.mov (.t 1)), none⟩,
      ⟨(some 24), .op (.mov (.t 5)), none⟩,
      ⟨(some 25), .op (.iaddr (.sl 4) (.t 23) (.t 24)), none⟩,
      ⟨(some 26), .op (.load (some 4) (.t 25)), none⟩,
      ⟨(some 6), .op (.alloc [(.int .i64 0), (.string ⟨#[]⟩), (.slice none 0 0), (.int .i64 0)]), none⟩,
      ⟨(some 7), .op (.alloc [(.int .i64 0), (.string ⟨#[]⟩), (.slice none 0 0), (.int .i64 0)]), none⟩,
      ⟨none, .op (.store 4 (.t 6) (.t 22)), none⟩,
      ⟨none, .op (.store 4 (.t 7) (.t 26)), none⟩]
      [[], [], [1, 0], [2, 1, 0], [], [], [5, 4], [6, 5, 4], [], [], [9, 8, 3, 2, 1, 0], [10, 9, 8, 3, 2, 1, 0, 7, 6, 5, 4]])
    (.seq (.seq (.ops [⟨(some 27), .op (.faddr 0 (.t 6)), none⟩,
      ⟨(some 28), .op (.load none (.t 27)), none⟩,
      ⟨(some 29), .op (.faddr 0 (.t 7)), none⟩,
      ⟨(some 30), .op (.load none (.t 29)), none⟩,
      ⟨(some 31), .op (.bin .neq (.t 28) (.t 30)), none⟩,
      ⟨(some 32), .op (.mov (.t 31)), none⟩,
      ⟨(some 33), .op (.faddr 1 (.t 6)), (some (32, false))⟩,
      ⟨(some 34), .op (.load none (.t 33)), (some (32, false))⟩,
      ⟨(some 35), .op (.faddr 1 (.t 7)), (some (32, false))⟩,
      ⟨(some 36), .op (.load none (.t 35)), (some (32, false))⟩,
      ⟨(some 37), .op (.bin .neq (.t 34) (.t 36)), (some (32, false))⟩,
      ⟨(some 38), .op (.pick (.t 32) (.c (.bool true)) (.t 37)), none⟩,
      ⟨(some 39), .op (.mov (.t 38)), none⟩,
      ⟨(some 40), .op (.faddr 2 (.t 6)), (some (39, false))⟩,
      ⟨(some 41), .op (.load none (.t 40)), (some (39, false))⟩,
      ⟨(some 42), .op (.len .sl (.t 41)), (some (39, false))⟩,
      ⟨(some 43), .op (.faddr 2 (.t 7)), (some (39, false))⟩,
      ⟨(some 44), .op (.load none (.t 43)), (some (39, false))⟩,
      ⟨(some 45), .op (.len .sl (.t 44)), (some (39, false))⟩,
      ⟨(some 46), .op (.bin .neq (.t 42) (.t 45)), (some (39, false))⟩,
      ⟨(some 47), .op (.pick (.t 39) (.c (.bool true)) (.t 46)), none⟩])
    (.cond (.t 47)
      (.seq (.ops [⟨(some 4), .op (.mov (.c (.bool false))), none⟩])
      .ret)
      .skip))
    (.seq (.ops [⟨(some 48), .op (.faddr 2 (.t 6)), none⟩,
      ⟨(some 49), .op (.load none (.t 48)), none⟩,
      ⟨(some 50), .op (.len .sl (.t 49)), none⟩,
      ⟨(some 51), .op (.mov (.c (.int .i64 0))), none⟩])
    (.block 2
      (.loop C17L0)))))))
  (.ops [⟨(some 66), .op (.bin .add (.t 16) (.c (.int .i64 1))), none⟩,
    ⟨(some 16), .op (.mov (.t 66)), none⟩]))))

def C17 : IFn := ⟨67, (.seq (.ops [⟨(some 4), .op (.mov (.c (.bool false))), none⟩])
  (.seq (.seq (.ops [⟨(some 9), .op (.mov (.t 0)), none⟩,
    ⟨(some 10), .op (.len .sl (.t 9)), none⟩,
    ⟨(some 11), .op (.mov (.t 1)), none⟩,
    ⟨(some 12), .op (.len .sl (.t 11)), none⟩,
    ⟨(some 13), .op (.bin .neq (.t 10) (.t 12)), none⟩])
  (.cond (.t 13)
    (.seq (.ops [⟨(some 4), .op (.mov (.c (.bool false))), none⟩])
    .ret)
    .skip))
  (.seq (.seq (.ops [⟨(some 14), .op (.mov (.t 0)), none⟩,
    ⟨(some 15), .op (.len .sl (.t 14)), none⟩,
    ⟨(some 16), .op (.mov (.c (.int .i64 0))), none⟩])
  (.block 0
    (.loop C17L1)))
  (.seq (.ops [⟨(some 4), .op (.mov (.c (.bool true))), none⟩])
  .ret)))), [.tmp 4]⟩

end Go.Idl
