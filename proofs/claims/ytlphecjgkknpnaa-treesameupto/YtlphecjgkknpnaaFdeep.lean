/- Functions as ideal code. (Printed by wip/tools/Print.lean) -/
import Derived.Test.YtlphecjgkknpnaaI0b
namespace Go.Idl
-- swath/swathlaw05.TreeDeep
def C4 : IFn := ⟨15, (.seq (.ops [⟨(some 2), .op (.mov (.c (.bool false))), none⟩])
  (.seq (.seq (.ops [⟨(some 3), .call 9 [], none⟩,
    ⟨(some 4), .op (.un .not (.t 3)), none⟩])
  (.cond (.t 4)
    (.seq (.ops [⟨(some 2), .op (.mov (.c (.bool false))), none⟩])
    .ret)
    .skip))
  (.seq (.ops [⟨(some 5), .op (.mov (.t 0)), none⟩,
    ⟨(some 6), .call 10 [(.t 5)], none⟩,
    ⟨(some 7), .op (.un .not (.t 6)), none⟩,
    ⟨(some 8), .op (.mov (.t 7)), none⟩,
    ⟨(some 9), .op (.mov (.t 0)), (some (8, false))⟩,
    ⟨(some 10), .call 13 [(.t 9)], (some (8, false))⟩,
    ⟨(some 11), .op (.mov (.t 0)), (some (8, false))⟩,
    ⟨(some 12), .call 14 [(.t 11)], (some (8, false))⟩,
    ⟨(some 13), .op (.bin .eql (.t 10) (.t 12)), (some (8, false))⟩,
    ⟨(some 14), .op (.pick (.t 8) (.c (.bool true)) (.t 13)), none⟩,
    ⟨(some 2), .op (.mov (.t 14)), none⟩])
  .ret))), [.tmp 2]⟩

-- swath/swathlaw05.few
def C10L0 : IC :=
  (.seq (.ops [⟨(some 11), .op (.bin .lss (.t 10) (.t 9)), none⟩])
  (.seq (.cond (.t 11)
    .skip
    (.exit 0))
  (.seq (.block 1
    (.seq (.ops [⟨(some 12), .op (.iaddr (.sl 4) (.t 8) (.t 10)), none⟩,
      ⟨(some 13), .op (.load (some 4) (.t 12)), none⟩,
      ⟨(some 5), .op (.alloc [(.int .i64 0), (.string ⟨#[]⟩), (.slice none 0 0), (.int .i64 0)]), none⟩,
      ⟨none, .op (.store 4 (.t 5) (.t 13)), none⟩])
    (.ops [⟨(some 14), .op (.mov (.t 3)), none⟩,
      ⟨(some 15), .op (.faddr 2 (.t 5)), none⟩,
      ⟨(some 16), .op (.load none (.t 15)), none⟩,
      ⟨(some 17), .op (.len .sl (.t 16)), none⟩,
      ⟨(some 18), .op (.faddr 1 (.t 5)), none⟩,
      ⟨(some 19), .op (.load none (.t 18)), none⟩,
      ⟨(some 20), .op (.len .str (.t 19)), none⟩,
      ⟨(some 21), .op (.bin .quo (.t 20) (.c (.int .i64 20))), none⟩,
      ⟨(some 22), .op (.bin .add (.t 17) (.t 21)), none⟩,
      ⟨(some 23), .op (.bin .add (.t 14) (.t 22)), none⟩,
      ⟨(some 3), .op (.mov (.t 23)), none⟩])))
  (.ops [⟨(some 24), .op (.bin .add (.t 10) (.c (.int .i64 1))), none⟩,
    ⟨(some 10), .op (.mov (.t 24)), none⟩]))))

def C10 : IFn := ⟨27, (.seq (.ops [⟨(some 2), .op (.mov (.c (.bool false))), none⟩])
  (.seq (.ops [⟨(some 6), .op (.mov (.t 0)), none⟩,
    ⟨(some 7), .op (.len .sl (.t 6)), none⟩,
    ⟨(some 3), .op (.mov (.t 7)), none⟩])
  (.seq (.seq (.ops [⟨(some 8), .op (.mov (.t 0)), none⟩,
    ⟨(some 9), .op (.len .sl (.t 8)), none⟩,
    ⟨(some 10), .op (.mov (.c (.int .i64 0))), none⟩])
  (.block 0
    (.loop C10L0)))
  (.seq (.ops [⟨(some 25), .op (.mov (.t 3)), none⟩,
    ⟨(some 26), .op (.bin .leq (.t 25) (.c (.int .i64 3000))), none⟩,
    ⟨(some 2), .op (.mov (.t 26)), none⟩])
  .ret)))), [.tmp 2]⟩

-- swath/tree.Deep
def C13L0 : IC :=
  (.seq (.ops [⟨(some 23), .op (.bin .lss (.t 22) (.t 21)), none⟩])
  (.seq (.cond (.t 23)
    .skip
    (.exit 2))
  (.seq (.block 3
    (.seq (.ops [⟨(some 24), .op (.iaddr (.sl 1) (.t 20) (.t 22)), none⟩,
      ⟨(some 25), .op (.load none (.t 24)), none⟩,
      ⟨(some 7), .op (.mov (.t 25)), none⟩])
    (.seq (.draw [⟨(some 26), .op (.mov (.t 7)), none⟩,
      ⟨(some 27), .op (.bin .geq (.t 26) (.c (.int .i64 0))), none⟩,
      ⟨(some 28), .op (.mov (.t 27)), none⟩,
      ⟨(some 29), .op (.mov (.t 7)), (some (28, true))⟩,
      ⟨(some 30), .op (.mov (.t 4)), (some (28, true))⟩,
      ⟨(some 31), .op (.bin .lss (.t 29) (.t 30)), (some (28, true))⟩,
      ⟨(some 32), .op (.pick (.t 28) (.t 31) (.c (.bool false))), none⟩,
      ⟨(some 33), .op (.mov (.t 32)), none⟩,
      ⟨(some 34), .op (.mov (.t 3)), (some (33, true))⟩,
      ⟨(some 35), .op (.mov (.t 7)), (some (33, true))⟩,
      ⟨(some 36), .op (.iaddr (.sl 1) (.t 34) (.t 35)), (some (33, true))⟩,
      ⟨(some 37), .op (.load none (.t 36)), (some (33, true))⟩,
      ⟨(some 38), .op (.mov (.t 3)), (some (33, true))⟩,
      ⟨(some 39), .op (.mov (.t 4)), (some (33, true))⟩,
      ⟨(some 40), .op (.iaddr (.sl 1) (.t 38) (.t 39)), (some (33, true))⟩,
      ⟨(some 41), .op (.load none (.t 40)), (some (33, true))⟩,
      ⟨(some 42), .op (.bin .gtr (.t 37) (.t 41)), (some (33, true))⟩,
      ⟨(some 43), .op (.pick (.t 33) (.t 42) (.c (.bool false))), none⟩]
      [[], [0], [1, 0], [2, 1, 0], [2, 1, 0], [2, 1, 0, 4, 3], [5, 2, 1, 0, 4, 3], [2, 1, 0, 6, 5, 4, 3], [7, 2, 1, 0, 6, 5, 4, 3], [7, 2, 1, 0, 6, 5, 4, 3], [7, 2, 1, 0, 6, 5, 4, 3, 9, 8], [7, 2, 1, 0, 6, 5, 4, 3, 10, 9, 8], [7, 2, 1, 0, 6, 5, 4, 3], [7, 2, 1, 0, 6, 5, 4, 3], [7, 2, 1, 0, 6, 5, 4, 3, 13, 12], [7, 2, 1, 0, 6, 5, 4, 3, 14, 13, 12], [7, 2, 1, 0, 6, 5, 4, 3, 15, 14, 13, 12, 11, 10, 9, 8], [16, 7, 2, 1, 0, 6, 5, 4, 3, 15, 14, 13, 12, 11, 10, 9, 8]])
    (.cond (.t 43)
      (.ops [⟨(some 44), .op (.mov (.t 3)), none⟩,
        ⟨(some 45), .op (.mov (.t 4)), none⟩,
        ⟨(some 46), .op (.mov (.t 3)), none⟩,
        ⟨(some 47), .op (.mov (.t 7)), none⟩,
        ⟨(some 48), .op (.iaddr (.sl 1) (.t 46) (.t 47)), none⟩,
        ⟨(some 49), .op (.load none (.t 48)), none⟩,
        ⟨(some 50), .op (.iaddr (.sl 1) (.t 44) (.t 45)), none⟩,
        ⟨none, .op (.store 1 (.t 50) (.t 49)), none⟩])
      .skip))))
  (.ops [⟨(some 51), .op (.bin .add (.t 22) (.c (.int .i64 1))), none⟩,
    ⟨(some 22), .op (.mov (.t 51)), none⟩]))))

def C13L1 : IC :=
  (.seq (.ops [⟨(some 15), .op (.bin .lss (.t 14) (.t 13)), none⟩])
  (.seq (.cond (.t 15)
    .skip
    (.exit 0))
  (.seq (.block 1
    (.seq (.ops [⟨(some 16), .op (.mov (.t 14)), none⟩,
      ⟨(some 17), .op (.iaddr (.sl 4) (.t 12) (.t 14)), none⟩,
      ⟨(some 18), .op (.load (some 4) (.t 17)), none⟩,
      ⟨(some 5), .op (.alloc [(.int .i64 0), (.string ⟨#[]⟩), (.slice none 0 0), (.int .i64 0)]), none⟩,
      ⟨(some 4), .op (.mov (.t 16)), none⟩,
      ⟨none, .op (.store 4 (.t 5) (.t 18)), none⟩])
    (.seq (.seq (.ops [⟨(some 19), .op (.faddr 2 (.t 5)), none⟩,
      ⟨(some 20), .op (.load none (.t 19)), none⟩,
      ⟨(some 21), .op (.len .sl (.t 20)), none⟩,
      ⟨(some 22), .op (.mov (.c (.int .i64 0))), none⟩])
    (.block 2
      (.loop C13L0)))
    (.ops [⟨(some 52), .op (.mov (.t 3)), none⟩,
      ⟨(some 53), .op (.mov (.t 4)), none⟩,
      ⟨(some 54), .op (.iaddr (.sl 1) (.t 52) (.t 53)), none⟩,
      ⟨(some 55), .op (.load none (.t 54)), none⟩,
      ⟨(some 56), .op (.bin .add (.t 55) (.c (.int .i64 1))), none⟩,
      ⟨(some 57), .op (.iaddr (.sl 1) (.t 52) (.t 53)), none⟩,
      ⟨none, .op (.store 1 (.t 57) (.t 56)), none⟩]))))
  (.ops [⟨(some 58), .op (.bin .add (.t 14) (.c (.int .i64 1))), none⟩,
    ⟨(some 14), .op (.mov (.t 58)), none⟩]))))

def C13 : IFn := ⟨66, (.seq (.ops [⟨(some 2), .op (.mov (.c (.int .i64 0))), none⟩])
  (.seq (.ops [⟨(some 8), .op (.mov (.t 0)), none⟩,
    ⟨(some 9), .op (.len .sl (.t 8)), none⟩,
    ⟨(some 10), .op (.bin .add (.t 9) (.c (.int .i64 1))), none⟩,
    ⟨(some 11), .op (.mkslice 1 8 [(.int .i64 0)] (.t 10) (.t 10)), none⟩,
    ⟨(some 3), .op (.mov (.t 11)), none⟩])
  (.seq (.seq (.ops [⟨(some 12), .op (.mov (.t 0)), none⟩,
    ⟨(some 13), .op (.len .sl (.t 12)), none⟩,
    ⟨(some 14), .op (.mov (.c (.int .i64 0))), none⟩])
  (.block 0
    (.loop C13L1)))
  (.seq (.ops [⟨(some 59), .op (.mov (.t 3)), none⟩,
    ⟨(some 60), .op (.mov (.t 0)), none⟩,
    ⟨(some 61), .op (.len .sl (.t 60)), none⟩,
    ⟨(some 62), .op (.bin .sub (.t 61) (.c (.int .i64 1))), none⟩,
    ⟨(some 63), .op (.minmax true (.t 62) (.c (.int .i64 0))), none⟩,
    ⟨(some 64), .op (.iaddr (.sl 1) (.t 59) (.t 63)), none⟩,
    ⟨(some 65), .op (.load none (.t 64)), none⟩,
    ⟨(some 2), .op (.mov (.t 65)), none⟩])
  .ret)))), [.tmp 2]⟩

-- swath/swathref05.Deep
def C14L0 : IC :=
  (.seq (.ops [⟨(some 25), .op (.bin .lss (.t 24) (.t 23)), none⟩])
  (.seq (.cond (.t 25)
    .skip
    (.exit 2))
  (.seq (.block 3
    (.seq (.ops [⟨(some 26), .op (.iaddr (.sl 1) (.t 22) (.t 24)), none⟩,
      ⟨(some 27), .op (.load none (.t 26)), none⟩,
      ⟨(some 7), .op (.mov (.t 27)), none⟩])
    (.seq (.ops [⟨(some 28), .op (.mov (.t 7)), none⟩,
      ⟨(some 29), .op (.bin .geq (.t 28) (.c (.int .i64 0))), none⟩,
      ⟨(some 30), .op (.mov (.t 29)), none⟩,
      ⟨(some 31), .op (.mov (.t 7)), (some (30, true))⟩,
      ⟨(some 32), .op (.mov (.t 4)), (some (30, true))⟩,
      ⟨(some 33), .op (.bin .lss (.t 31) (.t 32)), (some (30, true))⟩,
      ⟨(some 34), .op (.pick (.t 30) (.t 33) (.c (.bool false))), none⟩])
    (.cond (.t 34)
      (.draw [⟨(some 35), .op (.mov (.t 3)), none⟩,
        ⟨(some 36), .op (.mov (.t 4)), none⟩,
        ⟨(some 37), .op (.mov (.t 3)), none⟩,
        ⟨(some 38), .op (.mov (.t 4)), none⟩,
        ⟨(some 39), .op (.iaddr (.sl 1) (.t 37) (.t 38)), none⟩,
        ⟨(some 40), .op (.load none (.t 39)), none⟩,
        ⟨(some 41), .op (.mov (.t 3)), none⟩,
        ⟨(some 42), .op (.mov (.t 7)), none⟩,
        ⟨(some 43), .op (.iaddr (.sl 1) (.t 41) (.t 42)), none⟩,
        ⟨(some 44), .op (.load none (.t 43)), none⟩,
        ⟨(some 45), .op (.bin .add (.t 44) (.c (.int .i64 1))), none⟩,
        ⟨(some 46), .op (.minmax true (.t 40) (.t 45)), none⟩,
        ⟨(some 47), .op (.iaddr (.sl 1) (.t 35) (.t 36)), none⟩,
        ⟨none, .op (.store 1 (.t 47) (.t 46)), none⟩]
        [[], [], [], [], [3, 2], [4, 3, 2], [], [], [7, 6], [8, 7, 6], [9, 8, 7, 6], [10, 9, 8, 7, 6, 5, 4, 3, 2], [11, 10, 9, 8, 7, 6, 5, 4, 3, 2, 1, 0], [11, 10, 9, 8, 7, 6, 5, 4, 3, 2, 1, 0, 12]])
      .skip))))
  (.ops [⟨(some 48), .op (.bin .add (.t 24) (.c (.int .i64 1))), none⟩,
    ⟨(some 24), .op (.mov (.t 48)), none⟩]))))

def C14L1 : IC :=
  (.seq (.ops [⟨(some 14), .op (.bin .lss (.t 13) (.t 12)), none⟩])
  (.seq (.cond (.t 14)
    .skip
    (.exit 0))
  (.seq (.block 1
    (.seq (.ops [⟨(some 15), .op (.mov (.t 13)), none⟩,
      ⟨(some 16), .op (.iaddr (.sl 4) (.t 11) (.t 13)), none⟩,
      ⟨(some 17), .op (.load (some 4) (.t 16)), none⟩,
      ⟨(some 5), .op (.alloc [(.int .i64 0), (.string ⟨#[]⟩), (.slice none 0 0), (.int .i64 0)]), none⟩,
      ⟨(some 4), .op (.mov (.t 15)), none⟩,
      ⟨none, .op (.store 4 (.t 5) (.t 17)), none⟩])
    (.seq (.ops [⟨(some 18), .op (.mov (.t 3)), none⟩,
      ⟨(some 19), .op (.mov (.t 4)), none⟩,
      ⟨(some 20), .op (.iaddr (.sl 1) (.t 18) (.t 19)), none⟩,
      ⟨none, .op (.store 1 (.t 20) (.c (.int .i64 1))), none⟩])
    (.seq (.ops [⟨(some 21), .op (.faddr 2 (.t 5)), none⟩,
      ⟨(some 22), .op (.load none (.t 21)), none⟩,
      ⟨(some 23), .op (.len .sl (.t 22)), none⟩,
      ⟨(some 24), .op (.mov (.c (.int .i64 0))), none⟩])
    (.block 2
      (.loop C14L0))))))
  (.ops [⟨(some 49), .op (.bin .add (.t 13) (.c (.int .i64 1))), none⟩,
    ⟨(some 13), .op (.mov (.t 49)), none⟩]))))

def C14 : IFn := ⟨59, (.seq (.ops [⟨(some 2), .op (.mov (.c (.int .i64 0))), none⟩])
  (.seq (.ops [⟨(some 8), .op (.mov (.t 0)), none⟩,
    ⟨(some 9), .op (.len .sl (.t 8)), none⟩,
    ⟨(some 10), .op (.mkslice 1 8 [(.int .i64 0)] (.t 9) (.t 9)), none⟩,
    ⟨(some 3), .op (.mov (.t 10)), none⟩])
  (.seq (.seq (.ops [⟨(some 11), .op (.mov (.t 0)), none⟩,
    ⟨(some 12), .op (.len .sl (.t 11)), none⟩,
    ⟨(some 13), .op (.mov (.c (.int .i64 0))), none⟩])
  (.block 0
    (.loop C14L1)))
  (.seq (.seq (.ops [⟨(some 50), .op (.mov (.t 0)), none⟩,
    ⟨(some 51), .op (.len .sl (.t 50)), none⟩,
    ⟨(some 52), .op (.bin .eql (.t 51) (.c (.int .i64 0))), none⟩])
  (.cond (.t 52)
    (.seq (.ops [⟨(some 2), .op (.mov (.c (.int .i64 0))), none⟩])
    .ret)
    .skip))
  (.seq (.ops [⟨(some 53), .op (.mov (.t 3)), none⟩,
    ⟨(some 54), .op (.mov (.t 0)), none⟩,
    ⟨(some 55), .op (.len .sl (.t 54)), none⟩,
    ⟨(some 56), .op (.bin .sub (.t 55) (.c (.int .i64 1))), none⟩,
    ⟨(some 57), .op (.iaddr (.sl 1) (.t 53) (.t 56)), none⟩,
    ⟨(some 58), .op (.load none (.t 57)), none⟩,
    ⟨(some 2), .op (.mov (.t 58)), none⟩])
  .ret))))), [.tmp 2]⟩

end Go.Idl
