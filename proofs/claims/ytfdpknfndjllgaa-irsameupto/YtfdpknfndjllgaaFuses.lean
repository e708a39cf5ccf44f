/- Functions as ideal code. (Printed by wip/tools/Print.lean) -/
import Derived.Test.YtfdpknfndjllgaaI0b
namespace Go.Idl
-- swath/swathlaw10.IrUses
def C4 : IFn := ⟨21, (.seq (.ops [⟨(some 1), .op (.box (.t 0)), none⟩,
    ⟨(some 2), .op (.mov (.c (.bool false))), none⟩])
  (.seq (.seq (.ops [⟨(some 3), .call 7 [], none⟩,
    ⟨(some 4), .op (.un .not (.t 3)), none⟩])
  (.cond (.t 4)
    (.seq (.ops [⟨(some 2), .op (.mov (.c (.bool false))), none⟩])
    .ret)
    .skip))
  (.seq (.seq (.ops [⟨(some 5), .op (.faddr 5 (.t 1)), none⟩,
    ⟨(some 6), .op (.load none (.t 5)), none⟩,
    ⟨(some 7), .op (.len .sl (.t 6)), none⟩,
    ⟨(some 8), .op (.bin .gtr (.t 7) (.c (.int .i64 100))), none⟩])
  (.cond (.t 8)
    (.seq (.ops [⟨(some 2), .op (.mov (.c (.bool true))), none⟩])
    .ret)
    .skip))
  (.seq (.draw [⟨(some 9), .op (.load (some 6) (.t 1)), none⟩,
    ⟨(some 10), .call 12 [(.t 9)], none⟩,
    ⟨(some 11), .op (.load (some 6) (.t 1)), none⟩,
    ⟨(some 12), .call 13 [(.t 11)], none⟩,
    ⟨(some 13), .call 11 [(.t 10), (.t 12)], none⟩,
    ⟨(some 14), .op (.mov (.t 13)), none⟩,
    ⟨(some 15), .op (.load (some 6) (.t 1)), (some (14, true))⟩,
    ⟨(some 16), .call 14 [(.t 15)], (some (14, true))⟩,
    ⟨(some 17), .op (.load (some 6) (.t 1)), (some (14, true))⟩,
    ⟨(some 18), .call 15 [(.t 17)], (some (14, true))⟩,
    ⟨(some 19), .op (.bin .eql (.t 16) (.t 18)), (some (14, true))⟩,
    ⟨(some 20), .op (.pick (.t 14) (.t 19) (.c (.bool false))), none⟩,
    ⟨(some 2), .op (.mov (.t 20)), none⟩]
    [[], [0], [], [1, 0, 2], [3, 1, 0, 2], [4, 3, 1, 0, 2], [5, 4, 3, 1, 0, 2], [5, 4, 3, 1, 0, 2, 6], [5, 4, 3, 1, 0, 2], [5, 4, 3, 1, 0, 2, 7, 6, 8], [5, 4, 3, 1, 0, 2, 9, 7, 6, 8], [10, 5, 4, 3, 1, 0, 2, 9, 7, 6, 8], [11, 10, 5, 4, 3, 1, 0, 2, 9, 7, 6, 8]])
  .ret)))), [.tmp 2]⟩
-- swath/swathlaw10.ints
def C11L0 : IC :=
  (.seq (.ops [⟨(some 14), .op (.bin .lss (.t 13) (.t 12)), none⟩])
  (.seq (.cond (.t 14)
    .skip
    (.exit 0))
  (.seq (.block 1
    (.seq (.ops [⟨(some 15), .op (.mov (.t 13)), none⟩,
      ⟨(some 5), .op (.mov (.t 15)), none⟩])
    (.seq (.draw [⟨(some 16), .op (.mov (.t 0)), none⟩,
      ⟨(some 17), .op (.mov (.t 5)), none⟩,
      ⟨(some 18), .op (.iaddr (.sl 1) (.t 16) (.t 17)), none⟩,
      ⟨(some 19), .op (.load none (.t 18)), none⟩,
      ⟨(some 20), .op (.mov (.t 1)), none⟩,
      ⟨(some 21), .op (.mov (.t 5)), none⟩,
      ⟨(some 22), .op (.iaddr (.sl 1) (.t 20) (.t 21)), none⟩,
      ⟨(some 23), .op (.load none (.t 22)), none⟩,
      ⟨(some 24), .op (.bin .neq (.t 19) (.t 23)), none⟩]
      [[], [], [1, 0], [2, 1, 0], [], [], [5, 4], [6, 5, 4], [7, 6, 5, 4, 3, 2, 1, 0]])
    (.cond (.t 24)
      (.seq (.ops [⟨(some 4), .op (.mov (.c (.bool false))), none⟩])
      .ret)
      .skip))))
  (.ops [⟨(some 25), .op (.bin .add (.t 13) (.c (.int .i64 1))), none⟩,
    ⟨(some 13), .op (.mov (.t 25)), none⟩]))))
def C11 : IFn := ⟨26, (.seq (.ops [⟨(some 4), .op (.mov (.c (.bool false))), none⟩])
  (.seq (.seq (.ops [⟨(some 6), .op (.mov (.t 0)), none⟩,
    ⟨(some 7), .op (.len .sl (.t 6)), none⟩,
    ⟨(some 8), .op (.mov (.t 1)), none⟩,
    ⟨(some 9), .op (.len .sl (.t 8)), none⟩,
    ⟨(some 10), .op (.bin .neq (.t 7) (.t 9)), none⟩])
  (.cond (.t 10)
    (.seq (.ops [⟨(some 4), .op (.mov (.c (.bool false))), none⟩])
    .ret)
    .skip))
  (.seq (.seq (.ops [⟨(some 11), .op (.mov (.t 0)), none⟩,
    ⟨(some 12), .op (.len .sl (.t 11)), none⟩,
    ⟨(some 13), .op (.mov (.c (.int .i64 0))), none⟩])
  (.block 0
    (.loop C11L0)))
  (.seq (.ops [⟨(some 4), .op (.mov (.c (.bool true))), none⟩])
  .ret)))), [.tmp 4]⟩
-- swath/ir.Reads
def C12L0 : IC :=
  (.seq (.ops [⟨(some 11), .op (.next (.t 10)), none⟩,
    ⟨(some 12), .op (.extract (.t 11) 0), none⟩])
  (.seq (.cond (.t 12)
    .skip
    (.exit 0))
  (.block 1
    (.seq (.ops [⟨(some 13), .op (.extract (.t 11) 2), none⟩,
      ⟨(some 5), .op (.mov (.t 13)), none⟩])
    (.seq (.ops [⟨(some 14), .op (.mov (.t 5)), none⟩,
      ⟨(some 15), .op (.bin .eql (.t 14) (.c (.int .i32 76))), none⟩])
    (.cond (.t 15)
      (.ops [⟨(some 16), .op (.mov (.t 3)), none⟩,
        ⟨(some 17), .op (.faddr 5 (.t 1)), none⟩,
        ⟨(some 18), .op (.load none (.t 17)), none⟩,
        ⟨(some 19), .op (.append 1 8 (.t 16) (.t 18)), none⟩,
        ⟨(some 3), .op (.mov (.t 19)), none⟩])
      (.ops [⟨(some 20), .op (.mov (.t 3)), none⟩,
        ⟨(some 21), .op (.load (some 6) (.t 1)), none⟩,
        ⟨(some 22), .op (.mov (.t 5)), none⟩,
        ⟨(some 23), .call 26 [(.t 21), (.t 22)], none⟩,
        ⟨(some 24), .op (.lit 1 1 [(.int .i64 0)] [(0, 1, (.t 23))]), none⟩,
        ⟨(some 25), .op (.append 1 8 (.t 20) (.t 24)), none⟩,
        ⟨(some 3), .op (.mov (.t 25)), none⟩])))))))
def C12 : IFn := ⟨27, (.seq (.ops [⟨(some 1), .op (.box (.t 0)), none⟩,
    ⟨(some 2), .op (.mov (.c (.slice none 0 0))), none⟩])
  (.seq (.ops [⟨(some 3), .op (.mov (.c (.slice none 0 0))), none⟩])
  (.seq (.seq (.ops [⟨(some 6), .op (.faddr 0 (.t 1)), none⟩,
    ⟨(some 7), .op (.load none (.t 6)), none⟩,
    ⟨(some 8), .call 25 [(.t 7)], none⟩,
    ⟨(some 9), .op (.field 2 none (.t 8)), none⟩,
    ⟨(some 10), .op (.range (.t 9)), none⟩])
  (.block 0
    (.loop C12L0)))
  (.seq (.ops [⟨(some 26), .op (.mov (.t 3)), none⟩,
    ⟨(some 2), .op (.mov (.t 26)), none⟩])
  .ret)))), [.tmp 2]⟩
-- swath/swathref10.Reads
def C13L0 : IC :=
  (.seq (.seq (.ops [⟨(some 17), .op (.mov (.t 8)), none⟩,
    ⟨(some 18), .op (.mov (.t 5)), none⟩,
    ⟨(some 19), .op (.len .str (.t 18)), none⟩,
    ⟨(some 20), .op (.bin .lss (.t 17) (.t 19)), none⟩])
  (.cond (.t 20)
    .skip
    (.exit 0)))
  (.seq (.block 1
    (.seq (.ops [⟨(some 23), .op (.mov (.t 5)), none⟩,
      ⟨(some 24), .op (.mov (.t 8)), none⟩,
      ⟨(some 25), .op (.sidx (.t 23) (.t 24)), none⟩,
      ⟨(some 26), .op (.bin .eql (.t 25) (.c (.int .u8 76))), none⟩])
    (.cond (.t 26)
      (.ops [⟨(some 27), .op (.mov (.t 7)), none⟩,
        ⟨(some 28), .op (.faddr 5 (.t 1)), none⟩,
        ⟨(some 29), .op (.load none (.t 28)), none⟩,
        ⟨(some 30), .op (.append 1 8 (.t 27) (.t 29)), none⟩,
        ⟨(some 7), .op (.mov (.t 30)), none⟩])
      (.draw [⟨(some 31), .op (.mov (.t 7)), none⟩,
        ⟨(some 32), .op (.load (some 6) (.t 1)), none⟩,
        ⟨(some 33), .op (.mov (.t 5)), none⟩,
        ⟨(some 34), .op (.mov (.t 8)), none⟩,
        ⟨(some 35), .op (.sidx (.t 33) (.t 34)), none⟩,
        ⟨(some 36), .call 28 [(.t 32), (.t 35)], none⟩,
        ⟨(some 37), .op (.lit 1 1 [(.int .i64 0)] [(0, 1, (.t 36))]), none⟩,
        ⟨(some 38), .op (.append 1 8 (.t 31) (.t 37)), none⟩,
        ⟨(some 7), .op (.mov (.t 38)), none⟩]
        [[], [], [], [], [3, 2], [4, 3, 2, 1], [5, 4, 3, 2, 1], [5, 4, 3, 2, 1, 6, 0], [7, 5, 4, 3, 2, 1, 6, 0]]))))
  (.ops [⟨(some 21), .op (.mov (.t 8)), none⟩,
    ⟨(some 22), .op (.bin .add (.t 21) (.c (.int .i64 1))), none⟩,
    ⟨(some 8), .op (.mov (.t 22)), none⟩])))
def C13 : IFn := ⟨40, (.seq (.ops [⟨(some 1), .op (.box (.t 0)), none⟩,
    ⟨(some 2), .op (.mov (.c (.slice none 0 0))), none⟩])
  (.seq (.ops [⟨(some 10), .op (.faddr 0 (.t 1)), none⟩,
    ⟨(some 11), .op (.load none (.t 10)), none⟩,
    ⟨(some 12), .call 27 [(.t 11)], none⟩,
    ⟨(some 9), .op (.mov (.t 12)), none⟩,
    ⟨(some 13), .op (.extract (.t 9) 0), none⟩,
    ⟨(some 14), .op (.extract (.t 9) 1), none⟩,
    ⟨(some 15), .op (.extract (.t 9) 2), none⟩,
    ⟨(some 16), .op (.extract (.t 9) 3), none⟩,
    ⟨(some 3), .op (.mov (.t 13)), none⟩,
    ⟨(some 4), .op (.mov (.t 14)), none⟩,
    ⟨(some 5), .op (.mov (.t 15)), none⟩,
    ⟨(some 6), .op (.mov (.t 16)), none⟩])
  (.seq (.ops [⟨(some 7), .op (.mov (.c (.slice none 0 0))), none⟩])
  (.seq (.seq (.ops [⟨(some 8), .op (.mov (.c (.int .i64 0))), none⟩])
  (.block 0
    (.loop C13L0)))
  (.seq (.ops [⟨(some 39), .op (.mov (.t 7)), none⟩,
    ⟨(some 2), .op (.mov (.t 39)), none⟩])
  .ret))))), [.tmp 2]⟩
-- swath/ir.Writes
def C14 : IFn := ⟨10, (.seq (.ops [⟨(some 1), .op (.box (.t 0)), none⟩,
    ⟨(some 2), .op (.mov (.c (.int .i64 0))), none⟩])
  (.seq (.seq (.ops [⟨(some 3), .op (.faddr 0 (.t 1)), none⟩,
    ⟨(some 4), .op (.load none (.t 3)), none⟩,
    ⟨(some 5), .call 25 [(.t 4)], none⟩,
    ⟨(some 6), .op (.field 3 none (.t 5)), none⟩,
    ⟨(some 7), .op (.bin .eql (.t 6) (.c (.string ⟨#[]⟩))), none⟩])
  (.cond (.t 7)
    (.seq (.ops [⟨(some 2), .op (.mov (.c (.int .i64 (-1)))), none⟩])
    .ret)
    .skip))
  (.seq (.ops [⟨(some 8), .op (.faddr 1 (.t 1)), none⟩,
    ⟨(some 9), .op (.load none (.t 8)), none⟩,
    ⟨(some 2), .op (.mov (.t 9)), none⟩])
  .ret))), [.tmp 2]⟩
-- swath/swathref10.Writes
def C15 : IFn := ⟨19, (.seq (.ops [⟨(some 1), .op (.box (.t 0)), none⟩,
    ⟨(some 2), .op (.mov (.c (.int .i64 0))), none⟩])
  (.seq (.ops [⟨(some 8), .op (.faddr 0 (.t 1)), none⟩,
    ⟨(some 9), .op (.load none (.t 8)), none⟩,
    ⟨(some 10), .call 27 [(.t 9)], none⟩,
    ⟨(some 7), .op (.mov (.t 10)), none⟩,
    ⟨(some 11), .op (.extract (.t 7) 0), none⟩,
    ⟨(some 12), .op (.extract (.t 7) 1), none⟩,
    ⟨(some 13), .op (.extract (.t 7) 2), none⟩,
    ⟨(some 14), .op (.extract (.t 7) 3), none⟩,
    ⟨(some 3), .op (.mov (.t 11)), none⟩,
    ⟨(some 4), .op (.mov (.t 12)), none⟩,
    ⟨(some 5), .op (.mov (.t 13)), none⟩,
    ⟨(some 6), .op (.mov (.t 14)), none⟩])
  (.seq (.seq (.ops [⟨(some 15), .op (.mov (.t 6)), none⟩,
    ⟨(some 16), .op (.bin .eql (.t 15) (.c (.string ⟨#[]⟩))), none⟩])
  (.cond (.t 16)
    (.seq (.ops [⟨(some 2), .op (.mov (.c (.int .i64 (-1)))), none⟩])
    .ret)
    .skip))
  (.seq (.ops [⟨(some 17), .op (.faddr 1 (.t 1)), none⟩,
    ⟨(some 18), .op (.load none (.t 17)), none⟩,
    ⟨(some 2), .op (.mov (.t 18)), none⟩])
  .ret)))), [.tmp 2]⟩
-- swath/ir.reg
def C26 : IFn := ⟨16, (.seq (.ops [⟨(some 2), .op (.box (.t 0)), none⟩,
    ⟨(some 4), .op (.mov (.c (.int .i64 0))), none⟩])
  (.seq (.seq (.ops [⟨(some 5), .op (.mov (.t 1)), none⟩])
  (.block 0
    (.seq (.ops [⟨(some 7), .op (.bin .eql (.t 5) (.c (.int .i32 65))), none⟩,
      ⟨(some 6), .op (.mov (.t 7)), none⟩])
    (.cond (.t 6)
      (.seq (.ops [⟨(some 8), .op (.faddr 1 (.t 2)), none⟩,
        ⟨(some 9), .op (.load none (.t 8)), none⟩,
        ⟨(some 4), .op (.mov (.t 9)), none⟩])
      .ret)
      (.seq (.ops [⟨(some 11), .op (.bin .eql (.t 5) (.c (.int .i32 66))), none⟩,
        ⟨(some 10), .op (.mov (.t 11)), none⟩])
      (.cond (.t 10)
        (.seq (.ops [⟨(some 12), .op (.faddr 2 (.t 2)), none⟩,
          ⟨(some 13), .op (.load none (.t 12)), none⟩,
          ⟨(some 4), .op (.mov (.t 13)), none⟩])
        .ret)
        .skip))))))
  (.seq (.ops [⟨(some 14), .op (.faddr 3 (.t 2)), none⟩,
    ⟨(some 15), .op (.load none (.t 14)), none⟩,
    ⟨(some 4), .op (.mov (.t 15)), none⟩])
  .ret))), [.tmp 4]⟩
-- swath/swathref10.field
def C28 : IFn := ⟨16, (.seq (.ops [⟨(some 2), .op (.box (.t 0)), none⟩,
    ⟨(some 4), .op (.mov (.c (.int .i64 0))), none⟩])
  (.seq (.seq (.ops [⟨(some 5), .op (.mov (.t 1)), none⟩])
  (.block 0
    (.seq (.ops [⟨(some 7), .op (.bin .eql (.t 5) (.c (.int .u8 65))), none⟩,
      ⟨(some 6), .op (.mov (.t 7)), none⟩])
    (.cond (.t 6)
      (.seq (.ops [⟨(some 8), .op (.faddr 1 (.t 2)), none⟩,
        ⟨(some 9), .op (.load none (.t 8)), none⟩,
        ⟨(some 4), .op (.mov (.t 9)), none⟩])
      .ret)
      (.seq (.ops [⟨(some 11), .op (.bin .eql (.t 5) (.c (.int .u8 66))), none⟩,
        ⟨(some 10), .op (.mov (.t 11)), none⟩])
      (.cond (.t 10)
        (.seq (.ops [⟨(some 12), .op (.faddr 2 (.t 2)), none⟩,
          ⟨(some 13), .op (.load none (.t 12)), none⟩,
          ⟨(some 4), .op (.mov (.t 13)), none⟩])
        .ret)
        .skip))))))
  (.seq (.ops [⟨(some 14), .op (.faddr 3 (.t 2)), none⟩,
    ⟨(some 15), .op (.load none (.t 14)), none⟩,
    ⟨(some 4), .op (.mov (.t 15)), none⟩])
  .ret))), [.tmp 4]⟩

end Go.Idl
