/- An instruction's row: both packages' tables. -/
import Derived.Test.YtfdpknfndjllgaaI3f
import Derived.Test.YtfdpknfndjllgaaI20
import Derived.Test.YtfdpknfndjllgaaChecked
import Derived.KernelRfl
import Derived.Lib.Strings
import Derived.Lib.Slices
import Derived.Lib.Walk
import Derived.Lib.Bytealg
section
/- Functions as ideal code. (Printed by wip/tools/Print.lean) -/
namespace Go.Idl
set_option maxRecDepth 100000
-- swath/ir.of
def C25 : IFn := ⟨15, (.seq (.ops [⟨(some 2), .op (.alloc [(.string ⟨#[]⟩), (.string ⟨#[]⟩), (.string ⟨#[]⟩), (.string ⟨#[]⟩)]), none⟩])
  (.seq (.ops [⟨(some 4), .call 42 [], none⟩,
    ⟨(some 3), .op (.alloc [(.string ⟨#[]⟩), (.string ⟨#[]⟩), (.string ⟨#[]⟩), (.string ⟨#[]⟩), (.string ⟨#[]⟩), (.string ⟨#[]⟩), (.string ⟨#[]⟩), (.string ⟨#[]⟩), (.string ⟨#[]⟩), (.string ⟨#[]⟩), (.string ⟨#[]⟩), (.string ⟨#[]⟩), (.string ⟨#[]⟩), (.string ⟨#[]⟩), (.string ⟨#[]⟩), (.string ⟨#[]⟩), (.string ⟨#[]⟩), (.string ⟨#[]⟩), (.string ⟨#[]⟩), (.string ⟨#[]⟩), (.string ⟨#[]⟩), (.string ⟨#[]⟩), (.string ⟨#[]⟩), (.string ⟨#[]⟩), (.string ⟨#[]⟩), (.string ⟨#[]⟩), (.string ⟨#[]⟩), (.string ⟨#[]⟩), (.string ⟨#[]⟩), (.string ⟨#[]⟩), (.string ⟨#[]⟩), (.string ⟨#[]⟩), (.string ⟨#[]⟩), (.string ⟨#[]⟩), (.string ⟨#[]⟩), (.string ⟨#[]⟩), (.string ⟨#[]⟩), (.string ⟨#[]⟩), (.string ⟨#[]⟩), (.string ⟨#[]⟩), (.string ⟨#[]⟩), (.string ⟨#[]⟩), (.string ⟨#[]⟩), (.string ⟨#[]⟩), (.string ⟨#[]⟩), (.string ⟨#[]⟩), (.string ⟨#[]⟩), (.string ⟨#[]⟩), (.string ⟨#[]⟩), (.string ⟨#[]⟩), (.string ⟨#[]⟩), (.string ⟨#[]⟩), (.string ⟨#[]⟩), (.string ⟨#[]⟩), (.string ⟨#[]⟩), (.string ⟨#[]⟩), (.string ⟨#[]⟩), (.string ⟨#[]⟩), (.string ⟨#[]⟩), (.string ⟨#[]⟩), (.string ⟨#[]⟩), (.string ⟨#[]⟩), (.string ⟨#[]⟩), (.string ⟨#[]⟩), (.string ⟨#[]⟩), (.string ⟨#[]⟩), (.string ⟨#[]⟩), (.string ⟨#[]⟩), (.string ⟨#[]⟩), (.string ⟨#[]⟩), (.string ⟨#[]⟩), (.string ⟨#[]⟩), (.string ⟨#[]⟩), (.string ⟨#[]⟩), (.string ⟨#[]⟩), (.string ⟨#[]⟩), (.string ⟨#[]⟩), (.string ⟨#[]⟩), (.string ⟨#[]⟩), (.string ⟨#[]⟩), (.string ⟨#[]⟩), (.string ⟨#[]⟩), (.string ⟨#[]⟩), (.string ⟨#[]⟩), (.string ⟨#[]⟩), (.string ⟨#[]⟩), (.string ⟨#[]⟩), (.string ⟨#[]⟩), (.string ⟨#[]⟩), (.string ⟨#[]⟩), (.string ⟨#[]⟩), (.string ⟨#[]⟩), (.string ⟨#[]⟩), (.string ⟨#[]⟩), (.string ⟨#[]⟩), (.string ⟨#[]⟩), (.string ⟨#[]⟩), (.string ⟨#[]⟩), (.string ⟨#[]⟩), (.string ⟨#[]⟩), (.string ⟨#[]⟩), (.string ⟨#[]⟩), (.string ⟨#[]⟩), (.string ⟨#[]⟩), (.string ⟨#[]⟩), (.string ⟨#[]⟩), (.string ⟨#[]⟩), (.string ⟨#[]⟩), (.string ⟨#[]⟩), (.string ⟨#[]⟩), (.string ⟨#[]⟩), (.string ⟨#[]⟩), (.string ⟨#[]⟩), (.string ⟨#[]⟩), (.string ⟨#[]⟩), (.string ⟨#[]⟩)]), none⟩,
    ⟨none, .op (.store 116 (.t 3) (.t 4)), none⟩])
  (.seq (.seq (.ops [⟨(some 5), .op (.mov (.t 0)), none⟩,
    ⟨(some 6), .op (.bin .lss (.t 5) (.c (.int .i64 0))), none⟩,
    ⟨(some 7), .op (.mov (.t 6)), none⟩,
    ⟨(some 8), .op (.mov (.t 0)), (some (7, false))⟩,
    ⟨(some 9), .op (.bin .geq (.t 8) (.c (.int .i64 29))), (some (7, false))⟩,
    ⟨(some 10), .op (.pick (.t 7) (.c (.bool true)) (.t 9)), none⟩])
  (.cond (.t 10)
    (.seq (.ops [⟨(some 11), .op (.build [(.string ⟨#[]⟩), (.string ⟨#[]⟩), (.string ⟨#[]⟩), (.string ⟨#[]⟩)] []), none⟩,
      ⟨none, .op (.store 4 (.t 2) (.t 11)), none⟩])
    .ret)
    .skip))
  (.seq (.ops [⟨(some 12), .op (.mov (.t 0)), none⟩,
    ⟨(some 13), .op (.iaddr (.ar 29 4) (.t 3) (.t 12)), none⟩,
    ⟨(some 14), .op (.load (some 4) (.t 13)), none⟩,
    ⟨none, .op (.store 4 (.t 2) (.t 14)), none⟩])
  .ret)))), [.cell 2 (some 4)]⟩
-- swath/swathref10.row
def C27 : IFn := ⟨63, (.seq (.ops [⟨(some 2), .op (.mov (.c (.string ⟨#[]⟩))), none⟩,
    ⟨(some 3), .op (.mov (.c (.string ⟨#[]⟩))), none⟩,
    ⟨(some 4), .op (.mov (.c (.string ⟨#[]⟩))), none⟩,
    ⟨(some 5), .op (.mov (.c (.string ⟨#[]⟩))), none⟩])
  (.seq (.seq (.ops [⟨(some 6), .op (.mov (.t 0)), none⟩])
  (.block 0
    (.seq (.ops [⟨(some 8), .op (.bin .eql (.t 6) (.c (.int .i64 1))), none⟩,
      ⟨(some 7), .op (.mov (.t 8)), none⟩])
    (.cond (.t 7)
      (.seq (.ops [⟨(some 2), .op (.mov (.c (.string ⟨#[110, 117, 109]⟩))), none⟩,
        ⟨(some 3), .op (.mov (.c (.string ⟨#[65, 75]⟩))), none⟩,
        ⟨(some 4), .op (.mov (.c (.string ⟨#[]⟩))), none⟩,
        ⟨(some 5), .op (.mov (.c (.string ⟨#[65]⟩))), none⟩])
      .ret)
      (.seq (.ops [⟨(some 10), .op (.bin .eql (.t 6) (.c (.int .i64 2))), none⟩,
        ⟨(some 9), .op (.mov (.t 10)), none⟩])
      (.cond (.t 9)
        (.seq (.ops [⟨(some 2), .op (.mov (.c (.string ⟨#[110, 117, 108, 108]⟩))), none⟩,
          ⟨(some 3), .op (.mov (.c (.string ⟨#[65]⟩))), none⟩,
          ⟨(some 4), .op (.mov (.c (.string ⟨#[]⟩))), none⟩,
          ⟨(some 5), .op (.mov (.c (.string ⟨#[65]⟩))), none⟩])
        .ret)
        (.seq (.ops [⟨(some 12), .op (.bin .eql (.t 6) (.c (.int .i64 3))), none⟩,
          ⟨(some 11), .op (.mov (.t 12)), none⟩])
        (.cond (.t 11)
          (.seq (.ops [⟨(some 2), .op (.mov (.c (.string ⟨#[109, 111, 118, 101]⟩))), none⟩,
            ⟨(some 3), .op (.mov (.c (.string ⟨#[65, 66]⟩))), none⟩,
            ⟨(some 4), .op (.mov (.c (.string ⟨#[66]⟩))), none⟩,
            ⟨(some 5), .op (.mov (.c (.string ⟨#[65]⟩))), none⟩])
          .ret)
          (.seq (.ops [⟨(some 14), .op (.bin .eql (.t 6) (.c (.int .i64 4))), none⟩,
            ⟨(some 13), .op (.mov (.t 14)), none⟩])
          (.cond (.t 13)
            (.seq (.ops [⟨(some 2), .op (.mov (.c (.string ⟨#[98, 105, 110]⟩))), none⟩,
              ⟨(some 3), .op (.mov (.c (.string ⟨#[65, 66, 67, 75]⟩))), none⟩,
              ⟨(some 4), .op (.mov (.c (.string ⟨#[66, 67]⟩))), none⟩,
              ⟨(some 5), .op (.mov (.c (.string ⟨#[65]⟩))), none⟩])
            .ret)
            (.seq (.ops [⟨(some 16), .op (.bin .eql (.t 6) (.c (.int .i64 5))), none⟩,
              ⟨(some 15), .op (.mov (.t 16)), none⟩])
            (.cond (.t 15)
              (.seq (.ops [⟨(some 2), .op (.mov (.c (.string ⟨#[117, 110]⟩))), none⟩,
                ⟨(some 3), .op (.mov (.c (.string ⟨#[65, 66, 75]⟩))), none⟩,
                ⟨(some 4), .op (.mov (.c (.string ⟨#[66]⟩))), none⟩,
                ⟨(some 5), .op (.mov (.c (.string ⟨#[65]⟩))), none⟩])
              .ret)
              (.seq (.ops [⟨(some 18), .op (.bin .eql (.t 6) (.c (.int .i64 6))), none⟩,
                ⟨(some 17), .op (.mov (.t 18)), none⟩])
              (.cond (.t 17)
                (.seq (.ops [⟨(some 2), .op (.mov (.c (.string ⟨#[101, 113]⟩))), none⟩,
                  ⟨(some 3), .op (.mov (.c (.string ⟨#[65, 66, 67]⟩))), none⟩,
                  ⟨(some 4), .op (.mov (.c (.string ⟨#[66, 67]⟩))), none⟩,
                  ⟨(some 5), .op (.mov (.c (.string ⟨#[65]⟩))), none⟩])
                .ret)
                (.seq (.ops [⟨(some 20), .op (.bin .eql (.t 6) (.c (.int .i64 7))), none⟩,
                  ⟨(some 19), .op (.mov (.t 20)), none⟩])
                (.cond (.t 19)
                  (.seq (.ops [⟨(some 2), .op (.mov (.c (.string ⟨#[110, 101]⟩))), none⟩,
                    ⟨(some 3), .op (.mov (.c (.string ⟨#[65, 66, 67]⟩))), none⟩,
                    ⟨(some 4), .op (.mov (.c (.string ⟨#[66, 67]⟩))), none⟩,
                    ⟨(some 5), .op (.mov (.c (.string ⟨#[65]⟩))), none⟩])
                  .ret)
                  (.seq (.ops [⟨(some 22), .op (.bin .eql (.t 6) (.c (.int .i64 8))), none⟩,
                    ⟨(some 21), .op (.mov (.t 22)), none⟩])
                  (.cond (.t 21)
                    (.seq (.ops [⟨(some 2), .op (.mov (.c (.string ⟨#[103, 101, 116]⟩))), none⟩,
                      ⟨(some 3), .op (.mov (.c (.string ⟨#[65, 66, 67, 75]⟩))), none⟩,
                      ⟨(some 4), .op (.mov (.c (.string ⟨#[66]⟩))), none⟩,
                      ⟨(some 5), .op (.mov (.c (.string ⟨#[65]⟩))), none⟩])
                    .ret)
                    (.seq (.ops [⟨(some 24), .op (.bin .eql (.t 6) (.c (.int .i64 9))), none⟩,
                      ⟨(some 23), .op (.mov (.t 24)), none⟩])
                    (.cond (.t 23)
                      (.seq (.ops [⟨(some 2), .op (.mov (.c (.string ⟨#[112, 117, 116]⟩))), none⟩,
                        ⟨(some 3), .op (.mov (.c (.string ⟨#[65, 66, 67, 75]⟩))), none⟩,
                        ⟨(some 4), .op (.mov (.c (.string ⟨#[65, 66]⟩))), none⟩,
                        ⟨(some 5), .op (.mov (.c (.string ⟨#[]⟩))), none⟩])
                      .ret)
                      (.seq (.ops [⟨(some 26), .op (.bin .eql (.t 6) (.c (.int .i64 10))), none⟩,
                        ⟨(some 25), .op (.mov (.t 26)), none⟩])
                      (.cond (.t 25)
                        (.seq (.ops [⟨(some 2), .op (.mov (.c (.string ⟨#[101, 108, 101, 109]⟩))), none⟩,
                          ⟨(some 3), .op (.mov (.c (.string ⟨#[65, 66, 67]⟩))), none⟩,
                          ⟨(some 4), .op (.mov (.c (.string ⟨#[66, 67]⟩))), none⟩,
                          ⟨(some 5), .op (.mov (.c (.string ⟨#[65]⟩))), none⟩])
                        .ret)
                        (.seq (.ops [⟨(some 28), .op (.bin .eql (.t 6) (.c (.int .i64 11))), none⟩,
                          ⟨(some 27), .op (.mov (.t 28)), none⟩])
                        (.cond (.t 27)
                          (.seq (.ops [⟨(some 2), .op (.mov (.c (.string ⟨#[115, 101, 116, 101, 108, 101, 109]⟩))), none⟩,
                            ⟨(some 3), .op (.mov (.c (.string ⟨#[65, 66, 67]⟩))), none⟩,
                            ⟨(some 4), .op (.mov (.c (.string ⟨#[65, 66, 67]⟩))), none⟩,
                            ⟨(some 5), .op (.mov (.c (.string ⟨#[]⟩))), none⟩])
                          .ret)
                          (.seq (.ops [⟨(some 30), .op (.bin .eql (.t 6) (.c (.int .i64 12))), none⟩,
                            ⟨(some 29), .op (.mov (.t 30)), none⟩])
                          (.cond (.t 29)
                            (.seq (.ops [⟨(some 2), .op (.mov (.c (.string ⟨#[108, 101, 110]⟩))), none⟩,
                              ⟨(some 3), .op (.mov (.c (.string ⟨#[65, 66]⟩))), none⟩,
                              ⟨(some 4), .op (.mov (.c (.string ⟨#[66]⟩))), none⟩,
                              ⟨(some 5), .op (.mov (.c (.string ⟨#[65]⟩))), none⟩])
                            .ret)
                            (.seq (.ops [⟨(some 32), .op (.bin .eql (.t 6) (.c (.int .i64 13))), none⟩,
                              ⟨(some 31), .op (.mov (.t 32)), none⟩])
                            (.cond (.t 31)
                              (.seq (.ops [⟨(some 2), .op (.mov (.c (.string ⟨#[110, 101, 119]⟩))), none⟩,
                                ⟨(some 3), .op (.mov (.c (.string ⟨#[65, 67, 75]⟩))), none⟩,
                                ⟨(some 4), .op (.mov (.c (.string ⟨#[]⟩))), none⟩,
                                ⟨(some 5), .op (.mov (.c (.string ⟨#[65]⟩))), none⟩])
                              .ret)
                              (.seq (.ops [⟨(some 34), .op (.bin .eql (.t 6) (.c (.int .i64 14))), none⟩,
                                ⟨(some 33), .op (.mov (.t 34)), none⟩])
                              (.cond (.t 33)
                                (.seq (.ops [⟨(some 2), .op (.mov (.c (.string ⟨#[97, 114, 114]⟩))), none⟩,
                                  ⟨(some 3), .op (.mov (.c (.string ⟨#[65, 66]⟩))), none⟩,
                                  ⟨(some 4), .op (.mov (.c (.string ⟨#[66]⟩))), none⟩,
                                  ⟨(some 5), .op (.mov (.c (.string ⟨#[65]⟩))), none⟩])
                                .ret)
                                (.seq (.ops [⟨(some 36), .op (.bin .eql (.t 6) (.c (.int .i64 15))), none⟩,
                                  ⟨(some 35), .op (.mov (.t 36)), none⟩])
                                (.cond (.t 35)
                                  (.seq (.ops [⟨(some 2), .op (.mov (.c (.string ⟨#[105, 110]⟩))), none⟩,
                                    ⟨(some 3), .op (.mov (.c (.string ⟨#[65]⟩))), none⟩,
                                    ⟨(some 4), .op (.mov (.c (.string ⟨#[]⟩))), none⟩,
                                    ⟨(some 5), .op (.mov (.c (.string ⟨#[65]⟩))), none⟩])
                                  .ret)
                                  (.seq (.ops [⟨(some 38), .op (.bin .eql (.t 6) (.c (.int .i64 16))), none⟩,
                                    ⟨(some 37), .op (.mov (.t 38)), none⟩])
                                  (.cond (.t 37)
                                    (.seq (.ops [⟨(some 2), .op (.mov (.c (.string ⟨#[111, 117, 116]⟩))), none⟩,
                                      ⟨(some 3), .op (.mov (.c (.string ⟨#[65]⟩))), none⟩,
                                      ⟨(some 4), .op (.mov (.c (.string ⟨#[65]⟩))), none⟩,
                                      ⟨(some 5), .op (.mov (.c (.string ⟨#[]⟩))), none⟩])
                                    .ret)
                                    (.seq (.ops [⟨(some 40), .op (.bin .eql (.t 6) (.c (.int .i64 17))), none⟩,
                                      ⟨(some 39), .op (.mov (.t 40)), none⟩])
                                    (.cond (.t 39)
                                      (.seq (.ops [⟨(some 2), .op (.mov (.c (.string ⟨#[105, 109, 103]⟩))), none⟩,
                                        ⟨(some 3), .op (.mov (.c (.string ⟨#[65, 66]⟩))), none⟩,
                                        ⟨(some 4), .op (.mov (.c (.string ⟨#[66]⟩))), none⟩,
                                        ⟨(some 5), .op (.mov (.c (.string ⟨#[65]⟩))), none⟩])
                                      .ret)
                                      (.seq (.ops [⟨(some 42), .op (.bin .eql (.t 6) (.c (.int .i64 18))), none⟩,
                                        ⟨(some 41), .op (.mov (.t 42)), none⟩])
                                      (.cond (.t 41)
                                        (.seq (.ops [⟨(some 2), .op (.mov (.c (.string ⟨#[115, 105, 122, 101]⟩))), none⟩,
                                          ⟨(some 3), .op (.mov (.c (.string ⟨#[65]⟩))), none⟩,
                                          ⟨(some 4), .op (.mov (.c (.string ⟨#[]⟩))), none⟩,
                                          ⟨(some 5), .op (.mov (.c (.string ⟨#[65]⟩))), none⟩])
                                        .ret)
                                        (.seq (.ops [⟨(some 44), .op (.bin .eql (.t 6) (.c (.int .i64 19))), none⟩,
                                          ⟨(some 43), .op (.mov (.t 44)), none⟩])
                                        (.cond (.t 43)
                                          (.seq (.ops [⟨(some 2), .op (.mov (.c (.string ⟨#[114, 111, 111, 116]⟩))), none⟩,
                                            ⟨(some 3), .op (.mov (.c (.string ⟨#[65]⟩))), none⟩,
                                            ⟨(some 4), .op (.mov (.c (.string ⟨#[]⟩))), none⟩,
                                            ⟨(some 5), .op (.mov (.c (.string ⟨#[65]⟩))), none⟩])
                                          .ret)
                                          (.seq (.ops [⟨(some 46), .op (.bin .eql (.t 6) (.c (.int .i64 20))), none⟩,
                                            ⟨(some 45), .op (.mov (.t 46)), none⟩])
                                          (.cond (.t 45)
                                            (.seq (.ops [⟨(some 2), .op (.mov (.c (.string ⟨#[115, 101, 116, 114, 111, 111, 116]⟩))), none⟩,
                                              ⟨(some 3), .op (.mov (.c (.string ⟨#[65]⟩))), none⟩,
                                              ⟨(some 4), .op (.mov (.c (.string ⟨#[65]⟩))), none⟩,
                                              ⟨(some 5), .op (.mov (.c (.string ⟨#[]⟩))), none⟩])
                                            .ret)
                                            (.seq (.ops [⟨(some 48), .op (.bin .eql (.t 6) (.c (.int .i64 21))), none⟩,
                                              ⟨(some 47), .op (.mov (.t 48)), none⟩])
                                            (.cond (.t 47)
                                              (.seq (.ops [⟨(some 2), .op (.mov (.c (.string ⟨#[106, 117, 109, 112]⟩))), none⟩,
                                                ⟨(some 3), .op (.mov (.c (.string ⟨#[75]⟩))), none⟩,
                                                ⟨(some 4), .op (.mov (.c (.string ⟨#[]⟩))), none⟩,
                                                ⟨(some 5), .op (.mov (.c (.string ⟨#[]⟩))), none⟩])
                                              .ret)
                                              (.seq (.ops [⟨(some 50), .op (.bin .eql (.t 6) (.c (.int .i64 22))), none⟩,
                                                ⟨(some 49), .op (.mov (.t 50)), none⟩])
                                              (.cond (.t 49)
                                                (.seq (.ops [⟨(some 2), .op (.mov (.c (.string ⟨#[122, 101, 114, 111]⟩))), none⟩,
                                                  ⟨(some 3), .op (.mov (.c (.string ⟨#[65, 75]⟩))), none⟩,
                                                  ⟨(some 4), .op (.mov (.c (.string ⟨#[65]⟩))), none⟩,
                                                  ⟨(some 5), .op (.mov (.c (.string ⟨#[]⟩))), none⟩])
                                                .ret)
                                                (.seq (.ops [⟨(some 52), .op (.bin .eql (.t 6) (.c (.int .i64 23))), none⟩,
                                                  ⟨(some 51), .op (.mov (.t 52)), none⟩])
                                                (.cond (.t 51)
                                                  (.seq (.ops [⟨(some 2), .op (.mov (.c (.string ⟨#[99, 97, 108, 108]⟩))), none⟩,
                                                    ⟨(some 3), .op (.mov (.c (.string ⟨#[65, 75, 76]⟩))), none⟩,
                                                    ⟨(some 4), .op (.mov (.c (.string ⟨#[76]⟩))), none⟩,
                                                    ⟨(some 5), .op (.mov (.c (.string ⟨#[65]⟩))), none⟩])
                                                  .ret)
                                                  (.seq (.ops [⟨(some 54), .op (.bin .eql (.t 6) (.c (.int .i64 24))), none⟩,
                                                    ⟨(some 53), .op (.mov (.t 54)), none⟩])
                                                  (.cond (.t 53)
                                                    (.seq (.ops [⟨(some 2), .op (.mov (.c (.string ⟨#[114, 101, 116]⟩))), none⟩,
                                                      ⟨(some 3), .op (.mov (.c (.string ⟨#[65]⟩))), none⟩,
                                                      ⟨(some 4), .op (.mov (.c (.string ⟨#[65]⟩))), none⟩,
                                                      ⟨(some 5), .op (.mov (.c (.string ⟨#[]⟩))), none⟩])
                                                    .ret)
                                                    (.seq (.ops [⟨(some 56), .op (.bin .eql (.t 6) (.c (.int .i64 25))), none⟩,
                                                      ⟨(some 55), .op (.mov (.t 56)), none⟩])
                                                    (.cond (.t 55)
                                                      (.seq (.ops [⟨(some 2), .op (.mov (.c (.string ⟨#[115, 116, 111, 112]⟩))), none⟩,
                                                        ⟨(some 3), .op (.mov (.c (.string ⟨#[65]⟩))), none⟩,
                                                        ⟨(some 4), .op (.mov (.c (.string ⟨#[65]⟩))), none⟩,
                                                        ⟨(some 5), .op (.mov (.c (.string ⟨#[]⟩))), none⟩])
                                                      .ret)
                                                      (.seq (.ops [⟨(some 58), .op (.bin .eql (.t 6) (.c (.int .i64 26))), none⟩,
                                                        ⟨(some 57), .op (.mov (.t 58)), none⟩])
                                                      (.cond (.t 57)
                                                        (.seq (.ops [⟨(some 2), .op (.mov (.c (.string ⟨#[115, 116, 101, 112]⟩))), none⟩,
                                                          ⟨(some 3), .op (.mov (.c (.string ⟨#[]⟩))), none⟩,
                                                          ⟨(some 4), .op (.mov (.c (.string ⟨#[]⟩))), none⟩,
                                                          ⟨(some 5), .op (.mov (.c (.string ⟨#[]⟩))), none⟩])
                                                        .ret)
                                                        (.seq (.ops [⟨(some 60), .op (.bin .eql (.t 6) (.c (.int .i64 27))), none⟩,
                                                          ⟨(some 59), .op (.mov (.t 60)), none⟩])
                                                        (.cond (.t 59)
                                                          (.seq (.ops [⟨(some 2), .op (.mov (.c (.string ⟨#[109, 101, 114, 103, 101]⟩))), none⟩,
                                                            ⟨(some 3), .op (.mov (.c (.string ⟨#[75, 76]⟩))), none⟩,
                                                            ⟨(some 4), .op (.mov (.c (.string ⟨#[76]⟩))), none⟩,
                                                            ⟨(some 5), .op (.mov (.c (.string ⟨#[]⟩))), none⟩])
                                                          .ret)
                                                          (.seq (.ops [⟨(some 62), .op (.bin .eql (.t 6) (.c (.int .i64 28))), none⟩,
                                                            ⟨(some 61), .op (.mov (.t 62)), none⟩])
                                                          (.cond (.t 61)
                                                            (.seq (.ops [⟨(some 2), .op (.mov (.c (.string ⟨#[112, 114, 111, 109, 111, 116, 101]⟩))), none⟩,
                                                              ⟨(some 3), .op (.mov (.c (.string ⟨#[65, 66]⟩))), none⟩,
                                                              ⟨(some 4), .op (.mov (.c (.string ⟨#[66]⟩))), none⟩,
                                                              ⟨(some 5), .op (.mov (.c (.string ⟨#[65]⟩))), none⟩])
                                                            .ret)
                                                            .skip))))))))))))))))))))))))))))))))))))))))))))))))))))))))))
  (.seq (.ops [⟨(some 2), .op (.mov (.c (.string ⟨#[]⟩))), none⟩,
    ⟨(some 3), .op (.mov (.c (.string ⟨#[]⟩))), none⟩,
    ⟨(some 4), .op (.mov (.c (.string ⟨#[]⟩))), none⟩,
    ⟨(some 5), .op (.mov (.c (.string ⟨#[]⟩))), none⟩])
  .ret))), [.tmp 2, .tmp 3, .tmp 4, .tmp 5]⟩

end Go.Idl
end

section
/- Functions as ideal code. (Printed by wip/tools/Print.lean) -/
namespace Go.Idl
-- swath/swathlaw10.IrUses
def C4 : IFn := ⟨21, (.seq (.ops [⟨(some 1), .op (.box (.t 0)), none⟩,
    ⟨(some 2), .op (.mov (.c (.bool false))), none⟩])
  (.seq (.seq (.ops [⟨(some 3), .call 7 [], none⟩,
    ⟨(some 4), .op (.un .not (.t 3)), none⟩])
  (.cond (.t 4)
    (.seq (.ops [⟨(some 2), .op (.mov (.c (.bool false))), none⟩])
    .ret)
    .skip))
  (.seq (.seq (.ops [⟨(some 5), .op (.faddr 5 (.t 1)), none⟩,
    ⟨(some 6), .op (.load none (.t 5)), none⟩,
    ⟨(some 7), .op (.len .sl (.t 6)), none⟩,
    ⟨(some 8), .op (.bin .gtr (.t 7) (.c (.int .i64 100))), none⟩])
  (.cond (.t 8)
    (.seq (.ops [⟨(some 2), .op (.mov (.c (.bool true))), none⟩])
    .ret)
    .skip))
  (.seq (.draw [⟨(some 9), .op (.load (some 6) (.t 1)), none⟩,
    ⟨(some 10), .call 12 [(.t 9)], none⟩,
    ⟨(some 11), .op (.load (some 6) (.t 1)), none⟩,
    ⟨(some 12), .call 13 [(.t 11)], none⟩,
    ⟨(some 13), .call 11 [(.t 10), (.t 12)], none⟩,
    ⟨(some 14), .op (.mov (.t 13)), none⟩,
    ⟨(some 15), .op (.load (some 6) (.t 1)), (some (14, true))⟩,
    ⟨(some 16), .call 14 [(.t 15)], (some (14, true))⟩,
    ⟨(some 17), .op (.load (some 6) (.t 1)), (some (14, true))⟩,
    ⟨(some 18), .call 15 [(.t 17)], (some (14, true))⟩,
    ⟨(some 19), .op (.bin .eql (.t 16) (.t 18)), (some (14, true))⟩,
    ⟨(some 20), .op (.pick (.t 14) (.t 19) (.c (.bool false))), none⟩,
    ⟨(some 2), .op (.mov (.t 20)), none⟩]
    [[], [0], [], [1, 0, 2], [3, 1, 0, 2], [4, 3, 1, 0, 2], [5, 4, 3, 1, 0, 2], [5, 4, 3, 1, 0, 2, 6], [5, 4, 3, 1, 0, 2], [5, 4, 3, 1, 0, 2, 7, 6, 8], [5, 4, 3, 1, 0, 2, 9, 7, 6, 8], [10, 5, 4, 3, 1, 0, 2, 9, 7, 6, 8], [11, 10, 5, 4, 3, 1, 0, 2, 9, 7, 6, 8]])
  .ret)))), [.tmp 2]⟩
-- swath/swathlaw10.ints
def C11L0 : IC :=
  (.seq (.ops [⟨(some 14), .op (.bin .lss (.t 13) (.t 12)), none⟩])
  (.seq (.cond (.t 14)
    .skip
    (.exit 0))
  (.seq (.block 1
    (.seq (.ops [⟨(some 15), .op (.mov (.t 13)), none⟩,
      ⟨(some 5), .op (.mov (.t 15)), none⟩])
    (.seq (.draw [⟨(some 16), .op (.mov (.t 0)), none⟩,
      ⟨(some 17), .op (.mov (.t 5)), none⟩,
      ⟨(some 18), .op (.iaddr (.sl 1) (.t 16) (.t 17)), none⟩,
      ⟨(some 19), .op (.load none (.t 18)), none⟩,
      ⟨(some 20), .op (.mov (.t 1)), none⟩,
      ⟨(some 21), .op (.mov (.t 5)), none⟩,
      ⟨(some 22), .op (.iaddr (.sl 1) (.t 20) (.t 21)), none⟩,
      ⟨(some 23), .op (.load none (.t 22)), none⟩,
      ⟨(some 24), .op (.bin .neq (.t 19) (.t 23)), none⟩]
      [[], [], [1, 0], [2, 1, 0], [], [], [5, 4], [6, 5, 4], [7, 6, 5, 4, 3, 2, 1, 0]])
    (.cond (.t 24)
      (.seq (.ops [⟨(some 4), .op (.mov (.c (.bool false))), none⟩])
      .ret)
      .skip))))
  (.ops [⟨(some 25), .op (.bin .add (.t 13) (.c (.int .i64 1))), none⟩,
    ⟨(some 13), .op (.mov (.t 25)), none⟩]))))
def C11 : IFn := ⟨26, (.seq (.ops [⟨(some 4), .op (.mov (.c (.bool false))), none⟩])
  (.seq (.seq (.ops [⟨(some 6), .op (.mov (.t 0)), none⟩,
    ⟨(some 7), .op (.len .sl (.t 6)), none⟩,
    ⟨(some 8), .op (.mov (.t 1)), none⟩,
    ⟨(some 9), .op (.len .sl (.t 8)), none⟩,
    ⟨(some 10), .op (.bin .neq (.t 7) (.t 9)), none⟩])
  (.cond (.t 10)
    (.seq (.ops [⟨(some 4), .op (.mov (.c (.bool false))), none⟩])
    .ret)
    .skip))
  (.seq (.seq (.ops [⟨(some 11), .op (.mov (.t 0)), none⟩,
    ⟨(some 12), .op (.len .sl (.t 11)), none⟩,
    ⟨(some 13), .op (.mov (.c (.int .i64 0))), none⟩])
  (.block 0
    (.loop C11L0)))
  (.seq (.ops [⟨(some 4), .op (.mov (.c (.bool true))), none⟩])
  .ret)))), [.tmp 4]⟩
-- swath/ir.Reads
def C12L0 : IC :=
  (.seq (.ops [⟨(some 11), .op (.next (.t 10)), none⟩,
    ⟨(some 12), .op (.extract (.t 11) 0), none⟩])
  (.seq (.cond (.t 12)
    .skip
    (.exit 0))
  (.block 1
    (.seq (.ops [⟨(some 13), .op (.extract (.t 11) 2), none⟩,
      ⟨(some 5), .op (.mov (.t 13)), none⟩])
    (.seq (.ops [⟨(some 14), .op (.mov (.t 5)), none⟩,
      ⟨(some 15), .op (.bin .eql (.t 14) (.c (.int .i32 76))), none⟩])
    (.cond (.t 15)
      (.ops [⟨(some 16), .op (.mov (.t 3)), none⟩,
        ⟨(some 17), .op (.faddr 5 (.t 1)), none⟩,
        ⟨(some 18), .op (.load none (.t 17)), none⟩,
        ⟨(some 19), .op (.append 1 8 (.t 16) (.t 18)), none⟩,
        ⟨(some 3), .op (.mov (.t 19)), none⟩])
      (.ops [⟨(some 20), .op (.mov (.t 3)), none⟩,
        ⟨(some 21), .op (.load (some 6) (.t 1)), none⟩,
        ⟨(some 22), .op (.mov (.t 5)), none⟩,
        ⟨(some 23), .call 26 [(.t 21), (.t 22)], none⟩,
        ⟨(some 24), .op (.lit 1 1 [(.int .i64 0)] [(0, 1, (.t 23))]), none⟩,
        ⟨(some 25), .op (.append 1 8 (.t 20) (.t 24)), none⟩,
        ⟨(some 3), .op (.mov (.t 25)), none⟩])))))))
def C12 : IFn := ⟨27, (.seq (.ops [⟨(some 1), .op (.box (.t 0)), none⟩,
    ⟨(some 2), .op (.mov (.c (.slice none 0 0))), none⟩])
  (.seq (.ops [⟨(some 3), .op (.mov (.c (.slice none 0 0))), none⟩])
  (.seq (.seq (.ops [⟨(some 6), .op (.faddr 0 (.t 1)), none⟩,
    ⟨(some 7), .op (.load none (.t 6)), none⟩,
    ⟨(some 8), .call 25 [(.t 7)], none⟩,
    ⟨(some 9), .op (.field 2 none (.t 8)), none⟩,
    ⟨(some 10), .op (.range (.t 9)), none⟩])
  (.block 0
    (.loop C12L0)))
  (.seq (.ops [⟨(some 26), .op (.mov (.t 3)), none⟩,
    ⟨(some 2), .op (.mov (.t 26)), none⟩])
  .ret)))), [.tmp 2]⟩
-- swath/swathref10.Reads
def C13L0 : IC :=
  (.seq (.seq (.ops [⟨(some 17), .op (.mov (.t 8)), none⟩,
    ⟨(some 18), .op (.mov (.t 5)), none⟩,
    ⟨(some 19), .op (.len .str (.t 18)), none⟩,
    ⟨(some 20), .op (.bin .lss (.t 17) (.t 19)), none⟩])
  (.cond (.t 20)
    .skip
    (.exit 0)))
  (.seq (.block 1
    (.seq (.ops [⟨(some 23), .op (.mov (.t 5)), none⟩,
      ⟨(some 24), .op (.mov (.t 8)), none⟩,
      ⟨(some 25), .op (.sidx (.t 23) (.t 24)), none⟩,
      ⟨(some 26), .op (.bin .eql (.t 25) (.c (.int .u8 76))), none⟩])
    (.cond (.t 26)
      (.ops [⟨(some 27), .op (.mov (.t 7)), none⟩,
        ⟨(some 28), .op (.faddr 5 (.t 1)), none⟩,
        ⟨(some 29), .op (.load none (.t 28)), none⟩,
        ⟨(some 30), .op (.append 1 8 (.t 27) (.t 29)), none⟩,
        ⟨(some 7), .op (.mov (.t 30)), none⟩])
      (.draw [⟨(some 31), .op (.mov (.t 7)), none⟩,
        ⟨(some 32), .op (.load (some 6) (.t 1)), none⟩,
        ⟨(some 33), .op (.mov (.t 5)), none⟩,
        ⟨(some 34), .op (.mov (.t 8)), none⟩,
        ⟨(some 35), .op (.sidx (.t 33) (.t 34)), none⟩,
        ⟨(some 36), .call 28 [(.t 32), (.t 35)], none⟩,
        ⟨(some 37), .op (.lit 1 1 [(.int .i64 0)] [(0, 1, (.t 36))]), none⟩,
        ⟨(some 38), .op (.append 1 8 (.t 31) (.t 37)), none⟩,
        ⟨(some 7), .op (.mov (.t 38)), none⟩]
        [[], [], [], [], [3, 2], [4, 3, 2, 1], [5, 4, 3, 2, 1], [5, 4, 3, 2, 1, 6, 0], [7, 5, 4, 3, 2, 1, 6, 0]]))))
  (.ops [⟨(some 21), .op (.mov (.t 8)), none⟩,
    ⟨(some 22), .op (.bin .add (.t 21) (.c (.int .i64 1))), none⟩,
    ⟨(some 8), .op (.mov (.t 22)), none⟩])))
def C13 : IFn := ⟨40, (.seq (.ops [⟨(some 1), .op (.box (.t 0)), none⟩,
    ⟨(some 2), .op (.mov (.c (.slice none 0 0))), none⟩])
  (.seq (.ops [⟨(some 10), .op (.faddr 0 (.t 1)), none⟩,
    ⟨(some 11), .op (.load none (.t 10)), none⟩,
    ⟨(some 12), .call 27 [(.t 11)], none⟩,
    ⟨(some 9), .op (.mov (.t 12)), none⟩,
    ⟨(some 13), .op (.extract (.t 9) 0), none⟩,
    ⟨(some 14), .op (.extract (.t 9) 1), none⟩,
    ⟨(some 15), .op (.extract (.t 9) 2), none⟩,
    ⟨(some 16), .op (.extract (.t 9) 3), none⟩,
    ⟨(some 3), .op (.mov (.t 13)), none⟩,
    ⟨(some 4), .op (.mov (.t 14)), none⟩,
    ⟨(some 5), .op (.mov (.t 15)), none⟩,
    ⟨(some 6), .op (.mov (.t 16)), none⟩])
  (.seq (.ops [⟨(some 7), .op (.mov (.c (.slice none 0 0))), none⟩])
  (.seq (.seq (.ops [⟨(some 8), .op (.mov (.c (.int .i64 0))), none⟩])
  (.block 0
    (.loop C13L0)))
  (.seq (.ops [⟨(some 39), .op (.mov (.t 7)), none⟩,
    ⟨(some 2), .op (.mov (.t 39)), none⟩])
  .ret))))), [.tmp 2]⟩
-- swath/ir.Writes
def C14 : IFn := ⟨10, (.seq (.ops [⟨(some 1), .op (.box (.t 0)), none⟩,
    ⟨(some 2), .op (.mov (.c (.int .i64 0))), none⟩])
  (.seq (.seq (.ops [⟨(some 3), .op (.faddr 0 (.t 1)), none⟩,
    ⟨(some 4), .op (.load none (.t 3)), none⟩,
    ⟨(some 5), .call 25 [(.t 4)], none⟩,
    ⟨(some 6), .op (.field 3 none (.t 5)), none⟩,
    ⟨(some 7), .op (.bin .eql (.t 6) (.c (.string ⟨#[]⟩))), none⟩])
  (.cond (.t 7)
    (.seq (.ops [⟨(some 2), .op (.mov (.c (.int .i64 (-1)))), none⟩])
    .ret)
    .skip))
  (.seq (.ops [⟨(some 8), .op (.faddr 1 (.t 1)), none⟩,
    ⟨(some 9), .op (.load none (.t 8)), none⟩,
    ⟨(some 2), .op (.mov (.t 9)), none⟩])
  .ret))), [.tmp 2]⟩
-- swath/swathref10.Writes
def C15 : IFn := ⟨19, (.seq (.ops [⟨(some 1), .op (.box (.t 0)), none⟩,
    ⟨(some 2), .op (.mov (.c (.int .i64 0))), none⟩])
  (.seq (.ops [⟨(some 8), .op (.faddr 0 (.t 1)), none⟩,
    ⟨(some 9), .op (.load none (.t 8)), none⟩,
    ⟨(some 10), .call 27 [(.t 9)], none⟩,
    ⟨(some 7), .op (.mov (.t 10)), none⟩,
    ⟨(some 11), .op (.extract (.t 7) 0), none⟩,
    ⟨(some 12), .op (.extract (.t 7) 1), none⟩,
    ⟨(some 13), .op (.extract (.t 7) 2), none⟩,
    ⟨(some 14), .op (.extract (.t 7) 3), none⟩,
    ⟨(some 3), .op (.mov (.t 11)), none⟩,
    ⟨(some 4), .op (.mov (.t 12)), none⟩,
    ⟨(some 5), .op (.mov (.t 13)), none⟩,
    ⟨(some 6), .op (.mov (.t 14)), none⟩])
  (.seq (.seq (.ops [⟨(some 15), .op (.mov (.t 6)), none⟩,
    ⟨(some 16), .op (.bin .eql (.t 15) (.c (.string ⟨#[]⟩))), none⟩])
  (.cond (.t 16)
    (.seq (.ops [⟨(some 2), .op (.mov (.c (.int .i64 (-1)))), none⟩])
    .ret)
    .skip))
  (.seq (.ops [⟨(some 17), .op (.faddr 1 (.t 1)), none⟩,
    ⟨(some 18), .op (.load none (.t 17)), none⟩,
    ⟨(some 2), .op (.mov (.t 18)), none⟩])
  .ret)))), [.tmp 2]⟩
-- swath/ir.reg
def C26 : IFn := ⟨16, (.seq (.ops [⟨(some 2), .op (.box (.t 0)), none⟩,
    ⟨(some 4), .op (.mov (.c (.int .i64 0))), none⟩])
  (.seq (.seq (.ops [⟨(some 5), .op (.mov (.t 1)), none⟩])
  (.block 0
    (.seq (.ops [⟨(some 7), .op (.bin .eql (.t 5) (.c (.int .i32 65))), none⟩,
      ⟨(some 6), .op (.mov (.t 7)), none⟩])
    (.cond (.t 6)
      (.seq (.ops [⟨(some 8), .op (.faddr 1 (.t 2)), none⟩,
        ⟨(some 9), .op (.load none (.t 8)), none⟩,
        ⟨(some 4), .op (.mov (.t 9)), none⟩])
      .ret)
      (.seq (.ops [⟨(some 11), .op (.bin .eql (.t 5) (.c (.int .i32 66))), none⟩,
        ⟨(some 10), .op (.mov (.t 11)), none⟩])
      (.cond (.t 10)
        (.seq (.ops [⟨(some 12), .op (.faddr 2 (.t 2)), none⟩,
          ⟨(some 13), .op (.load none (.t 12)), none⟩,
          ⟨(some 4), .op (.mov (.t 13)), none⟩])
        .ret)
        .skip))))))
  (.seq (.ops [⟨(some 14), .op (.faddr 3 (.t 2)), none⟩,
    ⟨(some 15), .op (.load none (.t 14)), none⟩,
    ⟨(some 4), .op (.mov (.t 15)), none⟩])
  .ret))), [.tmp 4]⟩
-- swath/swathref10.field
def C28 : IFn := ⟨16, (.seq (.ops [⟨(some 2), .op (.box (.t 0)), none⟩,
    ⟨(some 4), .op (.mov (.c (.int .i64 0))), none⟩])
  (.seq (.seq (.ops [⟨(some 5), .op (.mov (.t 1)), none⟩])
  (.block 0
    (.seq (.ops [⟨(some 7), .op (.bin .eql (.t 5) (.c (.int .u8 65))), none⟩,
      ⟨(some 6), .op (.mov (.t 7)), none⟩])
    (.cond (.t 6)
      (.seq (.ops [⟨(some 8), .op (.faddr 1 (.t 2)), none⟩,
        ⟨(some 9), .op (.load none (.t 8)), none⟩,
        ⟨(some 4), .op (.mov (.t 9)), none⟩])
      .ret)
      (.seq (.ops [⟨(some 11), .op (.bin .eql (.t 5) (.c (.int .u8 66))), none⟩,
        ⟨(some 10), .op (.mov (.t 11)), none⟩])
      (.cond (.t 10)
        (.seq (.ops [⟨(some 12), .op (.faddr 2 (.t 2)), none⟩,
          ⟨(some 13), .op (.load none (.t 12)), none⟩,
          ⟨(some 4), .op (.mov (.t 13)), none⟩])
        .ret)
        .skip))))))
  (.seq (.ops [⟨(some 14), .op (.faddr 3 (.t 2)), none⟩,
    ⟨(some 15), .op (.load none (.t 14)), none⟩,
    ⟨(some 4), .op (.mov (.t 15)), none⟩])
  .ret))), [.tmp 4]⟩

end Go.Idl
end

section
/- Functions as ideal code. (Printed by wip/tools/Print.lean) -/
namespace Go.Idl
-- swath/swathlaw10.IrSame
def C6 : IFn := ⟨36, (.seq (.ops [⟨(some 2), .op (.box (.t 0)), none⟩,
    ⟨(some 3), .op (.box (.t 1)), none⟩,
    ⟨(some 4), .op (.mov (.c (.bool false))), none⟩])
  (.seq (.seq (.ops [⟨(some 5), .call 7 [], none⟩,
    ⟨(some 6), .op (.un .not (.t 5)), none⟩])
  (.cond (.t 6)
    (.seq (.ops [⟨(some 4), .op (.mov (.c (.bool false))), none⟩])
    .ret)
    .skip))
  (.seq (.seq (.ops [⟨(some 7), .op (.load (some 3) (.t 2)), none⟩,
    ⟨(some 8), .call 8 [(.t 7)], none⟩,
    ⟨(some 9), .op (.un .not (.t 8)), none⟩,
    ⟨(some 10), .op (.mov (.t 9)), none⟩,
    ⟨(some 11), .op (.load (some 3) (.t 3)), (some (10, false))⟩,
    ⟨(some 12), .call 8 [(.t 11)], (some (10, false))⟩,
    ⟨(some 13), .op (.un .not (.t 12)), (some (10, false))⟩,
    ⟨(some 14), .op (.pick (.t 10) (.c (.bool true)) (.t 13)), none⟩])
  (.cond (.t 14)
    (.seq (.ops [⟨(some 4), .op (.mov (.c (.bool true))), none⟩])
    .ret)
    .skip))
  (.seq (.draw [⟨(some 15), .op (.load (some 3) (.t 2)), none⟩,
    ⟨(some 16), .op (.load (some 3) (.t 3)), none⟩,
    ⟨(some 17), .call 18 [(.t 15), (.t 16)], none⟩,
    ⟨(some 18), .op (.load (some 3) (.t 2)), none⟩,
    ⟨(some 19), .op (.load (some 3) (.t 3)), none⟩,
    ⟨(some 20), .call 19 [(.t 18), (.t 19)], none⟩,
    ⟨(some 21), .op (.beq false (.t 17) (.t 20)), none⟩,
    ⟨(some 22), .op (.mov (.t 21)), none⟩,
    ⟨(some 23), .op (.load (some 3) (.t 2)), (some (22, true))⟩,
    ⟨(some 24), .op (.load (some 3) (.t 2)), (some (22, true))⟩,
    ⟨(some 25), .call 18 [(.t 23), (.t 24)], (some (22, true))⟩,
    ⟨(some 26), .op (.pick (.t 22) (.t 25) (.c (.bool false))), none⟩,
    ⟨(some 27), .op (.mov (.t 26)), none⟩,
    ⟨(some 28), .op (.load (some 3) (.t 2)), (some (27, true))⟩,
    ⟨(some 29), .op (.load (some 3) (.t 3)), (some (27, true))⟩,
    ⟨(some 30), .call 18 [(.t 28), (.t 29)], (some (27, true))⟩,
    ⟨(some 31), .op (.load (some 3) (.t 3)), (some (27, true))⟩,
    ⟨(some 32), .op (.load (some 3) (.t 2)), (some (27, true))⟩,
    ⟨(some 33), .call 18 [(.t 31), (.t 32)], (some (27, true))⟩,
    ⟨(some 34), .op (.beq false (.t 30) (.t 33)), (some (27, true))⟩,
    ⟨(some 35), .op (.pick (.t 27) (.t 34) (.c (.bool false))), none⟩,
    ⟨(some 4), .op (.mov (.t 35)), none⟩]
    [[], [], [1, 0], [], [], [2, 1, 0, 4, 3], [5, 2, 1, 0, 4, 3], [5, 2, 1, 0, 4, 3, 6], [7, 5, 2, 1, 0, 4, 3, 6], [7, 5, 2, 1, 0, 4, 3, 6], [7, 5, 2, 1, 0, 4, 3, 6, 9, 8], [10, 7, 5, 2, 1, 0, 4, 3, 6, 9, 8], [10, 7, 5, 2, 1, 0, 4, 3, 6, 9, 8, 11], [12, 10, 7, 5, 2, 1, 0, 4, 3, 6, 9, 8, 11], [12, 10, 7, 5, 2, 1, 0, 4, 3, 6, 9, 8, 11], [12, 10, 7, 5, 2, 1, 0, 4, 3, 6, 9, 8, 11, 14, 13], [12, 10, 7, 5, 2, 1, 0, 4, 3, 6, 9, 8, 11], [12, 10, 7, 5, 2, 1, 0, 4, 3, 6, 9, 8, 11], [12, 10, 7, 5, 2, 1, 0, 4, 3, 6, 9, 8, 11, 15, 14, 13, 17, 16], [12, 10, 7, 5, 2, 1, 0, 4, 3, 6, 9, 8, 11, 18, 15, 14, 13, 17, 16], [19, 12, 10, 7, 5, 2, 1, 0, 4, 3, 6, 9, 8, 11, 18, 15, 14, 13, 17, 16], [20, 19, 12, 10, 7, 5, 2, 1, 0, 4, 3, 6, 9, 8, 11, 18, 15, 14, 13, 17, 16]])
  .ret)))), [.tmp 4]⟩
-- swath/swathlaw10.few
def C8 : IFn := ⟨6, (.seq (.ops [⟨(some 1), .op (.box (.t 0)), none⟩,
    ⟨(some 2), .op (.mov (.c (.bool false))), none⟩])
  (.seq (.ops [⟨(some 3), .op (.load (some 3) (.t 1)), none⟩,
    ⟨(some 4), .call 20 [(.t 3)], none⟩,
    ⟨(some 5), .op (.bin .leq (.t 4) (.c (.int .i64 2000))), none⟩,
    ⟨(some 2), .op (.mov (.t 5)), none⟩])
  .ret)), [.tmp 2]⟩
-- swath/ir.Same
def C18 : IFn := ⟨24, (.seq (.ops [⟨(some 2), .op (.box (.t 0)), none⟩,
    ⟨(some 3), .op (.box (.t 1)), none⟩,
    ⟨(some 4), .op (.mov (.c (.bool false))), none⟩])
  (.seq (.ops [⟨(some 5), .op (.faddr 1 (.t 2)), none⟩,
    ⟨(some 6), .op (.load none (.t 5)), none⟩,
    ⟨(some 7), .op (.faddr 1 (.t 3)), none⟩,
    ⟨(some 8), .op (.load none (.t 7)), none⟩,
    ⟨(some 9), .op (.bin .eql (.t 6) (.t 8)), none⟩,
    ⟨(some 10), .op (.mov (.t 9)), none⟩,
    ⟨(some 11), .op (.faddr 2 (.t 2)), (some (10, true))⟩,
    ⟨(some 12), .op (.load none (.t 11)), (some (10, true))⟩,
    ⟨(some 13), .op (.faddr 2 (.t 3)), (some (10, true))⟩,
    ⟨(some 14), .op (.load none (.t 13)), (some (10, true))⟩,
    ⟨(some 15), .op (.bin .eql (.t 12) (.t 14)), (some (10, true))⟩,
    ⟨(some 16), .op (.pick (.t 10) (.t 15) (.c (.bool false))), none⟩,
    ⟨(some 17), .op (.mov (.t 16)), none⟩,
    ⟨(some 18), .op (.faddr 0 (.t 2)), (some (17, true))⟩,
    ⟨(some 19), .op (.load none (.t 18)), (some (17, true))⟩,
    ⟨(some 20), .op (.faddr 0 (.t 3)), (some (17, true))⟩,
    ⟨(some 21), .op (.load none (.t 20)), (some (17, true))⟩,
    ⟨(some 22), .call 32 [(.t 19), (.t 21), (.c (.func (.func 33) #[] #[]))], (some (17, true))⟩,
    ⟨(some 23), .op (.pick (.t 17) (.t 22) (.c (.bool false))), none⟩,
    ⟨(some 4), .op (.mov (.t 23)), none⟩])
  .ret)), [.tmp 4]⟩
-- swath/swathref10.Same
def C19L0 : IC :=
  (.seq (.ops [⟨(some 80), .op (.bin .lss (.t 79) (.t 78)), none⟩])
  (.seq (.cond (.t 80)
    .skip
    (.exit 2))
  (.seq (.block 3
    (.seq (.ops [⟨(some 81), .op (.mov (.t 79)), none⟩,
      ⟨(some 8), .op (.mov (.t 81)), none⟩])
    (.seq (.draw [⟨(some 82), .op (.faddr 3 (.t 6)), none⟩,
      ⟨(some 83), .op (.load none (.t 82)), none⟩,
      ⟨(some 84), .op (.mov (.t 8)), none⟩,
      ⟨(some 85), .op (.iaddr (.sl 6) (.t 83) (.t 84)), none⟩,
      ⟨(some 86), .op (.load (some 6) (.t 85)), none⟩,
      ⟨(some 87), .op (.faddr 3 (.t 7)), none⟩,
      ⟨(some 88), .op (.load none (.t 87)), none⟩,
      ⟨(some 89), .op (.mov (.t 8)), none⟩,
      ⟨(some 90), .op (.iaddr (.sl 6) (.t 88) (.t 89)), none⟩,
      ⟨(some 91), .op (.load (some 6) (.t 90)), none⟩,
      ⟨(some 9), .op (.alloc [(.int .i64 0), (.int .i64 0), (.int .i64 0), (.int .i64 0), (.int .i64 0), (.slice none 0 0)]), none⟩,
      ⟨(some 10), .op (.alloc [(.int .i64 0), (.int .i64 0), (.int .i64 0), (.int .i64 0), (.int .i64 0), (.slice none 0 0)]), none⟩,
      ⟨none, .op (.store 6 (.t 9) (.t 86)), none⟩,
      ⟨none, .op (.store 6 (.t 10) (.t 91)), none⟩]
      [[], [0], [], [2, 1, 0], [3, 2, 1, 0], [], [5], [], [7, 6, 5], [8, 7, 6, 5], [], [], [11, 10, 4, 3, 2, 1, 0], [12, 11, 10, 4, 3, 2, 1, 0, 9, 8, 7, 6, 5]])
    (.seq (.ops [⟨(some 92), .op (.faddr 0 (.t 9)), none⟩,
      ⟨(some 93), .op (.load none (.t 92)), none⟩,
      ⟨(some 94), .op (.faddr 0 (.t 10)), none⟩,
      ⟨(some 95), .op (.load none (.t 94)), none⟩,
      ⟨(some 96), .op (.bin .neq (.t 93) (.t 95)), none⟩,
      ⟨(some 97), .op (.mov (.t 96)), none⟩,
      ⟨(some 98), .op (.faddr 1 (.t 9)), (some (97, false))⟩,
      ⟨(some 99), .op (.load none (.t 98)), (some (97, false))⟩,
      ⟨(some 100), .op (.faddr 1 (.t 10)), (some (97, false))⟩,
      ⟨(some 101), .op (.load none (.t 100)), (some (97, false))⟩,
      ⟨(some 102), .op (.bin .neq (.t 99) (.t 101)), (some (97, false))⟩,
      ⟨(some 103), .op (.pick (.t 97) (.c (.bool true)) (.t 102)), none⟩,
      ⟨(some 104), .op (.mov (.t 103)), none⟩,
      ⟨(some 105), .op (.faddr 2 (.t 9)), (some (104, false))⟩,
      ⟨(some 106), .op (.load none (.t 105)), (some (104, false))⟩,
      ⟨(some 107), .op (.faddr 2 (.t 10)), (some (104, false))⟩,
      ⟨(some 108), .op (.load none (.t 107)), (some (104, false))⟩,
      ⟨(some 109), .op (.bin .neq (.t 106) (.t 108)), (some (104, false))⟩,
      ⟨(some 110), .op (.pick (.t 104) (.c (.bool true)) (.t 109)), none⟩,
      ⟨(some 111), .op (.mov (.t 110)), none⟩,
      ⟨(some 112), .op (.faddr 3 (.t 9)), (some (111, false))⟩,
      ⟨(some 113), .op (.load none (.t 112)), (some (111, false))⟩,
      ⟨(some 114), .op (.faddr 3 (.t 10)), (some (111, false))⟩,
      ⟨(some 115), .op (.load none (.t 114)), (some (111, false))⟩,
      ⟨(some 116), .op (.bin .neq (.t 113) (.t 115)), (some (111, false))⟩,
      ⟨(some 117), .op (.pick (.t 111) (.c (.bool true)) (.t 116)), none⟩,
      ⟨(some 118), .op (.mov (.t 117)), none⟩,
      ⟨(some 119), .op (.faddr 4 (.t 9)), (some (118, false))⟩,
      ⟨(some 120), .op (.load none (.t 119)), (some (118, false))⟩,
      ⟨(some 121), .op (.faddr 4 (.t 10)), (some (118, false))⟩,
      ⟨(some 122), .op (.load none (.t 121)), (some (118, false))⟩,
      ⟨(some 123), .op (.bin .neq (.t 120) (.t 122)), (some (118, false))⟩,
      ⟨(some 124), .op (.pick (.t 118) (.c (.bool true)) (.t 123)), none⟩,
      ⟨(some 125), .op (.mov (.t 124)), none⟩,
      ⟨(some 126), .op (.faddr 5 (.t 9)), (some (125, false))⟩,
      ⟨(some 127), .op (.load none (.t 126)), (some (125, false))⟩,
      ⟨(some 128), .op (.faddr 5 (.t 10)), (some (125, false))⟩,
      ⟨(some 129), .op (.load none (.t 128)), (some (125, false))⟩,
      ⟨(some 130), .call 37 [(.t 127), (.t 129)], (some (125, false))⟩,
      ⟨(some 131), .op (.un .not (.t 130)), (some (125, false))⟩,
      ⟨(some 132), .op (.pick (.t 125) (.c (.bool true)) (.t 131)), none⟩])
    (.cond (.t 132)
      (.seq (.ops [⟨(some 4), .op (.mov (.c (.bool false))), none⟩])
      .ret)
      .skip)))))
  (.ops [⟨(some 133), .op (.bin .add (.t 79) (.c (.int .i64 1))), none⟩,
    ⟨(some 79), .op (.mov (.t 133)), none⟩]))))
def C19L1 : IC :=
  (.seq (.ops [⟨(some 36), .op (.bin .lss (.t 35) (.t 34)), none⟩])
  (.seq (.cond (.t 36)
    .skip
    (.exit 0))
  (.seq (.block 1
    (.seq (.ops [⟨(some 37), .op (.mov (.t 35)), none⟩,
      ⟨(some 5), .op (.mov (.t 37)), none⟩])
    (.seq (.draw [⟨(some 38), .op (.faddr 0 (.t 2)), none⟩,
      ⟨(some 39), .op (.load none (.t 38)), none⟩,
      ⟨(some 40), .op (.mov (.t 5)), none⟩,
      ⟨(some 41), .op (.iaddr (.sl 4) (.t 39) (.t 40)), none⟩,
      ⟨(some 42), .op (.load (some 4) (.t 41)), none⟩,
      ⟨(some 43), .op (.faddr 0 (.t 3)), none⟩,
      ⟨(some 44), .op (.load none (.t 43)), none⟩,
      ⟨(some 45), .op (.mov (.t 5)), none⟩,
      ⟨(some 46), .op (.iaddr (.sl 4) (.t 44) (.t 45)), none⟩,
      ⟨(some 47), .op (.load (some 4) (.t 46)), none⟩,
      ⟨(some 6), .op (.alloc [(.string ⟨#[]⟩), (.int .i64 0), (.int .i64 0), (.slice none 0 0)]), none⟩,
      ⟨(some 7), .op (.alloc [(.string ⟨#[]⟩), (.int .i64 0), (.int .i64 0), (.slice none 0 0)]), none⟩,
      ⟨none, .op (.store 4 (.t 6) (.t 42)), none⟩,
      ⟨none, .op (.store 4 (.t 7) (.t 47)), none⟩]
      [[], [0], [], [2, 1, 0], [3, 2, 1, 0], [], [5], [], [7, 6, 5], [8, 7, 6, 5], [], [], [11, 10, 4, 3, 2, 1, 0], [12, 11, 10, 4, 3, 2, 1, 0, 9, 8, 7, 6, 5]])
    (.seq (.seq (.ops [⟨(some 48), .op (.faddr 0 (.t 6)), none⟩,
      ⟨(some 49), .op (.load none (.t 48)), none⟩,
      ⟨(some 50), .op (.faddr 0 (.t 7)), none⟩,
      ⟨(some 51), .op (.load none (.t 50)), none⟩,
      ⟨(some 52), .op (.bin .neq (.t 49) (.t 51)), none⟩,
      ⟨(some 53), .op (.mov (.t 52)), none⟩,
      ⟨(some 54), .op (.faddr 1 (.t 6)), (some (53, false))⟩,
      ⟨(some 55), .op (.load none (.t 54)), (some (53, false))⟩,
      ⟨(some 56), .op (.faddr 1 (.t 7)), (some (53, false))⟩,
      ⟨(some 57), .op (.load none (.t 56)), (some (53, false))⟩,
      ⟨(some 58), .op (.bin .neq (.t 55) (.t 57)), (some (53, false))⟩,
      ⟨(some 59), .op (.pick (.t 53) (.c (.bool true)) (.t 58)), none⟩,
      ⟨(some 60), .op (.mov (.t 59)), none⟩,
      ⟨(some 61), .op (.faddr 2 (.t 6)), (some (60, false))⟩,
      ⟨(some 62), .op (.load none (.t 61)), (some (60, false))⟩,
      ⟨(some 63), .op (.faddr 2 (.t 7)), (some (60, false))⟩,
      ⟨(some 64), .op (.load none (.t 63)), (some (60, false))⟩,
      ⟨(some 65), .op (.bin .neq (.t 62) (.t 64)), (some (60, false))⟩,
      ⟨(some 66), .op (.pick (.t 60) (.c (.bool true)) (.t 65)), none⟩,
      ⟨(some 67), .op (.mov (.t 66)), none⟩,
      ⟨(some 68), .op (.faddr 3 (.t 6)), (some (67, false))⟩,
      ⟨(some 69), .op (.load none (.t 68)), (some (67, false))⟩,
      ⟨(some 70), .op (.len .sl (.t 69)), (some (67, false))⟩,
      ⟨(some 71), .op (.faddr 3 (.t 7)), (some (67, false))⟩,
      ⟨(some 72), .op (.load none (.t 71)), (some (67, false))⟩,
      ⟨(some 73), .op (.len .sl (.t 72)), (some (67, false))⟩,
      ⟨(some 74), .op (.bin .neq (.t 70) (.t 73)), (some (67, false))⟩,
      ⟨(some 75), .op (.pick (.t 67) (.c (.bool true)) (.t 74)), none⟩])
    (.cond (.t 75)
      (.seq (.ops [⟨(some 4), .op (.mov (.c (.bool false))), none⟩])
      .ret)
      .skip))
    (.seq (.ops [⟨(some 76), .op (.faddr 3 (.t 6)), none⟩,
      ⟨(some 77), .op (.load none (.t 76)), none⟩,
      ⟨(some 78), .op (.len .sl (.t 77)), none⟩,
      ⟨(some 79), .op (.mov (.c (.int .i64 0))), none⟩])
    (.block 2
      (.loop C19L0)))))))
  (.ops [⟨(some 134), .op (.bin .add (.t 35) (.c (.int .i64 1))), none⟩,
    ⟨(some 35), .op (.mov (.t 134)), none⟩]))))
def C19 : IFn := ⟨135, (.seq (.ops [⟨(some 2), .op (.box (.t 0)), none⟩,
    ⟨(some 3), .op (.box (.t 1)), none⟩,
    ⟨(some 4), .op (.mov (.c (.bool false))), none⟩])
  (.seq (.seq (.ops [⟨(some 11), .op (.faddr 0 (.t 2)), none⟩,
    ⟨(some 12), .op (.load none (.t 11)), none⟩,
    ⟨(some 13), .op (.len .sl (.t 12)), none⟩,
    ⟨(some 14), .op (.faddr 0 (.t 3)), none⟩,
    ⟨(some 15), .op (.load none (.t 14)), none⟩,
    ⟨(some 16), .op (.len .sl (.t 15)), none⟩,
    ⟨(some 17), .op (.bin .neq (.t 13) (.t 16)), none⟩,
    ⟨(some 18), .op (.mov (.t 17)), none⟩,
    ⟨(some 19), .op (.faddr 1 (.t 2)), (some (18, false))⟩,
    ⟨(some 20), .op (.load none (.t 19)), (some (18, false))⟩,
    ⟨(some 21), .op (.faddr 1 (.t 3)), (some (18, false))⟩,
    ⟨(some 22), .op (.load none (.t 21)), (some (18, false))⟩,
    ⟨(some 23), .op (.bin .neq (.t 20) (.t 22)), (some (18, false))⟩,
    ⟨(some 24), .op (.pick (.t 18) (.c (.bool true)) (.t 23)), none⟩,
    ⟨(some 25), .op (.mov (.t 24)), none⟩,
    ⟨(some 26), .op (.faddr 2 (.t 2)), (some (25, false))⟩,
    ⟨(some 27), .op (.load none (.t 26)), (some (25, false))⟩,
    ⟨(some 28), .op (.faddr 2 (.t 3)), (some (25, false))⟩,
    ⟨(some 29), .op (.load none (.t 28)), (some (25, false))⟩,
    ⟨(some 30), .op (.bin .neq (.t 27) (.t 29)), (some (25, false))⟩,
    ⟨(some 31), .op (.pick (.t 25) (.c (.bool true)) (.t 30)), none⟩])
  (.cond (.t 31)
    (.seq (.ops [⟨(some 4), .op (.mov (.c (.bool false))), none⟩])
    .ret)
    .skip))
  (.seq (.seq (.ops [⟨(some 32), .op (.faddr 0 (.t 2)), none⟩,
    ⟨(some 33), .op (.load none (.t 32)), none⟩,
    ⟨(some 34), .op (.len .sl (.t 33)), none⟩,
    ⟨(some 35), .op (.mov (.c (.int .i64 0))), none⟩])
  (.block 0
    (.loop C19L1)))
  (.seq (.ops [⟨(some 4), .op (.mov (.c (.bool true))), none⟩])
  .ret)))), [.tmp 4]⟩
-- swath/swathref10.Size
def C20L0 : IC :=
  (.seq (.ops [⟨(some 30), .op (.bin .lss (.t 29) (.t 28)), none⟩])
  (.seq (.cond (.t 30)
    .skip
    (.exit 2))
  (.seq (.block 3
    (.seq (.ops [⟨(some 31), .op (.iaddr (.sl 6) (.t 27) (.t 29)), none⟩,
      ⟨(some 32), .op (.load (some 6) (.t 31)), none⟩,
      ⟨(some 7), .op (.alloc [(.int .i64 0), (.int .i64 0), (.int .i64 0), (.int .i64 0), (.int .i64 0), (.slice none 0 0)]), none⟩,
      ⟨none, .op (.store 6 (.t 7) (.t 32)), none⟩])
    (.ops [⟨(some 33), .op (.mov (.t 3)), none⟩,
      ⟨(some 34), .op (.faddr 5 (.t 7)), none⟩,
      ⟨(some 35), .op (.load none (.t 34)), none⟩,
      ⟨(some 36), .op (.len .sl (.t 35)), none⟩,
      ⟨(some 37), .op (.bin .add (.t 33) (.t 36)), none⟩,
      ⟨(some 3), .op (.mov (.t 37)), none⟩])))
  (.ops [⟨(some 38), .op (.bin .add (.t 29) (.c (.int .i64 1))), none⟩,
    ⟨(some 29), .op (.mov (.t 38)), none⟩]))))
def C20L1 : IC :=
  (.seq (.ops [⟨(some 12), .op (.bin .lss (.t 11) (.t 10)), none⟩])
  (.seq (.cond (.t 12)
    .skip
    (.exit 0))
  (.seq (.block 1
    (.seq (.ops [⟨(some 13), .op (.iaddr (.sl 4) (.t 9) (.t 11)), none⟩,
      ⟨(some 14), .op (.load (some 4) (.t 13)), none⟩,
      ⟨(some 5), .op (.alloc [(.string ⟨#[]⟩), (.int .i64 0), (.int .i64 0), (.slice none 0 0)]), none⟩,
      ⟨none, .op (.store 4 (.t 5) (.t 14)), none⟩])
    (.seq (.ops [⟨(some 15), .op (.mov (.t 3)), none⟩,
      ⟨(some 16), .op (.faddr 3 (.t 5)), none⟩,
      ⟨(some 17), .op (.load none (.t 16)), none⟩,
      ⟨(some 18), .op (.len .sl (.t 17)), none⟩,
      ⟨(some 19), .op (.bin .add (.c (.int .i64 1)) (.t 18)), none⟩,
      ⟨(some 20), .op (.faddr 0 (.t 5)), none⟩,
      ⟨(some 21), .op (.load none (.t 20)), none⟩,
      ⟨(some 22), .op (.len .str (.t 21)), none⟩,
      ⟨(some 23), .op (.bin .quo (.t 22) (.c (.int .i64 10))), none⟩,
      ⟨(some 24), .op (.bin .add (.t 19) (.t 23)), none⟩,
      ⟨(some 25), .op (.bin .add (.t 15) (.t 24)), none⟩,
      ⟨(some 3), .op (.mov (.t 25)), none⟩])
    (.seq (.ops [⟨(some 26), .op (.faddr 3 (.t 5)), none⟩,
      ⟨(some 27), .op (.load none (.t 26)), none⟩,
      ⟨(some 28), .op (.len .sl (.t 27)), none⟩,
      ⟨(some 29), .op (.mov (.c (.int .i64 0))), none⟩])
    (.block 2
      (.loop C20L0))))))
  (.ops [⟨(some 39), .op (.bin .add (.t 11) (.c (.int .i64 1))), none⟩,
    ⟨(some 11), .op (.mov (.t 39)), none⟩]))))
def C20 : IFn := ⟨41, (.seq (.ops [⟨(some 1), .op (.box (.t 0)), none⟩,
    ⟨(some 2), .op (.mov (.c (.int .i64 0))), none⟩])
  (.seq (.ops [⟨(some 3), .op (.mov (.c (.int .i64 0))), none⟩])
  (.seq (.seq (.ops [⟨(some 8), .op (.faddr 0 (.t 1)), none⟩,
    ⟨(some 9), .op (.load none (.t 8)), none⟩,
    ⟨(some 10), .op (.len .sl (.t 9)), none⟩,
    ⟨(some 11), .op (.mov (.c (.int .i64 0))), none⟩])
  (.block 0
    (.loop C20L1)))
  (.seq (.ops [⟨(some 40), .op (.mov (.t 3)), none⟩,
    ⟨(some 2), .op (.mov (.t 40)), none⟩])
  .ret)))), [.tmp 2]⟩
-- slices.EqualFunc[[]swath/api.Func,[]swath/api.Func,swath/api.Func,swath/api.Func]
def C32L0 : IC :=
  (.seq (.ops [⟨(some 18), .op (.bin .lss (.t 17) (.t 16)), none⟩])
  (.seq (.cond (.t 18)
    .skip
    (.exit 0))
  (.seq (.block 1
    (.seq (.ops [⟨(some 19), .op (.mov (.t 17)), none⟩,
      ⟨(some 20), .op (.iaddr (.sl 4) (.t 15) (.t 17)), none⟩,
      ⟨(some 21), .op (.load (some 4) (.t 20)), none⟩,
      ⟨(some 8), .op (.alloc [(.string ⟨#[]⟩), (.int .i64 0), (.int .i64 0), (.slice none 0 0)]), none⟩,
      ⟨(some 7), .op (.mov (.t 19)), none⟩,
      ⟨none, .op (.store 4 (.t 8) (.t 21)), none⟩])
    (.seq (.ops [⟨(some 22), .op (.mov (.t 1)), none⟩,
      ⟨(some 23), .op (.mov (.t 7)), none⟩,
      ⟨(some 24), .op (.iaddr (.sl 4) (.t 22) (.t 23)), none⟩,
      ⟨(some 25), .op (.load (some 4) (.t 24)), none⟩,
      ⟨(some 9), .op (.alloc [(.string ⟨#[]⟩), (.int .i64 0), (.int .i64 0), (.slice none 0 0)]), none⟩,
      ⟨none, .op (.store 4 (.t 9) (.t 25)), none⟩])
    (.seq (.ops [⟨(some 26), .op (.mov (.t 2)), none⟩,
      ⟨(some 27), .op (.load (some 4) (.t 8)), none⟩,
      ⟨(some 28), .op (.load (some 4) (.t 9)), none⟩,
      ⟨(some 29), .callv (.t 26) [(.t 27), (.t 28)], none⟩,
      ⟨(some 30), .op (.un .not (.t 29)), none⟩])
    (.cond (.t 30)
      (.seq (.ops [⟨(some 6), .op (.mov (.c (.bool false))), none⟩])
      .ret)
      .skip)))))
  (.ops [⟨(some 31), .op (.bin .add (.t 17) (.c (.int .i64 1))), none⟩,
    ⟨(some 17), .op (.mov (.t 31)), none⟩]))))
def C32 : IFn := ⟨32, (.seq (.ops [⟨(some 6), .op (.mov (.c (.bool false))), none⟩])
  (.seq (.seq (.ops [⟨(some 10), .op (.mov (.t 0)), none⟩,
    ⟨(some 11), .op (.len .sl (.t 10)), none⟩,
    ⟨(some 12), .op (.mov (.t 1)), none⟩,
    ⟨(some 13), .op (.len .sl (.t 12)), none⟩,
    ⟨(some 14), .op (.bin .neq (.t 11) (.t 13)), none⟩])
  (.cond (.t 14)
    (.seq (.ops [⟨(some 6), .op (.mov (.c (.bool false))), none⟩])
    .ret)
    .skip))
  (.seq (.seq (.ops [⟨(some 15), .op (.mov (.t 0)), none⟩,
    ⟨(some 16), .op (.len .sl (.t 15)), none⟩,
    ⟨(some 17), .op (.mov (.c (.int .i64 0))), none⟩])
  (.block 0
    (.loop C32L0)))
  (.seq (.ops [⟨(some 6), .op (.mov (.c (.bool true))), none⟩])
  .ret)))), [.tmp 6]⟩
-- swath/ir.Same$1
def C33 : IFn := ⟨31, (.seq (.ops [⟨(some 2), .op (.box (.t 0)), none⟩,
    ⟨(some 3), .op (.box (.t 1)), none⟩,
    ⟨(some 4), .op (.mov (.c (.bool false))), none⟩])
  (.seq (.ops [⟨(some 5), .op (.faddr 0 (.t 2)), none⟩,
    ⟨(some 6), .op (.load none (.t 5)), none⟩,
    ⟨(some 7), .op (.faddr 0 (.t 3)), none⟩,
    ⟨(some 8), .op (.load none (.t 7)), none⟩,
    ⟨(some 9), .op (.bin .eql (.t 6) (.t 8)), none⟩,
    ⟨(some 10), .op (.mov (.t 9)), none⟩,
    ⟨(some 11), .op (.faddr 1 (.t 2)), (some (10, true))⟩,
    ⟨(some 12), .op (.load none (.t 11)), (some (10, true))⟩,
    ⟨(some 13), .op (.faddr 1 (.t 3)), (some (10, true))⟩,
    ⟨(some 14), .op (.load none (.t 13)), (some (10, true))⟩,
    ⟨(some 15), .op (.bin .eql (.t 12) (.t 14)), (some (10, true))⟩,
    ⟨(some 16), .op (.pick (.t 10) (.t 15) (.c (.bool false))), none⟩,
    ⟨(some 17), .op (.mov (.t 16)), none⟩,
    ⟨(some 18), .op (.faddr 2 (.t 2)), (some (17, true))⟩,
    ⟨(some 19), .op (.load none (.t 18)), (some (17, true))⟩,
    ⟨(some 20), .op (.faddr 2 (.t 3)), (some (17, true))⟩,
    ⟨(some 21), .op (.load none (.t 20)), (some (17, true))⟩,
    ⟨(some 22), .op (.bin .eql (.t 19) (.t 21)), (some (17, true))⟩,
    ⟨(some 23), .op (.pick (.t 17) (.t 22) (.c (.bool false))), none⟩,
    ⟨(some 24), .op (.mov (.t 23)), none⟩,
    ⟨(some 25), .op (.faddr 3 (.t 2)), (some (24, true))⟩,
    ⟨(some 26), .op (.load none (.t 25)), (some (24, true))⟩,
    ⟨(some 27), .op (.faddr 3 (.t 3)), (some (24, true))⟩,
    ⟨(some 28), .op (.load none (.t 27)), (some (24, true))⟩,
    ⟨(some 29), .call 34 [(.t 26), (.t 28), (.c (.func (.func 35) #[] #[]))], (some (24, true))⟩,
    ⟨(some 30), .op (.pick (.t 24) (.t 29) (.c (.bool false))), none⟩,
    ⟨(some 4), .op (.mov (.t 30)), none⟩])
  .ret)), [.tmp 4]⟩
-- slices.EqualFunc[[]swath/api.Ins,[]swath/api.Ins,swath/api.Ins,swath/api.Ins]
def C34L0 : IC :=
  (.seq (.ops [⟨(some 18), .op (.bin .lss (.t 17) (.t 16)), none⟩])
  (.seq (.cond (.t 18)
    .skip
    (.exit 0))
  (.seq (.block 1
    (.seq (.ops [⟨(some 19), .op (.mov (.t 17)), none⟩,
      ⟨(some 20), .op (.iaddr (.sl 6) (.t 15) (.t 17)), none⟩,
      ⟨(some 21), .op (.load (some 6) (.t 20)), none⟩,
      ⟨(some 8), .op (.alloc [(.int .i64 0), (.int .i64 0), (.int .i64 0), (.int .i64 0), (.int .i64 0), (.slice none 0 0)]), none⟩,
      ⟨(some 7), .op (.mov (.t 19)), none⟩,
      ⟨none, .op (.store 6 (.t 8) (.t 21)), none⟩])
    (.seq (.ops [⟨(some 22), .op (.mov (.t 1)), none⟩,
      ⟨(some 23), .op (.mov (.t 7)), none⟩,
      ⟨(some 24), .op (.iaddr (.sl 6) (.t 22) (.t 23)), none⟩,
      ⟨(some 25), .op (.load (some 6) (.t 24)), none⟩,
      ⟨(some 9), .op (.alloc [(.int .i64 0), (.int .i64 0), (.int .i64 0), (.int .i64 0), (.int .i64 0), (.slice none 0 0)]), none⟩,
      ⟨none, .op (.store 6 (.t 9) (.t 25)), none⟩])
    (.seq (.ops [⟨(some 26), .op (.mov (.t 2)), none⟩,
      ⟨(some 27), .op (.load (some 6) (.t 8)), none⟩,
      ⟨(some 28), .op (.load (some 6) (.t 9)), none⟩,
      ⟨(some 29), .callv (.t 26) [(.t 27), (.t 28)], none⟩,
      ⟨(some 30), .op (.un .not (.t 29)), none⟩])
    (.cond (.t 30)
      (.seq (.ops [⟨(some 6), .op (.mov (.c (.bool false))), none⟩])
      .ret)
      .skip)))))
  (.ops [⟨(some 31), .op (.bin .add (.t 17) (.c (.int .i64 1))), none⟩,
    ⟨(some 17), .op (.mov (.t 31)), none⟩]))))
def C34 : IFn := ⟨32, (.seq (.ops [⟨(some 6), .op (.mov (.c (.bool false))), none⟩])
  (.seq (.seq (.ops [⟨(some 10), .op (.mov (.t 0)), none⟩,
    ⟨(some 11), .op (.len .sl (.t 10)), none⟩,
    ⟨(some 12), .op (.mov (.t 1)), none⟩,
    ⟨(some 13), .op (.len .sl (.t 12)), none⟩,
    ⟨(some 14), .op (.bin .neq (.t 11) (.t 13)), none⟩])
  (.cond (.t 14)
    (.seq (.ops [⟨(some 6), .op (.mov (.c (.bool false))), none⟩])
    .ret)
    .skip))
  (.seq (.seq (.ops [⟨(some 15), .op (.mov (.t 0)), none⟩,
    ⟨(some 16), .op (.len .sl (.t 15)), none⟩,
    ⟨(some 17), .op (.mov (.c (.int .i64 0))), none⟩])
  (.block 0
    (.loop C34L0)))
  (.seq (.ops [⟨(some 6), .op (.mov (.c (.bool true))), none⟩])
  .ret)))), [.tmp 6]⟩
-- swath/ir.Same$1$1
def C35 : IFn := ⟨45, (.seq (.ops [⟨(some 2), .op (.box (.t 0)), none⟩,
    ⟨(some 3), .op (.box (.t 1)), none⟩,
    ⟨(some 4), .op (.mov (.c (.bool false))), none⟩])
  (.seq (.ops [⟨(some 5), .op (.faddr 0 (.t 2)), none⟩,
    ⟨(some 6), .op (.load none (.t 5)), none⟩,
    ⟨(some 7), .op (.faddr 0 (.t 3)), none⟩,
    ⟨(some 8), .op (.load none (.t 7)), none⟩,
    ⟨(some 9), .op (.bin .eql (.t 6) (.t 8)), none⟩,
    ⟨(some 10), .op (.mov (.t 9)), none⟩,
    ⟨(some 11), .op (.faddr 1 (.t 2)), (some (10, true))⟩,
    ⟨(some 12), .op (.load none (.t 11)), (some (10, true))⟩,
    ⟨(some 13), .op (.faddr 1 (.t 3)), (some (10, true))⟩,
    ⟨(some 14), .op (.load none (.t 13)), (some (10, true))⟩,
    ⟨(some 15), .op (.bin .eql (.t 12) (.t 14)), (some (10, true))⟩,
    ⟨(some 16), .op (.pick (.t 10) (.t 15) (.c (.bool false))), none⟩,
    ⟨(some 17), .op (.mov (.t 16)), none⟩,
    ⟨(some 18), .op (.faddr 2 (.t 2)), (some (17, true))⟩,
    ⟨(some 19), .op (.load none (.t 18)), (some (17, true))⟩,
    ⟨(some 20), .op (.faddr 2 (.t 3)), (some (17, true))⟩,
    ⟨(some 21), .op (.load none (.t 20)), (some (17, true))⟩,
    ⟨(some 22), .op (.bin .eql (.t 19) (.t 21)), (some (17, true))⟩,
    ⟨(some 23), .op (.pick (.t 17) (.t 22) (.c (.bool false))), none⟩,
    ⟨(some 24), .op (.mov (.t 23)), none⟩,
    ⟨(some 25), .op (.faddr 3 (.t 2)), (some (24, true))⟩,
    ⟨(some 26), .op (.load none (.t 25)), (some (24, true))⟩,
    ⟨(some 27), .op (.faddr 3 (.t 3)), (some (24, true))⟩,
    ⟨(some 28), .op (.load none (.t 27)), (some (24, true))⟩,
    ⟨(some 29), .op (.bin .eql (.t 26) (.t 28)), (some (24, true))⟩,
    ⟨(some 30), .op (.pick (.t 24) (.t 29) (.c (.bool false))), none⟩,
    ⟨(some 31), .op (.mov (.t 30)), none⟩,
    ⟨(some 32), .op (.faddr 4 (.t 2)), (some (31, true))⟩,
    ⟨(some 33), .op (.load none (.t 32)), (some (31, true))⟩,
    ⟨(some 34), .op (.faddr 4 (.t 3)), (some (31, true))⟩,
    ⟨(some 35), .op (.load none (.t 34)), (some (31, true))⟩,
    ⟨(some 36), .op (.bin .eql (.t 33) (.t 35)), (some (31, true))⟩,
    ⟨(some 37), .op (.pick (.t 31) (.t 36) (.c (.bool false))), none⟩,
    ⟨(some 38), .op (.mov (.t 37)), none⟩,
    ⟨(some 39), .op (.faddr 5 (.t 2)), (some (38, true))⟩,
    ⟨(some 40), .op (.load none (.t 39)), (some (38, true))⟩,
    ⟨(some 41), .op (.faddr 5 (.t 3)), (some (38, true))⟩,
    ⟨(some 42), .op (.load none (.t 41)), (some (38, true))⟩,
    ⟨(some 43), .call 36 [(.t 40), (.t 42)], (some (38, true))⟩,
    ⟨(some 44), .op (.pick (.t 38) (.t 43) (.c (.bool false))), none⟩,
    ⟨(some 4), .op (.mov (.t 44)), none⟩])
  .ret)), [.tmp 4]⟩
-- slices.Equal[[]int,int]
def C36L0 : IC :=
  (.seq (.ops [⟨(some 14), .op (.bin .lss (.t 13) (.t 12)), none⟩])
  (.seq (.cond (.t 14)
    .skip
    (.exit 0))
  (.seq (.block 1
    (.seq (.ops [⟨(some 15), .op (.mov (.t 13)), none⟩,
      ⟨(some 5), .op (.mov (.t 15)), none⟩])
    (.seq (.draw [⟨(some 16), .op (.mov (.t 0)), none⟩,
      ⟨(some 17), .op (.mov (.t 5)), none⟩,
      ⟨(some 18), .op (.iaddr (.sl 1) (.t 16) (.t 17)), none⟩,
      ⟨(some 19), .op (.load none (.t 18)), none⟩,
      ⟨(some 20), .op (.mov (.t 1)), none⟩,
      ⟨(some 21), .op (.mov (.t 5)), none⟩,
      ⟨(some 22), .op (.iaddr (.sl 1) (.t 20) (.t 21)), none⟩,
      ⟨(some 23), .op (.load none (.t 22)), none⟩,
      ⟨(some 24), .op (.bin .neq (.t 19) (.t 23)), none⟩]
      [[], [], [1, 0], [2, 1, 0], [], [], [5, 4], [6, 5, 4], [7, 6, 5, 4, 3, 2, 1, 0]])
    (.cond (.t 24)
      (.seq (.ops [⟨(some 4), .op (.mov (.c (.bool false))), none⟩])
      .ret)
      .skip))))
  (.ops [⟨(some 25), .op (.bin .add (.t 13) (.c (.int .i64 1))), none⟩,
    ⟨(some 13), .op (.mov (.t 25)), none⟩]))))
def C36 : IFn := ⟨26, (.seq (.ops [⟨(some 4), .op (.mov (.c (.bool false))), none⟩])
  (.seq (.seq (.ops [⟨(some 6), .op (.mov (.t 0)), none⟩,
    ⟨(some 7), .op (.len .sl (.t 6)), none⟩,
    ⟨(some 8), .op (.mov (.t 1)), none⟩,
    ⟨(some 9), .op (.len .sl (.t 8)), none⟩,
    ⟨(some 10), .op (.bin .neq (.t 7) (.t 9)), none⟩])
  (.cond (.t 10)
    (.seq (.ops [⟨(some 4), .op (.mov (.c (.bool false))), none⟩])
    .ret)
    .skip))
  (.seq (.seq (.ops [⟨(some 11), .op (.mov (.t 0)), none⟩,
    ⟨(some 12), .op (.len .sl (.t 11)), none⟩,
    ⟨(some 13), .op (.mov (.c (.int .i64 0))), none⟩])
  (.block 0
    (.loop C36L0)))
  (.seq (.ops [⟨(some 4), .op (.mov (.c (.bool true))), none⟩])
  .ret)))), [.tmp 4]⟩
-- swath/swathref10.ints
def C37L0 : IC :=
  (.seq (.ops [⟨(some 14), .op (.bin .lss (.t 13) (.t 12)), none⟩])
  (.seq (.cond (.t 14)
    .skip
    (.exit 0))
  (.seq (.block 1
    (.seq (.ops [⟨(some 15), .op (.mov (.t 13)), none⟩,
      ⟨(some 5), .op (.mov (.t 15)), none⟩])
    (.seq (.draw [⟨(some 16), .op (.mov (.t 0)), none⟩,
      ⟨(some 17), .op (.mov (.t 5)), none⟩,
      ⟨(some 18), .op (.iaddr (.sl 1) (.t 16) (.t 17)), none⟩,
      ⟨(some 19), .op (.load none (.t 18)), none⟩,
      ⟨(some 20), .op (.mov (.t 1)), none⟩,
      ⟨(some 21), .op (.mov (.t 5)), none⟩,
      ⟨(some 22), .op (.iaddr (.sl 1) (.t 20) (.t 21)), none⟩,
      ⟨(some 23), .op (.load none (.t 22)), none⟩,
      ⟨(some 24), .op (.bin .neq (.t 19) (.t 23)), none⟩]
      [[], [], [1, 0], [2, 1, 0], [], [], [5, 4], [6, 5, 4], [7, 6, 5, 4, 3, 2, 1, 0]])
    (.cond (.t 24)
      (.seq (.ops [⟨(some 4), .op (.mov (.c (.bool false))), none⟩])
      .ret)
      .skip))))
  (.ops [⟨(some 25), .op (.bin .add (.t 13) (.c (.int .i64 1))), none⟩,
    ⟨(some 13), .op (.mov (.t 25)), none⟩]))))
def C37 : IFn := ⟨26, (.seq (.ops [⟨(some 4), .op (.mov (.c (.bool false))), none⟩])
  (.seq (.seq (.ops [⟨(some 6), .op (.mov (.t 0)), none⟩,
    ⟨(some 7), .op (.len .sl (.t 6)), none⟩,
    ⟨(some 8), .op (.mov (.t 1)), none⟩,
    ⟨(some 9), .op (.len .sl (.t 8)), none⟩,
    ⟨(some 10), .op (.bin .neq (.t 7) (.t 9)), none⟩])
  (.cond (.t 10)
    (.seq (.ops [⟨(some 4), .op (.mov (.c (.bool false))), none⟩])
    .ret)
    .skip))
  (.seq (.seq (.ops [⟨(some 11), .op (.mov (.t 0)), none⟩,
    ⟨(some 12), .op (.len .sl (.t 11)), none⟩,
    ⟨(some 13), .op (.mov (.c (.int .i64 0))), none⟩])
  (.block 0
    (.loop C37L0)))
  (.seq (.ops [⟨(some 4), .op (.mov (.c (.bool true))), none⟩])
  .ret)))), [.tmp 4]⟩

end Go.Idl
end

section
/- Functions as ideal code. (Printed by wip/tools/Print.lean) -/
namespace Go.Idl
-- swath/swathlaw10.IrChecks
def C3 : IFn := ⟨39, (.seq (.ops [⟨(some 1), .op (.box (.t 0)), none⟩,
    ⟨(some 2), .op (.mov (.c (.bool false))), none⟩])
  (.seq (.seq (.ops [⟨(some 9), .call 7 [], none⟩,
    ⟨(some 10), .op (.un .not (.t 9)), none⟩])
  (.cond (.t 10)
    (.seq (.ops [⟨(some 2), .op (.mov (.c (.bool false))), none⟩])
    .ret)
    .skip))
  (.seq (.seq (.ops [⟨(some 11), .op (.load (some 3) (.t 1)), none⟩,
    ⟨(some 12), .call 8 [(.t 11)], none⟩,
    ⟨(some 13), .op (.un .not (.t 12)), none⟩])
  (.cond (.t 13)
    (.seq (.ops [⟨(some 2), .op (.mov (.c (.bool true))), none⟩])
    .ret)
    .skip))
  (.seq (.ops [⟨(some 15), .op (.load (some 3) (.t 1)), none⟩,
    ⟨(some 16), .call 9 [(.t 15)], none⟩,
    ⟨(some 14), .op (.mov (.t 16)), none⟩,
    ⟨(some 17), .op (.extract (.t 14) 0), none⟩,
    ⟨(some 18), .op (.extract (.t 14) 1), none⟩,
    ⟨(some 19), .op (.extract (.t 14) 2), none⟩,
    ⟨(some 3), .op (.mov (.t 17)), none⟩,
    ⟨(some 4), .op (.mov (.t 18)), none⟩,
    ⟨(some 5), .op (.mov (.t 19)), none⟩])
  (.seq (.ops [⟨(some 21), .op (.load (some 3) (.t 1)), none⟩,
    ⟨(some 22), .call 10 [(.t 21)], none⟩,
    ⟨(some 20), .op (.mov (.t 22)), none⟩,
    ⟨(some 23), .op (.extract (.t 20) 0), none⟩,
    ⟨(some 24), .op (.extract (.t 20) 1), none⟩,
    ⟨(some 25), .op (.extract (.t 20) 2), none⟩,
    ⟨(some 6), .op (.mov (.t 23)), none⟩,
    ⟨(some 7), .op (.mov (.t 24)), none⟩,
    ⟨(some 8), .op (.mov (.t 25)), none⟩])
  (.seq (.ops [⟨(some 26), .op (.mov (.t 3)), none⟩,
    ⟨(some 27), .op (.mov (.t 6)), none⟩,
    ⟨(some 28), .op (.bin .eql (.t 26) (.t 27)), none⟩,
    ⟨(some 29), .op (.mov (.t 28)), none⟩,
    ⟨(some 30), .op (.mov (.t 4)), (some (29, true))⟩,
    ⟨(some 31), .op (.mov (.t 7)), (some (29, true))⟩,
    ⟨(some 32), .op (.bin .eql (.t 30) (.t 31)), (some (29, true))⟩,
    ⟨(some 33), .op (.pick (.t 29) (.t 32) (.c (.bool false))), none⟩,
    ⟨(some 34), .op (.mov (.t 33)), none⟩,
    ⟨(some 35), .op (.mov (.t 5)), (some (34, true))⟩,
    ⟨(some 36), .op (.mov (.t 8)), (some (34, true))⟩,
    ⟨(some 37), .op (.bin .eql (.t 35) (.t 36)), (some (34, true))⟩,
    ⟨(some 38), .op (.pick (.t 34) (.t 37) (.c (.bool false))), none⟩,
    ⟨(some 2), .op (.mov (.t 38)), none⟩])
  .ret)))))), [.tmp 2]⟩
-- swath/ir.Check
def C9 : IFn := ⟨13, (.seq (.ops [⟨(some 1), .op (.box (.t 0)), none⟩,
    ⟨(some 2), .op (.alloc [(.int .i64 0)]), none⟩,
    ⟨(some 3), .op (.alloc [(.int .i64 0)]), none⟩,
    ⟨(some 4), .op (.alloc [(.int .i64 0)]), none⟩])
  (.seq (.ops [⟨(some 6), .op (.fn 21 [] [(.t 2), (.t 3), (.t 4)]), none⟩,
    ⟨none, .defer (.t 6) [], none⟩])
  (.seq (.ops [⟨(some 7), .op (.load (some 3) (.t 1)), none⟩,
    ⟨(some 8), .op (.mkmap (.one (.int .i64))), none⟩,
    ⟨(some 9), .op (.build [(.slice none 0 0), (.int .i64 0), (.int .i64 0), (.int .i64 0), (.int .i64 0), (.map none)] [(0, 3, (.t 7)), (5, 1, (.t 8))]), none⟩,
    ⟨(some 10), .op (.box (.t 9)), none⟩,
    ⟨(some 5), .op (.mov (.t 10)), none⟩])
  (.seq (.ops [⟨(some 11), .op (.mov (.t 5)), none⟩,
    ⟨(some 12), .call 22 [(.t 11)], none⟩])
  (.seq (.ops [⟨none, .op (.store 1 (.t 2) (.c (.int .i64 0))), none⟩,
    ⟨none, .op (.store 1 (.t 3) (.c (.int .i64 0))), none⟩,
    ⟨none, .op (.store 1 (.t 4) (.c (.int .i64 0))), none⟩])
  .ret))))), [.cell 2 none, .cell 3 none, .cell 4 none]⟩
-- swath/ir.Check$1
def C21 : IFn := ⟨21, (.seq (.ops [⟨(some 6), .op (.recover), none⟩,
    ⟨(some 3), .op (.mov (.t 6)), none⟩])
  (.seq (.ops [⟨(some 7), .op (.mov (.t 3)), none⟩,
    ⟨(some 8), .op (.isnil .ifc true (.t 7)), none⟩])
  (.cond (.t 8)
    (.seq (.ops [⟨(some 10), .op (.mov (.t 3)), none⟩,
      ⟨(some 11), .op (.assert 47 (.agg #[(.int .i64 0), (.int .i64 0)]) (.t 10)), none⟩,
      ⟨(some 9), .op (.mov (.t 11)), none⟩,
      ⟨(some 12), .op (.extract (.t 9) 0), none⟩,
      ⟨(some 13), .op (.extract (.t 9) 1), none⟩,
      ⟨(some 4), .op (.alloc [(.int .i64 0), (.int .i64 0)]), none⟩,
      ⟨none, .op (.store 2 (.t 4) (.t 12)), none⟩,
      ⟨(some 5), .op (.mov (.t 13)), none⟩])
    (.seq (.seq (.ops [⟨(some 14), .op (.mov (.t 5)), none⟩,
      ⟨(some 15), .op (.un .not (.t 14)), none⟩])
    (.cond (.t 15)
      (.ops [⟨(some 16), .op (.mov (.t 3)), none⟩,
        ⟨none, .panic (.t 16), none⟩])
      .skip))
    (.draw [⟨(some 17), .op (.faddr 0 (.t 4)), none⟩,
      ⟨(some 18), .op (.load none (.t 17)), none⟩,
      ⟨(some 19), .op (.faddr 1 (.t 4)), none⟩,
      ⟨(some 20), .op (.load none (.t 19)), none⟩,
      ⟨none, .op (.store 1 (.t 0) (.t 18)), none⟩,
      ⟨none, .op (.store 1 (.t 1) (.t 20)), none⟩,
      ⟨none, .op (.store 1 (.t 2) (.c (.int .i64 100))), none⟩]
      [[], [0], [], [2], [1, 0], [4, 1, 0, 3, 2], [5, 4, 1, 0, 3, 2]])))
    .skip))), []⟩
-- (*swath/ir.checker).all
def C22L0 : IC :=
  (.seq (.ops [⟨(some 93), .op (.bin .lss (.t 92) (.t 91)), none⟩])
  (.seq (.cond (.t 93)
    .skip
    (.exit 2))
  (.seq (.block 3
    (.seq (.ops [⟨(some 94), .op (.mov (.t 92)), none⟩,
      ⟨(some 95), .op (.iaddr (.sl 6) (.t 90) (.t 92)), none⟩,
      ⟨(some 96), .op (.load (some 6) (.t 95)), none⟩,
      ⟨(some 6), .op (.alloc [(.int .i64 0), (.int .i64 0), (.int .i64 0), (.int .i64 0), (.int .i64 0), (.slice none 0 0)]), none⟩,
      ⟨(some 5), .op (.mov (.t 94)), none⟩,
      ⟨none, .op (.store 6 (.t 6) (.t 96)), none⟩])
    (.seq (.ops [⟨(some 97), .op (.mov (.t 0)), none⟩,
      ⟨(some 98), .op (.mov (.t 5)), none⟩,
      ⟨(some 99), .op (.nilck (.t 97)), none⟩,
      ⟨(some 100), .op (.faddr 4 (.t 99)), none⟩,
      ⟨none, .op (.store 1 (.t 100) (.t 98)), none⟩])
    (.ops [⟨(some 101), .op (.mov (.t 0)), none⟩,
      ⟨(some 102), .op (.load (some 4) (.t 4)), none⟩,
      ⟨(some 103), .op (.load (some 6) (.t 6)), none⟩,
      ⟨(some 104), .call 39 [(.t 101), (.t 102), (.t 103)], none⟩]))))
  (.ops [⟨(some 105), .op (.bin .add (.t 92) (.c (.int .i64 1))), none⟩,
    ⟨(some 92), .op (.mov (.t 105)), none⟩]))))
def C22L1 : IC :=
  (.seq (.ops [⟨(some 49), .op (.bin .lss (.t 48) (.t 47)), none⟩])
  (.seq (.cond (.t 49)
    .skip
    (.exit 0))
  (.seq (.block 1
    (.seq (.ops [⟨(some 50), .op (.mov (.t 48)), none⟩,
      ⟨(some 51), .op (.iaddr (.sl 4) (.t 46) (.t 48)), none⟩,
      ⟨(some 52), .op (.load (some 4) (.t 51)), none⟩,
      ⟨(some 4), .op (.alloc [(.string ⟨#[]⟩), (.int .i64 0), (.int .i64 0), (.slice none 0 0)]), none⟩,
      ⟨(some 3), .op (.mov (.t 50)), none⟩,
      ⟨none, .op (.store 4 (.t 4) (.t 52)), none⟩])
    (.seq (.ops [⟨(some 53), .op (.mov (.t 0)), none⟩,
      ⟨(some 54), .op (.mov (.t 0)), none⟩,
      ⟨(some 55), .op (.mov (.t 3)), none⟩,
      ⟨(some 56), .op (.nilck (.t 53)), none⟩,
      ⟨(some 57), .op (.faddr 3 (.t 56)), none⟩,
      ⟨none, .op (.store 1 (.t 57) (.t 55)), none⟩,
      ⟨(some 58), .op (.nilck (.t 54)), none⟩,
      ⟨(some 59), .op (.faddr 4 (.t 58)), none⟩,
      ⟨none, .op (.store 1 (.t 59) (.c (.int .i64 0))), none⟩])
    (.seq (.ops [⟨(some 60), .op (.mov (.t 0)), none⟩,
      ⟨(some 61), .op (.faddr 1 (.t 4)), none⟩,
      ⟨(some 62), .op (.load none (.t 61)), none⟩,
      ⟨(some 63), .op (.bin .geq (.t 62) (.c (.int .i64 0))), none⟩,
      ⟨(some 64), .op (.mov (.t 63)), none⟩,
      ⟨(some 65), .op (.faddr 1 (.t 4)), (some (64, true))⟩,
      ⟨(some 66), .op (.load none (.t 65)), (some (64, true))⟩,
      ⟨(some 67), .op (.faddr 2 (.t 4)), (some (64, true))⟩,
      ⟨(some 68), .op (.load none (.t 67)), (some (64, true))⟩,
      ⟨(some 69), .op (.bin .leq (.t 66) (.t 68)), (some (64, true))⟩,
      ⟨(some 70), .op (.pick (.t 64) (.t 69) (.c (.bool false))), none⟩,
      ⟨(some 71), .op (.mov (.t 70)), none⟩,
      ⟨(some 72), .op (.faddr 2 (.t 4)), (some (71, true))⟩,
      ⟨(some 73), .op (.load none (.t 72)), (some (71, true))⟩,
      ⟨(some 74), .op (.bin .leq (.t 73) (.c (.int .i64 1000))), (some (71, true))⟩,
      ⟨(some 75), .op (.pick (.t 71) (.t 74) (.c (.bool false))), none⟩,
      ⟨(some 76), .op (.mov (.t 75)), none⟩,
      ⟨(some 77), .op (.faddr 3 (.t 4)), (some (76, true))⟩,
      ⟨(some 78), .op (.load none (.t 77)), (some (76, true))⟩,
      ⟨(some 79), .op (.len .sl (.t 78)), (some (76, true))⟩,
      ⟨(some 80), .op (.bin .gtr (.t 79) (.c (.int .i64 0))), (some (76, true))⟩,
      ⟨(some 81), .op (.pick (.t 76) (.t 80) (.c (.bool false))), none⟩,
      ⟨(some 82), .op (.mov (.t 81)), none⟩,
      ⟨(some 83), .op (.faddr 3 (.t 4)), (some (82, true))⟩,
      ⟨(some 84), .op (.load none (.t 83)), (some (82, true))⟩,
      ⟨(some 85), .op (.len .sl (.t 84)), (some (82, true))⟩,
      ⟨(some 86), .op (.bin .leq (.t 85) (.c (.int .i64 100000))), (some (82, true))⟩,
      ⟨(some 87), .op (.pick (.t 82) (.t 86) (.c (.bool false))), none⟩,
      ⟨(some 88), .call 38 [(.t 60), (.t 87)], none⟩])
    (.seq (.ops [⟨(some 89), .op (.faddr 3 (.t 4)), none⟩,
      ⟨(some 90), .op (.load none (.t 89)), none⟩,
      ⟨(some 91), .op (.len .sl (.t 90)), none⟩,
      ⟨(some 92), .op (.mov (.c (.int .i64 0))), none⟩])
    (.block 2
      (.loop C22L0)))))))
  (.ops [⟨(some 106), .op (.bin .add (.t 48) (.c (.int .i64 1))), none⟩,
    ⟨(some 48), .op (.mov (.t 106)), none⟩]))))
def C22 : IFn := ⟨107, (.seq (.ops [⟨(some 7), .op (.mov (.t 0)), none⟩,
    ⟨(some 8), .op (.nilck (.t 7)), none⟩,
    ⟨(some 9), .op (.faddr 0 (.t 8)), none⟩,
    ⟨(some 10), .op (.load (some 3) (.t 9)), none⟩,
    ⟨(some 2), .op (.alloc [(.slice none 0 0), (.int .i64 0), (.int .i64 0)]), none⟩,
    ⟨none, .op (.store 3 (.t 2) (.t 10)), none⟩])
  (.seq (.ops [⟨(some 11), .op (.mov (.t 0)), none⟩,
    ⟨(some 12), .op (.faddr 0 (.t 2)), none⟩,
    ⟨(some 13), .op (.load none (.t 12)), none⟩,
    ⟨(some 14), .op (.len .sl (.t 13)), none⟩,
    ⟨(some 15), .op (.bin .gtr (.t 14) (.c (.int .i64 0))), none⟩,
    ⟨(some 16), .op (.mov (.t 15)), none⟩,
    ⟨(some 17), .op (.faddr 1 (.t 2)), (some (16, true))⟩,
    ⟨(some 18), .op (.load none (.t 17)), (some (16, true))⟩,
    ⟨(some 19), .op (.bin .geq (.t 18) (.c (.int .i64 0))), (some (16, true))⟩,
    ⟨(some 20), .op (.pick (.t 16) (.t 19) (.c (.bool false))), none⟩,
    ⟨(some 21), .op (.mov (.t 20)), none⟩,
    ⟨(some 22), .op (.faddr 1 (.t 2)), (some (21, true))⟩,
    ⟨(some 23), .op (.load none (.t 22)), (some (21, true))⟩,
    ⟨(some 24), .op (.faddr 0 (.t 2)), (some (21, true))⟩,
    ⟨(some 25), .op (.load none (.t 24)), (some (21, true))⟩,
    ⟨(some 26), .op (.len .sl (.t 25)), (some (21, true))⟩,
    ⟨(some 27), .op (.bin .lss (.t 23) (.t 26)), (some (21, true))⟩,
    ⟨(some 28), .op (.pick (.t 21) (.t 27) (.c (.bool false))), none⟩,
    ⟨(some 29), .op (.mov (.t 28)), none⟩,
    ⟨(some 30), .op (.faddr 2 (.t 2)), (some (29, true))⟩,
    ⟨(some 31), .op (.load none (.t 30)), (some (29, true))⟩,
    ⟨(some 32), .op (.bin .geq (.t 31) (.c (.int .i64 0))), (some (29, true))⟩,
    ⟨(some 33), .op (.pick (.t 29) (.t 32) (.c (.bool false))), none⟩,
    ⟨(some 34), .call 38 [(.t 11), (.t 33)], none⟩])
  (.seq (.ops [⟨(some 35), .op (.mov (.t 0)), none⟩,
    ⟨(some 36), .op (.faddr 0 (.t 2)), none⟩,
    ⟨(some 37), .op (.load none (.t 36)), none⟩,
    ⟨(some 38), .op (.faddr 1 (.t 2)), none⟩,
    ⟨(some 39), .op (.load none (.t 38)), none⟩,
    ⟨(some 40), .op (.iaddr (.sl 4) (.t 37) (.t 39)), none⟩,
    ⟨(some 41), .op (.faddr 1 (.t 40)), none⟩,
    ⟨(some 42), .op (.load none (.t 41)), none⟩,
    ⟨(some 43), .op (.bin .eql (.t 42) (.c (.int .i64 0))), none⟩,
    ⟨(some 44), .call 38 [(.t 35), (.t 43)], none⟩])
  (.seq (.ops [⟨(some 45), .op (.faddr 0 (.t 2)), none⟩,
    ⟨(some 46), .op (.load none (.t 45)), none⟩,
    ⟨(some 47), .op (.len .sl (.t 46)), none⟩,
    ⟨(some 48), .op (.mov (.c (.int .i64 0))), none⟩])
  (.block 0
    (.loop C22L1)))))), []⟩
-- (*swath/ir.checker).must
def C38 : IFn := ⟨16, (.seq (.ops [⟨(some 4), .op (.mov (.t 1)), none⟩,
    ⟨(some 5), .op (.un .not (.t 4)), none⟩])
  (.cond (.t 5)
    (.draw [⟨(some 6), .op (.mov (.t 0)), none⟩,
      ⟨(some 7), .op (.nilck (.t 6)), none⟩,
      ⟨(some 8), .op (.faddr 3 (.t 7)), none⟩,
      ⟨(some 9), .op (.load none (.t 8)), none⟩,
      ⟨(some 10), .op (.mov (.t 0)), none⟩,
      ⟨(some 11), .op (.nilck (.t 10)), none⟩,
      ⟨(some 12), .op (.faddr 4 (.t 11)), none⟩,
      ⟨(some 13), .op (.load none (.t 12)), none⟩,
      ⟨(some 14), .op (.build [(.int .i64 0), (.int .i64 0)] [(0, 1, (.t 9)), (1, 1, (.t 13))]), none⟩,
      ⟨(some 15), .op (.iface 47 (.t 14)), none⟩,
      ⟨none, .panic (.t 15), none⟩]
      [[], [0], [1, 0], [2, 1, 0], [], [4], [5, 4], [6, 5, 4], [7, 6, 5, 4, 3, 2, 1, 0], [8, 7, 6, 5, 4, 3, 2, 1, 0], [9, 8, 7, 6, 5, 4, 3, 2, 1, 0]])
    .skip)), []⟩
-- (*swath/ir.checker).ins
def C39L0 : IC :=
  (.seq (.ops [⟨(some 21), .op (.next (.t 20)), none⟩,
    ⟨(some 22), .op (.extract (.t 21) 0), none⟩])
  (.seq (.cond (.t 22)
    .skip
    (.exit 0))
  (.block 1
    (.seq (.ops [⟨(some 23), .op (.extract (.t 21) 2), none⟩,
      ⟨(some 8), .op (.mov (.t 23)), none⟩])
    (.seq (.ops [⟨(some 24), .op (.load (some 6) (.t 5)), none⟩,
      ⟨(some 25), .op (.mov (.t 8)), none⟩,
      ⟨(some 26), .call 26 [(.t 24), (.t 25)], none⟩,
      ⟨(some 9), .op (.mov (.t 26)), none⟩])
    (.seq (.ops [⟨(some 27), .op (.mov (.t 0)), none⟩,
      ⟨(some 28), .op (.faddr 1 (.t 6)), none⟩,
      ⟨(some 29), .op (.load none (.t 28)), none⟩,
      ⟨(some 30), .op (.mov (.t 8)), none⟩,
      ⟨(some 31), .call 45 [(.t 29), (.t 30)], none⟩,
      ⟨(some 32), .op (.mov (.t 31)), none⟩,
      ⟨(some 33), .op (.mov (.t 9)), (some (32, false))⟩,
      ⟨(some 34), .op (.bin .eql (.t 33) (.c (.int .i64 0))), (some (32, false))⟩,
      ⟨(some 35), .op (.pick (.t 32) (.c (.bool true)) (.t 34)), none⟩,
      ⟨(some 36), .call 38 [(.t 27), (.t 35)], none⟩])
    (.seq (.ops [⟨(some 37), .op (.faddr 2 (.t 6)), none⟩,
      ⟨(some 38), .op (.load none (.t 37)), none⟩,
      ⟨(some 39), .op (.faddr 3 (.t 6)), none⟩,
      ⟨(some 40), .op (.load none (.t 39)), none⟩,
      ⟨(some 41), .op (.bin .add (.t 38) (.t 40)), none⟩,
      ⟨(some 42), .op (.mov (.t 8)), none⟩,
      ⟨(some 43), .call 45 [(.t 41), (.t 42)], none⟩])
    (.cond (.t 43)
      (.ops [⟨(some 44), .op (.mov (.t 0)), none⟩,
        ⟨(some 45), .op (.mov (.t 9)), none⟩,
        ⟨(some 46), .op (.bin .geq (.t 45) (.c (.int .i64 0))), none⟩,
        ⟨(some 47), .op (.mov (.t 46)), none⟩,
        ⟨(some 48), .op (.mov (.t 9)), (some (47, true))⟩,
        ⟨(some 49), .op (.faddr 2 (.t 4)), (some (47, true))⟩,
        ⟨(some 50), .op (.load none (.t 49)), (some (47, true))⟩,
        ⟨(some 51), .op (.bin .lss (.t 48) (.t 50)), (some (47, true))⟩,
        ⟨(some 52), .op (.pick (.t 47) (.t 51) (.c (.bool false))), none⟩,
        ⟨(some 53), .call 38 [(.t 44), (.t 52)], none⟩])
      .skip))))))))
def C39L1 : IC :=
  (.seq (.ops [⟨(some 79), .op (.bin .lss (.t 78) (.t 77)), none⟩])
  (.seq (.cond (.t 79)
    .skip
    (.exit 2))
  (.seq (.block 3
    (.seq (.ops [⟨(some 80), .op (.iaddr (.sl 1) (.t 76) (.t 78)), none⟩,
      ⟨(some 81), .op (.load none (.t 80)), none⟩,
      ⟨(some 11), .op (.mov (.t 81)), none⟩])
    (.ops [⟨(some 82), .op (.mov (.t 0)), none⟩,
      ⟨(some 83), .op (.mov (.t 11)), none⟩,
      ⟨(some 84), .op (.bin .geq (.t 83) (.c (.int .i64 0))), none⟩,
      ⟨(some 85), .op (.mov (.t 84)), none⟩,
      ⟨(some 86), .op (.mov (.t 11)), (some (85, true))⟩,
      ⟨(some 87), .op (.faddr 2 (.t 4)), (some (85, true))⟩,
      ⟨(some 88), .op (.load none (.t 87)), (some (85, true))⟩,
      ⟨(some 89), .op (.bin .lss (.t 86) (.t 88)), (some (85, true))⟩,
      ⟨(some 90), .op (.pick (.t 85) (.t 89) (.c (.bool false))), none⟩,
      ⟨(some 91), .call 38 [(.t 82), (.t 90)], none⟩])))
  (.ops [⟨(some 92), .op (.bin .add (.t 78) (.c (.int .i64 1))), none⟩,
    ⟨(some 78), .op (.mov (.t 92)), none⟩]))))
def C39 : IFn := ⟨121, (.seq (.ops [⟨(some 4), .op (.box (.t 1)), none⟩,
    ⟨(some 5), .op (.box (.t 2)), none⟩])
  (.seq (.ops [⟨(some 12), .op (.faddr 0 (.t 5)), none⟩,
    ⟨(some 13), .op (.load none (.t 12)), none⟩,
    ⟨(some 14), .call 25 [(.t 13)], none⟩,
    ⟨(some 6), .op (.alloc [(.string ⟨#[]⟩), (.string ⟨#[]⟩), (.string ⟨#[]⟩), (.string ⟨#[]⟩)]), none⟩,
    ⟨none, .op (.store 4 (.t 6) (.t 14)), none⟩])
  (.seq (.ops [⟨(some 15), .op (.mov (.t 0)), none⟩,
    ⟨(some 16), .op (.faddr 0 (.t 6)), none⟩,
    ⟨(some 17), .op (.load none (.t 16)), none⟩,
    ⟨(some 18), .op (.bin .neq (.t 17) (.c (.string ⟨#[]⟩))), none⟩,
    ⟨(some 19), .call 38 [(.t 15), (.t 18)], none⟩])
  (.seq (.seq (.ops [⟨(some 20), .op (.range (.c (.string ⟨#[65, 66, 67]⟩))), none⟩])
  (.block 0
    (.loop C39L0)))
  (.seq (.ops [⟨(some 54), .op (.mov (.t 0)), none⟩,
    ⟨(some 55), .op (.faddr 1 (.t 6)), none⟩,
    ⟨(some 56), .op (.load none (.t 55)), none⟩,
    ⟨(some 57), .call 46 [(.t 56), (.c (.string ⟨#[75]⟩))], none⟩,
    ⟨(some 58), .op (.mov (.t 57)), none⟩,
    ⟨(some 59), .op (.faddr 4 (.t 5)), (some (58, false))⟩,
    ⟨(some 60), .op (.load none (.t 59)), (some (58, false))⟩,
    ⟨(some 61), .op (.bin .eql (.t 60) (.c (.int .i64 0))), (some (58, false))⟩,
    ⟨(some 62), .op (.pick (.t 58) (.c (.bool true)) (.t 61)), none⟩,
    ⟨(some 63), .op (.mov (.t 62)), none⟩,
    ⟨(some 64), .op (.faddr 1 (.t 6)), (some (63, true))⟩,
    ⟨(some 65), .op (.load none (.t 64)), (some (63, true))⟩,
    ⟨(some 66), .call 46 [(.t 65), (.c (.string ⟨#[76]⟩))], (some (63, true))⟩,
    ⟨(some 67), .op (.mov (.t 66)), (some (63, true))⟩,
    ⟨(some 68), .op (.faddr 5 (.t 5)), (some (67, false))⟩,
    ⟨(some 69), .op (.load none (.t 68)), (some (67, false))⟩,
    ⟨(some 70), .op (.len .sl (.t 69)), (some (67, false))⟩,
    ⟨(some 71), .op (.bin .eql (.t 70) (.c (.int .i64 0))), (some (67, false))⟩,
    ⟨(some 72), .op (.pick (.t 67) (.c (.bool true)) (.t 71)), (some (63, true))⟩,
    ⟨(some 73), .op (.pick (.t 63) (.t 72) (.c (.bool false))), none⟩,
    ⟨(some 74), .call 38 [(.t 54), (.t 73)], none⟩])
  (.seq (.seq (.ops [⟨(some 75), .op (.faddr 5 (.t 5)), none⟩,
    ⟨(some 76), .op (.load none (.t 75)), none⟩,
    ⟨(some 77), .op (.len .sl (.t 76)), none⟩,
    ⟨(some 78), .op (.mov (.c (.int .i64 0))), none⟩])
  (.block 2
    (.loop C39L1)))
  (.seq (.seq (.draw [⟨(some 93), .op (.mov (.t 0)), none⟩,
    ⟨(some 94), .op (.nilck (.t 93)), none⟩,
    ⟨(some 95), .op (.faddr 4 (.t 94)), none⟩,
    ⟨(some 96), .op (.load none (.t 95)), none⟩,
    ⟨(some 97), .op (.faddr 3 (.t 4)), none⟩,
    ⟨(some 98), .op (.load none (.t 97)), none⟩,
    ⟨(some 99), .op (.len .sl (.t 98)), none⟩,
    ⟨(some 100), .op (.bin .sub (.t 99) (.c (.int .i64 1))), none⟩,
    ⟨(some 101), .op (.bin .eql (.t 96) (.t 100)), none⟩]
    [[], [0], [1, 0], [2, 1, 0], [], [4], [5, 4], [6, 5, 4], [7, 6, 5, 4, 3, 2, 1, 0]])
  (.cond (.t 101)
    (.ops [⟨(some 102), .op (.mov (.t 0)), none⟩,
      ⟨(some 103), .op (.faddr 0 (.t 5)), none⟩,
      ⟨(some 104), .op (.load none (.t 103)), none⟩,
      ⟨(some 105), .op (.bin .eql (.t 104) (.c (.int .i64 21))), none⟩,
      ⟨(some 106), .op (.mov (.t 105)), none⟩,
      ⟨(some 107), .op (.faddr 0 (.t 5)), (some (106, false))⟩,
      ⟨(some 108), .op (.load none (.t 107)), (some (106, false))⟩,
      ⟨(some 109), .op (.bin .eql (.t 108) (.c (.int .i64 24))), (some (106, false))⟩,
      ⟨(some 110), .op (.pick (.t 106) (.c (.bool true)) (.t 109)), none⟩,
      ⟨(some 111), .op (.mov (.t 110)), none⟩,
      ⟨(some 112), .op (.faddr 0 (.t 5)), (some (111, false))⟩,
      ⟨(some 113), .op (.load none (.t 112)), (some (111, false))⟩,
      ⟨(some 114), .op (.bin .eql (.t 113) (.c (.int .i64 25))), (some (111, false))⟩,
      ⟨(some 115), .op (.pick (.t 111) (.c (.bool true)) (.t 114)), none⟩,
      ⟨(some 116), .call 38 [(.t 102), (.t 115)], none⟩])
    .skip))
  (.ops [⟨(some 117), .op (.mov (.t 0)), none⟩,
    ⟨(some 118), .op (.load (some 4) (.t 4)), none⟩,
    ⟨(some 119), .op (.load (some 6) (.t 5)), none⟩,
    ⟨(some 120), .call 47 [(.t 117), (.t 118), (.t 119)], none⟩])))))))), []⟩
-- swath/ir.hasRune
def C45L0 : IC :=
  (.seq (.ops [⟨(some 9), .op (.next (.t 8)), none⟩,
    ⟨(some 10), .op (.extract (.t 9) 0), none⟩])
  (.seq (.cond (.t 10)
    .skip
    (.exit 0))
  (.block 1
    (.seq (.ops [⟨(some 11), .op (.extract (.t 9) 2), none⟩,
      ⟨(some 6), .op (.mov (.t 11)), none⟩])
    (.seq (.ops [⟨(some 12), .op (.mov (.t 6)), none⟩,
      ⟨(some 13), .op (.mov (.t 1)), none⟩,
      ⟨(some 14), .op (.bin .eql (.t 12) (.t 13)), none⟩])
    (.cond (.t 14)
      (.seq (.ops [⟨(some 4), .op (.mov (.c (.bool true))), none⟩])
      .ret)
      .skip))))))
def C45 : IFn := ⟨15, (.seq (.ops [⟨(some 4), .op (.mov (.c (.bool false))), none⟩])
  (.seq (.seq (.ops [⟨(some 7), .op (.mov (.t 0)), none⟩,
    ⟨(some 8), .op (.range (.t 7)), none⟩])
  (.block 0
    (.loop C45L0)))
  (.seq (.ops [⟨(some 4), .op (.mov (.c (.bool false))), none⟩])
  .ret))), [.tmp 4]⟩
-- strings.Contains
def C46 : IFn := ⟨9, (.seq (.ops [⟨(some 4), .op (.mov (.c (.bool false))), none⟩])
  (.seq (.ops [⟨(some 5), .op (.mov (.t 0)), none⟩,
    ⟨(some 6), .op (.mov (.t 1)), none⟩,
    ⟨(some 7), .call 59 [(.t 5), (.t 6)], none⟩,
    ⟨(some 8), .op (.bin .geq (.t 7) (.c (.int .i64 0))), none⟩,
    ⟨(some 4), .op (.mov (.t 8)), none⟩])
  .ret)), [.tmp 4]⟩
-- (*swath/ir.checker).numbers
def C47 : IFn := ⟨157, (.seq (.ops [⟨(some 4), .op (.box (.t 1)), none⟩,
    ⟨(some 5), .op (.box (.t 2)), none⟩])
  (.seq (.ops [⟨(some 6), .op (.faddr 0 (.t 5)), none⟩,
    ⟨(some 7), .op (.load none (.t 6)), none⟩])
  (.block 0
    (.seq (.ops [⟨(some 9), .op (.bin .eql (.t 7) (.c (.int .i64 4))), none⟩,
      ⟨(some 8), .op (.mov (.t 9)), none⟩])
    (.cond (.t 8)
      (.ops [⟨(some 10), .op (.mov (.t 0)), none⟩,
        ⟨(some 11), .op (.faddr 4 (.t 5)), none⟩,
        ⟨(some 12), .op (.load none (.t 11)), none⟩,
        ⟨(some 13), .op (.bin .geq (.t 12) (.c (.int .i64 1))), none⟩,
        ⟨(some 14), .op (.mov (.t 13)), none⟩,
        ⟨(some 15), .op (.faddr 4 (.t 5)), (some (14, true))⟩,
        ⟨(some 16), .op (.load none (.t 15)), (some (14, true))⟩,
        ⟨(some 17), .op (.bin .leq (.t 16) (.c (.int .i64 12))), (some (14, true))⟩,
        ⟨(some 18), .op (.pick (.t 14) (.t 17) (.c (.bool false))), none⟩,
        ⟨(some 19), .call 38 [(.t 10), (.t 18)], none⟩])
      (.seq (.ops [⟨(some 21), .op (.bin .eql (.t 7) (.c (.int .i64 5))), none⟩,
        ⟨(some 20), .op (.mov (.t 21)), none⟩])
      (.cond (.t 20)
        (.ops [⟨(some 22), .op (.mov (.t 0)), none⟩,
          ⟨(some 23), .op (.faddr 4 (.t 5)), none⟩,
          ⟨(some 24), .op (.load none (.t 23)), none⟩,
          ⟨(some 25), .op (.bin .geq (.t 24) (.c (.int .i64 13))), none⟩,
          ⟨(some 26), .op (.mov (.t 25)), none⟩,
          ⟨(some 27), .op (.faddr 4 (.t 5)), (some (26, true))⟩,
          ⟨(some 28), .op (.load none (.t 27)), (some (26, true))⟩,
          ⟨(some 29), .op (.bin .leq (.t 28) (.c (.int .i64 15))), (some (26, true))⟩,
          ⟨(some 30), .op (.pick (.t 26) (.t 29) (.c (.bool false))), none⟩,
          ⟨(some 31), .call 38 [(.t 22), (.t 30)], none⟩])
        (.seq (.seq (.ops [⟨(some 33), .op (.bin .eql (.t 7) (.c (.int .i64 8))), none⟩,
          ⟨(some 32), .op (.mov (.t 33)), none⟩])
        (.cond (.t 32)
          .skip
          (.seq (.ops [⟨(some 34), .op (.bin .eql (.t 7) (.c (.int .i64 9))), none⟩,
            ⟨(some 32), .op (.mov (.t 34)), none⟩])
          (.cond (.t 32)
            .skip
            (.ops [⟨(some 35), .op (.bin .eql (.t 7) (.c (.int .i64 13))), none⟩,
              ⟨(some 32), .op (.mov (.t 35)), none⟩])))))
        (.cond (.t 32)
          (.ops [⟨(some 36), .op (.mov (.t 0)), none⟩,
            ⟨(some 37), .op (.faddr 4 (.t 5)), none⟩,
            ⟨(some 38), .op (.load none (.t 37)), none⟩,
            ⟨(some 39), .op (.bin .geq (.t 38) (.c (.int .i64 0))), none⟩,
            ⟨(some 40), .op (.mov (.t 39)), none⟩,
            ⟨(some 41), .op (.faddr 4 (.t 5)), (some (40, true))⟩,
            ⟨(some 42), .op (.load none (.t 41)), (some (40, true))⟩,
            ⟨(some 43), .op (.bin .leq (.t 42) (.c (.int .i64 1000))), (some (40, true))⟩,
            ⟨(some 44), .op (.pick (.t 40) (.t 43) (.c (.bool false))), none⟩,
            ⟨(some 45), .op (.mov (.t 44)), none⟩,
            ⟨(some 46), .op (.faddr 3 (.t 5)), (some (45, true))⟩,
            ⟨(some 47), .op (.load none (.t 46)), (some (45, true))⟩,
            ⟨(some 48), .op (.bin .geq (.t 47) (.c (.int .i64 0))), (some (45, true))⟩,
            ⟨(some 49), .op (.pick (.t 45) (.t 48) (.c (.bool false))), none⟩,
            ⟨(some 50), .op (.mov (.t 49)), none⟩,
            ⟨(some 51), .op (.faddr 3 (.t 5)), (some (50, true))⟩,
            ⟨(some 52), .op (.load none (.t 51)), (some (50, true))⟩,
            ⟨(some 53), .op (.bin .leq (.t 52) (.c (.int .i64 1000))), (some (50, true))⟩,
            ⟨(some 54), .op (.pick (.t 50) (.t 53) (.c (.bool false))), none⟩,
            ⟨(some 55), .call 38 [(.t 36), (.t 54)], none⟩])
          (.seq (.seq (.ops [⟨(some 57), .op (.bin .eql (.t 7) (.c (.int .i64 21))), none⟩,
            ⟨(some 56), .op (.mov (.t 57)), none⟩])
          (.cond (.t 56)
            .skip
            (.ops [⟨(some 58), .op (.bin .eql (.t 7) (.c (.int .i64 22))), none⟩,
              ⟨(some 56), .op (.mov (.t 58)), none⟩])))
          (.cond (.t 56)
            (.draw [⟨(some 59), .op (.mov (.t 0)), none⟩,
              ⟨(some 60), .op (.faddr 4 (.t 5)), none⟩,
              ⟨(some 61), .op (.load none (.t 60)), none⟩,
              ⟨(some 62), .op (.bin .geq (.t 61) (.c (.int .i64 0))), none⟩,
              ⟨(some 63), .op (.mov (.t 62)), none⟩,
              ⟨(some 64), .op (.faddr 4 (.t 5)), (some (63, true))⟩,
              ⟨(some 65), .op (.load none (.t 64)), (some (63, true))⟩,
              ⟨(some 66), .op (.faddr 3 (.t 4)), (some (63, true))⟩,
              ⟨(some 67), .op (.load none (.t 66)), (some (63, true))⟩,
              ⟨(some 68), .op (.len .sl (.t 67)), (some (63, true))⟩,
              ⟨(some 69), .op (.bin .lss (.t 65) (.t 68)), (some (63, true))⟩,
              ⟨(some 70), .op (.pick (.t 63) (.t 69) (.c (.bool false))), none⟩,
              ⟨(some 71), .op (.mov (.t 70)), none⟩,
              ⟨(some 72), .op (.faddr 4 (.t 5)), (some (71, true))⟩,
              ⟨(some 73), .op (.load none (.t 72)), (some (71, true))⟩,
              ⟨(some 74), .op (.mov (.t 0)), (some (71, true))⟩,
              ⟨(some 75), .op (.nilck (.t 74)), (some (71, true))⟩,
              ⟨(some 76), .op (.faddr 4 (.t 75)), (some (71, true))⟩,
              ⟨(some 77), .op (.load none (.t 76)), (some (71, true))⟩,
              ⟨(some 78), .op (.bin .neq (.t 73) (.t 77)), (some (71, true))⟩,
              ⟨(some 79), .op (.pick (.t 71) (.t 78) (.c (.bool false))), none⟩,
              ⟨(some 80), .call 38 [(.t 59), (.t 79)], none⟩]
              [[], [], [1], [2, 1], [3, 2, 1], [4, 3, 2, 1], [4, 3, 2, 1, 5], [4, 3, 2, 1], [4, 3, 2, 1, 7], [4, 3, 2, 1, 8, 7], [4, 3, 2, 1, 9, 8, 7, 6, 5], [10, 4, 3, 2, 1, 9, 8, 7, 6, 5], [4, 3, 2, 1, 11, 10, 9, 8, 7, 6, 5], [12, 4, 3, 2, 1, 11, 10, 9, 8, 7, 6, 5], [12, 4, 3, 2, 1, 11, 10, 9, 8, 7, 6, 5, 13], [12, 4, 3, 2, 1, 11, 10, 9, 8, 7, 6, 5], [12, 4, 3, 2, 1, 11, 10, 9, 8, 7, 6, 5, 15], [12, 4, 3, 2, 1, 11, 10, 9, 8, 7, 6, 5, 16, 15], [12, 4, 3, 2, 1, 11, 10, 9, 8, 7, 6, 5, 17, 16, 15], [12, 4, 3, 2, 1, 11, 10, 9, 8, 7, 6, 5, 18, 17, 16, 15, 14, 13], [19, 12, 4, 3, 2, 1, 11, 10, 9, 8, 7, 6, 5, 18, 17, 16, 15, 14, 13], [12, 4, 3, 2, 1, 11, 10, 9, 8, 7, 6, 5, 20, 19, 18, 17, 16, 15, 14, 13, 0]])
            (.seq (.ops [⟨(some 82), .op (.bin .eql (.t 7) (.c (.int .i64 23))), none⟩,
              ⟨(some 81), .op (.mov (.t 82)), none⟩])
            (.cond (.t 81)
              (.draw [⟨(some 83), .op (.mov (.t 0)), none⟩,
                ⟨(some 84), .op (.faddr 4 (.t 5)), none⟩,
                ⟨(some 85), .op (.load none (.t 84)), none⟩,
                ⟨(some 86), .op (.bin .geq (.t 85) (.c (.int .i64 0))), none⟩,
                ⟨(some 87), .op (.mov (.t 86)), none⟩,
                ⟨(some 88), .op (.faddr 4 (.t 5)), (some (87, true))⟩,
                ⟨(some 89), .op (.load none (.t 88)), (some (87, true))⟩,
                ⟨(some 90), .op (.mov (.t 0)), (some (87, true))⟩,
                ⟨(some 91), .op (.nilck (.t 90)), (some (87, true))⟩,
                ⟨(some 92), .op (.faddr 0 (.t 91)), (some (87, true))⟩,
                ⟨(some 93), .op (.faddr 0 (.t 92)), (some (87, true))⟩,
                ⟨(some 94), .op (.load none (.t 93)), (some (87, true))⟩,
                ⟨(some 95), .op (.len .sl (.t 94)), (some (87, true))⟩,
                ⟨(some 96), .op (.bin .lss (.t 89) (.t 95)), (some (87, true))⟩,
                ⟨(some 97), .op (.pick (.t 87) (.t 96) (.c (.bool false))), none⟩,
                ⟨(some 98), .op (.mov (.t 97)), none⟩,
                ⟨(some 99), .op (.faddr 5 (.t 5)), (some (98, true))⟩,
                ⟨(some 100), .op (.load none (.t 99)), (some (98, true))⟩,
                ⟨(some 101), .op (.len .sl (.t 100)), (some (98, true))⟩,
                ⟨(some 102), .op (.mov (.t 0)), (some (98, true))⟩,
                ⟨(some 103), .op (.nilck (.t 102)), (some (98, true))⟩,
                ⟨(some 104), .op (.faddr 0 (.t 103)), (some (98, true))⟩,
                ⟨(some 105), .op (.faddr 0 (.t 104)), (some (98, true))⟩,
                ⟨(some 106), .op (.load none (.t 105)), (some (98, true))⟩,
                ⟨(some 107), .op (.faddr 4 (.t 5)), (some (98, true))⟩,
                ⟨(some 108), .op (.load none (.t 107)), (some (98, true))⟩,
                ⟨(some 109), .op (.minmax true (.t 108) (.c (.int .i64 0))), (some (98, true))⟩,
                ⟨(some 110), .op (.iaddr (.sl 4) (.t 106) (.t 109)), (some (98, true))⟩,
                ⟨(some 111), .op (.faddr 1 (.t 110)), (some (98, true))⟩,
                ⟨(some 112), .op (.load none (.t 111)), (some (98, true))⟩,
                ⟨(some 113), .op (.bin .eql (.t 101) (.t 112)), (some (98, true))⟩,
                ⟨(some 114), .op (.pick (.t 98) (.t 113) (.c (.bool false))), none⟩,
                ⟨(some 115), .call 38 [(.t 83), (.t 114)], none⟩]
                [[], [], [1], [2, 1], [3, 2, 1], [4, 3, 2, 1], [4, 3, 2, 1, 5], [4, 3, 2, 1], [4, 3, 2, 1, 7], [4, 3, 2, 1, 8, 7], [4, 3, 2, 1, 9, 8, 7], [4, 3, 2, 1, 10, 9, 8, 7], [4, 3, 2, 1, 11, 10, 9, 8, 7], [4, 3, 2, 1, 12, 11, 10, 9, 8, 7, 6, 5], [13, 4, 3, 2, 1, 12, 11, 10, 9, 8, 7, 6, 5], [4, 3, 2, 1, 14, 13, 12, 11, 10, 9, 8, 7, 6, 5], [15, 4, 3, 2, 1, 14, 13, 12, 11, 10, 9, 8, 7, 6, 5], [15, 4, 3, 2, 1, 14, 13, 12, 11, 10, 9, 8, 7, 6, 5, 16], [15, 4, 3, 2, 1, 14, 13, 12, 11, 10, 9, 8, 7, 6, 5, 17, 16], [15, 4, 3, 2, 1, 14, 13, 12, 11, 10, 9, 8, 7, 6, 5], [15, 4, 3, 2, 1, 14, 13, 12, 11, 10, 9, 8, 7, 6, 5, 19], [15, 4, 3, 2, 1, 14, 13, 12, 11, 10, 9, 8, 7, 6, 5, 20, 19], [15, 4, 3, 2, 1, 14, 13, 12, 11, 10, 9, 8, 7, 6, 5, 21, 20, 19], [15, 4, 3, 2, 1, 14, 13, 12, 11, 10, 9, 8, 7, 6, 5, 22, 21, 20, 19], [15, 4, 3, 2, 1, 14, 13, 12, 11, 10, 9, 8, 7, 6, 5], [15, 4, 3, 2, 1, 14, 13, 12, 11, 10, 9, 8, 7, 6, 5, 24], [15, 4, 3, 2, 1, 14, 13, 12, 11, 10, 9, 8, 7, 6, 5, 25, 24], [15, 4, 3, 2, 1, 14, 13, 12, 11, 10, 9, 8, 7, 6, 5, 26, 25, 24, 23, 22, 21, 20, 19], [15, 4, 3, 2, 1, 14, 13, 12, 11, 10, 9, 8, 7, 6, 5, 27, 26, 25, 24, 23, 22, 21, 20, 19], [15, 4, 3, 2, 1, 14, 13, 12, 11, 10, 9, 8, 7, 6, 5, 28, 27, 26, 25, 24, 23, 22, 21, 20, 19], [15, 4, 3, 2, 1, 14, 13, 12, 11, 10, 9, 8, 7, 6, 5, 29, 28, 27, 26, 25, 24, 23, 22, 21, 20, 19, 18, 17, 16], [30, 15, 4, 3, 2, 1, 14, 13, 12, 11, 10, 9, 8, 7, 6, 5, 29, 28, 27, 26, 25, 24, 23, 22, 21, 20, 19, 18, 17, 16], [15, 4, 3, 2, 1, 14, 13, 12, 11, 10, 9, 8, 7, 6, 5, 31, 30, 29, 28, 27, 26, 25, 24, 23, 22, 21, 20, 19, 18, 17, 16, 0]])
              (.seq (.ops [⟨(some 117), .op (.bin .eql (.t 7) (.c (.int .i64 27))), none⟩,
                ⟨(some 116), .op (.mov (.t 117)), none⟩])
              (.cond (.t 116)
                (.seq (.draw [⟨(some 118), .op (.mov (.t 0)), none⟩,
                  ⟨(some 119), .op (.faddr 4 (.t 5)), none⟩,
                  ⟨(some 120), .op (.load none (.t 119)), none⟩,
                  ⟨(some 121), .op (.bin .geq (.t 120) (.c (.int .i64 0))), none⟩,
                  ⟨(some 122), .op (.mov (.t 121)), none⟩,
                  ⟨(some 123), .op (.faddr 4 (.t 5)), (some (122, true))⟩,
                  ⟨(some 124), .op (.load none (.t 123)), (some (122, true))⟩,
                  ⟨(some 125), .op (.mov (.t 0)), (some (122, true))⟩,
                  ⟨(some 126), .op (.nilck (.t 125)), (some (122, true))⟩,
                  ⟨(some 127), .op (.faddr 0 (.t 126)), (some (122, true))⟩,
                  ⟨(some 128), .op (.faddr 2 (.t 127)), (some (122, true))⟩,
                  ⟨(some 129), .op (.load none (.t 128)), (some (122, true))⟩,
                  ⟨(some 130), .op (.bin .lss (.t 124) (.t 129)), (some (122, true))⟩,
                  ⟨(some 131), .op (.pick (.t 122) (.t 130) (.c (.bool false))), none⟩,
                  ⟨(some 132), .op (.mov (.t 131)), none⟩,
                  ⟨(some 133), .op (.faddr 5 (.t 5)), (some (132, true))⟩,
                  ⟨(some 134), .op (.load none (.t 133)), (some (132, true))⟩,
                  ⟨(some 135), .op (.len .sl (.t 134)), (some (132, true))⟩,
                  ⟨(some 136), .op (.bin .leq (.t 135) (.c (.int .i64 4))), (some (132, true))⟩,
                  ⟨(some 137), .op (.pick (.t 132) (.t 136) (.c (.bool false))), none⟩,
                  ⟨(some 138), .op (.mov (.t 137)), none⟩,
                  ⟨(some 139), .op (.mov (.t 0)), (some (138, true))⟩,
                  ⟨(some 140), .op (.nilck (.t 139)), (some (138, true))⟩,
                  ⟨(some 141), .op (.faddr 5 (.t 140)), (some (138, true))⟩,
                  ⟨(some 142), .op (.load none (.t 141)), (some (138, true))⟩,
                  ⟨(some 143), .op (.faddr 4 (.t 5)), (some (138, true))⟩,
                  ⟨(some 144), .op (.load none (.t 143)), (some (138, true))⟩,
                  ⟨(some 145), .op (.lookup (.one (.int .i64)) (.int .i64 0) false (.t 142) (.t 144)), (some (138, true))⟩,
                  ⟨(some 146), .op (.bin .eql (.t 145) (.c (.int .i64 0))), (some (138, true))⟩,
                  ⟨(some 147), .op (.pick (.t 138) (.t 146) (.c (.bool false))), none⟩,
                  ⟨(some 148), .call 38 [(.t 118), (.t 147)], none⟩]
                  [[], [], [1], [2, 1], [3, 2, 1], [4, 3, 2, 1], [4, 3, 2, 1, 5], [4, 3, 2, 1], [4, 3, 2, 1, 7], [4, 3, 2, 1, 8, 7], [4, 3, 2, 1, 9, 8, 7], [4, 3, 2, 1, 10, 9, 8, 7], [4, 3, 2, 1, 11, 10, 9, 8, 7, 6, 5], [12, 4, 3, 2, 1, 11, 10, 9, 8, 7, 6, 5], [4, 3, 2, 1, 13, 12, 11, 10, 9, 8, 7, 6, 5], [14, 4, 3, 2, 1, 13, 12, 11, 10, 9, 8, 7, 6, 5], [14, 4, 3, 2, 1, 13, 12, 11, 10, 9, 8, 7, 6, 5, 15], [14, 4, 3, 2, 1, 13, 12, 11, 10, 9, 8, 7, 6, 5, 16, 15], [14, 4, 3, 2, 1, 13, 12, 11, 10, 9, 8, 7, 6, 5, 17, 16, 15], [18, 14, 4, 3, 2, 1, 13, 12, 11, 10, 9, 8, 7, 6, 5, 17, 16, 15], [14, 4, 3, 2, 1, 13, 12, 11, 10, 9, 8, 7, 6, 5, 19, 18, 17, 16, 15], [20, 14, 4, 3, 2, 1, 13, 12, 11, 10, 9, 8, 7, 6, 5, 19, 18, 17, 16, 15], [20, 14, 4, 3, 2, 1, 13, 12, 11, 10, 9, 8, 7, 6, 5, 19, 18, 17, 16, 15, 21], [20, 14, 4, 3, 2, 1, 13, 12, 11, 10, 9, 8, 7, 6, 5, 19, 18, 17, 16, 15, 22, 21], [20, 14, 4, 3, 2, 1, 13, 12, 11, 10, 9, 8, 7, 6, 5, 19, 18, 17, 16, 15, 23, 22, 21], [20, 14, 4, 3, 2, 1, 13, 12, 11, 10, 9, 8, 7, 6, 5, 19, 18, 17, 16, 15], [20, 14, 4, 3, 2, 1, 13, 12, 11, 10, 9, 8, 7, 6, 5, 19, 18, 17, 16, 15, 25], [20, 14, 4, 3, 2, 1, 13, 12, 11, 10, 9, 8, 7, 6, 5, 19, 18, 17, 16, 15, 26, 25, 24, 23, 22, 21], [20, 14, 4, 3, 2, 1, 13, 12, 11, 10, 9, 8, 7, 6, 5, 19, 18, 17, 16, 15, 27, 26, 25, 24, 23, 22, 21], [28, 20, 14, 4, 3, 2, 1, 13, 12, 11, 10, 9, 8, 7, 6, 5, 19, 18, 17, 16, 15, 27, 26, 25, 24, 23, 22, 21], [20, 14, 4, 3, 2, 1, 13, 12, 11, 10, 9, 8, 7, 6, 5, 19, 18, 17, 16, 15, 29, 28, 27, 26, 25, 24, 23, 22, 21, 0]])
                (.draw [⟨(some 149), .op (.mov (.t 0)), none⟩,
                  ⟨(some 150), .op (.nilck (.t 149)), none⟩,
                  ⟨(some 151), .op (.faddr 5 (.t 150)), none⟩,
                  ⟨(some 152), .op (.load none (.t 151)), none⟩,
                  ⟨(some 153), .op (.faddr 4 (.t 5)), none⟩,
                  ⟨(some 154), .op (.load none (.t 153)), none⟩,
                  ⟨(some 155), .op (.lookup (.one (.int .i64)) (.int .i64 0) false (.t 152) (.t 154)), none⟩,
                  ⟨(some 156), .op (.bin .add (.t 155) (.c (.int .i64 1))), none⟩,
                  ⟨none, .op (.mapset (.one (.int .i64)) (.t 152) (.t 154) (.t 156)), none⟩]
                  [[], [0], [1, 0], [2, 1, 0], [], [4], [5, 4, 3, 2, 1, 0], [6, 5, 4, 3, 2, 1, 0], [7, 6, 5, 4, 3, 2, 1, 0]]))
                .skip))))))))))))))), []⟩
-- strings.Index
def C59 : IFn := ⟨8, (.seq (.ops [⟨(some 4), .op (.mov (.c (.int .i64 0))), none⟩])
  (.seq (.ops [⟨(some 5), .op (.mov (.t 0)), none⟩,
    ⟨(some 6), .op (.mov (.t 1)), none⟩,
    ⟨(some 7), .call 66 [(.t 5), (.t 6)], none⟩,
    ⟨(some 4), .op (.mov (.t 7)), none⟩])
  .ret)), [.tmp 4]⟩
-- internal/stringslite.Index
def C66L0 : IC :=
  (.seq (.seq (.ops [⟨(some 57), .op (.mov (.t 8)), none⟩,
    ⟨(some 58), .op (.mov (.t 9)), none⟩,
    ⟨(some 59), .op (.bin .lss (.t 57) (.t 58)), none⟩])
  (.cond (.t 59)
    .skip
    (.exit 1)))
  (.block 2
    (.seq (.seq (.ops [⟨(some 60), .op (.mov (.t 0)), none⟩,
      ⟨(some 61), .op (.mov (.t 8)), none⟩,
      ⟨(some 62), .op (.sidx (.t 60) (.t 61)), none⟩,
      ⟨(some 63), .op (.mov (.t 6)), none⟩,
      ⟨(some 64), .op (.bin .neq (.t 62) (.t 63)), none⟩])
    (.cond (.t 64)
      (.seq (.ops [⟨(some 65), .op (.mov (.t 0)), none⟩,
        ⟨(some 66), .op (.mov (.t 8)), none⟩,
        ⟨(some 67), .op (.bin .add (.t 66) (.c (.int .i64 1))), none⟩,
        ⟨(some 68), .op (.mov (.t 9)), none⟩,
        ⟨(some 69), .op (.sub .str (.t 65) (some (.t 67)) (some (.t 68)) none), none⟩,
        ⟨(some 70), .op (.mov (.t 6)), none⟩,
        ⟨(some 71), .call 68 [(.t 69), (.t 70)], none⟩,
        ⟨(some 11), .op (.mov (.t 71)), none⟩])
      (.seq (.seq (.ops [⟨(some 72), .op (.mov (.t 11)), none⟩,
        ⟨(some 73), .op (.bin .lss (.t 72) (.c (.int .i64 0))), none⟩])
      (.cond (.t 73)
        (.seq (.ops [⟨(some 4), .op (.mov (.c (.int .i64 (-1)))), none⟩])
        .ret)
        .skip))
      (.ops [⟨(some 74), .op (.mov (.t 8)), none⟩,
        ⟨(some 75), .op (.mov (.t 11)), none⟩,
        ⟨(some 76), .op (.bin .add (.t 75) (.c (.int .i64 1))), none⟩,
        ⟨(some 77), .op (.bin .add (.t 74) (.t 76)), none⟩,
        ⟨(some 8), .op (.mov (.t 77)), none⟩])))
      .skip))
    (.seq (.seq (.ops [⟨(some 78), .op (.mov (.t 0)), none⟩,
      ⟨(some 79), .op (.mov (.t 8)), none⟩,
      ⟨(some 80), .op (.bin .add (.t 79) (.c (.int .i64 1))), none⟩,
      ⟨(some 81), .op (.sidx (.t 78) (.t 80)), none⟩,
      ⟨(some 82), .op (.mov (.t 7)), none⟩,
      ⟨(some 83), .op (.bin .eql (.t 81) (.t 82)), none⟩,
      ⟨(some 84), .op (.mov (.t 83)), none⟩,
      ⟨(some 85), .op (.mov (.t 0)), (some (84, true))⟩,
      ⟨(some 86), .op (.mov (.t 8)), (some (84, true))⟩,
      ⟨(some 87), .op (.mov (.t 8)), (some (84, true))⟩,
      ⟨(some 88), .op (.mov (.t 5)), (some (84, true))⟩,
      ⟨(some 89), .op (.bin .add (.t 87) (.t 88)), (some (84, true))⟩,
      ⟨(some 90), .op (.sub .str (.t 85) (some (.t 86)) (some (.t 89)) none), (some (84, true))⟩,
      ⟨(some 91), .op (.mov (.t 1)), (some (84, true))⟩,
      ⟨(some 92), .op (.bin .eql (.t 90) (.t 91)), (some (84, true))⟩,
      ⟨(some 93), .op (.pick (.t 84) (.t 92) (.c (.bool false))), none⟩])
    (.cond (.t 93)
      (.seq (.ops [⟨(some 94), .op (.mov (.t 8)), none⟩,
        ⟨(some 4), .op (.mov (.t 94)), none⟩])
      .ret)
      .skip))
    (.seq (.ops [⟨(some 95), .op (.mov (.t 8)), none⟩,
      ⟨(some 96), .op (.bin .add (.t 95) (.c (.int .i64 1))), none⟩,
      ⟨(some 8), .op (.mov (.t 96)), none⟩])
    (.seq (.ops [⟨(some 97), .op (.mov (.t 10)), none⟩,
      ⟨(some 98), .op (.bin .add (.t 97) (.c (.int .i64 1))), none⟩,
      ⟨(some 10), .op (.mov (.t 98)), none⟩])
    (.seq (.cond (.c (.chan none))
      .skip
      .skip)
    (.cond (.t 107)
      (.seq (.ops [⟨(some 108), .op (.mov (.t 0)), none⟩,
        ⟨(some 109), .op (.mov (.t 8)), none⟩,
        ⟨(some 110), .op (.sub .str (.t 108) (some (.t 109)) none none), none⟩,
        ⟨(some 111), .op (.mov (.t 1)), none⟩,
        ⟨(some 112), .call 69 [(.t 110), (.t 111)], none⟩,
        ⟨(some 12), .op (.mov (.t 112)), none⟩])
      (.seq (.seq (.ops [⟨(some 113), .op (.mov (.t 12)), none⟩,
        ⟨(some 114), .op (.bin .geq (.t 113) (.c (.int .i64 0))), none⟩])
      (.cond (.t 114)
        (.seq (.ops [⟨(some 115), .op (.mov (.t 12)), none⟩,
          ⟨(some 116), .op (.mov (.t 8)), none⟩,
          ⟨(some 117), .op (.bin .add (.t 115) (.t 116)), none⟩,
          ⟨(some 4), .op (.mov (.t 117)), none⟩])
        .ret)
        .skip))
      (.seq (.ops [⟨(some 4), .op (.mov (.c (.int .i64 (-1)))), none⟩])
      .ret)))
      (.seq (.cond (.c (.chan none))
        .skip
        .skip)
      (.cond (.t 132)
        (.seq (.ops [⟨(some 133), .op (.mov (.t 0)), none⟩,
          ⟨(some 134), .op (.mov (.t 8)), none⟩,
          ⟨(some 135), .op (.sub .str (.t 133) (some (.t 134)) none none), none⟩,
          ⟨(some 136), .op (.mov (.t 1)), none⟩,
          ⟨(some 137), .call 71 [(.t 135), (.t 136)], none⟩,
          ⟨(some 13), .op (.mov (.t 137)), none⟩])
        (.seq (.seq (.ops [⟨(some 138), .op (.mov (.t 13)), none⟩,
          ⟨(some 139), .op (.bin .lss (.t 138) (.c (.int .i64 0))), none⟩])
        (.cond (.t 139)
          (.seq (.ops [⟨(some 4), .op (.mov (.c (.int .i64 (-1)))), none⟩])
          .ret)
          .skip))
        (.seq (.ops [⟨(some 140), .op (.mov (.t 8)), none⟩,
          ⟨(some 141), .op (.mov (.t 13)), none⟩,
          ⟨(some 142), .op (.bin .add (.t 140) (.t 141)), none⟩,
          ⟨(some 4), .op (.mov (.t 142)), none⟩])
        .ret)))
        .skip))))))))))
def C66 : IFn := ⟨143, (.seq (.ops [⟨(some 4), .op (.mov (.c (.int .i64 0))), none⟩])
  (.seq (.ops [⟨(some 14), .op (.mov (.t 1)), none⟩,
    ⟨(some 15), .op (.len .str (.t 14)), none⟩,
    ⟨(some 5), .op (.mov (.t 15)), none⟩])
  (.seq (.block 0
    (.seq (.ops [⟨(some 17), .op (.mov (.t 5)), none⟩,
      ⟨(some 18), .op (.bin .eql (.t 17) (.c (.int .i64 0))), none⟩,
      ⟨(some 19), .op (.mov (.t 18)), none⟩,
      ⟨(some 20), .op (.mov (.t 1)), (some (19, false))⟩,
      ⟨(some 21), .op (.mov (.t 0)), (some (19, false))⟩,
      ⟨(some 22), .op (.bin .eql (.t 20) (.t 21)), (some (19, false))⟩,
      ⟨(some 23), .op (.pick (.t 19) (.c (.bool true)) (.t 22)), none⟩,
      ⟨(some 16), .op (.mov (.t 23)), none⟩])
    (.cond (.t 16)
      (.seq (.ops [⟨(some 4), .op (.mov (.c (.int .i64 0))), none⟩])
      .ret)
      (.seq (.ops [⟨(some 25), .op (.mov (.t 5)), none⟩,
        ⟨(some 26), .op (.bin .eql (.t 25) (.c (.int .i64 1))), none⟩,
        ⟨(some 24), .op (.mov (.t 26)), none⟩])
      (.cond (.t 24)
        (.seq (.ops [⟨(some 27), .op (.mov (.t 0)), none⟩,
          ⟨(some 28), .op (.mov (.t 1)), none⟩,
          ⟨(some 29), .op (.sidx (.t 28) (.c (.int .i64 0))), none⟩,
          ⟨(some 30), .call 68 [(.t 27), (.t 29)], none⟩,
          ⟨(some 4), .op (.mov (.t 30)), none⟩])
        .ret)
        (.seq (.ops [⟨(some 32), .op (.mov (.t 5)), none⟩,
          ⟨(some 33), .op (.mov (.t 0)), none⟩,
          ⟨(some 34), .op (.len .str (.t 33)), none⟩,
          ⟨(some 35), .op (.bin .geq (.t 32) (.t 34)), none⟩,
          ⟨(some 31), .op (.mov (.t 35)), none⟩])
        (.cond (.t 31)
          (.seq (.ops [⟨(some 4), .op (.mov (.c (.int .i64 (-1)))), none⟩])
          .ret)
          (.seq (.cond (.c (.chan none))
            .skip
            .skip)
          (.cond (.t 36)
            (.seq (.ops [⟨(some 45), .op (.mov (.t 0)), none⟩,
              ⟨(some 46), .op (.mov (.t 1)), none⟩,
              ⟨(some 47), .call 69 [(.t 45), (.t 46)], none⟩,
              ⟨(some 4), .op (.mov (.t 47)), none⟩])
            .ret)
            .skip)))))))))
  (.seq (.ops [⟨(some 48), .op (.mov (.t 1)), none⟩,
    ⟨(some 49), .op (.sidx (.t 48) (.c (.int .i64 0))), none⟩,
    ⟨(some 6), .op (.mov (.t 49)), none⟩])
  (.seq (.ops [⟨(some 50), .op (.mov (.t 1)), none⟩,
    ⟨(some 51), .op (.sidx (.t 50) (.c (.int .i64 1))), none⟩,
    ⟨(some 7), .op (.mov (.t 51)), none⟩])
  (.seq (.ops [⟨(some 8), .op (.mov (.c (.int .i64 0))), none⟩])
  (.seq (.ops [⟨(some 52), .op (.mov (.t 0)), none⟩,
    ⟨(some 53), .op (.len .str (.t 52)), none⟩,
    ⟨(some 54), .op (.mov (.t 5)), none⟩,
    ⟨(some 55), .op (.bin .sub (.t 53) (.t 54)), none⟩,
    ⟨(some 56), .op (.bin .add (.t 55) (.c (.int .i64 1))), none⟩,
    ⟨(some 9), .op (.mov (.t 56)), none⟩])
  (.seq (.ops [⟨(some 10), .op (.mov (.c (.int .i64 0))), none⟩])
  (.seq (.block 1
    (.loop C66L0))
  (.seq (.ops [⟨(some 4), .op (.mov (.c (.int .i64 (-1)))), none⟩])
  .ret)))))))))), [.tmp 4]⟩
-- swath/swathref10.Check
def C10L0 : IC :=
  (.seq (.ops [⟨(some 82), .op (.bin .lss (.t 81) (.t 80)), none⟩])
  (.seq (.cond (.t 82)
    .skip
    (.exit 2))
  (.seq (.block 3
    (.seq (.ops [⟨(some 83), .op (.mov (.t 81)), none⟩,
      ⟨(some 8), .op (.mov (.t 83)), none⟩])
    (.seq (.ops [⟨(some 84), .op (.faddr 3 (.t 7)), none⟩,
      ⟨(some 85), .op (.load none (.t 84)), none⟩,
      ⟨(some 86), .op (.mov (.t 8)), none⟩,
      ⟨(some 87), .op (.iaddr (.sl 6) (.t 85) (.t 86)), none⟩,
      ⟨(some 88), .op (.load (some 6) (.t 87)), none⟩,
      ⟨(some 9), .op (.alloc [(.int .i64 0), (.int .i64 0), (.int .i64 0), (.int .i64 0), (.int .i64 0), (.slice none 0 0)]), none⟩,
      ⟨none, .op (.store 6 (.t 9) (.t 88)), none⟩])
    (.seq (.seq (.ops [⟨(some 89), .op (.load (some 3) (.t 1)), none⟩,
      ⟨(some 90), .op (.load (some 4) (.t 7)), none⟩,
      ⟨(some 91), .op (.mov (.t 8)), none⟩,
      ⟨(some 92), .call 23 [(.t 89), (.t 90), (.t 91)], none⟩,
      ⟨(some 93), .op (.un .not (.t 92)), none⟩,
      ⟨(some 94), .op (.mov (.t 93)), none⟩,
      ⟨(some 95), .op (.faddr 0 (.t 9)), (some (94, false))⟩,
      ⟨(some 96), .op (.load none (.t 95)), (some (94, false))⟩,
      ⟨(some 97), .op (.bin .eql (.t 96) (.c (.int .i64 27))), (some (94, false))⟩,
      ⟨(some 98), .op (.mov (.t 97)), (some (94, false))⟩,
      ⟨(some 99), .op (.mov (.t 5)), (some (98, true))⟩,
      ⟨(some 100), .op (.faddr 4 (.t 9)), (some (98, true))⟩,
      ⟨(some 101), .op (.load none (.t 100)), (some (98, true))⟩,
      ⟨(some 102), .call 24 [(.t 99), (.t 101)], (some (98, true))⟩,
      ⟨(some 103), .op (.pick (.t 98) (.t 102) (.c (.bool false))), (some (94, false))⟩,
      ⟨(some 104), .op (.pick (.t 94) (.c (.bool true)) (.t 103)), none⟩])
    (.cond (.t 104)
      (.seq (.ops [⟨(some 105), .op (.mov (.t 6)), none⟩,
        ⟨(some 106), .op (.mov (.t 8)), none⟩,
        ⟨(some 2), .op (.mov (.t 105)), none⟩,
        ⟨(some 3), .op (.mov (.t 106)), none⟩,
        ⟨(some 4), .op (.mov (.c (.int .i64 100))), none⟩])
      .ret)
      .skip))
    (.seq (.ops [⟨(some 107), .op (.faddr 0 (.t 9)), none⟩,
      ⟨(some 108), .op (.load none (.t 107)), none⟩,
      ⟨(some 109), .op (.bin .eql (.t 108) (.c (.int .i64 27))), none⟩])
    (.cond (.t 109)
      (.ops [⟨(some 110), .op (.mov (.t 5)), none⟩,
        ⟨(some 111), .op (.faddr 4 (.t 9)), none⟩,
        ⟨(some 112), .op (.load none (.t 111)), none⟩,
        ⟨(some 113), .op (.lit 1 1 [(.int .i64 0)] [(0, 1, (.t 112))]), none⟩,
        ⟨(some 114), .op (.append 1 8 (.t 110) (.t 113)), none⟩,
        ⟨(some 5), .op (.mov (.t 114)), none⟩])
      .skip))))))
  (.ops [⟨(some 115), .op (.bin .add (.t 81) (.c (.int .i64 1))), none⟩,
    ⟨(some 81), .op (.mov (.t 115)), none⟩]))))
def C10L1 : IC :=
  (.seq (.ops [⟨(some 46), .op (.bin .lss (.t 45) (.t 44)), none⟩])
  (.seq (.cond (.t 46)
    .skip
    (.exit 0))
  (.seq (.block 1
    (.seq (.ops [⟨(some 47), .op (.mov (.t 45)), none⟩,
      ⟨(some 48), .op (.iaddr (.sl 4) (.t 43) (.t 45)), none⟩,
      ⟨(some 49), .op (.load (some 4) (.t 48)), none⟩,
      ⟨(some 7), .op (.alloc [(.string ⟨#[]⟩), (.int .i64 0), (.int .i64 0), (.slice none 0 0)]), none⟩,
      ⟨(some 6), .op (.mov (.t 47)), none⟩,
      ⟨none, .op (.store 4 (.t 7) (.t 49)), none⟩])
    (.seq (.seq (.ops [⟨(some 50), .op (.faddr 1 (.t 7)), none⟩,
      ⟨(some 51), .op (.load none (.t 50)), none⟩,
      ⟨(some 52), .op (.bin .lss (.t 51) (.c (.int .i64 0))), none⟩,
      ⟨(some 53), .op (.mov (.t 52)), none⟩,
      ⟨(some 54), .op (.faddr 1 (.t 7)), (some (53, false))⟩,
      ⟨(some 55), .op (.load none (.t 54)), (some (53, false))⟩,
      ⟨(some 56), .op (.faddr 2 (.t 7)), (some (53, false))⟩,
      ⟨(some 57), .op (.load none (.t 56)), (some (53, false))⟩,
      ⟨(some 58), .op (.bin .gtr (.t 55) (.t 57)), (some (53, false))⟩,
      ⟨(some 59), .op (.pick (.t 53) (.c (.bool true)) (.t 58)), none⟩,
      ⟨(some 60), .op (.mov (.t 59)), none⟩,
      ⟨(some 61), .op (.faddr 2 (.t 7)), (some (60, false))⟩,
      ⟨(some 62), .op (.load none (.t 61)), (some (60, false))⟩,
      ⟨(some 63), .op (.bin .gtr (.t 62) (.c (.int .i64 1000))), (some (60, false))⟩,
      ⟨(some 64), .op (.pick (.t 60) (.c (.bool true)) (.t 63)), none⟩,
      ⟨(some 65), .op (.mov (.t 64)), none⟩,
      ⟨(some 66), .op (.faddr 3 (.t 7)), (some (65, false))⟩,
      ⟨(some 67), .op (.load none (.t 66)), (some (65, false))⟩,
      ⟨(some 68), .op (.len .sl (.t 67)), (some (65, false))⟩,
      ⟨(some 69), .op (.bin .eql (.t 68) (.c (.int .i64 0))), (some (65, false))⟩,
      ⟨(some 70), .op (.pick (.t 65) (.c (.bool true)) (.t 69)), none⟩,
      ⟨(some 71), .op (.mov (.t 70)), none⟩,
      ⟨(some 72), .op (.faddr 3 (.t 7)), (some (71, false))⟩,
      ⟨(some 73), .op (.load none (.t 72)), (some (71, false))⟩,
      ⟨(some 74), .op (.len .sl (.t 73)), (some (71, false))⟩,
      ⟨(some 75), .op (.bin .gtr (.t 74) (.c (.int .i64 100000))), (some (71, false))⟩,
      ⟨(some 76), .op (.pick (.t 71) (.c (.bool true)) (.t 75)), none⟩])
    (.cond (.t 76)
      (.seq (.ops [⟨(some 77), .op (.mov (.t 6)), none⟩,
        ⟨(some 2), .op (.mov (.t 77)), none⟩,
        ⟨(some 3), .op (.mov (.c (.int .i64 0))), none⟩,
        ⟨(some 4), .op (.mov (.c (.int .i64 100))), none⟩])
      .ret)
      .skip))
    (.seq (.ops [⟨(some 78), .op (.faddr 3 (.t 7)), none⟩,
      ⟨(some 79), .op (.load none (.t 78)), none⟩,
      ⟨(some 80), .op (.len .sl (.t 79)), none⟩,
      ⟨(some 81), .op (.mov (.c (.int .i64 0))), none⟩])
    (.block 2
      (.loop C10L0))))))
  (.ops [⟨(some 116), .op (.bin .add (.t 45) (.c (.int .i64 1))), none⟩,
    ⟨(some 45), .op (.mov (.t 116)), none⟩]))))
def C10 : IFn := ⟨117, (.seq (.ops [⟨(some 1), .op (.box (.t 0)), none⟩,
    ⟨(some 2), .op (.mov (.c (.int .i64 0))), none⟩,
    ⟨(some 3), .op (.mov (.c (.int .i64 0))), none⟩,
    ⟨(some 4), .op (.mov (.c (.int .i64 0))), none⟩])
  (.seq (.seq (.ops [⟨(some 10), .op (.faddr 0 (.t 1)), none⟩,
    ⟨(some 11), .op (.load none (.t 10)), none⟩,
    ⟨(some 12), .op (.len .sl (.t 11)), none⟩,
    ⟨(some 13), .op (.bin .eql (.t 12) (.c (.int .i64 0))), none⟩,
    ⟨(some 14), .op (.mov (.t 13)), none⟩,
    ⟨(some 15), .op (.faddr 1 (.t 1)), (some (14, false))⟩,
    ⟨(some 16), .op (.load none (.t 15)), (some (14, false))⟩,
    ⟨(some 17), .op (.bin .lss (.t 16) (.c (.int .i64 0))), (some (14, false))⟩,
    ⟨(some 18), .op (.pick (.t 14) (.c (.bool true)) (.t 17)), none⟩,
    ⟨(some 19), .op (.mov (.t 18)), none⟩,
    ⟨(some 20), .op (.faddr 1 (.t 1)), (some (19, false))⟩,
    ⟨(some 21), .op (.load none (.t 20)), (some (19, false))⟩,
    ⟨(some 22), .op (.faddr 0 (.t 1)), (some (19, false))⟩,
    ⟨(some 23), .op (.load none (.t 22)), (some (19, false))⟩,
    ⟨(some 24), .op (.len .sl (.t 23)), (some (19, false))⟩,
    ⟨(some 25), .op (.bin .geq (.t 21) (.t 24)), (some (19, false))⟩,
    ⟨(some 26), .op (.pick (.t 19) (.c (.bool true)) (.t 25)), none⟩,
    ⟨(some 27), .op (.mov (.t 26)), none⟩,
    ⟨(some 28), .op (.faddr 0 (.t 1)), (some (27, false))⟩,
    ⟨(some 29), .op (.load none (.t 28)), (some (27, false))⟩,
    ⟨(some 30), .op (.faddr 1 (.t 1)), (some (27, false))⟩,
    ⟨(some 31), .op (.load none (.t 30)), (some (27, false))⟩,
    ⟨(some 32), .op (.iaddr (.sl 4) (.t 29) (.t 31)), (some (27, false))⟩,
    ⟨(some 33), .op (.faddr 1 (.t 32)), (some (27, false))⟩,
    ⟨(some 34), .op (.load none (.t 33)), (some (27, false))⟩,
    ⟨(some 35), .op (.bin .neq (.t 34) (.c (.int .i64 0))), (some (27, false))⟩,
    ⟨(some 36), .op (.pick (.t 27) (.c (.bool true)) (.t 35)), none⟩,
    ⟨(some 37), .op (.mov (.t 36)), none⟩,
    ⟨(some 38), .op (.faddr 2 (.t 1)), (some (37, false))⟩,
    ⟨(some 39), .op (.load none (.t 38)), (some (37, false))⟩,
    ⟨(some 40), .op (.bin .lss (.t 39) (.c (.int .i64 0))), (some (37, false))⟩,
    ⟨(some 41), .op (.pick (.t 37) (.c (.bool true)) (.t 40)), none⟩])
  (.cond (.t 41)
    (.seq (.ops [⟨(some 2), .op (.mov (.c (.int .i64 0))), none⟩,
      ⟨(some 3), .op (.mov (.c (.int .i64 0))), none⟩,
      ⟨(some 4), .op (.mov (.c (.int .i64 100))), none⟩])
    .ret)
    .skip))
  (.seq (.ops [⟨(some 5), .op (.mov (.c (.slice none 0 0))), none⟩])
  (.seq (.seq (.ops [⟨(some 42), .op (.faddr 0 (.t 1)), none⟩,
    ⟨(some 43), .op (.load none (.t 42)), none⟩,
    ⟨(some 44), .op (.len .sl (.t 43)), none⟩,
    ⟨(some 45), .op (.mov (.c (.int .i64 0))), none⟩])
  (.block 0
    (.loop C10L1)))
  (.seq (.ops [⟨(some 2), .op (.mov (.c (.int .i64 0))), none⟩,
    ⟨(some 3), .op (.mov (.c (.int .i64 0))), none⟩,
    ⟨(some 4), .op (.mov (.c (.int .i64 0))), none⟩])
  .ret))))), [.tmp 2, .tmp 3, .tmp 4]⟩
-- swath/swathref10.ins
def C23L0 : IC :=
  (.seq (.seq (.ops [⟨(some 32), .op (.mov (.t 12)), none⟩,
    ⟨(some 33), .op (.bin .lss (.t 32) (.c (.int .i64 3))), none⟩])
  (.cond (.t 33)
    .skip
    (.exit 0)))
  (.seq (.block 1
    (.seq (.ops [⟨(some 36), .op (.mov (.t 12)), none⟩,
      ⟨(some 37), .op (.sidx (.c (.string ⟨#[65, 66, 67]⟩)) (.t 36)), none⟩,
      ⟨(some 13), .op (.mov (.t 37)), none⟩])
    (.seq (.ops [⟨(some 38), .op (.load (some 6) (.t 7)), none⟩,
      ⟨(some 39), .op (.mov (.t 13)), none⟩,
      ⟨(some 40), .call 28 [(.t 38), (.t 39)], none⟩,
      ⟨(some 14), .op (.mov (.t 40)), none⟩])
    (.seq (.seq (.ops [⟨(some 41), .op (.mov (.t 9)), none⟩,
      ⟨(some 42), .op (.mov (.t 13)), none⟩,
      ⟨(some 43), .call 40 [(.t 41), (.t 42)], none⟩,
      ⟨(some 44), .op (.un .not (.t 43)), none⟩,
      ⟨(some 45), .op (.mov (.t 44)), none⟩,
      ⟨(some 46), .op (.mov (.t 14)), (some (45, true))⟩,
      ⟨(some 47), .op (.bin .neq (.t 46) (.c (.int .i64 0))), (some (45, true))⟩,
      ⟨(some 48), .op (.pick (.t 45) (.t 47) (.c (.bool false))), none⟩])
    (.cond (.t 48)
      (.seq (.ops [⟨(some 6), .op (.mov (.c (.bool false))), none⟩])
      .ret)
      .skip))
    (.seq (.ops [⟨(some 49), .op (.mov (.t 10)), none⟩,
      ⟨(some 50), .op (.mov (.t 13)), none⟩,
      ⟨(some 51), .call 40 [(.t 49), (.t 50)], none⟩,
      ⟨(some 52), .op (.mov (.t 51)), none⟩,
      ⟨(some 53), .op (.mov (.t 11)), (some (52, false))⟩,
      ⟨(some 54), .op (.mov (.t 13)), (some (52, false))⟩,
      ⟨(some 55), .call 40 [(.t 53), (.t 54)], (some (52, false))⟩,
      ⟨(some 56), .op (.pick (.t 52) (.c (.bool true)) (.t 55)), none⟩,
      ⟨(some 57), .op (.mov (.t 56)), none⟩,
      ⟨(some 58), .op (.mov (.t 14)), (some (57, true))⟩,
      ⟨(some 59), .op (.bin .lss (.t 58) (.c (.int .i64 0))), (some (57, true))⟩,
      ⟨(some 60), .op (.mov (.t 59)), (some (57, true))⟩,
      ⟨(some 61), .op (.mov (.t 14)), (some (60, false))⟩,
      ⟨(some 62), .op (.faddr 2 (.t 4)), (some (60, false))⟩,
      ⟨(some 63), .op (.load none (.t 62)), (some (60, false))⟩,
      ⟨(some 64), .op (.bin .geq (.t 61) (.t 63)), (some (60, false))⟩,
      ⟨(some 65), .op (.pick (.t 60) (.c (.bool true)) (.t 64)), (some (57, true))⟩,
      ⟨(some 66), .op (.pick (.t 57) (.t 65) (.c (.bool false))), none⟩])
    (.cond (.t 66)
      (.seq (.ops [⟨(some 6), .op (.mov (.c (.bool false))), none⟩])
      .ret)
      .skip))))))
  (.ops [⟨(some 34), .op (.mov (.t 12)), none⟩,
    ⟨(some 35), .op (.bin .add (.t 34) (.c (.int .i64 1))), none⟩,
    ⟨(some 12), .op (.mov (.t 35)), none⟩])))
def C23L1 : IC :=
  (.seq (.ops [⟨(some 90), .op (.bin .lss (.t 89) (.t 88)), none⟩])
  (.seq (.cond (.t 90)
    .skip
    (.exit 2))
  (.seq (.block 3
    (.seq (.ops [⟨(some 91), .op (.iaddr (.sl 1) (.t 87) (.t 89)), none⟩,
      ⟨(some 92), .op (.load none (.t 91)), none⟩,
      ⟨(some 16), .op (.mov (.t 92)), none⟩])
    (.seq (.ops [⟨(some 93), .op (.mov (.t 16)), none⟩,
      ⟨(some 94), .op (.bin .lss (.t 93) (.c (.int .i64 0))), none⟩,
      ⟨(some 95), .op (.mov (.t 94)), none⟩,
      ⟨(some 96), .op (.mov (.t 16)), (some (95, false))⟩,
      ⟨(some 97), .op (.faddr 2 (.t 4)), (some (95, false))⟩,
      ⟨(some 98), .op (.load none (.t 97)), (some (95, false))⟩,
      ⟨(some 99), .op (.bin .geq (.t 96) (.t 98)), (some (95, false))⟩,
      ⟨(some 100), .op (.pick (.t 95) (.c (.bool true)) (.t 99)), none⟩])
    (.cond (.t 100)
      (.seq (.ops [⟨(some 6), .op (.mov (.c (.bool false))), none⟩])
      .ret)
      .skip))))
  (.ops [⟨(some 101), .op (.bin .add (.t 89) (.c (.int .i64 1))), none⟩,
    ⟨(some 89), .op (.mov (.t 101)), none⟩]))))
def C23 : IFn := ⟨127, (.seq (.ops [⟨(some 3), .op (.box (.t 0)), none⟩,
    ⟨(some 4), .op (.box (.t 1)), none⟩,
    ⟨(some 6), .op (.mov (.c (.bool false))), none⟩])
  (.seq (.ops [⟨(some 17), .op (.faddr 3 (.t 4)), none⟩,
    ⟨(some 18), .op (.load none (.t 17)), none⟩,
    ⟨(some 19), .op (.mov (.t 2)), none⟩,
    ⟨(some 20), .op (.iaddr (.sl 6) (.t 18) (.t 19)), none⟩,
    ⟨(some 21), .op (.load (some 6) (.t 20)), none⟩,
    ⟨(some 7), .op (.alloc [(.int .i64 0), (.int .i64 0), (.int .i64 0), (.int .i64 0), (.int .i64 0), (.slice none 0 0)]), none⟩,
    ⟨none, .op (.store 6 (.t 7) (.t 21)), none⟩])
  (.seq (.ops [⟨(some 23), .op (.faddr 0 (.t 7)), none⟩,
    ⟨(some 24), .op (.load none (.t 23)), none⟩,
    ⟨(some 25), .call 27 [(.t 24)], none⟩,
    ⟨(some 22), .op (.mov (.t 25)), none⟩,
    ⟨(some 26), .op (.extract (.t 22) 0), none⟩,
    ⟨(some 27), .op (.extract (.t 22) 1), none⟩,
    ⟨(some 28), .op (.extract (.t 22) 2), none⟩,
    ⟨(some 29), .op (.extract (.t 22) 3), none⟩,
    ⟨(some 8), .op (.mov (.t 26)), none⟩,
    ⟨(some 9), .op (.mov (.t 27)), none⟩,
    ⟨(some 10), .op (.mov (.t 28)), none⟩,
    ⟨(some 11), .op (.mov (.t 29)), none⟩])
  (.seq (.seq (.ops [⟨(some 30), .op (.mov (.t 8)), none⟩,
    ⟨(some 31), .op (.bin .eql (.t 30) (.c (.string ⟨#[]⟩))), none⟩])
  (.cond (.t 31)
    (.seq (.ops [⟨(some 6), .op (.mov (.c (.bool false))), none⟩])
    .ret)
    .skip))
  (.seq (.seq (.ops [⟨(some 12), .op (.mov (.c (.int .i64 0))), none⟩])
  (.block 0
    (.loop C23L0)))
  (.seq (.seq (.ops [⟨(some 67), .op (.mov (.t 9)), none⟩,
    ⟨(some 68), .call 40 [(.t 67), (.c (.int .u8 75))], none⟩,
    ⟨(some 69), .op (.un .not (.t 68)), none⟩,
    ⟨(some 70), .op (.mov (.t 69)), none⟩,
    ⟨(some 71), .op (.faddr 4 (.t 7)), (some (70, true))⟩,
    ⟨(some 72), .op (.load none (.t 71)), (some (70, true))⟩,
    ⟨(some 73), .op (.bin .neq (.t 72) (.c (.int .i64 0))), (some (70, true))⟩,
    ⟨(some 74), .op (.pick (.t 70) (.t 73) (.c (.bool false))), none⟩,
    ⟨(some 75), .op (.mov (.t 74)), none⟩,
    ⟨(some 76), .op (.mov (.t 9)), (some (75, false))⟩,
    ⟨(some 77), .call 40 [(.t 76), (.c (.int .u8 76))], (some (75, false))⟩,
    ⟨(some 78), .op (.un .not (.t 77)), (some (75, false))⟩,
    ⟨(some 79), .op (.mov (.t 78)), (some (75, false))⟩,
    ⟨(some 80), .op (.faddr 5 (.t 7)), (some (79, true))⟩,
    ⟨(some 81), .op (.load none (.t 80)), (some (79, true))⟩,
    ⟨(some 82), .op (.len .sl (.t 81)), (some (79, true))⟩,
    ⟨(some 83), .op (.bin .gtr (.t 82) (.c (.int .i64 0))), (some (79, true))⟩,
    ⟨(some 84), .op (.pick (.t 79) (.t 83) (.c (.bool false))), (some (75, false))⟩,
    ⟨(some 85), .op (.pick (.t 75) (.c (.bool true)) (.t 84)), none⟩])
  (.cond (.t 85)
    (.seq (.ops [⟨(some 6), .op (.mov (.c (.bool false))), none⟩])
    .ret)
    .skip))
  (.seq (.seq (.ops [⟨(some 86), .op (.faddr 5 (.t 7)), none⟩,
    ⟨(some 87), .op (.load none (.t 86)), none⟩,
    ⟨(some 88), .op (.len .sl (.t 87)), none⟩,
    ⟨(some 89), .op (.mov (.c (.int .i64 0))), none⟩])
  (.block 2
    (.loop C23L1)))
  (.seq (.seq (.ops [⟨(some 102), .op (.mov (.t 2)), none⟩,
    ⟨(some 103), .op (.faddr 3 (.t 4)), none⟩,
    ⟨(some 104), .op (.load none (.t 103)), none⟩,
    ⟨(some 105), .op (.len .sl (.t 104)), none⟩,
    ⟨(some 106), .op (.bin .sub (.t 105) (.c (.int .i64 1))), none⟩,
    ⟨(some 107), .op (.bin .eql (.t 102) (.t 106)), none⟩,
    ⟨(some 108), .op (.mov (.t 107)), none⟩,
    ⟨(some 109), .op (.faddr 0 (.t 7)), (some (108, true))⟩,
    ⟨(some 110), .op (.load none (.t 109)), (some (108, true))⟩,
    ⟨(some 111), .op (.bin .neq (.t 110) (.c (.int .i64 21))), (some (108, true))⟩,
    ⟨(some 112), .op (.pick (.t 108) (.t 111) (.c (.bool false))), none⟩,
    ⟨(some 113), .op (.mov (.t 112)), none⟩,
    ⟨(some 114), .op (.faddr 0 (.t 7)), (some (113, true))⟩,
    ⟨(some 115), .op (.load none (.t 114)), (some (113, true))⟩,
    ⟨(some 116), .op (.bin .neq (.t 115) (.c (.int .i64 24))), (some (113, true))⟩,
    ⟨(some 117), .op (.pick (.t 113) (.t 116) (.c (.bool false))), none⟩,
    ⟨(some 118), .op (.mov (.t 117)), none⟩,
    ⟨(some 119), .op (.faddr 0 (.t 7)), (some (118, true))⟩,
    ⟨(some 120), .op (.load none (.t 119)), (some (118, true))⟩,
    ⟨(some 121), .op (.bin .neq (.t 120) (.c (.int .i64 25))), (some (118, true))⟩,
    ⟨(some 122), .op (.pick (.t 118) (.t 121) (.c (.bool false))), none⟩])
  (.cond (.t 122)
    (.seq (.ops [⟨(some 6), .op (.mov (.c (.bool false))), none⟩])
    .ret)
    .skip))
  (.seq (.ops [⟨(some 123), .op (.load (some 3) (.t 3)), none⟩,
    ⟨(some 124), .op (.load (some 4) (.t 4)), none⟩,
    ⟨(some 125), .op (.mov (.t 2)), none⟩,
    ⟨(some 126), .call 41 [(.t 123), (.t 124), (.t 125)], none⟩,
    ⟨(some 6), .op (.mov (.t 126)), none⟩])
  .ret))))))))), [.tmp 6]⟩
-- swath/swathref10.has
def C40L0 : IC :=
  (.seq (.seq (.ops [⟨(some 6), .op (.mov (.t 5)), none⟩,
    ⟨(some 7), .op (.mov (.t 0)), none⟩,
    ⟨(some 8), .op (.len .str (.t 7)), none⟩,
    ⟨(some 9), .op (.bin .lss (.t 6) (.t 8)), none⟩])
  (.cond (.t 9)
    .skip
    (.exit 0)))
  (.seq (.block 1
    (.seq (.ops [⟨(some 12), .op (.mov (.t 0)), none⟩,
      ⟨(some 13), .op (.mov (.t 5)), none⟩,
      ⟨(some 14), .op (.sidx (.t 12) (.t 13)), none⟩,
      ⟨(some 15), .op (.mov (.t 1)), none⟩,
      ⟨(some 16), .op (.bin .eql (.t 14) (.t 15)), none⟩])
    (.cond (.t 16)
      (.seq (.ops [⟨(some 4), .op (.mov (.c (.bool true))), none⟩])
      .ret)
      .skip)))
  (.ops [⟨(some 10), .op (.mov (.t 5)), none⟩,
    ⟨(some 11), .op (.bin .add (.t 10) (.c (.int .i64 1))), none⟩,
    ⟨(some 5), .op (.mov (.t 11)), none⟩])))
def C40 : IFn := ⟨17, (.seq (.ops [⟨(some 4), .op (.mov (.c (.bool false))), none⟩])
  (.seq (.seq (.ops [⟨(some 5), .op (.mov (.c (.int .i64 0))), none⟩])
  (.block 0
    (.loop C40L0)))
  (.seq (.ops [⟨(some 4), .op (.mov (.c (.bool false))), none⟩])
  .ret))), [.tmp 4]⟩
-- swath/swathref10.numbers
def C41 : IFn := ⟨121, (.seq (.ops [⟨(some 3), .op (.box (.t 0)), none⟩,
    ⟨(some 4), .op (.box (.t 1)), none⟩,
    ⟨(some 6), .op (.mov (.c (.bool false))), none⟩])
  (.seq (.ops [⟨(some 8), .op (.faddr 3 (.t 4)), none⟩,
    ⟨(some 9), .op (.load none (.t 8)), none⟩,
    ⟨(some 10), .op (.mov (.t 2)), none⟩,
    ⟨(some 11), .op (.iaddr (.sl 6) (.t 9) (.t 10)), none⟩,
    ⟨(some 12), .op (.load (some 6) (.t 11)), none⟩,
    ⟨(some 7), .op (.alloc [(.int .i64 0), (.int .i64 0), (.int .i64 0), (.int .i64 0), (.int .i64 0), (.slice none 0 0)]), none⟩,
    ⟨none, .op (.store 6 (.t 7) (.t 12)), none⟩])
  (.seq (.seq (.ops [⟨(some 13), .op (.faddr 0 (.t 7)), none⟩,
    ⟨(some 14), .op (.load none (.t 13)), none⟩])
  (.block 0
    (.seq (.ops [⟨(some 16), .op (.bin .eql (.t 14) (.c (.int .i64 4))), none⟩,
      ⟨(some 15), .op (.mov (.t 16)), none⟩])
    (.cond (.t 15)
      (.seq (.ops [⟨(some 17), .op (.faddr 4 (.t 7)), none⟩,
        ⟨(some 18), .op (.load none (.t 17)), none⟩,
        ⟨(some 19), .op (.bin .geq (.t 18) (.c (.int .i64 1))), none⟩,
        ⟨(some 20), .op (.mov (.t 19)), none⟩,
        ⟨(some 21), .op (.faddr 4 (.t 7)), (some (20, true))⟩,
        ⟨(some 22), .op (.load none (.t 21)), (some (20, true))⟩,
        ⟨(some 23), .op (.bin .leq (.t 22) (.c (.int .i64 12))), (some (20, true))⟩,
        ⟨(some 24), .op (.pick (.t 20) (.t 23) (.c (.bool false))), none⟩,
        ⟨(some 6), .op (.mov (.t 24)), none⟩])
      .ret)
      (.seq (.ops [⟨(some 26), .op (.bin .eql (.t 14) (.c (.int .i64 5))), none⟩,
        ⟨(some 25), .op (.mov (.t 26)), none⟩])
      (.cond (.t 25)
        (.seq (.ops [⟨(some 27), .op (.faddr 4 (.t 7)), none⟩,
          ⟨(some 28), .op (.load none (.t 27)), none⟩,
          ⟨(some 29), .op (.bin .geq (.t 28) (.c (.int .i64 13))), none⟩,
          ⟨(some 30), .op (.mov (.t 29)), none⟩,
          ⟨(some 31), .op (.faddr 4 (.t 7)), (some (30, true))⟩,
          ⟨(some 32), .op (.load none (.t 31)), (some (30, true))⟩,
          ⟨(some 33), .op (.bin .leq (.t 32) (.c (.int .i64 15))), (some (30, true))⟩,
          ⟨(some 34), .op (.pick (.t 30) (.t 33) (.c (.bool false))), none⟩,
          ⟨(some 6), .op (.mov (.t 34)), none⟩])
        .ret)
        (.seq (.seq (.ops [⟨(some 36), .op (.bin .eql (.t 14) (.c (.int .i64 8))), none⟩,
          ⟨(some 35), .op (.mov (.t 36)), none⟩])
        (.cond (.t 35)
          .skip
          (.seq (.ops [⟨(some 37), .op (.bin .eql (.t 14) (.c (.int .i64 9))), none⟩,
            ⟨(some 35), .op (.mov (.t 37)), none⟩])
          (.cond (.t 35)
            .skip
            (.ops [⟨(some 38), .op (.bin .eql (.t 14) (.c (.int .i64 13))), none⟩,
              ⟨(some 35), .op (.mov (.t 38)), none⟩])))))
        (.cond (.t 35)
          (.seq (.ops [⟨(some 39), .op (.faddr 4 (.t 7)), none⟩,
            ⟨(some 40), .op (.load none (.t 39)), none⟩,
            ⟨(some 41), .op (.bin .geq (.t 40) (.c (.int .i64 0))), none⟩,
            ⟨(some 42), .op (.mov (.t 41)), none⟩,
            ⟨(some 43), .op (.faddr 4 (.t 7)), (some (42, true))⟩,
            ⟨(some 44), .op (.load none (.t 43)), (some (42, true))⟩,
            ⟨(some 45), .op (.bin .leq (.t 44) (.c (.int .i64 1000))), (some (42, true))⟩,
            ⟨(some 46), .op (.pick (.t 42) (.t 45) (.c (.bool false))), none⟩,
            ⟨(some 47), .op (.mov (.t 46)), none⟩,
            ⟨(some 48), .op (.faddr 3 (.t 7)), (some (47, true))⟩,
            ⟨(some 49), .op (.load none (.t 48)), (some (47, true))⟩,
            ⟨(some 50), .op (.bin .geq (.t 49) (.c (.int .i64 0))), (some (47, true))⟩,
            ⟨(some 51), .op (.pick (.t 47) (.t 50) (.c (.bool false))), none⟩,
            ⟨(some 52), .op (.mov (.t 51)), none⟩,
            ⟨(some 53), .op (.faddr 3 (.t 7)), (some (52, true))⟩,
            ⟨(some 54), .op (.load none (.t 53)), (some (52, true))⟩,
            ⟨(some 55), .op (.bin .leq (.t 54) (.c (.int .i64 1000))), (some (52, true))⟩,
            ⟨(some 56), .op (.pick (.t 52) (.t 55) (.c (.bool false))), none⟩,
            ⟨(some 6), .op (.mov (.t 56)), none⟩])
          .ret)
          (.seq (.seq (.ops [⟨(some 58), .op (.bin .eql (.t 14) (.c (.int .i64 21))), none⟩,
            ⟨(some 57), .op (.mov (.t 58)), none⟩])
          (.cond (.t 57)
            .skip
            (.ops [⟨(some 59), .op (.bin .eql (.t 14) (.c (.int .i64 22))), none⟩,
              ⟨(some 57), .op (.mov (.t 59)), none⟩])))
          (.cond (.t 57)
            (.seq (.ops [⟨(some 60), .op (.faddr 4 (.t 7)), none⟩,
              ⟨(some 61), .op (.load none (.t 60)), none⟩,
              ⟨(some 62), .op (.bin .geq (.t 61) (.c (.int .i64 0))), none⟩,
              ⟨(some 63), .op (.mov (.t 62)), none⟩,
              ⟨(some 64), .op (.faddr 4 (.t 7)), (some (63, true))⟩,
              ⟨(some 65), .op (.load none (.t 64)), (some (63, true))⟩,
              ⟨(some 66), .op (.faddr 3 (.t 4)), (some (63, true))⟩,
              ⟨(some 67), .op (.load none (.t 66)), (some (63, true))⟩,
              ⟨(some 68), .op (.len .sl (.t 67)), (some (63, true))⟩,
              ⟨(some 69), .op (.bin .lss (.t 65) (.t 68)), (some (63, true))⟩,
              ⟨(some 70), .op (.pick (.t 63) (.t 69) (.c (.bool false))), none⟩,
              ⟨(some 71), .op (.mov (.t 70)), none⟩,
              ⟨(some 72), .op (.faddr 4 (.t 7)), (some (71, true))⟩,
              ⟨(some 73), .op (.load none (.t 72)), (some (71, true))⟩,
              ⟨(some 74), .op (.mov (.t 2)), (some (71, true))⟩,
              ⟨(some 75), .op (.bin .neq (.t 73) (.t 74)), (some (71, true))⟩,
              ⟨(some 76), .op (.pick (.t 71) (.t 75) (.c (.bool false))), none⟩,
              ⟨(some 6), .op (.mov (.t 76)), none⟩])
            .ret)
            (.seq (.ops [⟨(some 78), .op (.bin .eql (.t 14) (.c (.int .i64 23))), none⟩,
              ⟨(some 77), .op (.mov (.t 78)), none⟩])
            (.cond (.t 77)
              (.seq (.draw [⟨(some 79), .op (.faddr 4 (.t 7)), none⟩,
                ⟨(some 80), .op (.load none (.t 79)), none⟩,
                ⟨(some 81), .op (.bin .geq (.t 80) (.c (.int .i64 0))), none⟩,
                ⟨(some 82), .op (.mov (.t 81)), none⟩,
                ⟨(some 83), .op (.faddr 4 (.t 7)), (some (82, true))⟩,
                ⟨(some 84), .op (.load none (.t 83)), (some (82, true))⟩,
                ⟨(some 85), .op (.faddr 0 (.t 3)), (some (82, true))⟩,
                ⟨(some 86), .op (.load none (.t 85)), (some (82, true))⟩,
                ⟨(some 87), .op (.len .sl (.t 86)), (some (82, true))⟩,
                ⟨(some 88), .op (.bin .lss (.t 84) (.t 87)), (some (82, true))⟩,
                ⟨(some 89), .op (.pick (.t 82) (.t 88) (.c (.bool false))), none⟩,
                ⟨(some 90), .op (.mov (.t 89)), none⟩,
                ⟨(some 91), .op (.faddr 5 (.t 7)), (some (90, true))⟩,
                ⟨(some 92), .op (.load none (.t 91)), (some (90, true))⟩,
                ⟨(some 93), .op (.len .sl (.t 92)), (some (90, true))⟩,
                ⟨(some 94), .op (.faddr 0 (.t 3)), (some (90, true))⟩,
                ⟨(some 95), .op (.load none (.t 94)), (some (90, true))⟩,
                ⟨(some 96), .op (.faddr 4 (.t 7)), (some (90, true))⟩,
                ⟨(some 97), .op (.load none (.t 96)), (some (90, true))⟩,
                ⟨(some 98), .op (.iaddr (.sl 4) (.t 95) (.t 97)), (some (90, true))⟩,
                ⟨(some 99), .op (.faddr 1 (.t 98)), (some (90, true))⟩,
                ⟨(some 100), .op (.load none (.t 99)), (some (90, true))⟩,
                ⟨(some 101), .op (.bin .eql (.t 93) (.t 100)), (some (90, true))⟩,
                ⟨(some 102), .op (.pick (.t 90) (.t 101) (.c (.bool false))), none⟩,
                ⟨(some 6), .op (.mov (.t 102)), none⟩]
                [[], [0], [1, 0], [2, 1, 0], [3, 2, 1, 0], [3, 2, 1, 0, 4], [3, 2, 1, 0], [3, 2, 1, 0, 6], [3, 2, 1, 0, 7, 6], [3, 2, 1, 0, 8, 7, 6, 5, 4], [9, 3, 2, 1, 0, 8, 7, 6, 5, 4], [3, 2, 1, 0, 10, 9, 8, 7, 6, 5, 4], [11, 3, 2, 1, 0, 10, 9, 8, 7, 6, 5, 4], [11, 3, 2, 1, 0, 10, 9, 8, 7, 6, 5, 4, 12], [11, 3, 2, 1, 0, 10, 9, 8, 7, 6, 5, 4, 13, 12], [11, 3, 2, 1, 0, 10, 9, 8, 7, 6, 5, 4], [11, 3, 2, 1, 0, 10, 9, 8, 7, 6, 5, 4, 15], [11, 3, 2, 1, 0, 10, 9, 8, 7, 6, 5, 4], [11, 3, 2, 1, 0, 10, 9, 8, 7, 6, 5, 4, 17], [11, 3, 2, 1, 0, 10, 9, 8, 7, 6, 5, 4, 18, 17, 16, 15], [11, 3, 2, 1, 0, 10, 9, 8, 7, 6, 5, 4, 19, 18, 17, 16, 15], [11, 3, 2, 1, 0, 10, 9, 8, 7, 6, 5, 4, 20, 19, 18, 17, 16, 15], [11, 3, 2, 1, 0, 10, 9, 8, 7, 6, 5, 4, 21, 20, 19, 18, 17, 16, 15, 14, 13, 12], [22, 11, 3, 2, 1, 0, 10, 9, 8, 7, 6, 5, 4, 21, 20, 19, 18, 17, 16, 15, 14, 13, 12], [23, 22, 11, 3, 2, 1, 0, 10, 9, 8, 7, 6, 5, 4, 21, 20, 19, 18, 17, 16, 15, 14, 13, 12]])
              .ret)
              (.seq (.ops [⟨(some 104), .op (.bin .eql (.t 14) (.c (.int .i64 27))), none⟩,
                ⟨(some 103), .op (.mov (.t 104)), none⟩])
              (.cond (.t 103)
                (.seq (.ops [⟨(some 105), .op (.faddr 4 (.t 7)), none⟩,
                  ⟨(some 106), .op (.load none (.t 105)), none⟩,
                  ⟨(some 107), .op (.bin .geq (.t 106) (.c (.int .i64 0))), none⟩,
                  ⟨(some 108), .op (.mov (.t 107)), none⟩,
                  ⟨(some 109), .op (.faddr 4 (.t 7)), (some (108, true))⟩,
                  ⟨(some 110), .op (.load none (.t 109)), (some (108, true))⟩,
                  ⟨(some 111), .op (.faddr 2 (.t 3)), (some (108, true))⟩,
                  ⟨(some 112), .op (.load none (.t 111)), (some (108, true))⟩,
                  ⟨(some 113), .op (.bin .lss (.t 110) (.t 112)), (some (108, true))⟩,
                  ⟨(some 114), .op (.pick (.t 108) (.t 113) (.c (.bool false))), none⟩,
                  ⟨(some 115), .op (.mov (.t 114)), none⟩,
                  ⟨(some 116), .op (.faddr 5 (.t 7)), (some (115, true))⟩,
                  ⟨(some 117), .op (.load none (.t 116)), (some (115, true))⟩,
                  ⟨(some 118), .op (.len .sl (.t 117)), (some (115, true))⟩,
                  ⟨(some 119), .op (.bin .leq (.t 118) (.c (.int .i64 4))), (some (115, true))⟩,
                  ⟨(some 120), .op (.pick (.t 115) (.t 119) (.c (.bool false))), none⟩,
                  ⟨(some 6), .op (.mov (.t 120)), none⟩])
                .ret)
                .skip))))))))))))))
  (.seq (.ops [⟨(some 6), .op (.mov (.c (.bool true))), none⟩])
  .ret)))), [.tmp 6]⟩
-- swath/swathref10.held
def C24L0 : IC :=
  (.seq (.ops [⟨(some 10), .op (.bin .lss (.t 9) (.t 8)), none⟩])
  (.seq (.cond (.t 10)
    .skip
    (.exit 0))
  (.seq (.block 1
    (.seq (.ops [⟨(some 11), .op (.iaddr (.sl 1) (.t 7) (.t 9)), none⟩,
      ⟨(some 12), .op (.load none (.t 11)), none⟩,
      ⟨(some 6), .op (.mov (.t 12)), none⟩])
    (.seq (.ops [⟨(some 13), .op (.mov (.t 6)), none⟩,
      ⟨(some 14), .op (.mov (.t 1)), none⟩,
      ⟨(some 15), .op (.bin .eql (.t 13) (.t 14)), none⟩])
    (.cond (.t 15)
      (.seq (.ops [⟨(some 4), .op (.mov (.c (.bool true))), none⟩])
      .ret)
      .skip))))
  (.ops [⟨(some 16), .op (.bin .add (.t 9) (.c (.int .i64 1))), none⟩,
    ⟨(some 9), .op (.mov (.t 16)), none⟩]))))
def C24 : IFn := ⟨17, (.seq (.ops [⟨(some 4), .op (.mov (.c (.bool false))), none⟩])
  (.seq (.seq (.ops [⟨(some 7), .op (.mov (.t 0)), none⟩,
    ⟨(some 8), .op (.len .sl (.t 7)), none⟩,
    ⟨(some 9), .op (.mov (.c (.int .i64 0))), none⟩])
  (.block 0
    (.loop C24L0)))
  (.seq (.ops [⟨(some 4), .op (.mov (.c (.bool false))), none⟩])
  .ret))), [.tmp 4]⟩

end Go.Idl
end

section
/- Seat of chapter 10: the tables. -/
namespace Go.Proofs
set_option linter.unusedVariables false

set_option maxHeartbeats 1000000 in
set_option maxRecDepth 100000 in
/-- The library's search for a byte. -/
theorem Ytfdpknfndjllgaa.idxByte (s : ByteArray) (c : Int) (w : World) :
    Calls Try.prog 68 #[.string s, .int .u8 c] w fun e w' => e = .returned (.int .i64 (Lib.indexByte s.data.toList c.toNat.toUInt8)) ∧ w' = w := by
  go_enter Try.func68, Try.ntmps68
  go_wp2
  rw [run_callFunc_extern Try.func72 (by kernel_rfl) (by kernel_rfl) (by kernel_rfl) (e := Extern.BytealgIndexByte.indexByte) (by kernel_rfl), Lib.run_indexByteString]
  simp only [Result.andThen]
  rw [Oper.upon_value]
  go_wp2
  go_ret
  exact ⟨rfl, rfl⟩
end Go.Proofs

namespace Go.Idl
set_option linter.unusedVariables false
set_option linter.unusedSimpArgs false
set_option maxRecDepth 100000
open Go.Proofs

noncomputable def Tb0 : Tbl := { fn := fun f => (Try.prog.funcs[f]?).bind (cfn Try.prog), prim := fun _ => none }
theorem Tb0ok : TblOk Try.prog Tb0 := ⟨fun f fn h => by
  obtain ⟨F, h1, h2⟩ := Option.bind_eq_some_iff.1 h
  exact ⟨F, h1, h2⟩, fun f p h => by cases h⟩

def idxP : List Value → Option Value
  | [.string s, .int .u8 c] => some (.int .i64 (Lib.indexByte s.data.toList c.toNat.toUInt8))
  | _ => none

theorem idxP_ok : PrimOk Try.prog 68 idxP := by
  refine ⟨calleeOk_mk Try.func68 (by kernel_rfl) (by kernel_rfl), fun args v h => ?_⟩
  unfold idxP at h
  split at h
  case h_2 => cases h
  cases h
  exact ⟨fun ι rargs hr => args_eq hr rfl, fun ι => .int _ _, fun w _ => ((Ytfdpknfndjllgaa.idxByte _ _ w).mono fun e w' ⟨h1, h2⟩ => by subst h2; exact ⟨h1, ⟨Nat.le_refl _, fun _ _ => rfl⟩, rfl, rfl, rfl⟩)⟩

noncomputable def T0 : Tbl := setPrim Tb0 68 idxP
theorem T0ok : TblOk Try.prog T0 := setPrim_ok Tb0ok idxP_ok

def isTV : Option Value → Bool
  | some (.bool true) => true
  | _ => false
theorem isTV_eq {o : Option Value} (h : isTV o = true) : o = some (.bool true) := by
  unfold isTV at h
  split at h
  · rfl
  · cases h

theorem awake_run : isTV (cprim T0 200 7 []) = true := by kernel_rfl

end Go.Idl
end

section
/- An instruction's row: both packages' tables. -/
namespace Go.Idl
set_option linter.unusedVariables false
set_option linter.unusedSimpArgs false
set_option maxRecDepth 100000
open Go.Proofs

/-- Name, fields, what is read, what is written. -/
def rowsT : List (List UInt8 × List UInt8 × List UInt8 × List UInt8) :=
  [([], [], [], []),
  ([110, 117, 109], [65, 75], [], [65]),
  ([110, 117, 108, 108], [65], [], [65]),
  ([109, 111, 118, 101], [65, 66], [66], [65]),
  ([98, 105, 110], [65, 66, 67, 75], [66, 67], [65]),
  ([117, 110], [65, 66, 75], [66], [65]),
  ([101, 113], [65, 66, 67], [66, 67], [65]),
  ([110, 101], [65, 66, 67], [66, 67], [65]),
  ([103, 101, 116], [65, 66, 67, 75], [66], [65]),
  ([112, 117, 116], [65, 66, 67, 75], [65, 66], []),
  ([101, 108, 101, 109], [65, 66, 67], [66, 67], [65]),
  ([115, 101, 116, 101, 108, 101, 109], [65, 66, 67], [65, 66, 67], []),
  ([108, 101, 110], [65, 66], [66], [65]),
  ([110, 101, 119], [65, 67, 75], [], [65]),
  ([97, 114, 114], [65, 66], [66], [65]),
  ([105, 110], [65], [], [65]),
  ([111, 117, 116], [65], [65], []),
  ([105, 109, 103], [65, 66], [66], [65]),
  ([115, 105, 122, 101], [65], [], [65]),
  ([114, 111, 111, 116], [65], [], [65]),
  ([115, 101, 116, 114, 111, 111, 116], [65], [65], []),
  ([106, 117, 109, 112], [75], [], []),
  ([122, 101, 114, 111], [65, 75], [65], []),
  ([99, 97, 108, 108], [65, 75, 76], [76], [65]),
  ([114, 101, 116], [65], [65], []),
  ([115, 116, 111, 112], [65], [65], []),
  ([115, 116, 101, 112], [], [], []),
  ([109, 101, 114, 103, 101], [75, 76], [76], []),
  ([112, 114, 111, 109, 111, 116, 101], [65, 66], [66], [65])]
def rowAt (op : Int) : List UInt8 × List UInt8 × List UInt8 × List UInt8 := if 0 ≤ op ∧ op < 29 then rowsT.getD op.toNat ([], [], [], []) else ([], [], [], [])

def strB (l : List UInt8) : Value := .string ⟨l.toArray⟩
def rowL (op : Int) : List Value := [strB (rowAt op).1, strB (rowAt op).2.1, strB (rowAt op).2.2.1, strB (rowAt op).2.2.2]
def ofP : List Value → Option Value
  | [.int .i64 op] => some (.agg (rowL op).toArray)
  | _ => none
def rowP : List Value → Option Value
  | [.int .i64 op] => some (.tuple (rowL op).toArray)
  | _ => none

theorem of_run : ((List.range 29).all fun (k : Nat) => optEq (cprim Tb0 60 25 [.int .i64 (k : Int)]) (ofP [.int .i64 (k : Int)])) = true := by kernel_rfl
theorem row_run : ((List.range 29).all fun (k : Nat) => optEq (cprim Tb0 60 27 [.int .i64 (k : Int)]) (rowP [.int .i64 (k : Int)])) = true := by kernel_rfl

def chk42 : Option (Out × Heap) → Bool
  | some (.ret (.agg cs), h) => cs.size == 116 && h.next == 2 && (match h.get 0 with | some (.cells l true 0) => l.length == 4 | _ => false)
  | _ => false
theorem rows_run : chk42 (ccall Tb0 60 (.fn 42) [] ((⟨fun _ => none, 0⟩ : Heap).new (.cells [.string ⟨#[]⟩, .string ⟨#[]⟩, .string ⟨#[]⟩, .string ⟨#[]⟩] true 0))) = true := by kernel_rfl

theorem Tb0_25 : Tb0.fn 25 = some C25 := by
  have h : cfn Try.prog Try.f25 = some C25 := by kernel_rfl
  simp only [Tb0, Try.func25, Option.bind_some, h]
theorem Tb0_27 : Tb0.fn 27 = some C27 := by
  have h : cfn Try.prog Try.f27 = some C27 := by kernel_rfl
  simp only [Tb0, Try.func27, Option.bind_some, h]

theorem row_out {op : Int} (ho : ¬ (0 ≤ op ∧ op < 29)) : rowL op = [.string ⟨#[]⟩, .string ⟨#[]⟩, .string ⟨#[]⟩, .string ⟨#[]⟩] := by
  simp only [rowL, rowAt, if_neg ho]; rfl

theorem row27 {op : Int} (ho : ¬ (0 ≤ op ∧ op < 29)) : Wk Tb0 (.fn 27) [.int .i64 op] ⟨fun _ => none, 0⟩ (fun o h' => o = .ret (.tuple (rowL op).toArray)) := by
  have hk : ∀ k : Int, 0 < k → k < 29 → (op == k) = false := by
    intro k h1 h2
    simp only [beq_eq_false_iff_ne, ne_eq]
    omega
  refine Wk_fn Tb0_27 (by simp [C27]) ?_
  simp only [C27]
  refine Wc_seq (Wc_ops (Wo_run (fun call => by simp only [List.drop_succ_cons, List.drop_zero, iops_nil, iops_op, iops_grd, iK_some, iG_true, iG_false, gval_bool, beq_true, beq_false, Bool.not_true, Bool.not_false, iop, ev, upd, dstUpd, binV, binI, unV, ptr, Heap.cell, Heap.write, cellsOf, put, args0, partL, List.getD_cons_zero, List.getD_cons_succ, List.length_cons, List.length_nil, List.set_cons_zero, List.set_cons_succ, List.getElem?_cons_zero, List.getElem?_cons_succ, reduceIte, Nat.reduceEqDiff, Nat.reduceAdd, Nat.reduceMul, Nat.reduceLeDiff, Nat.zero_add, Nat.add_zero, Option.map_some, Int.reduceEq, Int.reduceLT, Int.reduceLE, Bool.false_eq_true, decide_true, decide_false, ge_iff_le, gt_iff_lt, set_get']; rfl) ?_))
  show Wc _ _ _ _
  refine Wc_seq (Wc_seq (Wc_ops (Wo_run (fun call => by simp only [List.drop_succ_cons, List.drop_zero, iops_nil, iops_op, iops_grd, iK_some, iG_true, iG_false, gval_bool, beq_true, beq_false, Bool.not_true, Bool.not_false, iop, ev, upd, dstUpd, binV, binI, unV, ptr, Heap.cell, Heap.write, cellsOf, put, args0, partL, List.getD_cons_zero, List.getD_cons_succ, List.length_cons, List.length_nil, List.set_cons_zero, List.set_cons_succ, List.getElem?_cons_zero, List.getElem?_cons_succ, reduceIte, Nat.reduceEqDiff, Nat.reduceAdd, Nat.reduceMul, Nat.reduceLeDiff, Nat.zero_add, Nat.add_zero, Option.map_some, Int.reduceEq, Int.reduceLT, Int.reduceLE, Bool.false_eq_true, decide_true, decide_false, ge_iff_le, gt_iff_lt, set_get']; rfl) ?_)))
  show Wc _ _ _ _
  refine Wc_block ?_
  refine Wc_seq (Wc_ops (Wo_run (fun call => by simp only [List.drop_succ_cons, List.drop_zero, iops_nil, iops_op, iops_grd, iK_some, iG_true, iG_false, gval_bool, beq_true, beq_false, Bool.not_true, Bool.not_false, iop, ev, upd, dstUpd, binV, binI, unV, ptr, Heap.cell, Heap.write, cellsOf, put, args0, partL, List.getD_cons_zero, List.getD_cons_succ, List.length_cons, List.length_nil, List.set_cons_zero, List.set_cons_succ, List.getElem?_cons_zero, List.getElem?_cons_succ, reduceIte, Nat.reduceEqDiff, Nat.reduceAdd, Nat.reduceMul, Nat.reduceLeDiff, Nat.zero_add, Nat.add_zero, Option.map_some, Int.reduceEq, Int.reduceLT, Int.reduceLE, Bool.false_eq_true, decide_true, decide_false, ge_iff_le, gt_iff_lt, set_get', hk 1 (by decide) (by decide)]; rfl) ?_))
  show Wc _ _ _ _
  refine Wc_cond false (by simp [ev, upd]) (fun h => by cases h) (fun _ => ?_)
  refine Wc_seq (Wc_ops (Wo_run (fun call => by simp only [List.drop_succ_cons, List.drop_zero, iops_nil, iops_op, iops_grd, iK_some, iG_true, iG_false, gval_bool, beq_true, beq_false, Bool.not_true, Bool.not_false, iop, ev, upd, dstUpd, binV, binI, unV, ptr, Heap.cell, Heap.write, cellsOf, put, args0, partL, List.getD_cons_zero, List.getD_cons_succ, List.length_cons, List.length_nil, List.set_cons_zero, List.set_cons_succ, List.getElem?_cons_zero, List.getElem?_cons_succ, reduceIte, Nat.reduceEqDiff, Nat.reduceAdd, Nat.reduceMul, Nat.reduceLeDiff, Nat.zero_add, Nat.add_zero, Option.map_some, Int.reduceEq, Int.reduceLT, Int.reduceLE, Bool.false_eq_true, decide_true, decide_false, ge_iff_le, gt_iff_lt, set_get', hk 2 (by decide) (by decide)]; rfl) ?_))
  show Wc _ _ _ _
  refine Wc_cond false (by simp [ev, upd]) (fun h => by cases h) (fun _ => ?_)
  refine Wc_seq (Wc_ops (Wo_run (fun call => by simp only [List.drop_succ_cons, List.drop_zero, iops_nil, iops_op, iops_grd, iK_some, iG_true, iG_false, gval_bool, beq_true, beq_false, Bool.not_true, Bool.not_false, iop, ev, upd, dstUpd, binV, binI, unV, ptr, Heap.cell, Heap.write, cellsOf, put, args0, partL, List.getD_cons_zero, List.getD_cons_succ, List.length_cons, List.length_nil, List.set_cons_zero, List.set_cons_succ, List.getElem?_cons_zero, List.getElem?_cons_succ, reduceIte, Nat.reduceEqDiff, Nat.reduceAdd, Nat.reduceMul, Nat.reduceLeDiff, Nat.zero_add, Nat.add_zero, Option.map_some, Int.reduceEq, Int.reduceLT, Int.reduceLE, Bool.false_eq_true, decide_true, decide_false, ge_iff_le, gt_iff_lt, set_get', hk 3 (by decide) (by decide)]; rfl) ?_))
  show Wc _ _ _ _
  refine Wc_cond false (by simp [ev, upd]) (fun h => by cases h) (fun _ => ?_)
  refine Wc_seq (Wc_ops (Wo_run (fun call => by simp only [List.drop_succ_cons, List.drop_zero, iops_nil, iops_op, iops_grd, iK_some, iG_true, iG_false, gval_bool, beq_true, beq_false, Bool.not_true, Bool.not_false, iop, ev, upd, dstUpd, binV, binI, unV, ptr, Heap.cell, Heap.write, cellsOf, put, args0, partL, List.getD_cons_zero, List.getD_cons_succ, List.length_cons, List.length_nil, List.set_cons_zero, List.set_cons_succ, List.getElem?_cons_zero, List.getElem?_cons_succ, reduceIte, Nat.reduceEqDiff, Nat.reduceAdd, Nat.reduceMul, Nat.reduceLeDiff, Nat.zero_add, Nat.add_zero, Option.map_some, Int.reduceEq, Int.reduceLT, Int.reduceLE, Bool.false_eq_true, decide_true, decide_false, ge_iff_le, gt_iff_lt, set_get', hk 4 (by decide) (by decide)]; rfl) ?_))
  show Wc _ _ _ _
  refine Wc_cond false (by simp [ev, upd]) (fun h => by cases h) (fun _ => ?_)
  refine Wc_seq (Wc_ops (Wo_run (fun call => by simp only [List.drop_succ_cons, List.drop_zero, iops_nil, iops_op, iops_grd, iK_some, iG_true, iG_false, gval_bool, beq_true, beq_false, Bool.not_true, Bool.not_false, iop, ev, upd, dstUpd, binV, binI, unV, ptr, Heap.cell, Heap.write, cellsOf, put, args0, partL, List.getD_cons_zero, List.getD_cons_succ, List.length_cons, List.length_nil, List.set_cons_zero, List.set_cons_succ, List.getElem?_cons_zero, List.getElem?_cons_succ, reduceIte, Nat.reduceEqDiff, Nat.reduceAdd, Nat.reduceMul, Nat.reduceLeDiff, Nat.zero_add, Nat.add_zero, Option.map_some, Int.reduceEq, Int.reduceLT, Int.reduceLE, Bool.false_eq_true, decide_true, decide_false, ge_iff_le, gt_iff_lt, set_get', hk 5 (by decide) (by decide)]; rfl) ?_))
  show Wc _ _ _ _
  refine Wc_cond false (by simp [ev, upd]) (fun h => by cases h) (fun _ => ?_)
  refine Wc_seq (Wc_ops (Wo_run (fun call => by simp only [List.drop_succ_cons, List.drop_zero, iops_nil, iops_op, iops_grd, iK_some, iG_true, iG_false, gval_bool, beq_true, beq_false, Bool.not_true, Bool.not_false, iop, ev, upd, dstUpd, binV, binI, unV, ptr, Heap.cell, Heap.write, cellsOf, put, args0, partL, List.getD_cons_zero, List.getD_cons_succ, List.length_cons, List.length_nil, List.set_cons_zero, List.set_cons_succ, List.getElem?_cons_zero, List.getElem?_cons_succ, reduceIte, Nat.reduceEqDiff, Nat.reduceAdd, Nat.reduceMul, Nat.reduceLeDiff, Nat.zero_add, Nat.add_zero, Option.map_some, Int.reduceEq, Int.reduceLT, Int.reduceLE, Bool.false_eq_true, decide_true, decide_false, ge_iff_le, gt_iff_lt, set_get', hk 6 (by decide) (by decide)]; rfl) ?_))
  show Wc _ _ _ _
  refine Wc_cond false (by simp [ev, upd]) (fun h => by cases h) (fun _ => ?_)
  refine Wc_seq (Wc_ops (Wo_run (fun call => by simp only [List.drop_succ_cons, List.drop_zero, iops_nil, iops_op, iops_grd, iK_some, iG_true, iG_false, gval_bool, beq_true, beq_false, Bool.not_true, Bool.not_false, iop, ev, upd, dstUpd, binV, binI, unV, ptr, Heap.cell, Heap.write, cellsOf, put, args0, partL, List.getD_cons_zero, List.getD_cons_succ, List.length_cons, List.length_nil, List.set_cons_zero, List.set_cons_succ, List.getElem?_cons_zero, List.getElem?_cons_succ, reduceIte, Nat.reduceEqDiff, Nat.reduceAdd, Nat.reduceMul, Nat.reduceLeDiff, Nat.zero_add, Nat.add_zero, Option.map_some, Int.reduceEq, Int.reduceLT, Int.reduceLE, Bool.false_eq_true, decide_true, decide_false, ge_iff_le, gt_iff_lt, set_get', hk 7 (by decide) (by decide)]; rfl) ?_))
  show Wc _ _ _ _
  refine Wc_cond false (by simp [ev, upd]) (fun h => by cases h) (fun _ => ?_)
  refine Wc_seq (Wc_ops (Wo_run (fun call => by simp only [List.drop_succ_cons, List.drop_zero, iops_nil, iops_op, iops_grd, iK_some, iG_true, iG_false, gval_bool, beq_true, beq_false, Bool.not_true, Bool.not_false, iop, ev, upd, dstUpd, binV, binI, unV, ptr, Heap.cell, Heap.write, cellsOf, put, args0, partL, List.getD_cons_zero, List.getD_cons_succ, List.length_cons, List.length_nil, List.set_cons_zero, List.set_cons_succ, List.getElem?_cons_zero, List.getElem?_cons_succ, reduceIte, Nat.reduceEqDiff, Nat.reduceAdd, Nat.reduceMul, Nat.reduceLeDiff, Nat.zero_add, Nat.add_zero, Option.map_some, Int.reduceEq, Int.reduceLT, Int.reduceLE, Bool.false_eq_true, decide_true, decide_false, ge_iff_le, gt_iff_lt, set_get', hk 8 (by decide) (by decide)]; rfl) ?_))
  show Wc _ _ _ _
  refine Wc_cond false (by simp [ev, upd]) (fun h => by cases h) (fun _ => ?_)
  refine Wc_seq (Wc_ops (Wo_run (fun call => by simp only [List.drop_succ_cons, List.drop_zero, iops_nil, iops_op, iops_grd, iK_some, iG_true, iG_false, gval_bool, beq_true, beq_false, Bool.not_true, Bool.not_false, iop, ev, upd, dstUpd, binV, binI, unV, ptr, Heap.cell, Heap.write, cellsOf, put, args0, partL, List.getD_cons_zero, List.getD_cons_succ, List.length_cons, List.length_nil, List.set_cons_zero, List.set_cons_succ, List.getElem?_cons_zero, List.getElem?_cons_succ, reduceIte, Nat.reduceEqDiff, Nat.reduceAdd, Nat.reduceMul, Nat.reduceLeDiff, Nat.zero_add, Nat.add_zero, Option.map_some, Int.reduceEq, Int.reduceLT, Int.reduceLE, Bool.false_eq_true, decide_true, decide_false, ge_iff_le, gt_iff_lt, set_get', hk 9 (by decide) (by decide)]; rfl) ?_))
  show Wc _ _ _ _
  refine Wc_cond false (by simp [ev, upd]) (fun h => by cases h) (fun _ => ?_)
  refine Wc_seq (Wc_ops (Wo_run (fun call => by simp only [List.drop_succ_cons, List.drop_zero, iops_nil, iops_op, iops_grd, iK_some, iG_true, iG_false, gval_bool, beq_true, beq_false, Bool.not_true, Bool.not_false, iop, ev, upd, dstUpd, binV, binI, unV, ptr, Heap.cell, Heap.write, cellsOf, put, args0, partL, List.getD_cons_zero, List.getD_cons_succ, List.length_cons, List.length_nil, List.set_cons_zero, List.set_cons_succ, List.getElem?_cons_zero, List.getElem?_cons_succ, reduceIte, Nat.reduceEqDiff, Nat.reduceAdd, Nat.reduceMul, Nat.reduceLeDiff, Nat.zero_add, Nat.add_zero, Option.map_some, Int.reduceEq, Int.reduceLT, Int.reduceLE, Bool.false_eq_true, decide_true, decide_false, ge_iff_le, gt_iff_lt, set_get', hk 10 (by decide) (by decide)]; rfl) ?_))
  show Wc _ _ _ _
  refine Wc_cond false (by simp [ev, upd]) (fun h => by cases h) (fun _ => ?_)
  refine Wc_seq (Wc_ops (Wo_run (fun call => by simp only [List.drop_succ_cons, List.drop_zero, iops_nil, iops_op, iops_grd, iK_some, iG_true, iG_false, gval_bool, beq_true, beq_false, Bool.not_true, Bool.not_false, iop, ev, upd, dstUpd, binV, binI, unV, ptr, Heap.cell, Heap.write, cellsOf, put, args0, partL, List.getD_cons_zero, List.getD_cons_succ, List.length_cons, List.length_nil, List.set_cons_zero, List.set_cons_succ, List.getElem?_cons_zero, List.getElem?_cons_succ, reduceIte, Nat.reduceEqDiff, Nat.reduceAdd, Nat.reduceMul, Nat.reduceLeDiff, Nat.zero_add, Nat.add_zero, Option.map_some, Int.reduceEq, Int.reduceLT, Int.reduceLE, Bool.false_eq_true, decide_true, decide_false, ge_iff_le, gt_iff_lt, set_get', hk 11 (by decide) (by decide)]; rfl) ?_))
  show Wc _ _ _ _
  refine Wc_cond false (by simp [ev, upd]) (fun h => by cases h) (fun _ => ?_)
  refine Wc_seq (Wc_ops (Wo_run (fun call => by simp only [List.drop_succ_cons, List.drop_zero, iops_nil, iops_op, iops_grd, iK_some, iG_true, iG_false, gval_bool, beq_true, beq_false, Bool.not_true, Bool.not_false, iop, ev, upd, dstUpd, binV, binI, unV, ptr, Heap.cell, Heap.write, cellsOf, put, args0, partL, List.getD_cons_zero, List.getD_cons_succ, List.length_cons, List.length_nil, List.set_cons_zero, List.set_cons_succ, List.getElem?_cons_zero, List.getElem?_cons_succ, reduceIte, Nat.reduceEqDiff, Nat.reduceAdd, Nat.reduceMul, Nat.reduceLeDiff, Nat.zero_add, Nat.add_zero, Option.map_some, Int.reduceEq, Int.reduceLT, Int.reduceLE, Bool.false_eq_true, decide_true, decide_false, ge_iff_le, gt_iff_lt, set_get', hk 12 (by decide) (by decide)]; rfl) ?_))
  show Wc _ _ _ _
  refine Wc_cond false (by simp [ev, upd]) (fun h => by cases h) (fun _ => ?_)
  refine Wc_seq (Wc_ops (Wo_run (fun call => by simp only [List.drop_succ_cons, List.drop_zero, iops_nil, iops_op, iops_grd, iK_some, iG_true, iG_false, gval_bool, beq_true, beq_false, Bool.not_true, Bool.not_false, iop, ev, upd, dstUpd, binV, binI, unV, ptr, Heap.cell, Heap.write, cellsOf, put, args0, partL, List.getD_cons_zero, List.getD_cons_succ, List.length_cons, List.length_nil, List.set_cons_zero, List.set_cons_succ, List.getElem?_cons_zero, List.getElem?_cons_succ, reduceIte, Nat.reduceEqDiff, Nat.reduceAdd, Nat.reduceMul, Nat.reduceLeDiff, Nat.zero_add, Nat.add_zero, Option.map_some, Int.reduceEq, Int.reduceLT, Int.reduceLE, Bool.false_eq_true, decide_true, decide_false, ge_iff_le, gt_iff_lt, set_get', hk 13 (by decide) (by decide)]; rfl) ?_))
  show Wc _ _ _ _
  refine Wc_cond false (by simp [ev, upd]) (fun h => by cases h) (fun _ => ?_)
  refine Wc_seq (Wc_ops (Wo_run (fun call => by simp only [List.drop_succ_cons, List.drop_zero, iops_nil, iops_op, iops_grd, iK_some, iG_true, iG_false, gval_bool, beq_true, beq_false, Bool.not_true, Bool.not_false, iop, ev, upd, dstUpd, binV, binI, unV, ptr, Heap.cell, Heap.write, cellsOf, put, args0, partL, List.getD_cons_zero, List.getD_cons_succ, List.length_cons, List.length_nil, List.set_cons_zero, List.set_cons_succ, List.getElem?_cons_zero, List.getElem?_cons_succ, reduceIte, Nat.reduceEqDiff, Nat.reduceAdd, Nat.reduceMul, Nat.reduceLeDiff, Nat.zero_add, Nat.add_zero, Option.map_some, Int.reduceEq, Int.reduceLT, Int.reduceLE, Bool.false_eq_true, decide_true, decide_false, ge_iff_le, gt_iff_lt, set_get', hk 14 (by decide) (by decide)]; rfl) ?_))
  show Wc _ _ _ _
  refine Wc_cond false (by simp [ev, upd]) (fun h => by cases h) (fun _ => ?_)
  refine Wc_seq (Wc_ops (Wo_run (fun call => by simp only [List.drop_succ_cons, List.drop_zero, iops_nil, iops_op, iops_grd, iK_some, iG_true, iG_false, gval_bool, beq_true, beq_false, Bool.not_true, Bool.not_false, iop, ev, upd, dstUpd, binV, binI, unV, ptr, Heap.cell, Heap.write, cellsOf, put, args0, partL, List.getD_cons_zero, List.getD_cons_succ, List.length_cons, List.length_nil, List.set_cons_zero, List.set_cons_succ, List.getElem?_cons_zero, List.getElem?_cons_succ, reduceIte, Nat.reduceEqDiff, Nat.reduceAdd, Nat.reduceMul, Nat.reduceLeDiff, Nat.zero_add, Nat.add_zero, Option.map_some, Int.reduceEq, Int.reduceLT, Int.reduceLE, Bool.false_eq_true, decide_true, decide_false, ge_iff_le, gt_iff_lt, set_get', hk 15 (by decide) (by decide)]; rfl) ?_))
  show Wc _ _ _ _
  refine Wc_cond false (by simp [ev, upd]) (fun h => by cases h) (fun _ => ?_)
  refine Wc_seq (Wc_ops (Wo_run (fun call => by simp only [List.drop_succ_cons, List.drop_zero, iops_nil, iops_op, iops_grd, iK_some, iG_true, iG_false, gval_bool, beq_true, beq_false, Bool.not_true, Bool.not_false, iop, ev, upd, dstUpd, binV, binI, unV, ptr, Heap.cell, Heap.write, cellsOf, put, args0, partL, List.getD_cons_zero, List.getD_cons_succ, List.length_cons, List.length_nil, List.set_cons_zero, List.set_cons_succ, List.getElem?_cons_zero, List.getElem?_cons_succ, reduceIte, Nat.reduceEqDiff, Nat.reduceAdd, Nat.reduceMul, Nat.reduceLeDiff, Nat.zero_add, Nat.add_zero, Option.map_some, Int.reduceEq, Int.reduceLT, Int.reduceLE, Bool.false_eq_true, decide_true, decide_false, ge_iff_le, gt_iff_lt, set_get', hk 16 (by decide) (by decide)]; rfl) ?_))
  show Wc _ _ _ _
  refine Wc_cond false (by simp [ev, upd]) (fun h => by cases h) (fun _ => ?_)
  refine Wc_seq (Wc_ops (Wo_run (fun call => by simp only [List.drop_succ_cons, List.drop_zero, iops_nil, iops_op, iops_grd, iK_some, iG_true, iG_false, gval_bool, beq_true, beq_false, Bool.not_true, Bool.not_false, iop, ev, upd, dstUpd, binV, binI, unV, ptr, Heap.cell, Heap.write, cellsOf, put, args0, partL, List.getD_cons_zero, List.getD_cons_succ, List.length_cons, List.length_nil, List.set_cons_zero, List.set_cons_succ, List.getElem?_cons_zero, List.getElem?_cons_succ, reduceIte, Nat.reduceEqDiff, Nat.reduceAdd, Nat.reduceMul, Nat.reduceLeDiff, Nat.zero_add, Nat.add_zero, Option.map_some, Int.reduceEq, Int.reduceLT, Int.reduceLE, Bool.false_eq_true, decide_true, decide_false, ge_iff_le, gt_iff_lt, set_get', hk 17 (by decide) (by decide)]; rfl) ?_))
  show Wc _ _ _ _
  refine Wc_cond false (by simp [ev, upd]) (fun h => by cases h) (fun _ => ?_)
  refine Wc_seq (Wc_ops (Wo_run (fun call => by simp only [List.drop_succ_cons, List.drop_zero, iops_nil, iops_op, iops_grd, iK_some, iG_true, iG_false, gval_bool, beq_true, beq_false, Bool.not_true, Bool.not_false, iop, ev, upd, dstUpd, binV, binI, unV, ptr, Heap.cell, Heap.write, cellsOf, put, args0, partL, List.getD_cons_zero, List.getD_cons_succ, List.length_cons, List.length_nil, List.set_cons_zero, List.set_cons_succ, List.getElem?_cons_zero, List.getElem?_cons_succ, reduceIte, Nat.reduceEqDiff, Nat.reduceAdd, Nat.reduceMul, Nat.reduceLeDiff, Nat.zero_add, Nat.add_zero, Option.map_some, Int.reduceEq, Int.reduceLT, Int.reduceLE, Bool.false_eq_true, decide_true, decide_false, ge_iff_le, gt_iff_lt, set_get', hk 18 (by decide) (by decide)]; rfl) ?_))
  show Wc _ _ _ _
  refine Wc_cond false (by simp [ev, upd]) (fun h => by cases h) (fun _ => ?_)
  refine Wc_seq (Wc_ops (Wo_run (fun call => by simp only [List.drop_succ_cons, List.drop_zero, iops_nil, iops_op, iops_grd, iK_some, iG_true, iG_false, gval_bool, beq_true, beq_false, Bool.not_true, Bool.not_false, iop, ev, upd, dstUpd, binV, binI, unV, ptr, Heap.cell, Heap.write, cellsOf, put, args0, partL, List.getD_cons_zero, List.getD_cons_succ, List.length_cons, List.length_nil, List.set_cons_zero, List.set_cons_succ, List.getElem?_cons_zero, List.getElem?_cons_succ, reduceIte, Nat.reduceEqDiff, Nat.reduceAdd, Nat.reduceMul, Nat.reduceLeDiff, Nat.zero_add, Nat.add_zero, Option.map_some, Int.reduceEq, Int.reduceLT, Int.reduceLE, Bool.false_eq_true, decide_true, decide_false, ge_iff_le, gt_iff_lt, set_get', hk 19 (by decide) (by decide)]; rfl) ?_))
  show Wc _ _ _ _
  refine Wc_cond false (by simp [ev, upd]) (fun h => by cases h) (fun _ => ?_)
  refine Wc_seq (Wc_ops (Wo_run (fun call => by simp only [List.drop_succ_cons, List.drop_zero, iops_nil, iops_op, iops_grd, iK_some, iG_true, iG_false, gval_bool, beq_true, beq_false, Bool.not_true, Bool.not_false, iop, ev, upd, dstUpd, binV, binI, unV, ptr, Heap.cell, Heap.write, cellsOf, put, args0, partL, List.getD_cons_zero, List.getD_cons_succ, List.length_cons, List.length_nil, List.set_cons_zero, List.set_cons_succ, List.getElem?_cons_zero, List.getElem?_cons_succ, reduceIte, Nat.reduceEqDiff, Nat.reduceAdd, Nat.reduceMul, Nat.reduceLeDiff, Nat.zero_add, Nat.add_zero, Option.map_some, Int.reduceEq, Int.reduceLT, Int.reduceLE, Bool.false_eq_true, decide_true, decide_false, ge_iff_le, gt_iff_lt, set_get', hk 20 (by decide) (by decide)]; rfl) ?_))
  show Wc _ _ _ _
  refine Wc_cond false (by simp [ev, upd]) (fun h => by cases h) (fun _ => ?_)
  refine Wc_seq (Wc_ops (Wo_run (fun call => by simp only [List.drop_succ_cons, List.drop_zero, iops_nil, iops_op, iops_grd, iK_some, iG_true, iG_false, gval_bool, beq_true, beq_false, Bool.not_true, Bool.not_false, iop, ev, upd, dstUpd, binV, binI, unV, ptr, Heap.cell, Heap.write, cellsOf, put, args0, partL, List.getD_cons_zero, List.getD_cons_succ, List.length_cons, List.length_nil, List.set_cons_zero, List.set_cons_succ, List.getElem?_cons_zero, List.getElem?_cons_succ, reduceIte, Nat.reduceEqDiff, Nat.reduceAdd, Nat.reduceMul, Nat.reduceLeDiff, Nat.zero_add, Nat.add_zero, Option.map_some, Int.reduceEq, Int.reduceLT, Int.reduceLE, Bool.false_eq_true, decide_true, decide_false, ge_iff_le, gt_iff_lt, set_get', hk 21 (by decide) (by decide)]; rfl) ?_))
  show Wc _ _ _ _
  refine Wc_cond false (by simp [ev, upd]) (fun h => by cases h) (fun _ => ?_)
  refine Wc_seq (Wc_ops (Wo_run (fun call => by simp only [List.drop_succ_cons, List.drop_zero, iops_nil, iops_op, iops_grd, iK_some, iG_true, iG_false, gval_bool, beq_true, beq_false, Bool.not_true, Bool.not_false, iop, ev, upd, dstUpd, binV, binI, unV, ptr, Heap.cell, Heap.write, cellsOf, put, args0, partL, List.getD_cons_zero, List.getD_cons_succ, List.length_cons, List.length_nil, List.set_cons_zero, List.set_cons_succ, List.getElem?_cons_zero, List.getElem?_cons_succ, reduceIte, Nat.reduceEqDiff, Nat.reduceAdd, Nat.reduceMul, Nat.reduceLeDiff, Nat.zero_add, Nat.add_zero, Option.map_some, Int.reduceEq, Int.reduceLT, Int.reduceLE, Bool.false_eq_true, decide_true, decide_false, ge_iff_le, gt_iff_lt, set_get', hk 22 (by decide) (by decide)]; rfl) ?_))
  show Wc _ _ _ _
  refine Wc_cond false (by simp [ev, upd]) (fun h => by cases h) (fun _ => ?_)
  refine Wc_seq (Wc_ops (Wo_run (fun call => by simp only [List.drop_succ_cons, List.drop_zero, iops_nil, iops_op, iops_grd, iK_some, iG_true, iG_false, gval_bool, beq_true, beq_false, Bool.not_true, Bool.not_false, iop, ev, upd, dstUpd, binV, binI, unV, ptr, Heap.cell, Heap.write, cellsOf, put, args0, partL, List.getD_cons_zero, List.getD_cons_succ, List.length_cons, List.length_nil, List.set_cons_zero, List.set_cons_succ, List.getElem?_cons_zero, List.getElem?_cons_succ, reduceIte, Nat.reduceEqDiff, Nat.reduceAdd, Nat.reduceMul, Nat.reduceLeDiff, Nat.zero_add, Nat.add_zero, Option.map_some, Int.reduceEq, Int.reduceLT, Int.reduceLE, Bool.false_eq_true, decide_true, decide_false, ge_iff_le, gt_iff_lt, set_get', hk 23 (by decide) (by decide)]; rfl) ?_))
  show Wc _ _ _ _
  refine Wc_cond false (by simp [ev, upd]) (fun h => by cases h) (fun _ => ?_)
  refine Wc_seq (Wc_ops (Wo_run (fun call => by simp only [List.drop_succ_cons, List.drop_zero, iops_nil, iops_op, iops_grd, iK_some, iG_true, iG_false, gval_bool, beq_true, beq_false, Bool.not_true, Bool.not_false, iop, ev, upd, dstUpd, binV, binI, unV, ptr, Heap.cell, Heap.write, cellsOf, put, args0, partL, List.getD_cons_zero, List.getD_cons_succ, List.length_cons, List.length_nil, List.set_cons_zero, List.set_cons_succ, List.getElem?_cons_zero, List.getElem?_cons_succ, reduceIte, Nat.reduceEqDiff, Nat.reduceAdd, Nat.reduceMul, Nat.reduceLeDiff, Nat.zero_add, Nat.add_zero, Option.map_some, Int.reduceEq, Int.reduceLT, Int.reduceLE, Bool.false_eq_true, decide_true, decide_false, ge_iff_le, gt_iff_lt, set_get', hk 24 (by decide) (by decide)]; rfl) ?_))
  show Wc _ _ _ _
  refine Wc_cond false (by simp [ev, upd]) (fun h => by cases h) (fun _ => ?_)
  refine Wc_seq (Wc_ops (Wo_run (fun call => by simp only [List.drop_succ_cons, List.drop_zero, iops_nil, iops_op, iops_grd, iK_some, iG_true, iG_false, gval_bool, beq_true, beq_false, Bool.not_true, Bool.not_false, iop, ev, upd, dstUpd, binV, binI, unV, ptr, Heap.cell, Heap.write, cellsOf, put, args0, partL, List.getD_cons_zero, List.getD_cons_succ, List.length_cons, List.length_nil, List.set_cons_zero, List.set_cons_succ, List.getElem?_cons_zero, List.getElem?_cons_succ, reduceIte, Nat.reduceEqDiff, Nat.reduceAdd, Nat.reduceMul, Nat.reduceLeDiff, Nat.zero_add, Nat.add_zero, Option.map_some, Int.reduceEq, Int.reduceLT, Int.reduceLE, Bool.false_eq_true, decide_true, decide_false, ge_iff_le, gt_iff_lt, set_get', hk 25 (by decide) (by decide)]; rfl) ?_))
  show Wc _ _ _ _
  refine Wc_cond false (by simp [ev, upd]) (fun h => by cases h) (fun _ => ?_)
  refine Wc_seq (Wc_ops (Wo_run (fun call => by simp only [List.drop_succ_cons, List.drop_zero, iops_nil, iops_op, iops_grd, iK_some, iG_true, iG_false, gval_bool, beq_true, beq_false, Bool.not_true, Bool.not_false, iop, ev, upd, dstUpd, binV, binI, unV, ptr, Heap.cell, Heap.write, cellsOf, put, args0, partL, List.getD_cons_zero, List.getD_cons_succ, List.length_cons, List.length_nil, List.set_cons_zero, List.set_cons_succ, List.getElem?_cons_zero, List.getElem?_cons_succ, reduceIte, Nat.reduceEqDiff, Nat.reduceAdd, Nat.reduceMul, Nat.reduceLeDiff, Nat.zero_add, Nat.add_zero, Option.map_some, Int.reduceEq, Int.reduceLT, Int.reduceLE, Bool.false_eq_true, decide_true, decide_false, ge_iff_le, gt_iff_lt, set_get', hk 26 (by decide) (by decide)]; rfl) ?_))
  show Wc _ _ _ _
  refine Wc_cond false (by simp [ev, upd]) (fun h => by cases h) (fun _ => ?_)
  refine Wc_seq (Wc_ops (Wo_run (fun call => by simp only [List.drop_succ_cons, List.drop_zero, iops_nil, iops_op, iops_grd, iK_some, iG_true, iG_false, gval_bool, beq_true, beq_false, Bool.not_true, Bool.not_false, iop, ev, upd, dstUpd, binV, binI, unV, ptr, Heap.cell, Heap.write, cellsOf, put, args0, partL, List.getD_cons_zero, List.getD_cons_succ, List.length_cons, List.length_nil, List.set_cons_zero, List.set_cons_succ, List.getElem?_cons_zero, List.getElem?_cons_succ, reduceIte, Nat.reduceEqDiff, Nat.reduceAdd, Nat.reduceMul, Nat.reduceLeDiff, Nat.zero_add, Nat.add_zero, Option.map_some, Int.reduceEq, Int.reduceLT, Int.reduceLE, Bool.false_eq_true, decide_true, decide_false, ge_iff_le, gt_iff_lt, set_get', hk 27 (by decide) (by decide)]; rfl) ?_))
  show Wc _ _ _ _
  refine Wc_cond false (by simp [ev, upd]) (fun h => by cases h) (fun _ => ?_)
  refine Wc_seq (Wc_ops (Wo_run (fun call => by simp only [List.drop_succ_cons, List.drop_zero, iops_nil, iops_op, iops_grd, iK_some, iG_true, iG_false, gval_bool, beq_true, beq_false, Bool.not_true, Bool.not_false, iop, ev, upd, dstUpd, binV, binI, unV, ptr, Heap.cell, Heap.write, cellsOf, put, args0, partL, List.getD_cons_zero, List.getD_cons_succ, List.length_cons, List.length_nil, List.set_cons_zero, List.set_cons_succ, List.getElem?_cons_zero, List.getElem?_cons_succ, reduceIte, Nat.reduceEqDiff, Nat.reduceAdd, Nat.reduceMul, Nat.reduceLeDiff, Nat.zero_add, Nat.add_zero, Option.map_some, Int.reduceEq, Int.reduceLT, Int.reduceLE, Bool.false_eq_true, decide_true, decide_false, ge_iff_le, gt_iff_lt, set_get', hk 28 (by decide) (by decide)]; rfl) ?_))
  show Wc _ _ _ _
  refine Wc_cond false (by simp [ev, upd]) (fun h => by cases h) (fun _ => ?_)
  refine Wc_skip ?_
  show Wc _ _ _ _
  refine Wc_seq (Wc_ops (Wo_run (fun call => by simp only [List.drop_succ_cons, List.drop_zero, iops_nil, iops_op, iops_grd, iK_some, iG_true, iG_false, gval_bool, beq_true, beq_false, Bool.not_true, Bool.not_false, iop, ev, upd, dstUpd, binV, binI, unV, ptr, Heap.cell, Heap.write, cellsOf, put, args0, partL, List.getD_cons_zero, List.getD_cons_succ, List.length_cons, List.length_nil, List.set_cons_zero, List.set_cons_succ, List.getElem?_cons_zero, List.getElem?_cons_succ, reduceIte, Nat.reduceEqDiff, Nat.reduceAdd, Nat.reduceMul, Nat.reduceLeDiff, Nat.zero_add, Nat.add_zero, Option.map_some, Int.reduceEq, Int.reduceLT, Int.reduceLE, Bool.false_eq_true, decide_true, decide_false, ge_iff_le, gt_iff_lt, set_get']; rfl) ?_))
  show Wc _ _ _ _
  refine Wc_ret ⟨.inr rfl, rfl, [.string ⟨#[]⟩, .string ⟨#[]⟩, .string ⟨#[]⟩, .string ⟨#[]⟩], by simp only [resAll, resV, upd, dstUpd, Nat.reduceEqDiff, reduceIte], by rw [row_out ho]; rfl⟩

theorem of25 {op : Int} (ho : ¬ (0 ≤ op ∧ op < 29)) : Wk Tb0 (.fn 25) [.int .i64 op] ⟨fun _ => none, 0⟩ (fun o h' => o = .ret (.agg (rowL op).toArray)) := by
  refine Wk_fn Tb0_25 (by simp [C25]) ?_
  simp only [C25]
  refine Wc_seq (Wc_ops (Wo_run (fun call => by simp only [List.drop_succ_cons, List.drop_zero, iops_nil, iops_op, iops_grd, iK_some, iG_true, iG_false, gval_bool, beq_true, beq_false, Bool.not_true, Bool.not_false, iop, ev, upd, dstUpd, binV, binI, unV, ptr, Heap.cell, Heap.write, cellsOf, put, args0, partL, List.getD_cons_zero, List.getD_cons_succ, List.length_cons, List.length_nil, List.set_cons_zero, List.set_cons_succ, List.getElem?_cons_zero, List.getElem?_cons_succ, reduceIte, Nat.reduceEqDiff, Nat.reduceAdd, Nat.reduceMul, Nat.reduceLeDiff, Nat.zero_add, Nat.add_zero, Option.map_some, Int.reduceEq, Int.reduceLT, Int.reduceLE, Bool.false_eq_true, decide_true, decide_false, ge_iff_le, gt_iff_lt, set_get']; rfl) ?_))
  show Wc _ _ _ _
  have hr := rows_run
  unfold chk42 at hr
  split at hr
  case h_2 => cases hr
  rename_i cs h1 hc
  simp only [Bool.and_eq_true, beq_iff_eq] at hr
  obtain ⟨⟨hcs, hnx⟩, hg⟩ := hr
  split at hg
  case h_2 => cases hg
  rename_i l hl
  simp only [beq_iff_eq] at hg
  obtain ⟨a, b, c, d, rfl⟩ : ∃ a b c d, l = [a, b, c, d] := by
    match l, hg with
    | [a, b, c, d], _ => exact ⟨a, b, c, d, rfl⟩
  refine Wc_seq (Wc_ops (Wo_call ⟨60, _, _, ccall_ideal Tb0 60 _ _ _ _ hc, ?_⟩))
  show Wo _ _ _ _
  have hcl : cs.toList.length = 116 := by simpa using hcs
  have hput : ∀ (xs vs : List Value), vs.length = 116 → xs.length = 116 → (put xs 0 vs).length = 116 := by
    have key : ∀ (vs xs : List Value) (o : Nat), (put xs o vs).length = xs.length := by
      intro vs
      induction vs with
      | nil => intro xs o; rfl
      | cons v vs ih => intro xs o; rw [put, ih, List.length_set]
    intro xs vs _ h; rw [key]; exact h
  refine Wo_op (by simp only [iop]; rfl) ?_
  refine Wo_op (by simp only [iop, ev, dstUpd, upd, reduceIte, Nat.reduceEqDiff, ptr, cellsOf, hcl, Heap.write, new_get', List.length_cons, List.length_nil, Nat.reduceAdd, Nat.reduceLeDiff, Nat.zero_add, Option.map_some]; rfl) ?_
  refine Wo_nil ?_
  show Wc _ _ _ _
  generalize put _ _ cs.toList = ms
  have hgo : ∀ m, ((h1.new m).set h1.next (.cells ms true 0)).get 0 = some (.cells [a, b, c, d] true 0) := by
    intro m
    rw [set_get_ne' _ _ (by omega), new_get_ne' _ _ (by omega), hl]
  have fin : ∀ (e : Env) (hp : Heap), e 2 = ptr 0 0 → hp.get 0 = some (.cells [.string ⟨#[]⟩, .string ⟨#[]⟩, .string ⟨#[]⟩, .string ⟨#[]⟩] true 0) → ((Ex.ret = .normal ∨ Ex.ret = .ret) ∧ some ([] : List Dfr) = some [] ∧ ∃ vs, resAll e hp [.cell 2 (some 4)] = some vs ∧ Out.ret (tup vs) = .ret (.agg (rowL op).toArray)) := by
    intro e hp h2 hg
    refine ⟨.inr rfl, rfl, [.agg #[.string ⟨#[]⟩, .string ⟨#[]⟩, .string ⟨#[]⟩, .string ⟨#[]⟩]], ?_, by rw [row_out ho]; rfl⟩
    simp only [resAll, resV, h2, ptr, Heap.cells, hg, List.length_cons, List.length_nil, Nat.reduceAdd, Nat.reduceLeDiff, reduceIte, List.drop_zero, List.take_succ_cons, List.take_zero, Option.map_some]
  by_cases hneg : op < 0
  · refine Wc_seq (Wc_seq (Wc_ops (Wo_run (fun call => by simp only [List.drop_succ_cons, List.drop_zero, iops_nil, iops_op, iops_grd, iK_some, iG_true, iG_false, gval_bool, beq_true, beq_false, Bool.not_true, Bool.not_false, iop, ev, upd, dstUpd, binV, binI, unV, ptr, Heap.cell, Heap.write, cellsOf, put, args0, partL, List.getD_cons_zero, List.getD_cons_succ, List.length_cons, List.length_nil, List.set_cons_zero, List.set_cons_succ, List.getElem?_cons_zero, List.getElem?_cons_succ, reduceIte, Nat.reduceEqDiff, Nat.reduceAdd, Nat.reduceMul, Nat.reduceLeDiff, Nat.zero_add, Nat.add_zero, Option.map_some, Int.reduceEq, Int.reduceLT, Int.reduceLE, Bool.false_eq_true, decide_true, decide_false, ge_iff_le, gt_iff_lt, set_get', hneg]; rfl) ?_)))
    show Wc _ _ _ _
    refine Wc_cond true (by simp [ev, upd]) (fun _ => ?_) (fun h => by cases h)
    refine Wc_seq (Wc_ops (Wo_run (fun call => by simp only [List.drop_succ_cons, List.drop_zero, iops_nil, iops_op, iops_grd, iK_some, iG_true, iG_false, gval_bool, beq_true, beq_false, Bool.not_true, Bool.not_false, iop, ev, upd, dstUpd, binV, binI, unV, ptr, Heap.cell, Heap.write, cellsOf, put, args0, partL, List.getD_cons_zero, List.getD_cons_succ, List.length_cons, List.length_nil, List.set_cons_zero, List.set_cons_succ, List.getElem?_cons_zero, List.getElem?_cons_succ, reduceIte, Nat.reduceEqDiff, Nat.reduceAdd, Nat.reduceMul, Nat.reduceLeDiff, Nat.zero_add, Nat.add_zero, Option.map_some, Int.reduceEq, Int.reduceLT, Int.reduceLE, Bool.false_eq_true, decide_true, decide_false, ge_iff_le, gt_iff_lt, set_get', hgo, fillL, evps, List.map_nil]; rfl) ?_))
    refine Wc_ret (fin _ _ (by simp [upd, dstUpd, ptr]) (by rw [set_get']))
  · have hge : 29 ≤ op := by omega
    refine Wc_seq (Wc_seq (Wc_ops (Wo_run (fun call => by simp only [List.drop_succ_cons, List.drop_zero, iops_nil, iops_op, iops_grd, iK_some, iG_true, iG_false, gval_bool, beq_true, beq_false, Bool.not_true, Bool.not_false, iop, ev, upd, dstUpd, binV, binI, unV, ptr, Heap.cell, Heap.write, cellsOf, put, args0, partL, List.getD_cons_zero, List.getD_cons_succ, List.length_cons, List.length_nil, List.set_cons_zero, List.set_cons_succ, List.getElem?_cons_zero, List.getElem?_cons_succ, reduceIte, Nat.reduceEqDiff, Nat.reduceAdd, Nat.reduceMul, Nat.reduceLeDiff, Nat.zero_add, Nat.add_zero, Option.map_some, Int.reduceEq, Int.reduceLT, Int.reduceLE, Bool.false_eq_true, decide_true, decide_false, ge_iff_le, gt_iff_lt, set_get', hneg, hge]; rfl) ?_)))
    show Wc _ _ _ _
    refine Wc_cond true (by simp [ev, upd]) (fun _ => ?_) (fun h => by cases h)
    refine Wc_seq (Wc_ops (Wo_run (fun call => by simp only [List.drop_succ_cons, List.drop_zero, iops_nil, iops_op, iops_grd, iK_some, iG_true, iG_false, gval_bool, beq_true, beq_false, Bool.not_true, Bool.not_false, iop, ev, upd, dstUpd, binV, binI, unV, ptr, Heap.cell, Heap.write, cellsOf, put, args0, partL, List.getD_cons_zero, List.getD_cons_succ, List.length_cons, List.length_nil, List.set_cons_zero, List.set_cons_succ, List.getElem?_cons_zero, List.getElem?_cons_succ, reduceIte, Nat.reduceEqDiff, Nat.reduceAdd, Nat.reduceMul, Nat.reduceLeDiff, Nat.zero_add, Nat.add_zero, Option.map_some, Int.reduceEq, Int.reduceLT, Int.reduceLE, Bool.false_eq_true, decide_true, decide_false, ge_iff_le, gt_iff_lt, set_get', hgo, fillL, evps, List.map_nil]; rfl) ?_))
    refine Wc_ret (fin _ _ (by simp [upd, dstUpd, ptr]) (by rw [set_get']))

theorem in_range {op : Int} (h : 0 ≤ op ∧ op < 29) : op.toNat ∈ List.range 29 ∧ ((op.toNat : Nat) : Int) = op := ⟨by simp; omega, by omega⟩

theorem rowL_pure (op : Int) : (rowL op).all scal = true := by simp [rowL, strB, scal]

theorem cprim_icall {T : Tbl} {n : Nat} {f : FuncId} {args : List Value} {v : Value} (h : cprim T n f args = some v) : ∃ h', icall T n (.fn f) args ⟨fun _ => none, 0⟩ = some (.ret v, h') := by
  unfold cprim at h
  split at h
  case isFalse => cases h
  split at h
  case h_2 => cases h
  rename_i u h' hc
  split at h
  case isFalse => cases h
  cases h
  exact ⟨h', ccall_ideal T n _ _ _ _ hc⟩

theorem ofP_ok : PrimOk Try.prog 25 ofP := by
  refine primOk_pure Tb0ok (calleeOk_mk Try.func25 (by kernel_rfl) (by kernel_rfl)) fun args v h => ?_
  unfold ofP at h
  split at h
  case h_2 => cases h
  rename_i op
  refine ⟨rfl, by cases h; exact rowL_pure op, ?_⟩
  by_cases ho : 0 ≤ op ∧ op < 29
  · obtain ⟨h1, h2⟩ := in_range ho
    obtain ⟨u, e1, e2⟩ := optEq_eq (List.all_eq_true.1 of_run _ h1)
    rw [h2] at e1 e2
    simp only [ofP] at e2
    rw [h] at e2; cases e2
    obtain ⟨h', hi⟩ := cprim_icall e1
    exact ⟨60, h', hi⟩
  · obtain ⟨n, o, h', hi, rfl⟩ := of25 ho
    cases h
    exact ⟨n, h', hi⟩

theorem rowP_ok : PrimOk Try.prog 27 rowP := by
  refine primOk_pure Tb0ok (calleeOk_mk Try.func27 (by kernel_rfl) (by kernel_rfl)) fun args v h => ?_
  unfold rowP at h
  split at h
  case h_2 => cases h
  rename_i op
  refine ⟨rfl, by cases h; exact rowL_pure op, ?_⟩
  by_cases ho : 0 ≤ op ∧ op < 29
  · obtain ⟨h1, h2⟩ := in_range ho
    obtain ⟨u, e1, e2⟩ := optEq_eq (List.all_eq_true.1 row_run _ h1)
    rw [h2] at e1 e2
    simp only [rowP] at e2
    rw [h] at e2; cases e2
    obtain ⟨h', hi⟩ := cprim_icall e1
    exact ⟨60, h', hi⟩
  · obtain ⟨n, o, h', hi, rfl⟩ := row27 ho
    cases h
    exact ⟨n, h', hi⟩

theorem awakeP_ok : PrimOk Try.prog 7 (cprim T0 200 7) := primOk_cprim T0ok 200 (calleeOk_mk Try.func7 (by kernel_rfl) (by kernel_rfl))

noncomputable def T1 : Tbl := setPrim (setPrim (setPrim T0 7 (cprim T0 200 7)) 25 ofP) 27 rowP
theorem T1ok : TblOk Try.prog T1 := setPrim_ok (setPrim_ok (setPrim_ok T0ok awakeP_ok) ofP_ok) rowP_ok
theorem wake7 {h : Heap} {K : Out → Heap → Prop} (hK : K (.ret (.bool true)) h) : Wk T1 (.fn 7) [] h K := Wk_prim (p := cprim T0 200 7) (v := .bool true) rfl rfl (isTV_eq awake_run) hK
theorem of25' {op : Int} {h : Heap} {K : Out → Heap → Prop} (hK : K (.ret (.agg (rowL op).toArray)) h) : Wk T1 (.fn 25) [.int .i64 op] h K := Wk_prim (p := ofP) rfl rfl rfl hK
theorem row27' {op : Int} {h : Heap} {K : Out → Heap → Prop} (hK : K (.ret (.tuple (rowL op).toArray)) h) : Wk T1 (.fn 27) [.int .i64 op] h K := Wk_prim (p := rowP) rfl rfl rfl hK

end Go.Idl
end
