/- What an instruction reads: both packages. -/
import Derived.Test.YtfdpknfndjllgaaI3f
import Derived.Test.YtfdpknfndjllgaaI21
import Derived.Test.YtfdpknfndjllgaaChecked
import Derived.KernelRfl
import Derived.Lib.Strings
import Derived.Lib.Slices
import Derived.Lib.Walk
import Derived.Lib.Bytealg
section
/- Functions as ideal code. (Printed by wip/tools/Print.lean) -/
namespace Go.Idl
set_option maxRecDepth 100000
-- swath/ir.of
def C25 : IFn := ⟨15, (.seq (.ops [⟨(some 2), .op (.alloc [(.string ⟨#[]⟩), (.string ⟨#[]⟩), (.string ⟨#[]⟩), (.string ⟨#[]⟩)]), none⟩])
  (.seq (.ops [⟨(some 4), .call 42 [], none⟩,
    ⟨(some 3), .op (.alloc [(.string ⟨#[]⟩), (.string ⟨#[]⟩), (.string ⟨#[]⟩), (.string ⟨#[]⟩), (.string ⟨#[]⟩), (.string ⟨#[]⟩), (.string ⟨#[]⟩), (.string ⟨#[]⟩), (.string ⟨#[]⟩), (.string ⟨#[]⟩), (.string ⟨#[]⟩), (.string ⟨#[]⟩), (.string ⟨#[]⟩), (.string ⟨#[]⟩), (.string ⟨#[]⟩), (.string ⟨#[]⟩), (.string ⟨#[]⟩), (.string ⟨#[]⟩), (.string ⟨#[]⟩), (.string ⟨#[]⟩), (.string ⟨#[]⟩), (.string ⟨#[]⟩), (.string ⟨#[]⟩), (.string ⟨#[]⟩), (.string ⟨#[]⟩), (.string ⟨#[]⟩), (.string ⟨#[]⟩), (.string ⟨#[]⟩), (.string ⟨#[]⟩), (.string ⟨#[]⟩), (.string ⟨#[]⟩), (.string ⟨#[]⟩), (.string ⟨#[]⟩), (.string ⟨#[]⟩), (.string ⟨#[]⟩), (.string ⟨#[]⟩), (.string ⟨#[]⟩), (.string ⟨#[]⟩), (.string ⟨#[]⟩), (.string ⟨#[]⟩), (.string ⟨#[]⟩), (.string ⟨#[]⟩), (.string ⟨#[]⟩), (.string ⟨#[]⟩), (.string ⟨#[]⟩), (.string ⟨#[]⟩), (.string ⟨#[]⟩), (.string ⟨#[]⟩), (.string ⟨#[]⟩), (.string ⟨#[]⟩), (.string ⟨#[]⟩), (.string ⟨#[]⟩), (.string ⟨#[]⟩), (.string ⟨#[]⟩), (.string ⟨#[]⟩), (.string ⟨#[]⟩), (.string ⟨#[]⟩), (.string ⟨#[]⟩), (.string ⟨#[]⟩), (.string ⟨#[]⟩), (.string ⟨#[]⟩), (.string ⟨#[]⟩), (.string ⟨#[]⟩), (.string ⟨#[]⟩), (.string ⟨#[]⟩), (.string ⟨#[]⟩), (.string ⟨#[]⟩), (.string ⟨#[]⟩), (.string ⟨#[]⟩), (.string ⟨#[]⟩), (.string ⟨#[]⟩), (.string ⟨#[]⟩), (.string ⟨#[]⟩), (.string ⟨#[]⟩), (.string ⟨#[]⟩), (.string ⟨#[]⟩), (.string ⟨#[]⟩), (.string ⟨#[]⟩), (.string ⟨#[]⟩), (.string ⟨#[]⟩), (.string ⟨#[]⟩), (.string ⟨#[]⟩), (.string ⟨#[]⟩), (.string ⟨#[]⟩), (.string ⟨#[]⟩), (.string ⟨#[]⟩), (.string ⟨#[]⟩), (.string ⟨#[]⟩), (.string ⟨#[]⟩), (.string ⟨#[]⟩), (.string ⟨#[]⟩), (.string ⟨#[]⟩), (.string ⟨#[]⟩), (.string ⟨#[]⟩), (.string ⟨#[]⟩), (.string ⟨#[]⟩), (.string ⟨#[]⟩), (.string ⟨#[]⟩), (.string ⟨#[]⟩), (.string ⟨#[]⟩), (.string ⟨#[]⟩), (.string ⟨#[]⟩), (.string ⟨#[]⟩), (.string ⟨#[]⟩), (.string ⟨#[]⟩), (.string ⟨#[]⟩), (.string ⟨#[]⟩), (.string ⟨#[]⟩), (.string ⟨#[]⟩), (.string ⟨#[]⟩), (.string ⟨#[]⟩), (.string ⟨#[]⟩), (.string ⟨#[]⟩), (.string ⟨#[]⟩), (.string ⟨#[]⟩), (.string ⟨#[]⟩)]), none⟩,
    ⟨none, .op (.store 116 (.t 3) (.t 4)), none⟩])
  (.seq (.seq (.ops [⟨(some 5), .op (.mov (.t 0)), none⟩,
    ⟨(some 6), .op (.bin .lss (.t 5) (.c (.int .i64 0))), none⟩,
    ⟨(some 7), .op (.mov (.t 6)), none⟩,
    ⟨(some 8), .op (.mov (.t 0)), (some (7, false))⟩,
    ⟨(some 9), .op (.bin .geq (.t 8) (.c (.int .i64 29))), (some (7, false))⟩,
    ⟨(some 10), .op (.pick (.t 7) (.c (.bool true)) (.t 9)), none⟩])
  (.cond (.t 10)
    (.seq (.ops [⟨(some 11), .op (.build [(.string ⟨#[]⟩), (.string ⟨#[]⟩), (.string ⟨#[]⟩), (.string ⟨#[]⟩)] []), none⟩,
      ⟨none, .op (.store 4 (.t 2) (.t 11)), none⟩])
    .ret)
    .skip))
  (.seq (.ops [⟨(some 12), .op (.mov (.t 0)), none⟩,
    ⟨(some 13), .op (.iaddr (.ar 29 4) (.t 3) (.t 12)), none⟩,
    ⟨(some 14), .op (.load (some 4) (.t 13)), none⟩,
    ⟨none, .op (.store 4 (.t 2) (.t 14)), none⟩])
  .ret)))), [.cell 2 (some 4)]⟩
-- swath/swathref10.row
def C27 : IFn := ⟨63, (.seq (.ops [⟨(some 2), .op (.mov (.c (.string ⟨#[]⟩))), none⟩,
    ⟨(some 3), .op (.mov (.c (.string ⟨#[]⟩))), none⟩,
    ⟨(some 4), .op (.mov (.c (.string ⟨#[]⟩))), none⟩,
    ⟨(some 5), .op (.mov (.c (.string ⟨#[]⟩))), none⟩])
  (.seq (.seq (.ops [⟨(some 6), .op (.mov (.t 0)), none⟩])
  (.block 0
    (.seq (.ops [⟨(some 8), .op (.bin .eql (.t 6) (.c (.int .i64 1))), none⟩,
      ⟨(some 7), .op (.mov (.t 8)), none⟩])
    (.cond (.t 7)
      (.seq (.ops [⟨(some 2), .op (.mov (.c (.string ⟨#[110, 117, 109]⟩))), none⟩,
        ⟨(some 3), .op (.mov (.c (.string ⟨#[65, 75]⟩))), none⟩,
        ⟨(some 4), .op (.mov (.c (.string ⟨#[]⟩))), none⟩,
        ⟨(some 5), .op (.mov (.c (.string ⟨#[65]⟩))), none⟩])
      .ret)
      (.seq (.ops [⟨(some 10), .op (.bin .eql (.t 6) (.c (.int .i64 2))), none⟩,
        ⟨(some 9), .op (.mov (.t 10)), none⟩])
      (.cond (.t 9)
        (.seq (.ops [⟨(some 2), .op (.mov (.c (.string ⟨#[110, 117, 108, 108]⟩))), none⟩,
          ⟨(some 3), .op (.mov (.c (.string ⟨#[65]⟩))), none⟩,
          ⟨(some 4), .op (.mov (.c (.string ⟨#[]⟩))), none⟩,
          ⟨(some 5), .op (.mov (.c (.string ⟨#[65]⟩))), none⟩])
        .ret)
        (.seq (.ops [⟨(some 12), .op (.bin .eql (.t 6) (.c (.int .i64 3))), none⟩,
          ⟨(some 11), .op (.mov (.t 12)), none⟩])
        (.cond (.t 11)
          (.seq (.ops [⟨(some 2), .op (.mov (.c (.string ⟨#[109, 111, 118, 101]⟩))), none⟩,
            ⟨(some 3), .op (.mov (.c (.string ⟨#[65, 66]⟩))), none⟩,
            ⟨(some 4), .op (.mov (.c (.string ⟨#[66]⟩))), none⟩,
            ⟨(some 5), .op (.mov (.c (.string ⟨#[65]⟩))), none⟩])
          .ret)
          (.seq (.ops [⟨(some 14), .op (.bin .eql (.t 6) (.c (.int .i64 4))), none⟩,
            ⟨(some 13), .op (.mov (.t 14)), none⟩])
          (.cond (.t 13)
            (.seq (.ops [⟨(some 2), .op (.mov (.c (.string ⟨#[98, 105, 110]⟩))), none⟩,
              ⟨(some 3), .op (.mov (.c (.string ⟨#[65, 66, 67, 75]⟩))), none⟩,
              ⟨(some 4), .op (.mov (.c (.string ⟨#[66, 67]⟩))), none⟩,
              ⟨(some 5), .op (.mov (.c (.string ⟨#[65]⟩))), none⟩])
            .ret)
            (.seq (.ops [⟨(some 16), .op (.bin .eql (.t 6) (.c (.int .i64 5))), none⟩,
              ⟨(some 15), .op (.mov (.t 16)), none⟩])
            (.cond (.t 15)
              (.seq (.ops [⟨(some 2), .op (.mov (.c (.string ⟨#[117, 110]⟩))), none⟩,
                ⟨(some 3), .op (.mov (.c (.string ⟨#[65, 66, 75]⟩))), none⟩,
                ⟨(some 4), .op (.mov (.c (.string ⟨#[66]⟩))), none⟩,
                ⟨(some 5), .op (.mov (.c (.string ⟨#[65]⟩))), none⟩])
              .ret)
              (.seq (.ops [⟨(some 18), .op (.bin .eql (.t 6) (.c (.int .i64 6))), none⟩,
                ⟨(some 17), .op (.mov (.t 18)), none⟩])
              (.cond (.t 17)
                (.seq (.ops [⟨(some 2), .op (.mov (.c (.string ⟨#[101, 113]⟩))), none⟩,
                  ⟨(some 3), .op (.mov (.c (.string ⟨#[65, 66, 67]⟩))), none⟩,
                  ⟨(some 4), .op (.mov (.c (.string ⟨#[66, 67]⟩))), none⟩,
                  ⟨(some 5), .op (.mov (.c (.string ⟨#[65]⟩))), none⟩])
                .ret)
                (.seq (.ops [⟨(some 20), .op (.bin .eql (.t 6) (.c (.int .i64 7))), none⟩,
                  ⟨(some 19), .op (.mov (.t 20)), none⟩])
                (.cond (.t 19)
                  (.seq (.ops [⟨(some 2), .op (.mov (.c (.string ⟨#[110, 101]⟩))), none⟩,
                    ⟨(some 3), .op (.mov (.c (.string ⟨#[65, 66, 67]⟩))), none⟩,
                    ⟨(some 4), .op (.mov (.c (.string ⟨#[66, 67]⟩))), none⟩,
                    ⟨(some 5), .op (.mov (.c (.string ⟨#[65]⟩))), none⟩])
                  .ret)
                  (.seq (.ops [⟨(some 22), .op (.bin .eql (.t 6) (.c (.int .i64 8))), none⟩,
                    ⟨(some 21), .op (.mov (.t 22)), none⟩])
                  (.cond (.t 21)
                    (.seq (.ops [⟨(some 2), .op (.mov (.c (.string ⟨#[103, 101, 116]⟩))), none⟩,
                      ⟨(some 3), .op (.mov (.c (.string ⟨#[65, 66, 67, 75]⟩))), none⟩,
                      ⟨(some 4), .op (.mov (.c (.string ⟨#[66]⟩))), none⟩,
                      ⟨(some 5), .op (.mov (.c (.string ⟨#[65]⟩))), none⟩])
                    .ret)
                    (.seq (.ops [⟨(some 24), .op (.bin .eql (.t 6) (.c (.int .i64 9))), none⟩,
                      ⟨(some 23), .op (.mov (.t 24)), none⟩])
                    (.cond (.t 23)
                      (.seq (.ops [⟨(some 2), .op (.mov (.c (.string ⟨#[112, 117, 116]⟩))), none⟩,
                        ⟨(some 3), .op (.mov (.c (.string ⟨#[65, 66, 67, 75]⟩))), none⟩,
                        ⟨(some 4), .op (.mov (.c (.string ⟨#[65, 66]⟩))), none⟩,
                        ⟨(some 5), .op (.mov (.c (.string ⟨#[]⟩))), none⟩])
                      .ret)
                      (.seq (.ops [⟨(some 26), .op (.bin .eql (.t 6) (.c (.int .i64 10))), none⟩,
                        ⟨(some 25), .op (.mov (.t 26)), none⟩])
                      (.cond (.t 25)
                        (.seq (.ops [⟨(some 2), .op (.mov (.c (.string ⟨#[101, 108, 101, 109]⟩))), none⟩,
                          ⟨(some 3), .op (.mov (.c (.string ⟨#[65, 66, 67]⟩))), none⟩,
                          ⟨(some 4), .op (.mov (.c (.string ⟨#[66, 67]⟩))), none⟩,
                          ⟨(some 5), .op (.mov (.c (.string ⟨#[65]⟩))), none⟩])
                        .ret)
                        (.seq (.ops [⟨(some 28), .op (.bin .eql (.t 6) (.c (.int .i64 11))), none⟩,
                          ⟨(some 27), .op (.mov (.t 28)), none⟩])
                        (.cond (.t 27)
                          (.seq (.ops [⟨(some 2), .op (.mov (.c (.string ⟨#[115, 101, 116, 101, 108, 101, 109]⟩))), none⟩,
                            ⟨(some 3), .op (.mov (.c (.string ⟨#[65, 66, 67]⟩))), none⟩,
                            ⟨(some 4), .op (.mov (.c (.string ⟨#[65, 66, 67]⟩))), none⟩,
                            ⟨(some 5), .op (.mov (.c (.string ⟨#[]⟩))), none⟩])
                          .ret)
                          (.seq (.ops [⟨(some 30), .op (.bin .eql (.t 6) (.c (.int .i64 12))), none⟩,
                            ⟨(some 29), .op (.mov (.t 30)), none⟩])
                          (.cond (.t 29)
                            (.seq (.ops [⟨(some 2), .op (.mov (.c (.string ⟨#[108, 101, 110]⟩))), none⟩,
                              ⟨(some 3), .op (.mov (.c (.string ⟨#[65, 66]⟩))), none⟩,
                              ⟨(some 4), .op (.mov (.c (.string ⟨#[66]⟩))), none⟩,
                              ⟨(some 5), .op (.mov (.c (.string ⟨#[65]⟩))), none⟩])
                            .ret)
                            (.seq (.ops [⟨(some 32), .op (.bin .eql (.t 6) (.c (.int .i64 13))), none⟩,
                              ⟨(some 31), .op (.mov (.t 32)), none⟩])
                            (.cond (.t 31)
                              (.seq (.ops [⟨(some 2), .op (.mov (.c (.string ⟨#[110, 101, 119]⟩))), none⟩,
                                ⟨(some 3), .op (.mov (.c (.string ⟨#[65, 67, 75]⟩))), none⟩,
                                ⟨(some 4), .op (.mov (.c (.string ⟨#[]⟩))), none⟩,
                                ⟨(some 5), .op (.mov (.c (.string ⟨#[65]⟩))), none⟩])
                              .ret)
                              (.seq (.ops [⟨(some 34), .op (.bin .eql (.t 6) (.c (.int .i64 14))), none⟩,
                                ⟨(some 33), .op (.mov (.t 34)), none⟩])
                              (.cond (.t 33)
                                (.seq (.ops [⟨(some 2), .op (.mov (.c (.string ⟨#[97, 114, 114]⟩))), none⟩,
                                  ⟨(some 3), .op (.mov (.c (.string ⟨#[65, 66]⟩))), none⟩,
                                  ⟨(some 4), .op (.mov (.c (.string ⟨#[66]⟩))), none⟩,
                                  ⟨(some 5), .op (.mov (.c (.string ⟨#[65]⟩))), none⟩])
                                .ret)
                                (.seq (.ops [⟨(some 36), .op (.bin .eql (.t 6) (.c (.int .i64 15))), none⟩,
                                  ⟨(some 35), .op (.mov (.t 36)), none⟩])
                                (.cond (.t 35)
                                  (.seq (.ops [⟨(some 2), .op (.mov (.c (.string ⟨#[105, 110]⟩))), none⟩,
                                    ⟨(some 3), .op (.mov (.c (.string ⟨#[65]⟩))), none⟩,
                                    ⟨(some 4), .op (.mov (.c (.string ⟨#[]⟩))), none⟩,
                                    ⟨(some 5), .op (.mov (.c (.string ⟨#[65]⟩))), none⟩])
                                  .ret)
                                  (.seq (.ops [⟨(some 38), .op (.bin .eql (.t 6) (.c (.int .i64 16))), none⟩,
                                    ⟨(some 37), .op (.mov (.t 38)), none⟩])
                                  (.cond (.t 37)
                                    (.seq (.ops [⟨(some 2), .op (.mov (.c (.string ⟨#[111, 117, 116]⟩))), none⟩,
                                      ⟨(some 3), .op (.mov (.c (.string ⟨#[65]⟩))), none⟩,
                                      ⟨(some 4), .op (.mov (.c (.string ⟨#[65]⟩))), none⟩,
                                      ⟨(some 5), .op (.mov (.c (.string ⟨#[]⟩))), none⟩])
                                    .ret)
                                    (.seq (.ops [⟨(some 40), .op (.bin .eql (.t 6) (.c (.int .i64 17))), none⟩,
                                      ⟨(some 39), .op (.mov (.t 40)), none⟩])
                                    (.cond (.t 39)
                                      (.seq (.ops [⟨(some 2), .op (.mov (.c (.string ⟨#[105, 109, 103]⟩))), none⟩,
                                        ⟨(some 3), .op (.mov (.c (.string ⟨#[65, 66]⟩))), none⟩,
                                        ⟨(some 4), .op (.mov (.c (.string ⟨#[66]⟩))), none⟩,
                                        ⟨(some 5), .op (.mov (.c (.string ⟨#[65]⟩))), none⟩])
                                      .ret)
                                      (.seq (.ops [⟨(some 42), .op (.bin .eql (.t 6) (.c (.int .i64 18))), none⟩,
                                        ⟨(some 41), .op (.mov (.t 42)), none⟩])
                                      (.cond (.t 41)
                                        (.seq (.ops [⟨(some 2), .op (.mov (.c (.string ⟨#[115, 105, 122, 101]⟩))), none⟩,
                                          ⟨(some 3), .op (.mov (.c (.string ⟨#[65]⟩))), none⟩,
                                          ⟨(some 4), .op (.mov (.c (.string ⟨#[]⟩))), none⟩,
                                          ⟨(some 5), .op (.mov (.c (.string ⟨#[65]⟩))), none⟩])
                                        .ret)
                                        (.seq (.ops [⟨(some 44), .op (.bin .eql (.t 6) (.c (.int .i64 19))), none⟩,
                                          ⟨(some 43), .op (.mov (.t 44)), none⟩])
                                        (.cond (.t 43)
                                          (.seq (.ops [⟨(some 2), .op (.mov (.c (.string ⟨#[114, 111, 111, 116]⟩))), none⟩,
                                            ⟨(some 3), .op (.mov (.c (.string ⟨#[65]⟩))), none⟩,
                                            ⟨(some 4), .op (.mov (.c (.string ⟨#[]⟩))), none⟩,
                                            ⟨(some 5), .op (.mov (.c (.string ⟨#[65]⟩))), none⟩])
                                          .ret)
                                          (.seq (.ops [⟨(some 46), .op (.bin .eql (.t 6) (.c (.int .i64 20))), none⟩,
                                            ⟨(some 45), .op (.mov (.t 46)), none⟩])
                                          (.cond (.t 45)
                                            (.seq (.ops [⟨(some 2), .op (.mov (.c (.string ⟨#[115, 101, 116, 114, 111, 111, 116]⟩))), none⟩,
                                              ⟨(some 3), .op (.mov (.c (.string ⟨#[65]⟩))), none⟩,
                                              ⟨(some 4), .op (.mov (.c (.string ⟨#[65]⟩))), none⟩,
                                              ⟨(some 5), .op (.mov (.c (.string ⟨#[]⟩))), none⟩])
                                            .ret)
                                            (.seq (.ops [⟨(some 48), .op (.bin .eql (.t 6) (.c (.int .i64 21))), none⟩,
                                              ⟨(some 47), .op (.mov (.t 48)), none⟩])
                                            (.cond (.t 47)
                                              (.seq (.ops [⟨(some 2), .op (.mov (.c (.string ⟨#[106, 117, 109, 112]⟩))), none⟩,
                                                ⟨(some 3), .op (.mov (.c (.string ⟨#[75]⟩))), none⟩,
                                                ⟨(some 4), .op (.mov (.c (.string ⟨#[]⟩))), none⟩,
                                                ⟨(some 5), .op (.mov (.c (.string ⟨#[]⟩))), none⟩])
                                              .ret)
                                              (.seq (.ops [⟨(some 50), .op (.bin .eql (.t 6) (.c (.int .i64 22))), none⟩,
                                                ⟨(some 49), .op (.mov (.t 50)), none⟩])
                                              (.cond (.t 49)
                                                (.seq (.ops [⟨(some 2), .op (.mov (.c (.string ⟨#[122, 101, 114, 111]⟩))), none⟩,
                                                  ⟨(some 3), .op (.mov (.c (.string ⟨#[65, 75]⟩))), none⟩,
                                                  ⟨(some 4), .op (.mov (.c (.string ⟨#[65]⟩))), none⟩,
                                                  ⟨(some 5), .op (.mov (.c (.string ⟨#[]⟩))), none⟩])
                                                .ret)
                                                (.seq (.ops [⟨(some 52), .op (.bin .eql (.t 6) (.c (.int .i64 23))), none⟩,
                                                  ⟨(some 51), .op (.mov (.t 52)), none⟩])
                                                (.cond (.t 51)
                                                  (.seq (.ops [⟨(some 2), .op (.mov (.c (.string ⟨#[99, 97, 108, 108]⟩))), none⟩,
                                                    ⟨(some 3), .op (.mov (.c (.string ⟨#[65, 75, 76]⟩))), none⟩,
                                                    ⟨(some 4), .op (.mov (.c (.string ⟨#[76]⟩))), none⟩,
                                                    ⟨(some 5), .op (.mov (.c (.string ⟨#[65]⟩))), none⟩])
                                                  .ret)
                                                  (.seq (.ops [⟨(some 54), .op (.bin .eql (.t 6) (.c (.int .i64 24))), none⟩,
                                                    ⟨(some 53), .op (.mov (.t 54)), none⟩])
                                                  (.cond (.t 53)
                                                    (.seq (.ops [⟨(some 2), .op (.mov (.c (.string ⟨#[114, 101, 116]⟩))), none⟩,
                                                      ⟨(some 3), .op (.mov (.c (.string ⟨#[65]⟩))), none⟩,
                                                      ⟨(some 4), .op (.mov (.c (.string ⟨#[65]⟩))), none⟩,
                                                      ⟨(some 5), .op (.mov (.c (.string ⟨#[]⟩))), none⟩])
                                                    .ret)
                                                    (.seq (.ops [⟨(some 56), .op (.bin .eql (.t 6) (.c (.int .i64 25))), none⟩,
                                                      ⟨(some 55), .op (.mov (.t 56)), none⟩])
                                                    (.cond (.t 55)
                                                      (.seq (.ops [⟨(some 2), .op (.mov (.c (.string ⟨#[115, 116, 111, 112]⟩))), none⟩,
                                                        ⟨(some 3), .op (.mov (.c (.string ⟨#[65]⟩))), none⟩,
                                                        ⟨(some 4), .op (.mov (.c (.string ⟨#[65]⟩))), none⟩,
                                                        ⟨(some 5), .op (.mov (.c (.string ⟨#[]⟩))), none⟩])
                                                      .ret)
                                                      (.seq (.ops [⟨(some 58), .op (.bin .eql (.t 6) (.c (.int .i64 26))), none⟩,
                                                        ⟨(some 57), .op (.mov (.t 58)), none⟩])
                                                      (.cond (.t 57)
                                                        (.seq (.ops [⟨(some 2), .op (.mov (.c (.string ⟨#[115, 116, 101, 112]⟩))), none⟩,
                                                          ⟨(some 3), .op (.mov (.c (.string ⟨#[]⟩))), none⟩,
                                                          ⟨(some 4), .op (.mov (.c (.string ⟨#[]⟩))), none⟩,
                                                          ⟨(some 5), .op (.mov (.c (.string ⟨#[]⟩))), none⟩])
                                                        .ret)
                                                        (.seq (.ops [⟨(some 60), .op (.bin .eql (.t 6) (.c (.int .i64 27))), none⟩,
                                                          ⟨(some 59), .op (.mov (.t 60)), none⟩])
                                                        (.cond (.t 59)
                                                          (.seq (.ops [⟨(some 2), .op (.mov (.c (.string ⟨#[109, 101, 114, 103, 101]⟩))), none⟩,
                                                            ⟨(some 3), .op (.mov (.c (.string ⟨#[75, 76]⟩))), none⟩,
                                                            ⟨(some 4), .op (.mov (.c (.string ⟨#[76]⟩))), none⟩,
                                                            ⟨(some 5), .op (.mov (.c (.string ⟨#[]⟩))), none⟩])
                                                          .ret)
                                                          (.seq (.ops [⟨(some 62), .op (.bin .eql (.t 6) (.c (.int .i64 28))), none⟩,
                                                            ⟨(some 61), .op (.mov (.t 62)), none⟩])
                                                          (.cond (.t 61)
                                                            (.seq (.ops [⟨(some 2), .op (.mov (.c (.string ⟨#[112, 114, 111, 109, 111, 116, 101]⟩))), none⟩,
                                                              ⟨(some 3), .op (.mov (.c (.string ⟨#[65, 66]⟩))), none⟩,
                                                              ⟨(some 4), .op (.mov (.c (.string ⟨#[66]⟩))), none⟩,
                                                              ⟨(some 5), .op (.mov (.c (.string ⟨#[65]⟩))), none⟩])
                                                            .ret)
                                                            .skip))))))))))))))))))))))))))))))))))))))))))))))))))))))))))
  (.seq (.ops [⟨(some 2), .op (.mov (.c (.string ⟨#[]⟩))), none⟩,
    ⟨(some 3), .op (.mov (.c (.string ⟨#[]⟩))), none⟩,
    ⟨(some 4), .op (.mov (.c (.string ⟨#[]⟩))), none⟩,
    ⟨(some 5), .op (.mov (.c (.string ⟨#[]⟩))), none⟩])
  .ret))), [.tmp 2, .tmp 3, .tmp 4, .tmp 5]⟩

end Go.Idl
end

section
/- Functions as ideal code. (Printed by wip/tools/Print.lean) -/
namespace Go.Idl
-- swath/swathlaw10.IrUses
def C4 : IFn := ⟨21, (.seq (.ops [⟨(some 1), .op (.box (.t 0)), none⟩,
    ⟨(some 2), .op (.mov (.c (.bool false))), none⟩])
  (.seq (.seq (.ops [⟨(some 3), .call 7 [], none⟩,
    ⟨(some 4), .op (.un .not (.t 3)), none⟩])
  (.cond (.t 4)
    (.seq (.ops [⟨(some 2), .op (.mov (.c (.bool false))), none⟩])
    .ret)
    .skip))
  (.seq (.seq (.ops [⟨(some 5), .op (.faddr 5 (.t 1)), none⟩,
    ⟨(some 6), .op (.load none (.t 5)), none⟩,
    ⟨(some 7), .op (.len .sl (.t 6)), none⟩,
    ⟨(some 8), .op (.bin .gtr (.t 7) (.c (.int .i64 100))), none⟩])
  (.cond (.t 8)
    (.seq (.ops [⟨(some 2), .op (.mov (.c (.bool true))), none⟩])
    .ret)
    .skip))
  (.seq (.draw [⟨(some 9), .op (.load (some 6) (.t 1)), none⟩,
    ⟨(some 10), .call 12 [(.t 9)], none⟩,
    ⟨(some 11), .op (.load (some 6) (.t 1)), none⟩,
    ⟨(some 12), .call 13 [(.t 11)], none⟩,
    ⟨(some 13), .call 11 [(.t 10), (.t 12)], none⟩,
    ⟨(some 14), .op (.mov (.t 13)), none⟩,
    ⟨(some 15), .op (.load (some 6) (.t 1)), (some (14, true))⟩,
    ⟨(some 16), .call 14 [(.t 15)], (some (14, true))⟩,
    ⟨(some 17), .op (.load (some 6) (.t 1)), (some (14, true))⟩,
    ⟨(some 18), .call 15 [(.t 17)], (some (14, true))⟩,
    ⟨(some 19), .op (.bin .eql (.t 16) (.t 18)), (some (14, true))⟩,
    ⟨(some 20), .op (.pick (.t 14) (.t 19) (.c (.bool false))), none⟩,
    ⟨(some 2), .op (.mov (.t 20)), none⟩]
    [[], [0], [], [1, 0, 2], [3, 1, 0, 2], [4, 3, 1, 0, 2], [5, 4, 3, 1, 0, 2], [5, 4, 3, 1, 0, 2, 6], [5, 4, 3, 1, 0, 2], [5, 4, 3, 1, 0, 2, 7, 6, 8], [5, 4, 3, 1, 0, 2, 9, 7, 6, 8], [10, 5, 4, 3, 1, 0, 2, 9, 7, 6, 8], [11, 10, 5, 4, 3, 1, 0, 2, 9, 7, 6, 8]])
  .ret)))), [.tmp 2]⟩
-- swath/swathlaw10.ints
def C11L0 : IC :=
  (.seq (.ops [⟨(some 14), .op (.bin .lss (.t 13) (.t 12)), none⟩])
  (.seq (.cond (.t 14)
    .skip
    (.exit 0))
  (.seq (.block 1
    (.seq (.ops [⟨(some 15), .op (.mov (.t 13)), none⟩,
      ⟨(some 5), .op (.mov (.t 15)), none⟩])
    (.seq (.draw [⟨(some 16), .op (.mov (.t 0)), none⟩,
      ⟨(some 17), .op (.mov (.t 5)), none⟩,
      ⟨(some 18), .op (.iaddr (.sl 1) (.t 16) (.t 17)), none⟩,
      ⟨(some 19), .op (.load none (.t 18)), none⟩,
      ⟨(some 20), .op (.mov (.t 1)), none⟩,
      ⟨(some 21), .op (.mov (.t 5)), none⟩,
      ⟨(some 22), .op (.iaddr (.sl 1) (.t 20) (.t 21)), none⟩,
      ⟨(some 23), .op (.load none (.t 22)), none⟩,
      ⟨(some 24), .op (.bin .neq (.t 19) (.t 23)), none⟩]
      [[], [], [1, 0], [2, 1, 0], [], [], [5, 4], [6, 5, 4], [7, 6, 5, 4, 3, 2, 1, 0]])
    (.cond (.t 24)
      (.seq (.ops [⟨(some 4), .op (.mov (.c (.bool false))), none⟩])
      .ret)
      .skip))))
  (.ops [⟨(some 25), .op (.bin .add (.t 13) (.c (.int .i64 1))), none⟩,
    ⟨(some 13), .op (.mov (.t 25)), none⟩]))))
def C11 : IFn := ⟨26, (.seq (.ops [⟨(some 4), .op (.mov (.c (.bool false))), none⟩])
  (.seq (.seq (.ops [⟨(some 6), .op (.mov (.t 0)), none⟩,
    ⟨(some 7), .op (.len .sl (.t 6)), none⟩,
    ⟨(some 8), .op (.mov (.t 1)), none⟩,
    ⟨(some 9), .op (.len .sl (.t 8)), none⟩,
    ⟨(some 10), .op (.bin .neq (.t 7) (.t 9)), none⟩])
  (.cond (.t 10)
    (.seq (.ops [⟨(some 4), .op (.mov (.c (.bool false))), none⟩])
    .ret)
    .skip))
  (.seq (.seq (.ops [⟨(some 11), .op (.mov (.t 0)), none⟩,
    ⟨(some 12), .op (.len .sl (.t 11)), none⟩,
    ⟨(some 13), .op (.mov (.c (.int .i64 0))), none⟩])
  (.block 0
    (.loop C11L0)))
  (.seq (.ops [⟨(some 4), .op (.mov (.c (.bool true))), none⟩])
  .ret)))), [.tmp 4]⟩
-- swath/ir.Reads
def C12L0 : IC :=
  (.seq (.ops [⟨(some 11), .op (.next (.t 10)), none⟩,
    ⟨(some 12), .op (.extract (.t 11) 0), none⟩])
  (.seq (.cond (.t 12)
    .skip
    (.exit 0))
  (.block 1
    (.seq (.ops [⟨(some 13), .op (.extract (.t 11) 2), none⟩,
      ⟨(some 5), .op (.mov (.t 13)), none⟩])
    (.seq (.ops [⟨(some 14), .op (.mov (.t 5)), none⟩,
      ⟨(some 15), .op (.bin .eql (.t 14) (.c (.int .i32 76))), none⟩])
    (.cond (.t 15)
      (.ops [⟨(some 16), .op (.mov (.t 3)), none⟩,
        ⟨(some 17), .op (.faddr 5 (.t 1)), none⟩,
        ⟨(some 18), .op (.load none (.t 17)), none⟩,
        ⟨(some 19), .op (.append 1 8 (.t 16) (.t 18)), none⟩,
        ⟨(some 3), .op (.mov (.t 19)), none⟩])
      (.ops [⟨(some 20), .op (.mov (.t 3)), none⟩,
        ⟨(some 21), .op (.load (some 6) (.t 1)), none⟩,
        ⟨(some 22), .op (.mov (.t 5)), none⟩,
        ⟨(some 23), .call 26 [(.t 21), (.t 22)], none⟩,
        ⟨(some 24), .op (.lit 1 1 [(.int .i64 0)] [(0, 1, (.t 23))]), none⟩,
        ⟨(some 25), .op (.append 1 8 (.t 20) (.t 24)), none⟩,
        ⟨(some 3), .op (.mov (.t 25)), none⟩])))))))
def C12 : IFn := ⟨27, (.seq (.ops [⟨(some 1), .op (.box (.t 0)), none⟩,
    ⟨(some 2), .op (.mov (.c (.slice none 0 0))), none⟩])
  (.seq (.ops [⟨(some 3), .op (.mov (.c (.slice none 0 0))), none⟩])
  (.seq (.seq (.ops [⟨(some 6), .op (.faddr 0 (.t 1)), none⟩,
    ⟨(some 7), .op (.load none (.t 6)), none⟩,
    ⟨(some 8), .call 25 [(.t 7)], none⟩,
    ⟨(some 9), .op (.field 2 none (.t 8)), none⟩,
    ⟨(some 10), .op (.range (.t 9)), none⟩])
  (.block 0
    (.loop C12L0)))
  (.seq (.ops [⟨(some 26), .op (.mov (.t 3)), none⟩,
    ⟨(some 2), .op (.mov (.t 26)), none⟩])
  .ret)))), [.tmp 2]⟩
-- swath/swathref10.Reads
def C13L0 : IC :=
  (.seq (.seq (.ops [⟨(some 17), .op (.mov (.t 8)), none⟩,
    ⟨(some 18), .op (.mov (.t 5)), none⟩,
    ⟨(some 19), .op (.len .str (.t 18)), none⟩,
    ⟨(some 20), .op (.bin .lss (.t 17) (.t 19)), none⟩])
  (.cond (.t 20)
    .skip
    (.exit 0)))
  (.seq (.block 1
    (.seq (.ops [⟨(some 23), .op (.mov (.t 5)), none⟩,
      ⟨(some 24), .op (.mov (.t 8)), none⟩,
      ⟨(some 25), .op (.sidx (.t 23) (.t 24)), none⟩,
      ⟨(some 26), .op (.bin .eql (.t 25) (.c (.int .u8 76))), none⟩])
    (.cond (.t 26)
      (.ops [⟨(some 27), .op (.mov (.t 7)), none⟩,
        ⟨(some 28), .op (.faddr 5 (.t 1)), none⟩,
        ⟨(some 29), .op (.load none (.t 28)), none⟩,
        ⟨(some 30), .op (.append 1 8 (.t 27) (.t 29)), none⟩,
        ⟨(some 7), .op (.mov (.t 30)), none⟩])
      (.draw [⟨(some 31), .op (.mov (.t 7)), none⟩,
        ⟨(some 32), .op (.load (some 6) (.t 1)), none⟩,
        ⟨(some 33), .op (.mov (.t 5)), none⟩,
        ⟨(some 34), .op (.mov (.t 8)), none⟩,
        ⟨(some 35), .op (.sidx (.t 33) (.t 34)), none⟩,
        ⟨(some 36), .call 28 [(.t 32), (.t 35)], none⟩,
        ⟨(some 37), .op (.lit 1 1 [(.int .i64 0)] [(0, 1, (.t 36))]), none⟩,
        ⟨(some 38), .op (.append 1 8 (.t 31) (.t 37)), none⟩,
        ⟨(some 7), .op (.mov (.t 38)), none⟩]
        [[], [], [], [], [3, 2], [4, 3, 2, 1], [5, 4, 3, 2, 1], [5, 4, 3, 2, 1, 6, 0], [7, 5, 4, 3, 2, 1, 6, 0]]))))
  (.ops [⟨(some 21), .op (.mov (.t 8)), none⟩,
    ⟨(some 22), .op (.bin .add (.t 21) (.c (.int .i64 1))), none⟩,
    ⟨(some 8), .op (.mov (.t 22)), none⟩])))
def C13 : IFn := ⟨40, (.seq (.ops [⟨(some 1), .op (.box (.t 0)), none⟩,
    ⟨(some 2), .op (.mov (.c (.slice none 0 0))), none⟩])
  (.seq (.ops [⟨(some 10), .op (.faddr 0 (.t 1)), none⟩,
    ⟨(some 11), .op (.load none (.t 10)), none⟩,
    ⟨(some 12), .call 27 [(.t 11)], none⟩,
    ⟨(some 9), .op (.mov (.t 12)), none⟩,
    ⟨(some 13), .op (.extract (.t 9) 0), none⟩,
    ⟨(some 14), .op (.extract (.t 9) 1), none⟩,
    ⟨(some 15), .op (.extract (.t 9) 2), none⟩,
    ⟨(some 16), .op (.extract (.t 9) 3), none⟩,
    ⟨(some 3), .op (.mov (.t 13)), none⟩,
    ⟨(some 4), .op (.mov (.t 14)), none⟩,
    ⟨(some 5), .op (.mov (.t 15)), none⟩,
    ⟨(some 6), .op (.mov (.t 16)), none⟩])
  (.seq (.ops [⟨(some 7), .op (.mov (.c (.slice none 0 0))), none⟩])
  (.seq (.seq (.ops [⟨(some 8), .op (.mov (.c (.int .i64 0))), none⟩])
  (.block 0
    (.loop C13L0)))
  (.seq (.ops [⟨(some 39), .op (.mov (.t 7)), none⟩,
    ⟨(some 2), .op (.mov (.t 39)), none⟩])
  .ret))))), [.tmp 2]⟩
-- swath/ir.Writes
def C14 : IFn := ⟨10, (.seq (.ops [⟨(some 1), .op (.box (.t 0)), none⟩,
    ⟨(some 2), .op (.mov (.c (.int .i64 0))), none⟩])
  (.seq (.seq (.ops [⟨(some 3), .op (.faddr 0 (.t 1)), none⟩,
    ⟨(some 4), .op (.load none (.t 3)), none⟩,
    ⟨(some 5), .call 25 [(.t 4)], none⟩,
    ⟨(some 6), .op (.field 3 none (.t 5)), none⟩,
    ⟨(some 7), .op (.bin .eql (.t 6) (.c (.string ⟨#[]⟩))), none⟩])
  (.cond (.t 7)
    (.seq (.ops [⟨(some 2), .op (.mov (.c (.int .i64 (-1)))), none⟩])
    .ret)
    .skip))
  (.seq (.ops [⟨(some 8), .op (.faddr 1 (.t 1)), none⟩,
    ⟨(some 9), .op (.load none (.t 8)), none⟩,
    ⟨(some 2), .op (.mov (.t 9)), none⟩])
  .ret))), [.tmp 2]⟩
-- swath/swathref10.Writes
def C15 : IFn := ⟨19, (.seq (.ops [⟨(some 1), .op (.box (.t 0)), none⟩,
    ⟨(some 2), .op (.mov (.c (.int .i64 0))), none⟩])
  (.seq (.ops [⟨(some 8), .op (.faddr 0 (.t 1)), none⟩,
    ⟨(some 9), .op (.load none (.t 8)), none⟩,
    ⟨(some 10), .call 27 [(.t 9)], none⟩,
    ⟨(some 7), .op (.mov (.t 10)), none⟩,
    ⟨(some 11), .op (.extract (.t 7) 0), none⟩,
    ⟨(some 12), .op (.extract (.t 7) 1), none⟩,
    ⟨(some 13), .op (.extract (.t 7) 2), none⟩,
    ⟨(some 14), .op (.extract (.t 7) 3), none⟩,
    ⟨(some 3), .op (.mov (.t 11)), none⟩,
    ⟨(some 4), .op (.mov (.t 12)), none⟩,
    ⟨(some 5), .op (.mov (.t 13)), none⟩,
    ⟨(some 6), .op (.mov (.t 14)), none⟩])
  (.seq (.seq (.ops [⟨(some 15), .op (.mov (.t 6)), none⟩,
    ⟨(some 16), .op (.bin .eql (.t 15) (.c (.string ⟨#[]⟩))), none⟩])
  (.cond (.t 16)
    (.seq (.ops [⟨(some 2), .op (.mov (.c (.int .i64 (-1)))), none⟩])
    .ret)
    .skip))
  (.seq (.ops [⟨(some 17), .op (.faddr 1 (.t 1)), none⟩,
    ⟨(some 18), .op (.load none (.t 17)), none⟩,
    ⟨(some 2), .op (.mov (.t 18)), none⟩])
  .ret)))), [.tmp 2]⟩
-- swath/ir.reg
def C26 : IFn := ⟨16, (.seq (.ops [⟨(some 2), .op (.box (.t 0)), none⟩,
    ⟨(some 4), .op (.mov (.c (.int .i64 0))), none⟩])
  (.seq (.seq (.ops [⟨(some 5), .op (.mov (.t 1)), none⟩])
  (.block 0
    (.seq (.ops [⟨(some 7), .op (.bin .eql (.t 5) (.c (.int .i32 65))), none⟩,
      ⟨(some 6), .op (.mov (.t 7)), none⟩])
    (.cond (.t 6)
      (.seq (.ops [⟨(some 8), .op (.faddr 1 (.t 2)), none⟩,
        ⟨(some 9), .op (.load none (.t 8)), none⟩,
        ⟨(some 4), .op (.mov (.t 9)), none⟩])
      .ret)
      (.seq (.ops [⟨(some 11), .op (.bin .eql (.t 5) (.c (.int .i32 66))), none⟩,
        ⟨(some 10), .op (.mov (.t 11)), none⟩])
      (.cond (.t 10)
        (.seq (.ops [⟨(some 12), .op (.faddr 2 (.t 2)), none⟩,
          ⟨(some 13), .op (.load none (.t 12)), none⟩,
          ⟨(some 4), .op (.mov (.t 13)), none⟩])
        .ret)
        .skip))))))
  (.seq (.ops [⟨(some 14), .op (.faddr 3 (.t 2)), none⟩,
    ⟨(some 15), .op (.load none (.t 14)), none⟩,
    ⟨(some 4), .op (.mov (.t 15)), none⟩])
  .ret))), [.tmp 4]⟩
-- swath/swathref10.field
def C28 : IFn := ⟨16, (.seq (.ops [⟨(some 2), .op (.box (.t 0)), none⟩,
    ⟨(some 4), .op (.mov (.c (.int .i64 0))), none⟩])
  (.seq (.seq (.ops [⟨(some 5), .op (.mov (.t 1)), none⟩])
  (.block 0
    (.seq (.ops [⟨(some 7), .op (.bin .eql (.t 5) (.c (.int .u8 65))), none⟩,
      ⟨(some 6), .op (.mov (.t 7)), none⟩])
    (.cond (.t 6)
      (.seq (.ops [⟨(some 8), .op (.faddr 1 (.t 2)), none⟩,
        ⟨(some 9), .op (.load none (.t 8)), none⟩,
        ⟨(some 4), .op (.mov (.t 9)), none⟩])
      .ret)
      (.seq (.ops [⟨(some 11), .op (.bin .eql (.t 5) (.c (.int .u8 66))), none⟩,
        ⟨(some 10), .op (.mov (.t 11)), none⟩])
      (.cond (.t 10)
        (.seq (.ops [⟨(some 12), .op (.faddr 2 (.t 2)), none⟩,
          ⟨(some 13), .op (.load none (.t 12)), none⟩,
          ⟨(some 4), .op (.mov (.t 13)), none⟩])
        .ret)
        .skip))))))
  (.seq (.ops [⟨(some 14), .op (.faddr 3 (.t 2)), none⟩,
    ⟨(some 15), .op (.load none (.t 14)), none⟩,
    ⟨(some 4), .op (.mov (.t 15)), none⟩])
  .ret))), [.tmp 4]⟩

end Go.Idl
end

section
/- Functions as ideal code. (Printed by wip/tools/Print.lean) -/
namespace Go.Idl
-- swath/swathlaw10.IrSame
def C6 : IFn := ⟨36, (.seq (.ops [⟨(some 2), .op (.box (.t 0)), none⟩,
    ⟨(some 3), .op (.box (.t 1)), none⟩,
    ⟨(some 4), .op (.mov (.c (.bool false))), none⟩])
  (.seq (.seq (.ops [⟨(some 5), .call 7 [], none⟩,
    ⟨(some 6), .op (.un .not (.t 5)), none⟩])
  (.cond (.t 6)
    (.seq (.ops [⟨(some 4), .op (.mov (.c (.bool false))), none⟩])
    .ret)
    .skip))
  (.seq (.seq (.ops [⟨(some 7), .op (.load (some 3) (.t 2)), none⟩,
    ⟨(some 8), .call 8 [(.t 7)], none⟩,
    ⟨(some 9), .op (.un .not (.t 8)), none⟩,
    ⟨(some 10), .op (.mov (.t 9)), none⟩,
    ⟨(some 11), .op (.load (some 3) (.t 3)), (some (10, false))⟩,
    ⟨(some 12), .call 8 [(.t 11)], (some (10, false))⟩,
    ⟨(some 13), .op (.un .not (.t 12)), (some (10, false))⟩,
    ⟨(some 14), .op (.pick (.t 10) (.c (.bool true)) (.t 13)), none⟩])
  (.cond (.t 14)
    (.seq (.ops [⟨(some 4), .op (.mov (.c (.bool true))), none⟩])
    .ret)
    .skip))
  (.seq (.draw [⟨(some 15), .op (.load (some 3) (.t 2)), none⟩,
    ⟨(some 16), .op (.load (some 3) (.t 3)), none⟩,
    ⟨(some 17), .call 18 [(.t 15), (.t 16)], none⟩,
    ⟨(some 18), .op (.load (some 3) (.t 2)), none⟩,
    ⟨(some 19), .op (.load (some 3) (.t 3)), none⟩,
    ⟨(some 20), .call 19 [(.t 18), (.t 19)], none⟩,
    ⟨(some 21), .op (.beq false (.t 17) (.t 20)), none⟩,
    ⟨(some 22), .op (.mov (.t 21)), none⟩,
    ⟨(some 23), .op (.load (some 3) (.t 2)), (some (22, true))⟩,
    ⟨(some 24), .op (.load (some 3) (.t 2)), (some (22, true))⟩,
    ⟨(some 25), .call 18 [(.t 23), (.t 24)], (some (22, true))⟩,
    ⟨(some 26), .op (.pick (.t 22) (.t 25) (.c (.bool false))), none⟩,
    ⟨(some 27), .op (.mov (.t 26)), none⟩,
    ⟨(some 28), .op (.load (some 3) (.t 2)), (some (27, true))⟩,
    ⟨(some 29), .op (.load (some 3) (.t 3)), (some (27, true))⟩,
    ⟨(some 30), .call 18 [(.t 28), (.t 29)], (some (27, true))⟩,
    ⟨(some 31), .op (.load (some 3) (.t 3)), (some (27, true))⟩,
    ⟨(some 32), .op (.load (some 3) (.t 2)), (some (27, true))⟩,
    ⟨(some 33), .call 18 [(.t 31), (.t 32)], (some (27, true))⟩,
    ⟨(some 34), .op (.beq false (.t 30) (.t 33)), (some (27, true))⟩,
    ⟨(some 35), .op (.pick (.t 27) (.t 34) (.c (.bool false))), none⟩,
    ⟨(some 4), .op (.mov (.t 35)), none⟩]
    [[], [], [1, 0], [], [], [2, 1, 0, 4, 3], [5, 2, 1, 0, 4, 3], [5, 2, 1, 0, 4, 3, 6], [7, 5, 2, 1, 0, 4, 3, 6], [7, 5, 2, 1, 0, 4, 3, 6], [7, 5, 2, 1, 0, 4, 3, 6, 9, 8], [10, 7, 5, 2, 1, 0, 4, 3, 6, 9, 8], [10, 7, 5, 2, 1, 0, 4, 3, 6, 9, 8, 11], [12, 10, 7, 5, 2, 1, 0, 4, 3, 6, 9, 8, 11], [12, 10, 7, 5, 2, 1, 0, 4, 3, 6, 9, 8, 11], [12, 10, 7, 5, 2, 1, 0, 4, 3, 6, 9, 8, 11, 14, 13], [12, 10, 7, 5, 2, 1, 0, 4, 3, 6, 9, 8, 11], [12, 10, 7, 5, 2, 1, 0, 4, 3, 6, 9, 8, 11], [12, 10, 7, 5, 2, 1, 0, 4, 3, 6, 9, 8, 11, 15, 14, 13, 17, 16], [12, 10, 7, 5, 2, 1, 0, 4, 3, 6, 9, 8, 11, 18, 15, 14, 13, 17, 16], [19, 12, 10, 7, 5, 2, 1, 0, 4, 3, 6, 9, 8, 11, 18, 15, 14, 13, 17, 16], [20, 19, 12, 10, 7, 5, 2, 1, 0, 4, 3, 6, 9, 8, 11, 18, 15, 14, 13, 17, 16]])
  .ret)))), [.tmp 4]⟩
-- swath/swathlaw10.few
def C8 : IFn := ⟨6, (.seq (.ops [⟨(some 1), .op (.box (.t 0)), none⟩,
    ⟨(some 2), .op (.mov (.c (.bool false))), none⟩])
  (.seq (.ops [⟨(some 3), .op (.load (some 3) (.t 1)), none⟩,
    ⟨(some 4), .call 20 [(.t 3)], none⟩,
    ⟨(some 5), .op (.bin .leq (.t 4) (.c (.int .i64 2000))), none⟩,
    ⟨(some 2), .op (.mov (.t 5)), none⟩])
  .ret)), [.tmp 2]⟩
-- swath/ir.Same
def C18 : IFn := ⟨24, (.seq (.ops [⟨(some 2), .op (.box (.t 0)), none⟩,
    ⟨(some 3), .op (.box (.t 1)), none⟩,
    ⟨(some 4), .op (.mov (.c (.bool false))), none⟩])
  (.seq (.ops [⟨(some 5), .op (.faddr 1 (.t 2)), none⟩,
    ⟨(some 6), .op (.load none (.t 5)), none⟩,
    ⟨(some 7), .op (.faddr 1 (.t 3)), none⟩,
    ⟨(some 8), .op (.load none (.t 7)), none⟩,
    ⟨(some 9), .op (.bin .eql (.t 6) (.t 8)), none⟩,
    ⟨(some 10), .op (.mov (.t 9)), none⟩,
    ⟨(some 11), .op (.faddr 2 (.t 2)), (some (10, true))⟩,
    ⟨(some 12), .op (.load none (.t 11)), (some (10, true))⟩,
    ⟨(some 13), .op (.faddr 2 (.t 3)), (some (10, true))⟩,
    ⟨(some 14), .op (.load none (.t 13)), (some (10, true))⟩,
    ⟨(some 15), .op (.bin .eql (.t 12) (.t 14)), (some (10, true))⟩,
    ⟨(some 16), .op (.pick (.t 10) (.t 15) (.c (.bool false))), none⟩,
    ⟨(some 17), .op (.mov (.t 16)), none⟩,
    ⟨(some 18), .op (.faddr 0 (.t 2)), (some (17, true))⟩,
    ⟨(some 19), .op (.load none (.t 18)), (some (17, true))⟩,
    ⟨(some 20), .op (.faddr 0 (.t 3)), (some (17, true))⟩,
    ⟨(some 21), .op (.load none (.t 20)), (some (17, true))⟩,
    ⟨(some 22), .call 32 [(.t 19), (.t 21), (.c (.func (.func 33) #[] #[]))], (some (17, true))⟩,
    ⟨(some 23), .op (.pick (.t 17) (.t 22) (.c (.bool false))), none⟩,
    ⟨(some 4), .op (.mov (.t 23)), none⟩])
  .ret)), [.tmp 4]⟩
-- swath/swathref10.Same
def C19L0 : IC :=
  (.seq (.ops [⟨(some 80), .op (.bin .lss (.t 79) (.t 78)), none⟩])
  (.seq (.cond (.t 80)
    .skip
    (.exit 2))
  (.seq (.block 3
    (.seq (.ops [⟨(some 81), .op (.mov (.t 79)), none⟩,
      ⟨(some 8), .op (.mov (.t 81)), none⟩])
    (.seq (.draw [⟨(some 82), .op (.faddr 3 (.t 6)), none⟩,
      ⟨(some 83), .op (.load none (.t 82)), none⟩,
      ⟨(some 84), .op (.mov (.t 8)), none⟩,
      ⟨(some 85), .op (.iaddr (.sl 6) (.t 83) (.t 84)), none⟩,
      ⟨(some 86), .op (.load (some 6) (.t 85)), none⟩,
      ⟨(some 87), .op (.faddr 3 (.t 7)), none⟩,
      ⟨(some 88), .op (.load none (.t 87)), none⟩,
      ⟨(some 89), .op (.mov (.t 8)), none⟩,
      ⟨(some 90), .op (.iaddr (.sl 6) (.t 88) (.t 89)), none⟩,
      ⟨(some 91), .op (.load (some 6) (.t 90)), none⟩,
      ⟨(some 9), .op (.alloc [(.int .i64 0), (.int .i64 0), (.int .i64 0), (.int .i64 0), (.int .i64 0), (.slice none 0 0)]), none⟩,
      ⟨(some 10), .op (.alloc [(.int .i64 0), (.int .i64 0), (.int .i64 0), (.int .i64 0), (.int .i64 0), (.slice none 0 0)]), none⟩,
      ⟨none, .op (.store 6 (.t 9) (.t 86)), none⟩,
      ⟨none, .op (.store 6 (.t 10) (.t 91)), none⟩]
      [[], [0], [], [2, 1, 0], [3, 2, 1, 0], [], [5], [], [7, 6, 5], [8, 7, 6, 5], [], [], [11, 10, 4, 3, 2, 1, 0], [12, 11, 10, 4, 3, 2, 1, 0, 9, 8, 7, 6, 5]])
    (.seq (.ops [⟨(some 92), .op (.faddr 0 (.t 9)), none⟩,
      ⟨(some 93), .op (.load none (.t 92)), none⟩,
      ⟨(some 94), .op (.faddr 0 (.t 10)), none⟩,
      ⟨(some 95), .op (.load none (.t 94)), none⟩,
      ⟨(some 96), .op (.bin .neq (.t 93) (.t 95)), none⟩,
      ⟨(some 97), .op (.mov (.t 96)), none⟩,
      ⟨(some 98), .op (.faddr 1 (.t 9)), (some (97, false))⟩,
      ⟨(some 99), .op (.load none (.t 98)), (some (97, false))⟩,
      ⟨(some 100), .op (.faddr 1 (.t 10)), (some (97, false))⟩,
      ⟨(some 101), .op (.load none (.t 100)), (some (97, false))⟩,
      ⟨(some 102), .op (.bin .neq (.t 99) (.t 101)), (some (97, false))⟩,
      ⟨(some 103), .op (.pick (.t 97) (.c (.bool true)) (.t 102)), none⟩,
      ⟨(some 104), .op (.mov (.t 103)), none⟩,
      ⟨(some 105), .op (.faddr 2 (.t 9)), (some (104, false))⟩,
      ⟨(some 106), .op (.load none (.t 105)), (some (104, false))⟩,
      ⟨(some 107), .op (.faddr 2 (.t 10)), (some (104, false))⟩,
      ⟨(some 108), .op (.load none (.t 107)), (some (104, false))⟩,
      ⟨(some 109), .op (.bin .neq (.t 106) (.t 108)), (some (104, false))⟩,
      ⟨(some 110), .op (.pick (.t 104) (.c (.bool true)) (.t 109)), none⟩,
      ⟨(some 111), .op (.mov (.t 110)), none⟩,
      ⟨(some 112), .op (.faddr 3 (.t 9)), (some (111, false))⟩,
      ⟨(some 113), .op (.load none (.t 112)), (some (111, false))⟩,
      ⟨(some 114), .op (.faddr 3 (.t 10)), (some (111, false))⟩,
      ⟨(some 115), .op (.load none (.t 114)), (some (111, false))⟩,
      ⟨(some 116), .op (.bin .neq (.t 113) (.t 115)), (some (111, false))⟩,
      ⟨(some 117), .op (.pick (.t 111) (.c (.bool true)) (.t 116)), none⟩,
      ⟨(some 118), .op (.mov (.t 117)), none⟩,
      ⟨(some 119), .op (.faddr 4 (.t 9)), (some (118, false))⟩,
      ⟨(some 120), .op (.load none (.t 119)), (some (118, false))⟩,
      ⟨(some 121), .op (.faddr 4 (.t 10)), (some (118, false))⟩,
      ⟨(some 122), .op (.load none (.t 121)), (some (118, false))⟩,
      ⟨(some 123), .op (.bin .neq (.t 120) (.t 122)), (some (118, false))⟩,
      ⟨(some 124), .op (.pick (.t 118) (.c (.bool true)) (.t 123)), none⟩,
      ⟨(some 125), .op (.mov (.t 124)), none⟩,
      ⟨(some 126), .op (.faddr 5 (.t 9)), (some (125, false))⟩,
      ⟨(some 127), .op (.load none (.t 126)), (some (125, false))⟩,
      ⟨(some 128), .op (.faddr 5 (.t 10)), (some (125, false))⟩,
      ⟨(some 129), .op (.load none (.t 128)), (some (125, false))⟩,
      ⟨(some 130), .call 37 [(.t 127), (.t 129)], (some (125, false))⟩,
      ⟨(some 131), .op (.un .not (.t 130)), (some (125, false))⟩,
      ⟨(some 132), .op (.pick (.t 125) (.c (.bool true)) (.t 131)), none⟩])
    (.cond (.t 132)
      (.seq (.ops [⟨(some 4), .op (.mov (.c (.bool false))), none⟩])
      .ret)
      .skip)))))
  (.ops [⟨(some 133), .op (.bin .add (.t 79) (.c (.int .i64 1))), none⟩,
    ⟨(some 79), .op (.mov (.t 133)), none⟩]))))
def C19L1 : IC :=
  (.seq (.ops [⟨(some 36), .op (.bin .lss (.t 35) (.t 34)), none⟩])
  (.seq (.cond (.t 36)
    .skip
    (.exit 0))
  (.seq (.block 1
    (.seq (.ops [⟨(some 37), .op (.mov (.t 35)), none⟩,
      ⟨(some 5), .op (.mov (.t 37)), none⟩])
    (.seq (.draw [⟨(some 38), .op (.faddr 0 (.t 2)), none⟩,
      ⟨(some 39), .op (.load none (.t 38)), none⟩,
      ⟨(some 40), .op (.mov (.t 5)), none⟩,
      ⟨(some 41), .op (.iaddr (.sl 4) (.t 39) (.t 40)), none⟩,
      ⟨(some 42), .op (.load (some 4) (.t 41)), none⟩,
      ⟨(some 43), .op (.faddr 0 (.t 3)), none⟩,
      ⟨(some 44), .op (.load none (.t 43)), none⟩,
      ⟨(some 45), .op (.mov (.t 5)), none⟩,
      ⟨(some 46), .op (.iaddr (.sl 4) (.t 44) (.t 45)), none⟩,
      ⟨(some 47), .op (.load (some 4) (.t 46)), none⟩,
      ⟨(some 6), .op (.alloc [(.string ⟨#[]⟩), (.int .i64 0), (.int .i64 0), (.slice none 0 0)]), none⟩,
      ⟨(some 7), .op (.alloc [(.string ⟨#[]⟩), (.int .i64 0), (.int .i64 0), (.slice none 0 0)]), none⟩,
      ⟨none, .op (.store 4 (.t 6) (.t 42)), none⟩,
      ⟨none, .op (.store 4 (.t 7) (.t 47)), none⟩]
      [[], [0], [], [2, 1, 0], [3, 2, 1, 0], [], [5], [], [7, 6, 5], [8, 7, 6, 5], [], [], [11, 10, 4, 3, 2, 1, 0], [12, 11, 10, 4, 3, 2, 1, 0, 9, 8, 7, 6, 5]])
    (.seq (.seq (.ops [⟨(some 48), .op (.faddr 0 (.t 6)), none⟩,
      ⟨(some 49), .op (.load none (.t 48)), none⟩,
      ⟨(some 50), .op (.faddr 0 (.t 7)), none⟩,
      ⟨(some 51), .op (.load none (.t 50)), none⟩,
      ⟨(some 52), .op (.bin .neq (.t 49) (.t 51)), none⟩,
      ⟨(some 53), .op (.mov (.t 52)), none⟩,
      ⟨(some 54), .op (.faddr 1 (.t 6)), (some (53, false))⟩,
      ⟨(some 55), .op (.load none (.t 54)), (some (53, false))⟩,
      ⟨(some 56), .op (.faddr 1 (.t 7)), (some (53, false))⟩,
      ⟨(some 57), .op (.load none (.t 56)), (some (53, false))⟩,
      ⟨(some 58), .op (.bin .neq (.t 55) (.t 57)), (some (53, false))⟩,
      ⟨(some 59), .op (.pick (.t 53) (.c (.bool true)) (.t 58)), none⟩,
      ⟨(some 60), .op (.mov (.t 59)), none⟩,
      ⟨(some 61), .op (.faddr 2 (.t 6)), (some (60, false))⟩,
      ⟨(some 62), .op (.load none (.t 61)), (some (60, false))⟩,
      ⟨(some 63), .op (.faddr 2 (.t 7)), (some (60, false))⟩,
      ⟨(some 64), .op (.load none (.t 63)), (some (60, false))⟩,
      ⟨(some 65), .op (.bin .neq (.t 62) (.t 64)), (some (60, false))⟩,
      ⟨(some 66), .op (.pick (.t 60) (.c (.bool true)) (.t 65)), none⟩,
      ⟨(some 67), .op (.mov (.t 66)), none⟩,
      ⟨(some 68), .op (.faddr 3 (.t 6)), (some (67, false))⟩,
      ⟨(some 69), .op (.load none (.t 68)), (some (67, false))⟩,
      ⟨(some 70), .op (.len .sl (.t 69)), (some (67, false))⟩,
      ⟨(some 71), .op (.faddr 3 (.t 7)), (some (67, false))⟩,
      ⟨(some 72), .op (.load none (.t 71)), (some (67, false))⟩,
      ⟨(some 73), .op (.len .sl (.t 72)), (some (67, false))⟩,
      ⟨(some 74), .op (.bin .neq (.t 70) (.t 73)), (some (67, false))⟩,
      ⟨(some 75), .op (.pick (.t 67) (.c (.bool true)) (.t 74)), none⟩])
    (.cond (.t 75)
      (.seq (.ops [⟨(some 4), .op (.mov (.c (.bool false))), none⟩])
      .ret)
      .skip))
    (.seq (.ops [⟨(some 76), .op (.faddr 3 (.t 6)), none⟩,
      ⟨(some 77), .op (.load none (.t 76)), none⟩,
      ⟨(some 78), .op (.len .sl (.t 77)), none⟩,
      ⟨(some 79), .op (.mov (.c (.int .i64 0))), none⟩])
    (.block 2
      (.loop C19L0)))))))
  (.ops [⟨(some 134), .op (.bin .add (.t 35) (.c (.int .i64 1))), none⟩,
    ⟨(some 35), .op (.mov (.t 134)), none⟩]))))
def C19 : IFn := ⟨135, (.seq (.ops [⟨(some 2), .op (.box (.t 0)), none⟩,
    ⟨(some 3), .op (.box (.t 1)), none⟩,
    ⟨(some 4), .op (.mov (.c (.bool false))), none⟩])
  (.seq (.seq (.ops [⟨(some 11), .op (.faddr 0 (.t 2)), none⟩,
    ⟨(some 12), .op (.load none (.t 11)), none⟩,
    ⟨(some 13), .op (.len .sl (.t 12)), none⟩,
    ⟨(some 14), .op (.faddr 0 (.t 3)), none⟩,
    ⟨(some 15), .op (.load none (.t 14)), none⟩,
    ⟨(some 16), .op (.len .sl (.t 15)), none⟩,
    ⟨(some 17), .op (.bin .neq (.t 13) (.t 16)), none⟩,
    ⟨(some 18), .op (.mov (.t 17)), none⟩,
    ⟨(some 19), .op (.faddr 1 (.t 2)), (some (18, false))⟩,
    ⟨(some 20), .op (.load none (.t 19)), (some (18, false))⟩,
    ⟨(some 21), .op (.faddr 1 (.t 3)), (some (18, false))⟩,
    ⟨(some 22), .op (.load none (.t 21)), (some (18, false))⟩,
    ⟨(some 23), .op (.bin .neq (.t 20) (.t 22)), (some (18, false))⟩,
    ⟨(some 24), .op (.pick (.t 18) (.c (.bool true)) (.t 23)), none⟩,
    ⟨(some 25), .op (.mov (.t 24)), none⟩,
    ⟨(some 26), .op (.faddr 2 (.t 2)), (some (25, false))⟩,
    ⟨(some 27), .op (.load none (.t 26)), (some (25, false))⟩,
    ⟨(some 28), .op (.faddr 2 (.t 3)), (some (25, false))⟩,
    ⟨(some 29), .op (.load none (.t 28)), (some (25, false))⟩,
    ⟨(some 30), .op (.bin .neq (.t 27) (.t 29)), (some (25, false))⟩,
    ⟨(some 31), .op (.pick (.t 25) (.c (.bool true)) (.t 30)), none⟩])
  (.cond (.t 31)
    (.seq (.ops [⟨(some 4), .op (.mov (.c (.bool false))), none⟩])
    .ret)
    .skip))
  (.seq (.seq (.ops [⟨(some 32), .op (.faddr 0 (.t 2)), none⟩,
    ⟨(some 33), .op (.load none (.t 32)), none⟩,
    ⟨(some 34), .op (.len .sl (.t 33)), none⟩,
    ⟨(some 35), .op (.mov (.c (.int .i64 0))), none⟩])
  (.block 0
    (.loop C19L1)))
  (.seq (.ops [⟨(some 4), .op (.mov (.c (.bool true))), none⟩])
  .ret)))), [.tmp 4]⟩
-- swath/swathref10.Size
def C20L0 : IC :=
  (.seq (.ops [⟨(some 30), .op (.bin .lss (.t 29) (.t 28)), none⟩])
  (.seq (.cond (.t 30)
    .skip
    (.exit 2))
  (.seq (.block 3
    (.seq (.ops [⟨(some 31), .op (.iaddr (.sl 6) (.t 27) (.t 29)), none⟩,
      ⟨(some 32), .op (.load (some 6) (.t 31)), none⟩,
      ⟨(some 7), .op (.alloc [(.int .i64 0), (.int .i64 0), (.int .i64 0), (.int .i64 0), (.int .i64 0), (.slice none 0 0)]), none⟩,
      ⟨none, .op (.store 6 (.t 7) (.t 32)), none⟩])
    (.ops [⟨(some 33), .op (.mov (.t 3)), none⟩,
      ⟨(some 34), .op (.faddr 5 (.t 7)), none⟩,
      ⟨(some 35), .op (.load none (.t 34)), none⟩,
      ⟨(some 36), .op (.len .sl (.t 35)), none⟩,
      ⟨(some 37), .op (.bin .add (.t 33) (.t 36)), none⟩,
      ⟨(some 3), .op (.mov (.t 37)), none⟩])))
  (.ops [⟨(some 38), .op (.bin .add (.t 29) (.c (.int .i64 1))), none⟩,
    ⟨(some 29), .op (.mov (.t 38)), none⟩]))))
def C20L1 : IC :=
  (.seq (.ops [⟨(some 12), .op (.bin .lss (.t 11) (.t 10)), none⟩])
  (.seq (.cond (.t 12)
    .skip
    (.exit 0))
  (.seq (.block 1
    (.seq (.ops [⟨(some 13), .op (.iaddr (.sl 4) (.t 9) (.t 11)), none⟩,
      ⟨(some 14), .op (.load (some 4) (.t 13)), none⟩,
      ⟨(some 5), .op (.alloc [(.string ⟨#[]⟩), (.int .i64 0), (.int .i64 0), (.slice none 0 0)]), none⟩,
      ⟨none, .op (.store 4 (.t 5) (.t 14)), none⟩])
    (.seq (.ops [⟨(some 15), .op (.mov (.t 3)), none⟩,
      ⟨(some 16), .op (.faddr 3 (.t 5)), none⟩,
      ⟨(some 17), .op (.load none (.t 16)), none⟩,
      ⟨(some 18), .op (.len .sl (.t 17)), none⟩,
      ⟨(some 19), .op (.bin .add (.c (.int .i64 1)) (.t 18)), none⟩,
      ⟨(some 20), .op (.faddr 0 (.t 5)), none⟩,
      ⟨(some 21), .op (.load none (.t 20)), none⟩,
      ⟨(some 22), .op (.len .str (.t 21)), none⟩,
      ⟨(some 23), .op (.bin .quo (.t 22) (.c (.int .i64 10))), none⟩,
      ⟨(some 24), .op (.bin .add (.t 19) (.t 23)), none⟩,
      ⟨(some 25), .op (.bin .add (.t 15) (.t 24)), none⟩,
      ⟨(some 3), .op (.mov (.t 25)), none⟩])
    (.seq (.ops [⟨(some 26), .op (.faddr 3 (.t 5)), none⟩,
      ⟨(some 27), .op (.load none (.t 26)), none⟩,
      ⟨(some 28), .op (.len .sl (.t 27)), none⟩,
      ⟨(some 29), .op (.mov (.c (.int .i64 0))), none⟩])
    (.block 2
      (.loop C20L0))))))
  (.ops [⟨(some 39), .op (.bin .add (.t 11) (.c (.int .i64 1))), none⟩,
    ⟨(some 11), .op (.mov (.t 39)), none⟩]))))
def C20 : IFn := ⟨41, (.seq (.ops [⟨(some 1), .op (.box (.t 0)), none⟩,
    ⟨(some 2), .op (.mov (.c (.int .i64 0))), none⟩])
  (.seq (.ops [⟨(some 3), .op (.mov (.c (.int .i64 0))), none⟩])
  (.seq (.seq (.ops [⟨(some 8), .op (.faddr 0 (.t 1)), none⟩,
    ⟨(some 9), .op (.load none (.t 8)), none⟩,
    ⟨(some 10), .op (.len .sl (.t 9)), none⟩,
    ⟨(some 11), .op (.mov (.c (.int .i64 0))), none⟩])
  (.block 0
    (.loop C20L1)))
  (.seq (.ops [⟨(some 40), .op (.mov (.t 3)), none⟩,
    ⟨(some 2), .op (.mov (.t 40)), none⟩])
  .ret)))), [.tmp 2]⟩
-- slices.EqualFunc[[]swath/api.Func,[]swath/api.Func,swath/api.Func,swath/api.Func]
def C32L0 : IC :=
  (.seq (.ops [⟨(some 18), .op (.bin .lss (.t 17) (.t 16)), none⟩])
  (.seq (.cond (.t 18)
    .skip
    (.exit 0))
  (.seq (.block 1
    (.seq (.ops [⟨(some 19), .op (.mov (.t 17)), none⟩,
      ⟨(some 20), .op (.iaddr (.sl 4) (.t 15) (.t 17)), none⟩,
      ⟨(some 21), .op (.load (some 4) (.t 20)), none⟩,
      ⟨(some 8), .op (.alloc [(.string ⟨#[]⟩), (.int .i64 0), (.int .i64 0), (.slice none 0 0)]), none⟩,
      ⟨(some 7), .op (.mov (.t 19)), none⟩,
      ⟨none, .op (.store 4 (.t 8) (.t 21)), none⟩])
    (.seq (.ops [⟨(some 22), .op (.mov (.t 1)), none⟩,
      ⟨(some 23), .op (.mov (.t 7)), none⟩,
      ⟨(some 24), .op (.iaddr (.sl 4) (.t 22) (.t 23)), none⟩,
      ⟨(some 25), .op (.load (some 4) (.t 24)), none⟩,
      ⟨(some 9), .op (.alloc [(.string ⟨#[]⟩), (.int .i64 0), (.int .i64 0), (.slice none 0 0)]), none⟩,
      ⟨none, .op (.store 4 (.t 9) (.t 25)), none⟩])
    (.seq (.ops [⟨(some 26), .op (.mov (.t 2)), none⟩,
      ⟨(some 27), .op (.load (some 4) (.t 8)), none⟩,
      ⟨(some 28), .op (.load (some 4) (.t 9)), none⟩,
      ⟨(some 29), .callv (.t 26) [(.t 27), (.t 28)], none⟩,
      ⟨(some 30), .op (.un .not (.t 29)), none⟩])
    (.cond (.t 30)
      (.seq (.ops [⟨(some 6), .op (.mov (.c (.bool false))), none⟩])
      .ret)
      .skip)))))
  (.ops [⟨(some 31), .op (.bin .add (.t 17) (.c (.int .i64 1))), none⟩,
    ⟨(some 17), .op (.mov (.t 31)), none⟩]))))
def C32 : IFn := ⟨32, (.seq (.ops [⟨(some 6), .op (.mov (.c (.bool false))), none⟩])
  (.seq (.seq (.ops [⟨(some 10), .op (.mov (.t 0)), none⟩,
    ⟨(some 11), .op (.len .sl (.t 10)), none⟩,
    ⟨(some 12), .op (.mov (.t 1)), none⟩,
    ⟨(some 13), .op (.len .sl (.t 12)), none⟩,
    ⟨(some 14), .op (.bin .neq (.t 11) (.t 13)), none⟩])
  (.cond (.t 14)
    (.seq (.ops [⟨(some 6), .op (.mov (.c (.bool false))), none⟩])
    .ret)
    .skip))
  (.seq (.seq (.ops [⟨(some 15), .op (.mov (.t 0)), none⟩,
    ⟨(some 16), .op (.len .sl (.t 15)), none⟩,
    ⟨(some 17), .op (.mov (.c (.int .i64 0))), none⟩])
  (.block 0
    (.loop C32L0)))
  (.seq (.ops [⟨(some 6), .op (.mov (.c (.bool true))), none⟩])
  .ret)))), [.tmp 6]⟩
-- swath/ir.Same$1
def C33 : IFn := ⟨31, (.seq (.ops [⟨(some 2), .op (.box (.t 0)), none⟩,
    ⟨(some 3), .op (.box (.t 1)), none⟩,
    ⟨(some 4), .op (.mov (.c (.bool false))), none⟩])
  (.seq (.ops [⟨(some 5), .op (.faddr 0 (.t 2)), none⟩,
    ⟨(some 6), .op (.load none (.t 5)), none⟩,
    ⟨(some 7), .op (.faddr 0 (.t 3)), none⟩,
    ⟨(some 8), .op (.load none (.t 7)), none⟩,
    ⟨(some 9), .op (.bin .eql (.t 6) (.t 8)), none⟩,
    ⟨(some 10), .op (.mov (.t 9)), none⟩,
    ⟨(some 11), .op (.faddr 1 (.t 2)), (some (10, true))⟩,
    ⟨(some 12), .op (.load none (.t 11)), (some (10, true))⟩,
    ⟨(some 13), .op (.faddr 1 (.t 3)), (some (10, true))⟩,
    ⟨(some 14), .op (.load none (.t 13)), (some (10, true))⟩,
    ⟨(some 15), .op (.bin .eql (.t 12) (.t 14)), (some (10, true))⟩,
    ⟨(some 16), .op (.pick (.t 10) (.t 15) (.c (.bool false))), none⟩,
    ⟨(some 17), .op (.mov (.t 16)), none⟩,
    ⟨(some 18), .op (.faddr 2 (.t 2)), (some (17, true))⟩,
    ⟨(some 19), .op (.load none (.t 18)), (some (17, true))⟩,
    ⟨(some 20), .op (.faddr 2 (.t 3)), (some (17, true))⟩,
    ⟨(some 21), .op (.load none (.t 20)), (some (17, true))⟩,
    ⟨(some 22), .op (.bin .eql (.t 19) (.t 21)), (some (17, true))⟩,
    ⟨(some 23), .op (.pick (.t 17) (.t 22) (.c (.bool false))), none⟩,
    ⟨(some 24), .op (.mov (.t 23)), none⟩,
    ⟨(some 25), .op (.faddr 3 (.t 2)), (some (24, true))⟩,
    ⟨(some 26), .op (.load none (.t 25)), (some (24, true))⟩,
    ⟨(some 27), .op (.faddr 3 (.t 3)), (some (24, true))⟩,
    ⟨(some 28), .op (.load none (.t 27)), (some (24, true))⟩,
    ⟨(some 29), .call 34 [(.t 26), (.t 28), (.c (.func (.func 35) #[] #[]))], (some (24, true))⟩,
    ⟨(some 30), .op (.pick (.t 24) (.t 29) (.c (.bool false))), none⟩,
    ⟨(some 4), .op (.mov (.t 30)), none⟩])
  .ret)), [.tmp 4]⟩
-- slices.EqualFunc[[]swath/api.Ins,[]swath/api.Ins,swath/api.Ins,swath/api.Ins]
def C34L0 : IC :=
  (.seq (.ops [⟨(some 18), .op (.bin .lss (.t 17) (.t 16)), none⟩])
  (.seq (.cond (.t 18)
    .skip
    (.exit 0))
  (.seq (.block 1
    (.seq (.ops [⟨(some 19), .op (.mov (.t 17)), none⟩,
      ⟨(some 20), .op (.iaddr (.sl 6) (.t 15) (.t 17)), none⟩,
      ⟨(some 21), .op (.load (some 6) (.t 20)), none⟩,
      ⟨(some 8), .op (.alloc [(.int .i64 0), (.int .i64 0), (.int .i64 0), (.int .i64 0), (.int .i64 0), (.slice none 0 0)]), none⟩,
      ⟨(some 7), .op (.mov (.t 19)), none⟩,
      ⟨none, .op (.store 6 (.t 8) (.t 21)), none⟩])
    (.seq (.ops [⟨(some 22), .op (.mov (.t 1)), none⟩,
      ⟨(some 23), .op (.mov (.t 7)), none⟩,
      ⟨(some 24), .op (.iaddr (.sl 6) (.t 22) (.t 23)), none⟩,
      ⟨(some 25), .op (.load (some 6) (.t 24)), none⟩,
      ⟨(some 9), .op (.alloc [(.int .i64 0), (.int .i64 0), (.int .i64 0), (.int .i64 0), (.int .i64 0), (.slice none 0 0)]), none⟩,
      ⟨none, .op (.store 6 (.t 9) (.t 25)), none⟩])
    (.seq (.ops [⟨(some 26), .op (.mov (.t 2)), none⟩,
      ⟨(some 27), .op (.load (some 6) (.t 8)), none⟩,
      ⟨(some 28), .op (.load (some 6) (.t 9)), none⟩,
      ⟨(some 29), .callv (.t 26) [(.t 27), (.t 28)], none⟩,
      ⟨(some 30), .op (.un .not (.t 29)), none⟩])
    (.cond (.t 30)
      (.seq (.ops [⟨(some 6), .op (.mov (.c (.bool false))), none⟩])
      .ret)
      .skip)))))
  (.ops [⟨(some 31), .op (.bin .add (.t 17) (.c (.int .i64 1))), none⟩,
    ⟨(some 17), .op (.mov (.t 31)), none⟩]))))
def C34 : IFn := ⟨32, (.seq (.ops [⟨(some 6), .op (.mov (.c (.bool false))), none⟩])
  (.seq (.seq (.ops [⟨(some 10), .op (.mov (.t 0)), none⟩,
    ⟨(some 11), .op (.len .sl (.t 10)), none⟩,
    ⟨(some 12), .op (.mov (.t 1)), none⟩,
    ⟨(some 13), .op (.len .sl (.t 12)), none⟩,
    ⟨(some 14), .op (.bin .neq (.t 11) (.t 13)), none⟩])
  (.cond (.t 14)
    (.seq (.ops [⟨(some 6), .op (.mov (.c (.bool false))), none⟩])
    .ret)
    .skip))
  (.seq (.seq (.ops [⟨(some 15), .op (.mov (.t 0)), none⟩,
    ⟨(some 16), .op (.len .sl (.t 15)), none⟩,
    ⟨(some 17), .op (.mov (.c (.int .i64 0))), none⟩])
  (.block 0
    (.loop C34L0)))
  (.seq (.ops [⟨(some 6), .op (.mov (.c (.bool true))), none⟩])
  .ret)))), [.tmp 6]⟩
-- swath/ir.Same$1$1
def C35 : IFn := ⟨45, (.seq (.ops [⟨(some 2), .op (.box (.t 0)), none⟩,
    ⟨(some 3), .op (.box (.t 1)), none⟩,
    ⟨(some 4), .op (.mov (.c (.bool false))), none⟩])
  (.seq (.ops [⟨(some 5), .op (.faddr 0 (.t 2)), none⟩,
    ⟨(some 6), .op (.load none (.t 5)), none⟩,
    ⟨(some 7), .op (.faddr 0 (.t 3)), none⟩,
    ⟨(some 8), .op (.load none (.t 7)), none⟩,
    ⟨(some 9), .op (.bin .eql (.t 6) (.t 8)), none⟩,
    ⟨(some 10), .op (.mov (.t 9)), none⟩,
    ⟨(some 11), .op (.faddr 1 (.t 2)), (some (10, true))⟩,
    ⟨(some 12), .op (.load none (.t 11)), (some (10, true))⟩,
    ⟨(some 13), .op (.faddr 1 (.t 3)), (some (10, true))⟩,
    ⟨(some 14), .op (.load none (.t 13)), (some (10, true))⟩,
    ⟨(some 15), .op (.bin .eql (.t 12) (.t 14)), (some (10, true))⟩,
    ⟨(some 16), .op (.pick (.t 10) (.t 15) (.c (.bool false))), none⟩,
    ⟨(some 17), .op (.mov (.t 16)), none⟩,
    ⟨(some 18), .op (.faddr 2 (.t 2)), (some (17, true))⟩,
    ⟨(some 19), .op (.load none (.t 18)), (some (17, true))⟩,
    ⟨(some 20), .op (.faddr 2 (.t 3)), (some (17, true))⟩,
    ⟨(some 21), .op (.load none (.t 20)), (some (17, true))⟩,
    ⟨(some 22), .op (.bin .eql (.t 19) (.t 21)), (some (17, true))⟩,
    ⟨(some 23), .op (.pick (.t 17) (.t 22) (.c (.bool false))), none⟩,
    ⟨(some 24), .op (.mov (.t 23)), none⟩,
    ⟨(some 25), .op (.faddr 3 (.t 2)), (some (24, true))⟩,
    ⟨(some 26), .op (.load none (.t 25)), (some (24, true))⟩,
    ⟨(some 27), .op (.faddr 3 (.t 3)), (some (24, true))⟩,
    ⟨(some 28), .op (.load none (.t 27)), (some (24, true))⟩,
    ⟨(some 29), .op (.bin .eql (.t 26) (.t 28)), (some (24, true))⟩,
    ⟨(some 30), .op (.pick (.t 24) (.t 29) (.c (.bool false))), none⟩,
    ⟨(some 31), .op (.mov (.t 30)), none⟩,
    ⟨(some 32), .op (.faddr 4 (.t 2)), (some (31, true))⟩,
    ⟨(some 33), .op (.load none (.t 32)), (some (31, true))⟩,
    ⟨(some 34), .op (.faddr 4 (.t 3)), (some (31, true))⟩,
    ⟨(some 35), .op (.load none (.t 34)), (some (31, true))⟩,
    ⟨(some 36), .op (.bin .eql (.t 33) (.t 35)), (some (31, true))⟩,
    ⟨(some 37), .op (.pick (.t 31) (.t 36) (.c (.bool false))), none⟩,
    ⟨(some 38), .op (.mov (.t 37)), none⟩,
    ⟨(some 39), .op (.faddr 5 (.t 2)), (some (38, true))⟩,
    ⟨(some 40), .op (.load none (.t 39)), (some (38, true))⟩,
    ⟨(some 41), .op (.faddr 5 (.t 3)), (some (38, true))⟩,
    ⟨(some 42), .op (.load none (.t 41)), (some (38, true))⟩,
    ⟨(some 43), .call 36 [(.t 40), (.t 42)], (some (38, true))⟩,
    ⟨(some 44), .op (.pick (.t 38) (.t 43) (.c (.bool false))), none⟩,
    ⟨(some 4), .op (.mov (.t 44)), none⟩])
  .ret)), [.tmp 4]⟩
-- slices.Equal[[]int,int]
def C36L0 : IC :=
  (.seq (.ops [⟨(some 14), .op (.bin .lss (.t 13) (.t 12)), none⟩])
  (.seq (.cond (.t 14)
    .skip
    (.exit 0))
  (.seq (.block 1
    (.seq (.ops [⟨(some 15), .op (.mov (.t 13)), none⟩,
      ⟨(some 5), .op (.mov (.t 15)), none⟩])
    (.seq (.draw [⟨(some 16), .op (.mov (.t 0)), none⟩,
      ⟨(some 17), .op (.mov (.t 5)), none⟩,
      ⟨(some 18), .op (.iaddr (.sl 1) (.t 16) (.t 17)), none⟩,
      ⟨(some 19), .op (.load none (.t 18)), none⟩,
      ⟨(some 20), .op (.mov (.t 1)), none⟩,
      ⟨(some 21), .op (.mov (.t 5)), none⟩,
      ⟨(some 22), .op (.iaddr (.sl 1) (.t 20) (.t 21)), none⟩,
      ⟨(some 23), .op (.load none (.t 22)), none⟩,
      ⟨(some 24), .op (.bin .neq (.t 19) (.t 23)), none⟩]
      [[], [], [1, 0], [2, 1, 0], [], [], [5, 4], [6, 5, 4], [7, 6, 5, 4, 3, 2, 1, 0]])
    (.cond (.t 24)
      (.seq (.ops [⟨(some 4), .op (.mov (.c (.bool false))), none⟩])
      .ret)
      .skip))))
  (.ops [⟨(some 25), .op (.bin .add (.t 13) (.c (.int .i64 1))), none⟩,
    ⟨(some 13), .op (.mov (.t 25)), none⟩]))))
def C36 : IFn := ⟨26, (.seq (.ops [⟨(some 4), .op (.mov (.c (.bool false))), none⟩])
  (.seq (.seq (.ops [⟨(some 6), .op (.mov (.t 0)), none⟩,
    ⟨(some 7), .op (.len .sl (.t 6)), none⟩,
    ⟨(some 8), .op (.mov (.t 1)), none⟩,
    ⟨(some 9), .op (.len .sl (.t 8)), none⟩,
    ⟨(some 10), .op (.bin .neq (.t 7) (.t 9)), none⟩])
  (.cond (.t 10)
    (.seq (.ops [⟨(some 4), .op (.mov (.c (.bool false))), none⟩])
    .ret)
    .skip))
  (.seq (.seq (.ops [⟨(some 11), .op (.mov (.t 0)), none⟩,
    ⟨(some 12), .op (.len .sl (.t 11)), none⟩,
    ⟨(some 13), .op (.mov (.c (.int .i64 0))), none⟩])
  (.block 0
    (.loop C36L0)))
  (.seq (.ops [⟨(some 4), .op (.mov (.c (.bool true))), none⟩])
  .ret)))), [.tmp 4]⟩
-- swath/swathref10.ints
def C37L0 : IC :=
  (.seq (.ops [⟨(some 14), .op (.bin .lss (.t 13) (.t 12)), none⟩])
  (.seq (.cond (.t 14)
    .skip
    (.exit 0))
  (.seq (.block 1
    (.seq (.ops [⟨(some 15), .op (.mov (.t 13)), none⟩,
      ⟨(some 5), .op (.mov (.t 15)), none⟩])
    (.seq (.draw [⟨(some 16), .op (.mov (.t 0)), none⟩,
      ⟨(some 17), .op (.mov (.t 5)), none⟩,
      ⟨(some 18), .op (.iaddr (.sl 1) (.t 16) (.t 17)), none⟩,
      ⟨(some 19), .op (.load none (.t 18)), none⟩,
      ⟨(some 20), .op (.mov (.t 1)), none⟩,
      ⟨(some 21), .op (.mov (.t 5)), none⟩,
      ⟨(some 22), .op (.iaddr (.sl 1) (.t 20) (.t 21)), none⟩,
      ⟨(some 23), .op (.load none (.t 22)), none⟩,
      ⟨(some 24), .op (.bin .neq (.t 19) (.t 23)), none⟩]
      [[], [], [1, 0], [2, 1, 0], [], [], [5, 4], [6, 5, 4], [7, 6, 5, 4, 3, 2, 1, 0]])
    (.cond (.t 24)
      (.seq (.ops [⟨(some 4), .op (.mov (.c (.bool false))), none⟩])
      .ret)
      .skip))))
  (.ops [⟨(some 25), .op (.bin .add (.t 13) (.c (.int .i64 1))), none⟩,
    ⟨(some 13), .op (.mov (.t 25)), none⟩]))))
def C37 : IFn := ⟨26, (.seq (.ops [⟨(some 4), .op (.mov (.c (.bool false))), none⟩])
  (.seq (.seq (.ops [⟨(some 6), .op (.mov (.t 0)), none⟩,
    ⟨(some 7), .op (.len .sl (.t 6)), none⟩,
    ⟨(some 8), .op (.mov (.t 1)), none⟩,
    ⟨(some 9), .op (.len .sl (.t 8)), none⟩,
    ⟨(some 10), .op (.bin .neq (.t 7) (.t 9)), none⟩])
  (.cond (.t 10)
    (.seq (.ops [⟨(some 4), .op (.mov (.c (.bool false))), none⟩])
    .ret)
    .skip))
  (.seq (.seq (.ops [⟨(some 11), .op (.mov (.t 0)), none⟩,
    ⟨(some 12), .op (.len .sl (.t 11)), none⟩,
    ⟨(some 13), .op (.mov (.c (.int .i64 0))), none⟩])
  (.block 0
    (.loop C37L0)))
  (.seq (.ops [⟨(some 4), .op (.mov (.c (.bool true))), none⟩])
  .ret)))), [.tmp 4]⟩

end Go.Idl
end

section
/- Functions as ideal code. (Printed by wip/tools/Print.lean) -/
namespace Go.Idl
-- swath/swathlaw10.IrNext
def C5 : IFn := ⟨19, (.seq (.ops [⟨(some 2), .op (.box (.t 0)), none⟩,
    ⟨(some 4), .op (.mov (.c (.bool false))), none⟩])
  (.seq (.seq (.ops [⟨(some 5), .call 7 [], none⟩,
    ⟨(some 6), .op (.un .not (.t 5)), none⟩])
  (.cond (.t 6)
    (.seq (.ops [⟨(some 4), .op (.mov (.c (.bool false))), none⟩])
    .ret)
    .skip))
  (.seq (.seq (.ops [⟨(some 7), .op (.load (some 4) (.t 2)), none⟩,
    ⟨(some 8), .op (.lit 4 1 [(.string ⟨#[]⟩), (.int .i64 0), (.int .i64 0), (.slice none 0 0)] [(0, 4, (.t 7))]), none⟩,
    ⟨(some 9), .op (.build [(.slice none 0 0), (.int .i64 0), (.int .i64 0)] [(0, 1, (.t 8))]), none⟩,
    ⟨(some 10), .call 8 [(.t 9)], none⟩,
    ⟨(some 11), .op (.un .not (.t 10)), none⟩])
  (.cond (.t 11)
    (.seq (.ops [⟨(some 4), .op (.mov (.c (.bool true))), none⟩])
    .ret)
    .skip))
  (.seq (.draw [⟨(some 12), .op (.load (some 4) (.t 2)), none⟩,
    ⟨(some 13), .op (.mov (.t 1)), none⟩,
    ⟨(some 14), .call 16 [(.t 12), (.t 13)], none⟩,
    ⟨(some 15), .op (.load (some 4) (.t 2)), none⟩,
    ⟨(some 16), .op (.mov (.t 1)), none⟩,
    ⟨(some 17), .call 17 [(.t 15), (.t 16)], none⟩,
    ⟨(some 18), .call 11 [(.t 14), (.t 17)], none⟩,
    ⟨(some 4), .op (.mov (.t 18)), none⟩]
    [[], [], [1, 0], [], [], [2, 1, 0, 4, 3], [5, 2, 1, 0, 4, 3], [6, 5, 2, 1, 0, 4, 3]])
  .ret)))), [.tmp 4]⟩

-- swath/ir.Next
def C16 : IFn := ⟨56, (.seq (.ops [⟨(some 2), .op (.box (.t 0)), none⟩,
    ⟨(some 4), .op (.mov (.c (.slice none 0 0))), none⟩])
  (.seq (.seq (.ops [⟨(some 8), .op (.mov (.t 1)), none⟩,
    ⟨(some 9), .op (.bin .lss (.t 8) (.c (.int .i64 0))), none⟩,
    ⟨(some 10), .op (.mov (.t 9)), none⟩,
    ⟨(some 11), .op (.mov (.t 1)), (some (10, false))⟩,
    ⟨(some 12), .op (.faddr 3 (.t 2)), (some (10, false))⟩,
    ⟨(some 13), .op (.load none (.t 12)), (some (10, false))⟩,
    ⟨(some 14), .op (.len .sl (.t 13)), (some (10, false))⟩,
    ⟨(some 15), .op (.bin .geq (.t 11) (.t 14)), (some (10, false))⟩,
    ⟨(some 16), .op (.pick (.t 10) (.c (.bool true)) (.t 15)), none⟩])
  (.cond (.t 16)
    (.seq (.ops [⟨(some 4), .op (.mov (.c (.slice none 0 0))), none⟩])
    .ret)
    .skip))
  (.seq (.ops [⟨(some 5), .op (.alloc [(.slice none 0 0)]), none⟩])
  (.seq (.ops [⟨(some 17), .op (.fn 29 [] [(.t 2), (.t 5)]), none⟩,
    ⟨(some 6), .op (.mov (.t 17)), none⟩])
  (.seq (.ops [⟨(some 18), .op (.faddr 3 (.t 2)), none⟩,
    ⟨(some 19), .op (.load none (.t 18)), none⟩,
    ⟨(some 20), .op (.mov (.t 1)), none⟩,
    ⟨(some 21), .op (.iaddr (.sl 6) (.t 19) (.t 20)), none⟩,
    ⟨(some 22), .op (.load (some 6) (.t 21)), none⟩,
    ⟨(some 7), .op (.alloc [(.int .i64 0), (.int .i64 0), (.int .i64 0), (.int .i64 0), (.int .i64 0), (.slice none 0 0)]), none⟩,
    ⟨none, .op (.store 6 (.t 7) (.t 22)), none⟩])
  (.seq (.seq (.ops [⟨(some 23), .op (.faddr 0 (.t 7)), none⟩,
    ⟨(some 24), .op (.load none (.t 23)), none⟩,
    ⟨(some 25), .op (.bin .eql (.t 24) (.c (.int .i64 21))), none⟩,
    ⟨(some 26), .op (.mov (.t 25)), none⟩,
    ⟨(some 27), .op (.faddr 0 (.t 7)), (some (26, false))⟩,
    ⟨(some 28), .op (.load none (.t 27)), (some (26, false))⟩,
    ⟨(some 29), .op (.bin .eql (.t 28) (.c (.int .i64 22))), (some (26, false))⟩,
    ⟨(some 30), .op (.pick (.t 26) (.c (.bool true)) (.t 29)), none⟩])
  (.cond (.t 30)
    (.ops [⟨(some 31), .op (.mov (.t 6)), none⟩,
      ⟨(some 32), .op (.faddr 4 (.t 7)), none⟩,
      ⟨(some 33), .op (.load none (.t 32)), none⟩,
      ⟨(some 34), .callv (.t 31) [(.t 33)], none⟩])
    .skip))
  (.seq (.seq (.ops [⟨(some 35), .op (.faddr 0 (.t 7)), none⟩,
    ⟨(some 36), .op (.load none (.t 35)), none⟩,
    ⟨(some 37), .op (.bin .neq (.t 36) (.c (.int .i64 21))), none⟩,
    ⟨(some 38), .op (.mov (.t 37)), none⟩,
    ⟨(some 39), .op (.faddr 0 (.t 7)), (some (38, true))⟩,
    ⟨(some 40), .op (.load none (.t 39)), (some (38, true))⟩,
    ⟨(some 41), .op (.bin .neq (.t 40) (.c (.int .i64 24))), (some (38, true))⟩,
    ⟨(some 42), .op (.pick (.t 38) (.t 41) (.c (.bool false))), none⟩,
    ⟨(some 43), .op (.mov (.t 42)), none⟩,
    ⟨(some 44), .op (.faddr 0 (.t 7)), (some (43, true))⟩,
    ⟨(some 45), .op (.load none (.t 44)), (some (43, true))⟩,
    ⟨(some 46), .op (.bin .neq (.t 45) (.c (.int .i64 25))), (some (43, true))⟩,
    ⟨(some 47), .op (.pick (.t 43) (.t 46) (.c (.bool false))), none⟩])
  (.cond (.t 47)
    (.ops [⟨(some 48), .op (.mov (.t 6)), none⟩,
      ⟨(some 49), .op (.mov (.t 1)), none⟩,
      ⟨(some 50), .op (.bin .add (.t 49) (.c (.int .i64 1))), none⟩,
      ⟨(some 51), .callv (.t 48) [(.t 50)], none⟩])
    .skip))
  (.seq (.ops [⟨(some 52), .op (.load none (.t 5)), none⟩,
    ⟨(some 53), .call 30 [(.t 52)], none⟩])
  (.seq (.ops [⟨(some 54), .op (.load none (.t 5)), none⟩,
    ⟨(some 55), .call 31 [(.t 54)], none⟩,
    ⟨(some 4), .op (.mov (.t 55)), none⟩])
  .ret))))))))), [.tmp 4]⟩

-- swath/swathref10.Next
def C17L0 : IC :=
  (.seq (.ops [⟨(some 63), .op (.bin .lss (.t 62) (.t 61)), none⟩])
  (.seq (.cond (.t 63)
    .skip
    (.exit 1))
  (.seq (.block 2
    (.seq (.ops [⟨(some 64), .op (.iaddr (.sl 1) (.t 60) (.t 62)), none⟩,
      ⟨(some 65), .op (.load none (.t 64)), none⟩,
      ⟨(some 9), .op (.mov (.t 65)), none⟩])
    (.seq (.ops [⟨(some 66), .op (.mov (.t 9)), none⟩,
      ⟨(some 67), .op (.bin .geq (.t 66) (.c (.int .i64 0))), none⟩,
      ⟨(some 68), .op (.mov (.t 67)), none⟩,
      ⟨(some 69), .op (.mov (.t 9)), (some (68, true))⟩,
      ⟨(some 70), .op (.faddr 3 (.t 2)), (some (68, true))⟩,
      ⟨(some 71), .op (.load none (.t 70)), (some (68, true))⟩,
      ⟨(some 72), .op (.len .sl (.t 71)), (some (68, true))⟩,
      ⟨(some 73), .op (.bin .lss (.t 69) (.t 72)), (some (68, true))⟩,
      ⟨(some 74), .op (.pick (.t 68) (.t 73) (.c (.bool false))), none⟩])
    (.cond (.t 74)
      (.ops [⟨(some 75), .op (.mov (.t 7)), none⟩,
        ⟨(some 76), .op (.mov (.t 9)), none⟩,
        ⟨(some 77), .op (.lit 1 1 [(.int .i64 0)] [(0, 1, (.t 76))]), none⟩,
        ⟨(some 78), .op (.append 1 8 (.t 75) (.t 77)), none⟩,
        ⟨(some 7), .op (.mov (.t 78)), none⟩])
      .skip))))
  (.ops [⟨(some 79), .op (.bin .add (.t 62) (.c (.int .i64 1))), none⟩,
    ⟨(some 62), .op (.mov (.t 79)), none⟩]))))

def C17 : IFn := ⟨81, (.seq (.ops [⟨(some 2), .op (.box (.t 0)), none⟩,
    ⟨(some 4), .op (.mov (.c (.slice none 0 0))), none⟩])
  (.seq (.seq (.ops [⟨(some 10), .op (.mov (.t 1)), none⟩,
    ⟨(some 11), .op (.bin .lss (.t 10) (.c (.int .i64 0))), none⟩,
    ⟨(some 12), .op (.mov (.t 11)), none⟩,
    ⟨(some 13), .op (.mov (.t 1)), (some (12, false))⟩,
    ⟨(some 14), .op (.faddr 3 (.t 2)), (some (12, false))⟩,
    ⟨(some 15), .op (.load none (.t 14)), (some (12, false))⟩,
    ⟨(some 16), .op (.len .sl (.t 15)), (some (12, false))⟩,
    ⟨(some 17), .op (.bin .geq (.t 13) (.t 16)), (some (12, false))⟩,
    ⟨(some 18), .op (.pick (.t 12) (.c (.bool true)) (.t 17)), none⟩])
  (.cond (.t 18)
    (.seq (.ops [⟨(some 4), .op (.mov (.c (.slice none 0 0))), none⟩])
    .ret)
    .skip))
  (.seq (.ops [⟨(some 19), .op (.faddr 3 (.t 2)), none⟩,
    ⟨(some 20), .op (.load none (.t 19)), none⟩,
    ⟨(some 21), .op (.mov (.t 1)), none⟩,
    ⟨(some 22), .op (.iaddr (.sl 6) (.t 20) (.t 21)), none⟩,
    ⟨(some 23), .op (.load (some 6) (.t 22)), none⟩,
    ⟨(some 5), .op (.alloc [(.int .i64 0), (.int .i64 0), (.int .i64 0), (.int .i64 0), (.int .i64 0), (.slice none 0 0)]), none⟩,
    ⟨none, .op (.store 6 (.t 5) (.t 23)), none⟩])
  (.seq (.ops [⟨(some 6), .op (.mov (.c (.slice none 0 0))), none⟩])
  (.seq (.seq (.ops [⟨(some 24), .op (.faddr 0 (.t 5)), none⟩,
    ⟨(some 25), .op (.load none (.t 24)), none⟩])
  (.block 0
    (.seq (.ops [⟨(some 30), .op (.bin .eql (.t 25) (.c (.int .i64 21))), none⟩,
      ⟨(some 29), .op (.mov (.t 30)), none⟩])
    (.cond (.t 29)
      (.ops [⟨(some 31), .op (.faddr 4 (.t 5)), none⟩,
        ⟨(some 32), .op (.load none (.t 31)), none⟩,
        ⟨(some 33), .op (.lit 1 1 [(.int .i64 0)] [(0, 1, (.t 32))]), none⟩,
        ⟨(some 6), .op (.mov (.t 33)), none⟩])
      (.seq (.ops [⟨(some 35), .op (.bin .eql (.t 25) (.c (.int .i64 22))), none⟩,
        ⟨(some 34), .op (.mov (.t 35)), none⟩])
      (.cond (.t 34)
        (.seq (.ops [⟨(some 36), .op (.mov (.t 1)), none⟩,
          ⟨(some 37), .op (.bin .add (.t 36) (.c (.int .i64 1))), none⟩,
          ⟨(some 38), .op (.faddr 4 (.t 5)), none⟩,
          ⟨(some 39), .op (.load none (.t 38)), none⟩,
          ⟨(some 40), .op (.lit 1 2 [(.int .i64 0), (.int .i64 0)] [(0, 1, (.t 37)), (1, 1, (.t 39))]), none⟩,
          ⟨(some 6), .op (.mov (.t 40)), none⟩])
        (.seq (.seq (.ops [⟨(some 41), .op (.faddr 4 (.t 5)), none⟩,
          ⟨(some 42), .op (.load none (.t 41)), none⟩,
          ⟨(some 43), .op (.mov (.t 1)), none⟩,
          ⟨(some 44), .op (.bin .leq (.t 42) (.t 43)), none⟩])
        (.cond (.t 44)
          (.ops [⟨(some 45), .op (.faddr 4 (.t 5)), none⟩,
            ⟨(some 46), .op (.load none (.t 45)), none⟩,
            ⟨(some 47), .op (.mov (.t 1)), none⟩,
            ⟨(some 48), .op (.bin .add (.t 47) (.c (.int .i64 1))), none⟩,
            ⟨(some 49), .op (.lit 1 2 [(.int .i64 0), (.int .i64 0)] [(0, 1, (.t 46)), (1, 1, (.t 48))]), none⟩,
            ⟨(some 6), .op (.mov (.t 49)), none⟩])
          .skip))
        (.seq (.ops [⟨(some 50), .op (.faddr 4 (.t 5)), none⟩,
          ⟨(some 51), .op (.load none (.t 50)), none⟩,
          ⟨(some 52), .op (.mov (.t 1)), none⟩,
          ⟨(some 53), .op (.bin .add (.t 52) (.c (.int .i64 1))), none⟩,
          ⟨(some 54), .op (.bin .eql (.t 51) (.t 53)), none⟩])
        (.cond (.t 54)
          (.ops [⟨(some 55), .op (.mov (.t 6)), none⟩,
            ⟨(some 56), .op (.sub (.sl 1) (.t 55) none (some (.c (.int .i64 1))) none), none⟩,
            ⟨(some 6), .op (.mov (.t 56)), none⟩])
          .skip))))
        (.seq (.seq (.ops [⟨(some 58), .op (.bin .eql (.t 25) (.c (.int .i64 24))), none⟩,
          ⟨(some 57), .op (.mov (.t 58)), none⟩])
        (.cond (.t 57)
          .skip
          (.ops [⟨(some 59), .op (.bin .eql (.t 25) (.c (.int .i64 25))), none⟩,
            ⟨(some 57), .op (.mov (.t 59)), none⟩])))
        (.cond (.t 57)
          .skip
          (.ops [⟨(some 26), .op (.mov (.t 1)), none⟩,
            ⟨(some 27), .op (.bin .add (.t 26) (.c (.int .i64 1))), none⟩,
            ⟨(some 28), .op (.lit 1 1 [(.int .i64 0)] [(0, 1, (.t 27))]), none⟩,
            ⟨(some 6), .op (.mov (.t 28)), none⟩])))))))))
  (.seq (.ops [⟨(some 7), .op (.mov (.c (.slice none 0 0))), none⟩])
  (.seq (.seq (.ops [⟨(some 60), .op (.mov (.t 6)), none⟩,
    ⟨(some 61), .op (.len .sl (.t 60)), none⟩,
    ⟨(some 62), .op (.mov (.c (.int .i64 0))), none⟩])
  (.block 1
    (.loop C17L0)))
  (.seq (.ops [⟨(some 80), .op (.mov (.t 7)), none⟩,
    ⟨(some 4), .op (.mov (.t 80)), none⟩])
  .ret)))))))), [.tmp 4]⟩

-- swath/ir.Next$1
def C29 : IFn := ⟨17, (.seq (.ops [⟨(some 4), .op (.mov (.t 0)), none⟩,
    ⟨(some 5), .op (.bin .geq (.t 4) (.c (.int .i64 0))), none⟩,
    ⟨(some 6), .op (.mov (.t 5)), none⟩,
    ⟨(some 7), .op (.mov (.t 0)), (some (6, true))⟩,
    ⟨(some 8), .op (.faddr 3 (.t 1)), (some (6, true))⟩,
    ⟨(some 9), .op (.load none (.t 8)), (some (6, true))⟩,
    ⟨(some 10), .op (.len .sl (.t 9)), (some (6, true))⟩,
    ⟨(some 11), .op (.bin .lss (.t 7) (.t 10)), (some (6, true))⟩,
    ⟨(some 12), .op (.pick (.t 6) (.t 11) (.c (.bool false))), none⟩])
  (.cond (.t 12)
    (.ops [⟨(some 13), .op (.load none (.t 2)), none⟩,
      ⟨(some 14), .op (.mov (.t 0)), none⟩,
      ⟨(some 15), .op (.lit 1 1 [(.int .i64 0)] [(0, 1, (.t 14))]), none⟩,
      ⟨(some 16), .op (.append 1 8 (.t 13) (.t 15)), none⟩,
      ⟨none, .op (.store 1 (.t 2) (.t 16)), none⟩])
    .skip)), []⟩

-- slices.Sort[[]int,int]
def C30 : IFn := ⟨11, (.seq (.ops [⟨(some 3), .op (.mov (.t 0)), none⟩,
    ⟨(some 4), .op (.len .sl (.t 3)), none⟩,
    ⟨(some 2), .op (.mov (.t 4)), none⟩])
  (.ops [⟨(some 5), .op (.mov (.t 0)), none⟩,
    ⟨(some 6), .op (.mov (.t 2)), none⟩,
    ⟨(some 7), .op (.mov (.t 2)), none⟩,
    ⟨(some 8), .op (.conv .u64 (.t 7)), none⟩,
    ⟨(some 9), .call 44 [(.t 8)], none⟩,
    ⟨(some 10), .call 43 [(.t 5), (.c (.int .i64 0)), (.t 6), (.t 9)], none⟩])), []⟩

-- slices.Compact[[]int,int]
def C31L0 : IC :=
  (.seq (.seq (.ops [⟨(some 29), .op (.mov (.t 5)), none⟩,
    ⟨(some 30), .op (.mov (.t 4)), none⟩,
    ⟨(some 31), .op (.len .sl (.t 30)), none⟩,
    ⟨(some 32), .op (.bin .lss (.t 29) (.t 31)), none⟩])
  (.cond (.t 32)
    .skip
    (.exit 2)))
  (.seq (.block 3
    (.seq (.draw [⟨(some 35), .op (.mov (.t 4)), none⟩,
      ⟨(some 36), .op (.mov (.t 5)), none⟩,
      ⟨(some 37), .op (.iaddr (.sl 1) (.t 35) (.t 36)), none⟩,
      ⟨(some 38), .op (.load none (.t 37)), none⟩,
      ⟨(some 39), .op (.mov (.t 4)), none⟩,
      ⟨(some 40), .op (.mov (.t 5)), none⟩,
      ⟨(some 41), .op (.bin .sub (.t 40) (.c (.int .i64 1))), none⟩,
      ⟨(some 42), .op (.iaddr (.sl 1) (.t 39) (.t 41)), none⟩,
      ⟨(some 43), .op (.load none (.t 42)), none⟩,
      ⟨(some 44), .op (.bin .neq (.t 38) (.t 43)), none⟩]
      [[], [], [1, 0], [2, 1, 0], [], [], [5], [6, 5, 4], [7, 6, 5, 4], [8, 7, 6, 5, 4, 3, 2, 1, 0]])
    (.cond (.t 44)
      (.seq (.ops [⟨(some 45), .op (.mov (.t 0)), none⟩,
        ⟨(some 46), .op (.mov (.t 3)), none⟩,
        ⟨(some 47), .op (.mov (.t 4)), none⟩,
        ⟨(some 48), .op (.mov (.t 5)), none⟩,
        ⟨(some 49), .op (.iaddr (.sl 1) (.t 47) (.t 48)), none⟩,
        ⟨(some 50), .op (.load none (.t 49)), none⟩,
        ⟨(some 51), .op (.iaddr (.sl 1) (.t 45) (.t 46)), none⟩,
        ⟨none, .op (.store 1 (.t 51) (.t 50)), none⟩])
      (.ops [⟨(some 52), .op (.mov (.t 3)), none⟩,
        ⟨(some 53), .op (.bin .add (.t 52) (.c (.int .i64 1))), none⟩,
        ⟨(some 3), .op (.mov (.t 53)), none⟩]))
      .skip)))
  (.ops [⟨(some 33), .op (.mov (.t 5)), none⟩,
    ⟨(some 34), .op (.bin .add (.t 33) (.c (.int .i64 1))), none⟩,
    ⟨(some 5), .op (.mov (.t 34)), none⟩])))

def C31L1 : IC :=
  (.seq (.seq (.ops [⟨(some 10), .op (.mov (.t 3)), none⟩,
    ⟨(some 11), .op (.mov (.t 0)), none⟩,
    ⟨(some 12), .op (.len .sl (.t 11)), none⟩,
    ⟨(some 13), .op (.bin .lss (.t 10) (.t 12)), none⟩])
  (.cond (.t 13)
    .skip
    (.exit 0)))
  (.seq (.block 1
    (.seq (.draw [⟨(some 16), .op (.mov (.t 0)), none⟩,
      ⟨(some 17), .op (.mov (.t 3)), none⟩,
      ⟨(some 18), .op (.iaddr (.sl 1) (.t 16) (.t 17)), none⟩,
      ⟨(some 19), .op (.load none (.t 18)), none⟩,
      ⟨(some 20), .op (.mov (.t 0)), none⟩,
      ⟨(some 21), .op (.mov (.t 3)), none⟩,
      ⟨(some 22), .op (.bin .sub (.t 21) (.c (.int .i64 1))), none⟩,
      ⟨(some 23), .op (.iaddr (.sl 1) (.t 20) (.t 22)), none⟩,
      ⟨(some 24), .op (.load none (.t 23)), none⟩,
      ⟨(some 25), .op (.bin .eql (.t 19) (.t 24)), none⟩]
      [[], [], [1, 0], [2, 1, 0], [], [], [5], [6, 5, 4], [7, 6, 5, 4], [8, 7, 6, 5, 4, 3, 2, 1, 0]])
    (.cond (.t 25)
      (.seq (.ops [⟨(some 26), .op (.mov (.t 0)), none⟩,
        ⟨(some 27), .op (.mov (.t 3)), none⟩,
        ⟨(some 28), .op (.sub (.sl 1) (.t 26) (some (.t 27)) none none), none⟩,
        ⟨(some 4), .op (.mov (.t 28)), none⟩])
      (.seq (.seq (.ops [⟨(some 5), .op (.mov (.c (.int .i64 1))), none⟩])
      (.block 2
        (.loop C31L0)))
      (.seq (.ops [⟨(some 54), .op (.mov (.t 0)), none⟩,
        ⟨(some 55), .op (.mov (.t 3)), none⟩,
        ⟨(some 56), .op (.sub (.sl 1) (.t 54) (some (.t 55)) none none), none⟩,
        ⟨none, .op (.clear [(.int .i64 0)] (.t 56)), none⟩])
      (.seq (.ops [⟨(some 57), .op (.mov (.t 0)), none⟩,
        ⟨(some 58), .op (.mov (.t 3)), none⟩,
        ⟨(some 59), .op (.sub (.sl 1) (.t 57) none (some (.t 58)) none), none⟩,
        ⟨(some 2), .op (.mov (.t 59)), none⟩])
      .ret))))
      .skip)))
  (.ops [⟨(some 14), .op (.mov (.t 3)), none⟩,
    ⟨(some 15), .op (.bin .add (.t 14) (.c (.int .i64 1))), none⟩,
    ⟨(some 3), .op (.mov (.t 15)), none⟩])))

def C31 : IFn := ⟨61, (.seq (.ops [⟨(some 2), .op (.mov (.c (.slice none 0 0))), none⟩])
  (.seq (.seq (.ops [⟨(some 6), .op (.mov (.t 0)), none⟩,
    ⟨(some 7), .op (.len .sl (.t 6)), none⟩,
    ⟨(some 8), .op (.bin .lss (.t 7) (.c (.int .i64 2))), none⟩])
  (.cond (.t 8)
    (.seq (.ops [⟨(some 9), .op (.mov (.t 0)), none⟩,
      ⟨(some 2), .op (.mov (.t 9)), none⟩])
    .ret)
    .skip))
  (.seq (.seq (.ops [⟨(some 3), .op (.mov (.c (.int .i64 1))), none⟩])
  (.block 0
    (.loop C31L1)))
  (.seq (.ops [⟨(some 60), .op (.mov (.t 0)), none⟩,
    ⟨(some 2), .op (.mov (.t 60)), none⟩])
  .ret)))), [.tmp 2]⟩

-- slices.pdqsortOrdered[int]
def C43L0 : IC :=
  (.block 1
    (.seq (.ops [⟨(some 19), .op (.mov (.t 2)), none⟩,
      ⟨(some 20), .op (.mov (.t 1)), none⟩,
      ⟨(some 21), .op (.bin .sub (.t 19) (.t 20)), none⟩,
      ⟨(some 10), .op (.mov (.t 21)), none⟩])
    (.seq (.seq (.ops [⟨(some 22), .op (.mov (.t 10)), none⟩,
      ⟨(some 23), .op (.bin .leq (.t 22) (.c (.int .i64 12))), none⟩])
    (.cond (.t 23)
      (.seq (.ops [⟨(some 24), .op (.mov (.t 0)), none⟩,
        ⟨(some 25), .op (.mov (.t 1)), none⟩,
        ⟨(some 26), .op (.mov (.t 2)), none⟩,
        ⟨(some 27), .call 48 [(.t 24), (.t 25), (.t 26)], none⟩])
      .ret)
      .skip))
    (.seq (.seq (.ops [⟨(some 28), .op (.mov (.t 3)), none⟩,
      ⟨(some 29), .op (.bin .eql (.t 28) (.c (.int .i64 0))), none⟩])
    (.cond (.t 29)
      (.seq (.ops [⟨(some 30), .op (.mov (.t 0)), none⟩,
        ⟨(some 31), .op (.mov (.t 1)), none⟩,
        ⟨(some 32), .op (.mov (.t 2)), none⟩,
        ⟨(some 33), .call 49 [(.t 30), (.t 31), (.t 32)], none⟩])
      .ret)
      .skip))
    (.seq (.seq (.ops [⟨(some 34), .op (.mov (.t 8)), none⟩,
      ⟨(some 35), .op (.un .not (.t 34)), none⟩])
    (.cond (.t 35)
      (.seq (.ops [⟨(some 36), .op (.mov (.t 0)), none⟩,
        ⟨(some 37), .op (.mov (.t 1)), none⟩,
        ⟨(some 38), .op (.mov (.t 2)), none⟩,
        ⟨(some 39), .call 50 [(.t 36), (.t 37), (.t 38)], none⟩])
      (.ops [⟨(some 40), .op (.mov (.t 3)), none⟩,
        ⟨(some 41), .op (.bin .sub (.t 40) (.c (.int .i64 1))), none⟩,
        ⟨(some 3), .op (.mov (.t 41)), none⟩]))
      .skip))
    (.seq (.ops [⟨(some 43), .op (.mov (.t 0)), none⟩,
      ⟨(some 44), .op (.mov (.t 1)), none⟩,
      ⟨(some 45), .op (.mov (.t 2)), none⟩,
      ⟨(some 46), .call 51 [(.t 43), (.t 44), (.t 45)], none⟩,
      ⟨(some 42), .op (.mov (.t 46)), none⟩,
      ⟨(some 47), .op (.extract (.t 42) 0), none⟩,
      ⟨(some 48), .op (.extract (.t 42) 1), none⟩,
      ⟨(some 11), .op (.mov (.t 47)), none⟩,
      ⟨(some 12), .op (.mov (.t 48)), none⟩])
    (.seq (.seq (.ops [⟨(some 49), .op (.mov (.t 12)), none⟩,
      ⟨(some 50), .op (.bin .eql (.t 49) (.c (.int .i64 2))), none⟩])
    (.cond (.t 50)
      (.seq (.ops [⟨(some 51), .op (.mov (.t 0)), none⟩,
        ⟨(some 52), .op (.mov (.t 1)), none⟩,
        ⟨(some 53), .op (.mov (.t 2)), none⟩,
        ⟨(some 54), .call 52 [(.t 51), (.t 52), (.t 53)], none⟩])
      (.seq (.ops [⟨(some 55), .op (.mov (.t 2)), none⟩,
        ⟨(some 56), .op (.bin .sub (.t 55) (.c (.int .i64 1))), none⟩,
        ⟨(some 57), .op (.mov (.t 11)), none⟩,
        ⟨(some 58), .op (.mov (.t 1)), none⟩,
        ⟨(some 59), .op (.bin .sub (.t 57) (.t 58)), none⟩,
        ⟨(some 60), .op (.bin .sub (.t 56) (.t 59)), none⟩,
        ⟨(some 11), .op (.mov (.t 60)), none⟩])
      (.ops [⟨(some 12), .op (.mov (.c (.int .i64 1))), none⟩])))
      .skip))
    (.seq (.seq (.ops [⟨(some 61), .op (.mov (.t 8)), none⟩,
      ⟨(some 62), .op (.mov (.t 61)), none⟩,
      ⟨(some 63), .op (.mov (.t 9)), (some (62, true))⟩,
      ⟨(some 64), .op (.pick (.t 62) (.t 63) (.c (.bool false))), none⟩,
      ⟨(some 65), .op (.mov (.t 64)), none⟩,
      ⟨(some 66), .op (.mov (.t 12)), (some (65, true))⟩,
      ⟨(some 67), .op (.bin .eql (.t 66) (.c (.int .i64 1))), (some (65, true))⟩,
      ⟨(some 68), .op (.pick (.t 65) (.t 67) (.c (.bool false))), none⟩])
    (.cond (.t 68)
      (.seq (.ops [⟨(some 69), .op (.mov (.t 0)), none⟩,
        ⟨(some 70), .op (.mov (.t 1)), none⟩,
        ⟨(some 71), .op (.mov (.t 2)), none⟩,
        ⟨(some 72), .call 53 [(.t 69), (.t 70), (.t 71)], none⟩])
      (.cond (.t 72)
        .ret
        .skip))
      .skip))
    (.seq (.seq (.draw [⟨(some 73), .op (.mov (.t 1)), none⟩,
      ⟨(some 74), .op (.bin .gtr (.t 73) (.c (.int .i64 0))), none⟩,
      ⟨(some 75), .op (.mov (.t 74)), none⟩,
      ⟨(some 76), .op (.mov (.t 0)), (some (75, true))⟩,
      ⟨(some 77), .op (.mov (.t 1)), (some (75, true))⟩,
      ⟨(some 78), .op (.bin .sub (.t 77) (.c (.int .i64 1))), (some (75, true))⟩,
      ⟨(some 79), .op (.iaddr (.sl 1) (.t 76) (.t 78)), (some (75, true))⟩,
      ⟨(some 80), .op (.load none (.t 79)), (some (75, true))⟩,
      ⟨(some 81), .op (.mov (.t 0)), (some (75, true))⟩,
      ⟨(some 82), .op (.mov (.t 11)), (some (75, true))⟩,
      ⟨(some 83), .op (.iaddr (.sl 1) (.t 81) (.t 82)), (some (75, true))⟩,
      ⟨(some 84), .op (.load none (.t 83)), (some (75, true))⟩,
      ⟨(some 85), .call 54 [(.t 80), (.t 84)], (some (75, true))⟩,
      ⟨(some 86), .op (.un .not (.t 85)), (some (75, true))⟩,
      ⟨(some 87), .op (.pick (.t 75) (.t 86) (.c (.bool false))), none⟩]
      [[], [0], [1, 0], [2, 1, 0], [2, 1, 0], [2, 1, 0, 4], [2, 1, 0, 5, 4, 3], [2, 1, 0, 6, 5, 4, 3], [2, 1, 0], [2, 1, 0], [2, 1, 0, 9, 8], [2, 1, 0, 10, 9, 8], [2, 1, 0, 11, 10, 9, 8, 7, 6, 5, 4, 3], [2, 1, 0, 12, 11, 10, 9, 8, 7, 6, 5, 4, 3], [13, 2, 1, 0, 12, 11, 10, 9, 8, 7, 6, 5, 4, 3]])
    (.cond (.t 87)
      (.seq (.ops [⟨(some 88), .op (.mov (.t 0)), none⟩,
        ⟨(some 89), .op (.mov (.t 1)), none⟩,
        ⟨(some 90), .op (.mov (.t 2)), none⟩,
        ⟨(some 91), .op (.mov (.t 11)), none⟩,
        ⟨(some 92), .call 55 [(.t 88), (.t 89), (.t 90), (.t 91)], none⟩,
        ⟨(some 13), .op (.mov (.t 92)), none⟩])
      (.seq (.ops [⟨(some 93), .op (.mov (.t 13)), none⟩,
        ⟨(some 1), .op (.mov (.t 93)), none⟩])
      (.exit 1)))
      .skip))
    (.seq (.ops [⟨(some 95), .op (.mov (.t 0)), none⟩,
      ⟨(some 96), .op (.mov (.t 1)), none⟩,
      ⟨(some 97), .op (.mov (.t 2)), none⟩,
      ⟨(some 98), .op (.mov (.t 11)), none⟩,
      ⟨(some 99), .call 56 [(.t 95), (.t 96), (.t 97), (.t 98)], none⟩,
      ⟨(some 94), .op (.mov (.t 99)), none⟩,
      ⟨(some 100), .op (.extract (.t 94) 0), none⟩,
      ⟨(some 101), .op (.extract (.t 94) 1), none⟩,
      ⟨(some 14), .op (.mov (.t 100)), none⟩,
      ⟨(some 15), .op (.mov (.t 101)), none⟩])
    (.seq (.ops [⟨(some 102), .op (.mov (.t 15)), none⟩,
      ⟨(some 9), .op (.mov (.t 102)), none⟩])
    (.seq (.ops [⟨(some 103), .op (.mov (.t 14)), none⟩,
      ⟨(some 104), .op (.mov (.t 1)), none⟩,
      ⟨(some 105), .op (.bin .sub (.t 103) (.t 104)), none⟩,
      ⟨(some 106), .op (.mov (.t 2)), none⟩,
      ⟨(some 107), .op (.mov (.t 14)), none⟩,
      ⟨(some 108), .op (.bin .sub (.t 106) (.t 107)), none⟩,
      ⟨(some 16), .op (.mov (.t 105)), none⟩,
      ⟨(some 17), .op (.mov (.t 108)), none⟩])
    (.seq (.ops [⟨(some 109), .op (.mov (.t 10)), none⟩,
      ⟨(some 110), .op (.bin .quo (.t 109) (.c (.int .i64 8))), none⟩,
      ⟨(some 18), .op (.mov (.t 110)), none⟩])
    (.seq (.ops [⟨(some 111), .op (.mov (.t 16)), none⟩,
      ⟨(some 112), .op (.mov (.t 17)), none⟩,
      ⟨(some 113), .op (.bin .lss (.t 111) (.t 112)), none⟩])
    (.cond (.t 113)
      (.seq (.ops [⟨(some 114), .op (.mov (.t 16)), none⟩,
        ⟨(some 115), .op (.mov (.t 18)), none⟩,
        ⟨(some 116), .op (.bin .geq (.t 114) (.t 115)), none⟩,
        ⟨(some 8), .op (.mov (.t 116)), none⟩])
      (.seq (.ops [⟨(some 117), .op (.mov (.t 0)), none⟩,
        ⟨(some 118), .op (.mov (.t 1)), none⟩,
        ⟨(some 119), .op (.mov (.t 14)), none⟩,
        ⟨(some 120), .op (.mov (.t 3)), none⟩,
        ⟨(some 121), .call 43 [(.t 117), (.t 118), (.t 119), (.t 120)], none⟩])
      (.ops [⟨(some 122), .op (.mov (.t 14)), none⟩,
        ⟨(some 123), .op (.bin .add (.t 122) (.c (.int .i64 1))), none⟩,
        ⟨(some 1), .op (.mov (.t 123)), none⟩])))
      (.seq (.ops [⟨(some 124), .op (.mov (.t 17)), none⟩,
        ⟨(some 125), .op (.mov (.t 18)), none⟩,
        ⟨(some 126), .op (.bin .geq (.t 124) (.t 125)), none⟩,
        ⟨(some 8), .op (.mov (.t 126)), none⟩])
      (.seq (.ops [⟨(some 127), .op (.mov (.t 0)), none⟩,
        ⟨(some 128), .op (.mov (.t 14)), none⟩,
        ⟨(some 129), .op (.bin .add (.t 128) (.c (.int .i64 1))), none⟩,
        ⟨(some 130), .op (.mov (.t 2)), none⟩,
        ⟨(some 131), .op (.mov (.t 3)), none⟩,
        ⟨(some 132), .call 43 [(.t 127), (.t 129), (.t 130), (.t 131)], none⟩])
      (.ops [⟨(some 133), .op (.mov (.t 14)), none⟩,
        ⟨(some 2), .op (.mov (.t 133)), none⟩]))))))))))))))))))

def C43 : IFn := ⟨134, (.seq (.ops [⟨(some 8), .op (.mov (.c (.bool true))), none⟩])
  (.seq (.ops [⟨(some 9), .op (.mov (.c (.bool true))), none⟩])
  (.block 0
    (.loop C43L0)))), []⟩

-- math/bits.Len
def C44 : IFn := ⟨8, (.seq (.ops [⟨(some 2), .op (.mov (.c (.int .i64 0))), none⟩])
  (.seq (.cond (.c (.bool false))
    (.seq (.ops [⟨(some 3), .op (.mov (.t 0)), none⟩,
      ⟨(some 4), .op (.conv .u32 (.t 3)), none⟩,
      ⟨(some 5), .call 57 [(.t 4)], none⟩,
      ⟨(some 2), .op (.mov (.t 5)), none⟩])
    .ret)
    .skip)
  (.seq (.ops [⟨(some 6), .op (.mov (.t 0)), none⟩,
    ⟨(some 7), .call 58 [(.t 6)], none⟩,
    ⟨(some 2), .op (.mov (.t 7)), none⟩])
  .ret))), [.tmp 2]⟩

-- slices.insertionSortOrdered[int]
def C48L0 : IC :=
  (.seq (.seq (.draw [⟨(some 16), .op (.mov (.t 7)), none⟩,
    ⟨(some 17), .op (.mov (.t 1)), none⟩,
    ⟨(some 18), .op (.bin .gtr (.t 16) (.t 17)), none⟩,
    ⟨(some 19), .op (.mov (.t 18)), none⟩,
    ⟨(some 20), .op (.mov (.t 0)), (some (19, true))⟩,
    ⟨(some 21), .op (.mov (.t 7)), (some (19, true))⟩,
    ⟨(some 22), .op (.iaddr (.sl 1) (.t 20) (.t 21)), (some (19, true))⟩,
    ⟨(some 23), .op (.load none (.t 22)), (some (19, true))⟩,
    ⟨(some 24), .op (.mov (.t 0)), (some (19, true))⟩,
    ⟨(some 25), .op (.mov (.t 7)), (some (19, true))⟩,
    ⟨(some 26), .op (.bin .sub (.t 25) (.c (.int .i64 1))), (some (19, true))⟩,
    ⟨(some 27), .op (.iaddr (.sl 1) (.t 24) (.t 26)), (some (19, true))⟩,
    ⟨(some 28), .op (.load none (.t 27)), (some (19, true))⟩,
    ⟨(some 29), .call 54 [(.t 23), (.t 28)], (some (19, true))⟩,
    ⟨(some 30), .op (.pick (.t 19) (.t 29) (.c (.bool false))), none⟩]
    [[], [], [1, 0], [2, 1, 0], [3, 2, 1, 0], [3, 2, 1, 0], [3, 2, 1, 0, 5, 4], [3, 2, 1, 0, 6, 5, 4], [3, 2, 1, 0], [3, 2, 1, 0], [3, 2, 1, 0, 9], [3, 2, 1, 0, 10, 9, 8], [3, 2, 1, 0, 11, 10, 9, 8], [3, 2, 1, 0, 12, 11, 10, 9, 8, 7, 6, 5, 4], [13, 3, 2, 1, 0, 12, 11, 10, 9, 8, 7, 6, 5, 4]])
  (.cond (.t 30)
    .skip
    (.exit 2)))
  (.seq (.block 3
    (.draw [⟨(some 33), .op (.mov (.t 0)), none⟩,
      ⟨(some 34), .op (.mov (.t 7)), none⟩,
      ⟨(some 35), .op (.mov (.t 0)), none⟩,
      ⟨(some 36), .op (.mov (.t 7)), none⟩,
      ⟨(some 37), .op (.bin .sub (.t 36) (.c (.int .i64 1))), none⟩,
      ⟨(some 38), .op (.mov (.t 0)), none⟩,
      ⟨(some 39), .op (.mov (.t 7)), none⟩,
      ⟨(some 40), .op (.bin .sub (.t 39) (.c (.int .i64 1))), none⟩,
      ⟨(some 41), .op (.iaddr (.sl 1) (.t 38) (.t 40)), none⟩,
      ⟨(some 42), .op (.load none (.t 41)), none⟩,
      ⟨(some 43), .op (.mov (.t 0)), none⟩,
      ⟨(some 44), .op (.mov (.t 7)), none⟩,
      ⟨(some 45), .op (.iaddr (.sl 1) (.t 43) (.t 44)), none⟩,
      ⟨(some 46), .op (.load none (.t 45)), none⟩,
      ⟨(some 47), .op (.iaddr (.sl 1) (.t 33) (.t 34)), none⟩,
      ⟨none, .op (.store 1 (.t 47) (.t 42)), none⟩,
      ⟨(some 48), .op (.iaddr (.sl 1) (.t 35) (.t 37)), none⟩,
      ⟨none, .op (.store 1 (.t 48) (.t 46)), none⟩]
      [[], [], [], [], [3], [], [], [6], [7, 6, 5], [8, 7, 6, 5], [], [], [11, 10], [12, 11, 10], [13, 12, 11, 10, 9, 8, 7, 6, 5, 1, 0], [13, 12, 11, 10, 9, 8, 7, 6, 5, 1, 0, 14], [15, 13, 12, 11, 10, 9, 8, 7, 6, 5, 1, 0, 14, 4, 3, 2], [15, 13, 12, 11, 10, 9, 8, 7, 6, 5, 1, 0, 14, 4, 3, 2, 16]]))
  (.ops [⟨(some 31), .op (.mov (.t 7)), none⟩,
    ⟨(some 32), .op (.bin .sub (.t 31) (.c (.int .i64 1))), none⟩,
    ⟨(some 7), .op (.mov (.t 32)), none⟩])))

def C48L1 : IC :=
  (.seq (.seq (.ops [⟨(some 10), .op (.mov (.t 6)), none⟩,
    ⟨(some 11), .op (.mov (.t 2)), none⟩,
    ⟨(some 12), .op (.bin .lss (.t 10) (.t 11)), none⟩])
  (.cond (.t 12)
    .skip
    (.exit 0)))
  (.seq (.block 1
    (.seq (.ops [⟨(some 15), .op (.mov (.t 6)), none⟩,
      ⟨(some 7), .op (.mov (.t 15)), none⟩])
    (.block 2
      (.loop C48L0))))
  (.ops [⟨(some 13), .op (.mov (.t 6)), none⟩,
    ⟨(some 14), .op (.bin .add (.t 13) (.c (.int .i64 1))), none⟩,
    ⟨(some 6), .op (.mov (.t 14)), none⟩])))

def C48 : IFn := ⟨49, (.seq (.ops [⟨(some 8), .op (.mov (.t 1)), none⟩,
    ⟨(some 9), .op (.bin .add (.t 8) (.c (.int .i64 1))), none⟩,
    ⟨(some 6), .op (.mov (.t 9)), none⟩])
  (.block 0
    (.loop C48L1))), []⟩

-- cmp.Less[int]
def C54 : IFn := ⟨17, (.seq (.ops [⟨(some 4), .op (.mov (.c (.bool false))), none⟩])
  (.seq (.ops [⟨(some 5), .op (.mov (.t 0)), none⟩,
    ⟨(some 6), .call 65 [(.t 5)], none⟩,
    ⟨(some 7), .op (.mov (.t 6)), none⟩,
    ⟨(some 8), .op (.mov (.t 1)), (some (7, true))⟩,
    ⟨(some 9), .call 65 [(.t 8)], (some (7, true))⟩,
    ⟨(some 10), .op (.un .not (.t 9)), (some (7, true))⟩,
    ⟨(some 11), .op (.pick (.t 7) (.t 10) (.c (.bool false))), none⟩,
    ⟨(some 12), .op (.mov (.t 11)), none⟩,
    ⟨(some 13), .op (.mov (.t 0)), (some (12, false))⟩,
    ⟨(some 14), .op (.mov (.t 1)), (some (12, false))⟩,
    ⟨(some 15), .op (.bin .lss (.t 13) (.t 14)), (some (12, false))⟩,
    ⟨(some 16), .op (.pick (.t 12) (.c (.bool true)) (.t 15)), none⟩,
    ⟨(some 4), .op (.mov (.t 16)), none⟩])
  .ret)), [.tmp 4]⟩

-- cmp.isNaN[int]
def C65 : IFn := ⟨6, (.seq (.ops [⟨(some 2), .op (.mov (.c (.bool false))), none⟩])
  (.seq (.ops [⟨(some 3), .op (.mov (.t 0)), none⟩,
    ⟨(some 4), .op (.mov (.t 0)), none⟩,
    ⟨(some 5), .op (.bin .neq (.t 3) (.t 4)), none⟩,
    ⟨(some 2), .op (.mov (.t 5)), none⟩])
  .ret)), [.tmp 2]⟩


end Go.Idl
end

section
/- Seat of chapter 10: the tables. -/
namespace Go.Proofs
set_option linter.unusedVariables false

set_option maxHeartbeats 1000000 in
set_option maxRecDepth 100000 in
/-- The library's search for a byte. -/
theorem Ytfdpknfndjllgaa.idxByte (s : ByteArray) (c : Int) (w : World) :
    Calls Try.prog 68 #[.string s, .int .u8 c] w fun e w' => e = .returned (.int .i64 (Lib.indexByte s.data.toList c.toNat.toUInt8)) ∧ w' = w := by
  go_enter Try.func68, Try.ntmps68
  go_wp2
  rw [run_callFunc_extern Try.func72 (by kernel_rfl) (by kernel_rfl) (by kernel_rfl) (e := Extern.BytealgIndexByte.indexByte) (by kernel_rfl), Lib.run_indexByteString]
  simp only [Result.andThen]
  rw [Oper.upon_value]
  go_wp2
  go_ret
  exact ⟨rfl, rfl⟩
end Go.Proofs

namespace Go.Idl
set_option linter.unusedVariables false
set_option linter.unusedSimpArgs false
set_option maxRecDepth 100000
open Go.Proofs

noncomputable def Tb0 : Tbl := { fn := fun f => (Try.prog.funcs[f]?).bind (cfn Try.prog), prim := fun _ => none }
theorem Tb0ok : TblOk Try.prog Tb0 := ⟨fun f fn h => by
  obtain ⟨F, h1, h2⟩ := Option.bind_eq_some_iff.1 h
  exact ⟨F, h1, h2⟩, fun f p h => by cases h⟩

def idxP : List Value → Option Value
  | [.string s, .int .u8 c] => some (.int .i64 (Lib.indexByte s.data.toList c.toNat.toUInt8))
  | _ => none

theorem idxP_ok : PrimOk Try.prog 68 idxP := by
  refine ⟨calleeOk_mk Try.func68 (by kernel_rfl) (by kernel_rfl), fun args v h => ?_⟩
  unfold idxP at h
  split at h
  case h_2 => cases h
  cases h
  exact ⟨fun ι rargs hr => args_eq hr rfl, fun ι => .int _ _, fun w _ => ((Ytfdpknfndjllgaa.idxByte _ _ w).mono fun e w' ⟨h1, h2⟩ => by subst h2; exact ⟨h1, ⟨Nat.le_refl _, fun _ _ => rfl⟩, rfl, rfl, rfl⟩)⟩

noncomputable def T0 : Tbl := setPrim Tb0 68 idxP
theorem T0ok : TblOk Try.prog T0 := setPrim_ok Tb0ok idxP_ok

def isTV : Option Value → Bool
  | some (.bool true) => true
  | _ => false
theorem isTV_eq {o : Option Value} (h : isTV o = true) : o = some (.bool true) := by
  unfold isTV at h
  split at h
  · rfl
  · cases h

theorem awake_run : isTV (cprim T0 200 7 []) = true := by kernel_rfl

end Go.Idl
end

section
/- An instruction's row: both packages' tables. -/
namespace Go.Idl
set_option linter.unusedVariables false
set_option linter.unusedSimpArgs false
set_option maxRecDepth 100000
open Go.Proofs

/-- Name, fields, what is read, what is written. -/
def rowsT : List (List UInt8 × List UInt8 × List UInt8 × List UInt8) :=
  [([], [], [], []),
  ([110, 117, 109], [65, 75], [], [65]),
  ([110, 117, 108, 108], [65], [], [65]),
  ([109, 111, 118, 101], [65, 66], [66], [65]),
  ([98, 105, 110], [65, 66, 67, 75], [66, 67], [65]),
  ([117, 110], [65, 66, 75], [66], [65]),
  ([101, 113], [65, 66, 67], [66, 67], [65]),
  ([110, 101], [65, 66, 67], [66, 67], [65]),
  ([103, 101, 116], [65, 66, 67, 75], [66], [65]),
  ([112, 117, 116], [65, 66, 67, 75], [65, 66], []),
  ([101, 108, 101, 109], [65, 66, 67], [66, 67], [65]),
  ([115, 101, 116, 101, 108, 101, 109], [65, 66, 67], [65, 66, 67], []),
  ([108, 101, 110], [65, 66], [66], [65]),
  ([110, 101, 119], [65, 67, 75], [], [65]),
  ([97, 114, 114], [65, 66], [66], [65]),
  ([105, 110], [65], [], [65]),
  ([111, 117, 116], [65], [65], []),
  ([105, 109, 103], [65, 66], [66], [65]),
  ([115, 105, 122, 101], [65], [], [65]),
  ([114, 111, 111, 116], [65], [], [65]),
  ([115, 101, 116, 114, 111, 111, 116], [65], [65], []),
  ([106, 117, 109, 112], [75], [], []),
  ([122, 101, 114, 111], [65, 75], [65], []),
  ([99, 97, 108, 108], [65, 75, 76], [76], [65]),
  ([114, 101, 116], [65], [65], []),
  ([115, 116, 111, 112], [65], [65], []),
  ([115, 116, 101, 112], [], [], []),
  ([109, 101, 114, 103, 101], [75, 76], [76], []),
  ([112, 114, 111, 109, 111, 116, 101], [65, 66], [66], [65])]
def rowAt (op : Int) : List UInt8 × List UInt8 × List UInt8 × List UInt8 := if 0 ≤ op ∧ op < 29 then rowsT.getD op.toNat ([], [], [], []) else ([], [], [], [])

def strB (l : List UInt8) : Value := .string ⟨l.toArray⟩
def rowL (op : Int) : List Value := [strB (rowAt op).1, strB (rowAt op).2.1, strB (rowAt op).2.2.1, strB (rowAt op).2.2.2]
def ofP : List Value → Option Value
  | [.int .i64 op] => some (.agg (rowL op).toArray)
  | _ => none
def rowP : List Value → Option Value
  | [.int .i64 op] => some (.tuple (rowL op).toArray)
  | _ => none

theorem of_run : ((List.range 29).all fun (k : Nat) => optEq (cprim Tb0 60 25 [.int .i64 (k : Int)]) (ofP [.int .i64 (k : Int)])) = true := by kernel_rfl
theorem row_run : ((List.range 29).all fun (k : Nat) => optEq (cprim Tb0 60 27 [.int .i64 (k : Int)]) (rowP [.int .i64 (k : Int)])) = true := by kernel_rfl

def chk42 : Option (Out × Heap) → Bool
  | some (.ret (.agg cs), h) => cs.size == 116 && h.next == 2 && (match h.get 0 with | some (.cells l true 0) => l.length == 4 | _ => false)
  | _ => false
theorem rows_run : chk42 (ccall Tb0 60 (.fn 42) [] ((⟨fun _ => none, 0⟩ : Heap).new (.cells [.string ⟨#[]⟩, .string ⟨#[]⟩, .string ⟨#[]⟩, .string ⟨#[]⟩] true 0))) = true := by kernel_rfl

theorem Tb0_25 : Tb0.fn 25 = some C25 := by
  have h : cfn Try.prog Try.f25 = some C25 := by kernel_rfl
  simp only [Tb0, Try.func25, Option.bind_some, h]
theorem Tb0_27 : Tb0.fn 27 = some C27 := by
  have h : cfn Try.prog Try.f27 = some C27 := by kernel_rfl
  simp only [Tb0, Try.func27, Option.bind_some, h]

theorem row_out {op : Int} (ho : ¬ (0 ≤ op ∧ op < 29)) : rowL op = [.string ⟨#[]⟩, .string ⟨#[]⟩, .string ⟨#[]⟩, .string ⟨#[]⟩] := by
  simp only [rowL, rowAt, if_neg ho]; rfl

theorem row27 {op : Int} (ho : ¬ (0 ≤ op ∧ op < 29)) : Wk Tb0 (.fn 27) [.int .i64 op] ⟨fun _ => none, 0⟩ (fun o h' => o = .ret (.tuple (rowL op).toArray)) := by
  have hk : ∀ k : Int, 0 < k → k < 29 → (op == k) = false := by
    intro k h1 h2
    simp only [beq_eq_false_iff_ne, ne_eq]
    omega
  refine Wk_fn Tb0_27 (by simp [C27]) ?_
  simp only [C27]
  refine Wc_seq (Wc_ops (Wo_run (fun call => by simp only [List.drop_succ_cons, List.drop_zero, iops_nil, iops_op, iops_grd, iK_some, iG_true, iG_false, gval_bool, beq_true, beq_false, Bool.not_true, Bool.not_false, iop, ev, upd, dstUpd, binV, binI, unV, ptr, Heap.cell, Heap.write, cellsOf, put, args0, partL, List.getD_cons_zero, List.getD_cons_succ, List.length_cons, List.length_nil, List.set_cons_zero, List.set_cons_succ, List.getElem?_cons_zero, List.getElem?_cons_succ, reduceIte, Nat.reduceEqDiff, Nat.reduceAdd, Nat.reduceMul, Nat.reduceLeDiff, Nat.zero_add, Nat.add_zero, Option.map_some, Int.reduceEq, Int.reduceLT, Int.reduceLE, Bool.false_eq_true, decide_true, decide_false, ge_iff_le, gt_iff_lt, set_get']; rfl) ?_))
  show Wc _ _ _ _
  refine Wc_seq (Wc_seq (Wc_ops (Wo_run (fun call => by simp only [List.drop_succ_cons, List.drop_zero, iops_nil, iops_op, iops_grd, iK_some, iG_true, iG_false, gval_bool, beq_true, beq_false, Bool.not_true, Bool.not_false, iop, ev, upd, dstUpd, binV, binI, unV, ptr, Heap.cell, Heap.write, cellsOf, put, args0, partL, List.getD_cons_zero, List.getD_cons_succ, List.length_cons, List.length_nil, List.set_cons_zero, List.set_cons_succ, List.getElem?_cons_zero, List.getElem?_cons_succ, reduceIte, Nat.reduceEqDiff, Nat.reduceAdd, Nat.reduceMul, Nat.reduceLeDiff, Nat.zero_add, Nat.add_zero, Option.map_some, Int.reduceEq, Int.reduceLT, Int.reduceLE, Bool.false_eq_true, decide_true, decide_false, ge_iff_le, gt_iff_lt, set_get']; rfl) ?_)))
  show Wc _ _ _ _
  refine Wc_block ?_
  refine Wc_seq (Wc_ops (Wo_run (fun call => by simp only [List.drop_succ_cons, List.drop_zero, iops_nil, iops_op, iops_grd, iK_some, iG_true, iG_false, gval_bool, beq_true, beq_false, Bool.not_true, Bool.not_false, iop, ev, upd, dstUpd, binV, binI, unV, ptr, Heap.cell, Heap.write, cellsOf, put, args0, partL, List.getD_cons_zero, List.getD_cons_succ, List.length_cons, List.length_nil, List.set_cons_zero, List.set_cons_succ, List.getElem?_cons_zero, List.getElem?_cons_succ, reduceIte, Nat.reduceEqDiff, Nat.reduceAdd, Nat.reduceMul, Nat.reduceLeDiff, Nat.zero_add, Nat.add_zero, Option.map_some, Int.reduceEq, Int.reduceLT, Int.reduceLE, Bool.false_eq_true, decide_true, decide_false, ge_iff_le, gt_iff_lt, set_get', hk 1 (by decide) (by decide)]; rfl) ?_))
  show Wc _ _ _ _
  refine Wc_cond false (by simp [ev, upd]) (fun h => by cases h) (fun _ => ?_)
  refine Wc_seq (Wc_ops (Wo_run (fun call => by simp only [List.drop_succ_cons, List.drop_zero, iops_nil, iops_op, iops_grd, iK_some, iG_true, iG_false, gval_bool, beq_true, beq_false, Bool.not_true, Bool.not_false, iop, ev, upd, dstUpd, binV, binI, unV, ptr, Heap.cell, Heap.write, cellsOf, put, args0, partL, List.getD_cons_zero, List.getD_cons_succ, List.length_cons, List.length_nil, List.set_cons_zero, List.set_cons_succ, List.getElem?_cons_zero, List.getElem?_cons_succ, reduceIte, Nat.reduceEqDiff, Nat.reduceAdd, Nat.reduceMul, Nat.reduceLeDiff, Nat.zero_add, Nat.add_zero, Option.map_some, Int.reduceEq, Int.reduceLT, Int.reduceLE, Bool.false_eq_true, decide_true, decide_false, ge_iff_le, gt_iff_lt, set_get', hk 2 (by decide) (by decide)]; rfl) ?_))
  show Wc _ _ _ _
  refine Wc_cond false (by simp [ev, upd]) (fun h => by cases h) (fun _ => ?_)
  refine Wc_seq (Wc_ops (Wo_run (fun call => by simp only [List.drop_succ_cons, List.drop_zero, iops_nil, iops_op, iops_grd, iK_some, iG_true, iG_false, gval_bool, beq_true, beq_false, Bool.not_true, Bool.not_false, iop, ev, upd, dstUpd, binV, binI, unV, ptr, Heap.cell, Heap.write, cellsOf, put, args0, partL, List.getD_cons_zero, List.getD_cons_succ, List.length_cons, List.length_nil, List.set_cons_zero, List.set_cons_succ, List.getElem?_cons_zero, List.getElem?_cons_succ, reduceIte, Nat.reduceEqDiff, Nat.reduceAdd, Nat.reduceMul, Nat.reduceLeDiff, Nat.zero_add, Nat.add_zero, Option.map_some, Int.reduceEq, Int.reduceLT, Int.reduceLE, Bool.false_eq_true, decide_true, decide_false, ge_iff_le, gt_iff_lt, set_get', hk 3 (by decide) (by decide)]; rfl) ?_))
  show Wc _ _ _ _
  refine Wc_cond false (by simp [ev, upd]) (fun h => by cases h) (fun _ => ?_)
  refine Wc_seq (Wc_ops (Wo_run (fun call => by simp only [List.drop_succ_cons, List.drop_zero, iops_nil, iops_op, iops_grd, iK_some, iG_true, iG_false, gval_bool, beq_true, beq_false, Bool.not_true, Bool.not_false, iop, ev, upd, dstUpd, binV, binI, unV, ptr, Heap.cell, Heap.write, cellsOf, put, args0, partL, List.getD_cons_zero, List.getD_cons_succ, List.length_cons, List.length_nil, List.set_cons_zero, List.set_cons_succ, List.getElem?_cons_zero, List.getElem?_cons_succ, reduceIte, Nat.reduceEqDiff, Nat.reduceAdd, Nat.reduceMul, Nat.reduceLeDiff, Nat.zero_add, Nat.add_zero, Option.map_some, Int.reduceEq, Int.reduceLT, Int.reduceLE, Bool.false_eq_true, decide_true, decide_false, ge_iff_le, gt_iff_lt, set_get', hk 4 (by decide) (by decide)]; rfl) ?_))
  show Wc _ _ _ _
  refine Wc_cond false (by simp [ev, upd]) (fun h => by cases h) (fun _ => ?_)
  refine Wc_seq (Wc_ops (Wo_run (fun call => by simp only [List.drop_succ_cons, List.drop_zero, iops_nil, iops_op, iops_grd, iK_some, iG_true, iG_false, gval_bool, beq_true, beq_false, Bool.not_true, Bool.not_false, iop, ev, upd, dstUpd, binV, binI, unV, ptr, Heap.cell, Heap.write, cellsOf, put, args0, partL, List.getD_cons_zero, List.getD_cons_succ, List.length_cons, List.length_nil, List.set_cons_zero, List.set_cons_succ, List.getElem?_cons_zero, List.getElem?_cons_succ, reduceIte, Nat.reduceEqDiff, Nat.reduceAdd, Nat.reduceMul, Nat.reduceLeDiff, Nat.zero_add, Nat.add_zero, Option.map_some, Int.reduceEq, Int.reduceLT, Int.reduceLE, Bool.false_eq_true, decide_true, decide_false, ge_iff_le, gt_iff_lt, set_get', hk 5 (by decide) (by decide)]; rfl) ?_))
  show Wc _ _ _ _
  refine Wc_cond false (by simp [ev, upd]) (fun h => by cases h) (fun _ => ?_)
  refine Wc_seq (Wc_ops (Wo_run (fun call => by simp only [List.drop_succ_cons, List.drop_zero, iops_nil, iops_op, iops_grd, iK_some, iG_true, iG_false, gval_bool, beq_true, beq_false, Bool.not_true, Bool.not_false, iop, ev, upd, dstUpd, binV, binI, unV, ptr, Heap.cell, Heap.write, cellsOf, put, args0, partL, List.getD_cons_zero, List.getD_cons_succ, List.length_cons, List.length_nil, List.set_cons_zero, List.set_cons_succ, List.getElem?_cons_zero, List.getElem?_cons_succ, reduceIte, Nat.reduceEqDiff, Nat.reduceAdd, Nat.reduceMul, Nat.reduceLeDiff, Nat.zero_add, Nat.add_zero, Option.map_some, Int.reduceEq, Int.reduceLT, Int.reduceLE, Bool.false_eq_true, decide_true, decide_false, ge_iff_le, gt_iff_lt, set_get', hk 6 (by decide) (by decide)]; rfl) ?_))
  show Wc _ _ _ _
  refine Wc_cond false (by simp [ev, upd]) (fun h => by cases h) (fun _ => ?_)
  refine Wc_seq (Wc_ops (Wo_run (fun call => by simp only [List.drop_succ_cons, List.drop_zero, iops_nil, iops_op, iops_grd, iK_some, iG_true, iG_false, gval_bool, beq_true, beq_false, Bool.not_true, Bool.not_false, iop, ev, upd, dstUpd, binV, binI, unV, ptr, Heap.cell, Heap.write, cellsOf, put, args0, partL, List.getD_cons_zero, List.getD_cons_succ, List.length_cons, List.length_nil, List.set_cons_zero, List.set_cons_succ, List.getElem?_cons_zero, List.getElem?_cons_succ, reduceIte, Nat.reduceEqDiff, Nat.reduceAdd, Nat.reduceMul, Nat.reduceLeDiff, Nat.zero_add, Nat.add_zero, Option.map_some, Int.reduceEq, Int.reduceLT, Int.reduceLE, Bool.false_eq_true, decide_true, decide_false, ge_iff_le, gt_iff_lt, set_get', hk 7 (by decide) (by decide)]; rfl) ?_))
  show Wc _ _ _ _
  refine Wc_cond false (by simp [ev, upd]) (fun h => by cases h) (fun _ => ?_)
  refine Wc_seq (Wc_ops (Wo_run (fun call => by simp only [List.drop_succ_cons, List.drop_zero, iops_nil, iops_op, iops_grd, iK_some, iG_true, iG_false, gval_bool, beq_true, beq_false, Bool.not_true, Bool.not_false, iop, ev, upd, dstUpd, binV, binI, unV, ptr, Heap.cell, Heap.write, cellsOf, put, args0, partL, List.getD_cons_zero, List.getD_cons_succ, List.length_cons, List.length_nil, List.set_cons_zero, List.set_cons_succ, List.getElem?_cons_zero, List.getElem?_cons_succ, reduceIte, Nat.reduceEqDiff, Nat.reduceAdd, Nat.reduceMul, Nat.reduceLeDiff, Nat.zero_add, Nat.add_zero, Option.map_some, Int.reduceEq, Int.reduceLT, Int.reduceLE, Bool.false_eq_true, decide_true, decide_false, ge_iff_le, gt_iff_lt, set_get', hk 8 (by decide) (by decide)]; rfl) ?_))
  show Wc _ _ _ _
  refine Wc_cond false (by simp [ev, upd]) (fun h => by cases h) (fun _ => ?_)
  refine Wc_seq (Wc_ops (Wo_run (fun call => by simp only [List.drop_succ_cons, List.drop_zero, iops_nil, iops_op, iops_grd, iK_some, iG_true, iG_false, gval_bool, beq_true, beq_false, Bool.not_true, Bool.not_false, iop, ev, upd, dstUpd, binV, binI, unV, ptr, Heap.cell, Heap.write, cellsOf, put, args0, partL, List.getD_cons_zero, List.getD_cons_succ, List.length_cons, List.length_nil, List.set_cons_zero, List.set_cons_succ, List.getElem?_cons_zero, List.getElem?_cons_succ, reduceIte, Nat.reduceEqDiff, Nat.reduceAdd, Nat.reduceMul, Nat.reduceLeDiff, Nat.zero_add, Nat.add_zero, Option.map_some, Int.reduceEq, Int.reduceLT, Int.reduceLE, Bool.false_eq_true, decide_true, decide_false, ge_iff_le, gt_iff_lt, set_get', hk 9 (by decide) (by decide)]; rfl) ?_))
  show Wc _ _ _ _
  refine Wc_cond false (by simp [ev, upd]) (fun h => by cases h) (fun _ => ?_)
  refine Wc_seq (Wc_ops (Wo_run (fun call => by simp only [List.drop_succ_cons, List.drop_zero, iops_nil, iops_op, iops_grd, iK_some, iG_true, iG_false, gval_bool, beq_true, beq_false, Bool.not_true, Bool.not_false, iop, ev, upd, dstUpd, binV, binI, unV, ptr, Heap.cell, Heap.write, cellsOf, put, args0, partL, List.getD_cons_zero, List.getD_cons_succ, List.length_cons, List.length_nil, List.set_cons_zero, List.set_cons_succ, List.getElem?_cons_zero, List.getElem?_cons_succ, reduceIte, Nat.reduceEqDiff, Nat.reduceAdd, Nat.reduceMul, Nat.reduceLeDiff, Nat.zero_add, Nat.add_zero, Option.map_some, Int.reduceEq, Int.reduceLT, Int.reduceLE, Bool.false_eq_true, decide_true, decide_false, ge_iff_le, gt_iff_lt, set_get', hk 10 (by decide) (by decide)]; rfl) ?_))
  show Wc _ _ _ _
  refine Wc_cond false (by simp [ev, upd]) (fun h => by cases h) (fun _ => ?_)
  refine Wc_seq (Wc_ops (Wo_run (fun call => by simp only [List.drop_succ_cons, List.drop_zero, iops_nil, iops_op, iops_grd, iK_some, iG_true, iG_false, gval_bool, beq_true, beq_false, Bool.not_true, Bool.not_false, iop, ev, upd, dstUpd, binV, binI, unV, ptr, Heap.cell, Heap.write, cellsOf, put, args0, partL, List.getD_cons_zero, List.getD_cons_succ, List.length_cons, List.length_nil, List.set_cons_zero, List.set_cons_succ, List.getElem?_cons_zero, List.getElem?_cons_succ, reduceIte, Nat.reduceEqDiff, Nat.reduceAdd, Nat.reduceMul, Nat.reduceLeDiff, Nat.zero_add, Nat.add_zero, Option.map_some, Int.reduceEq, Int.reduceLT, Int.reduceLE, Bool.false_eq_true, decide_true, decide_false, ge_iff_le, gt_iff_lt, set_get', hk 11 (by decide) (by decide)]; rfl) ?_))
  show Wc _ _ _ _
  refine Wc_cond false (by simp [ev, upd]) (fun h => by cases h) (fun _ => ?_)
  refine Wc_seq (Wc_ops (Wo_run (fun call => by simp only [List.drop_succ_cons, List.drop_zero, iops_nil, iops_op, iops_grd, iK_some, iG_true, iG_false, gval_bool, beq_true, beq_false, Bool.not_true, Bool.not_false, iop, ev, upd, dstUpd, binV, binI, unV, ptr, Heap.cell, Heap.write, cellsOf, put, args0, partL, List.getD_cons_zero, List.getD_cons_succ, List.length_cons, List.length_nil, List.set_cons_zero, List.set_cons_succ, List.getElem?_cons_zero, List.getElem?_cons_succ, reduceIte, Nat.reduceEqDiff, Nat.reduceAdd, Nat.reduceMul, Nat.reduceLeDiff, Nat.zero_add, Nat.add_zero, Option.map_some, Int.reduceEq, Int.reduceLT, Int.reduceLE, Bool.false_eq_true, decide_true, decide_false, ge_iff_le, gt_iff_lt, set_get', hk 12 (by decide) (by decide)]; rfl) ?_))
  show Wc _ _ _ _
  refine Wc_cond false (by simp [ev, upd]) (fun h => by cases h) (fun _ => ?_)
  refine Wc_seq (Wc_ops (Wo_run (fun call => by simp only [List.drop_succ_cons, List.drop_zero, iops_nil, iops_op, iops_grd, iK_some, iG_true, iG_false, gval_bool, beq_true, beq_false, Bool.not_true, Bool.not_false, iop, ev, upd, dstUpd, binV, binI, unV, ptr, Heap.cell, Heap.write, cellsOf, put, args0, partL, List.getD_cons_zero, List.getD_cons_succ, List.length_cons, List.length_nil, List.set_cons_zero, List.set_cons_succ, List.getElem?_cons_zero, List.getElem?_cons_succ, reduceIte, Nat.reduceEqDiff, Nat.reduceAdd, Nat.reduceMul, Nat.reduceLeDiff, Nat.zero_add, Nat.add_zero, Option.map_some, Int.reduceEq, Int.reduceLT, Int.reduceLE, Bool.false_eq_true, decide_true, decide_false, ge_iff_le, gt_iff_lt, set_get', hk 13 (by decide) (by decide)]; rfl) ?_))
  show Wc _ _ _ _
  refine Wc_cond false (by simp [ev, upd]) (fun h => by cases h) (fun _ => ?_)
  refine Wc_seq (Wc_ops (Wo_run (fun call => by simp only [List.drop_succ_cons, List.drop_zero, iops_nil, iops_op, iops_grd, iK_some, iG_true, iG_false, gval_bool, beq_true, beq_false, Bool.not_true, Bool.not_false, iop, ev, upd, dstUpd, binV, binI, unV, ptr, Heap.cell, Heap.write, cellsOf, put, args0, partL, List.getD_cons_zero, List.getD_cons_succ, List.length_cons, List.length_nil, List.set_cons_zero, List.set_cons_succ, List.getElem?_cons_zero, List.getElem?_cons_succ, reduceIte, Nat.reduceEqDiff, Nat.reduceAdd, Nat.reduceMul, Nat.reduceLeDiff, Nat.zero_add, Nat.add_zero, Option.map_some, Int.reduceEq, Int.reduceLT, Int.reduceLE, Bool.false_eq_true, decide_true, decide_false, ge_iff_le, gt_iff_lt, set_get', hk 14 (by decide) (by decide)]; rfl) ?_))
  show Wc _ _ _ _
  refine Wc_cond false (by simp [ev, upd]) (fun h => by cases h) (fun _ => ?_)
  refine Wc_seq (Wc_ops (Wo_run (fun call => by simp only [List.drop_succ_cons, List.drop_zero, iops_nil, iops_op, iops_grd, iK_some, iG_true, iG_false, gval_bool, beq_true, beq_false, Bool.not_true, Bool.not_false, iop, ev, upd, dstUpd, binV, binI, unV, ptr, Heap.cell, Heap.write, cellsOf, put, args0, partL, List.getD_cons_zero, List.getD_cons_succ, List.length_cons, List.length_nil, List.set_cons_zero, List.set_cons_succ, List.getElem?_cons_zero, List.getElem?_cons_succ, reduceIte, Nat.reduceEqDiff, Nat.reduceAdd, Nat.reduceMul, Nat.reduceLeDiff, Nat.zero_add, Nat.add_zero, Option.map_some, Int.reduceEq, Int.reduceLT, Int.reduceLE, Bool.false_eq_true, decide_true, decide_false, ge_iff_le, gt_iff_lt, set_get', hk 15 (by decide) (by decide)]; rfl) ?_))
  show Wc _ _ _ _
  refine Wc_cond false (by simp [ev, upd]) (fun h => by cases h) (fun _ => ?_)
  refine Wc_seq (Wc_ops (Wo_run (fun call => by simp only [List.drop_succ_cons, List.drop_zero, iops_nil, iops_op, iops_grd, iK_some, iG_true, iG_false, gval_bool, beq_true, beq_false, Bool.not_true, Bool.not_false, iop, ev, upd, dstUpd, binV, binI, unV, ptr, Heap.cell, Heap.write, cellsOf, put, args0, partL, List.getD_cons_zero, List.getD_cons_succ, List.length_cons, List.length_nil, List.set_cons_zero, List.set_cons_succ, List.getElem?_cons_zero, List.getElem?_cons_succ, reduceIte, Nat.reduceEqDiff, Nat.reduceAdd, Nat.reduceMul, Nat.reduceLeDiff, Nat.zero_add, Nat.add_zero, Option.map_some, Int.reduceEq, Int.reduceLT, Int.reduceLE, Bool.false_eq_true, decide_true, decide_false, ge_iff_le, gt_iff_lt, set_get', hk 16 (by decide) (by decide)]; rfl) ?_))
  show Wc _ _ _ _
  refine Wc_cond false (by simp [ev, upd]) (fun h => by cases h) (fun _ => ?_)
  refine Wc_seq (Wc_ops (Wo_run (fun call => by simp only [List.drop_succ_cons, List.drop_zero, iops_nil, iops_op, iops_grd, iK_some, iG_true, iG_false, gval_bool, beq_true, beq_false, Bool.not_true, Bool.not_false, iop, ev, upd, dstUpd, binV, binI, unV, ptr, Heap.cell, Heap.write, cellsOf, put, args0, partL, List.getD_cons_zero, List.getD_cons_succ, List.length_cons, List.length_nil, List.set_cons_zero, List.set_cons_succ, List.getElem?_cons_zero, List.getElem?_cons_succ, reduceIte, Nat.reduceEqDiff, Nat.reduceAdd, Nat.reduceMul, Nat.reduceLeDiff, Nat.zero_add, Nat.add_zero, Option.map_some, Int.reduceEq, Int.reduceLT, Int.reduceLE, Bool.false_eq_true, decide_true, decide_false, ge_iff_le, gt_iff_lt, set_get', hk 17 (by decide) (by decide)]; rfl) ?_))
  show Wc _ _ _ _
  refine Wc_cond false (by simp [ev, upd]) (fun h => by cases h) (fun _ => ?_)
  refine Wc_seq (Wc_ops (Wo_run (fun call => by simp only [List.drop_succ_cons, List.drop_zero, iops_nil, iops_op, iops_grd, iK_some, iG_true, iG_false, gval_bool, beq_true, beq_false, Bool.not_true, Bool.not_false, iop, ev, upd, dstUpd, binV, binI, unV, ptr, Heap.cell, Heap.write, cellsOf, put, args0, partL, List.getD_cons_zero, List.getD_cons_succ, List.length_cons, List.length_nil, List.set_cons_zero, List.set_cons_succ, List.getElem?_cons_zero, List.getElem?_cons_succ, reduceIte, Nat.reduceEqDiff, Nat.reduceAdd, Nat.reduceMul, Nat.reduceLeDiff, Nat.zero_add, Nat.add_zero, Option.map_some, Int.reduceEq, Int.reduceLT, Int.reduceLE, Bool.false_eq_true, decide_true, decide_false, ge_iff_le, gt_iff_lt, set_get', hk 18 (by decide) (by decide)]; rfl) ?_))
  show Wc _ _ _ _
  refine Wc_cond false (by simp [ev, upd]) (fun h => by cases h) (fun _ => ?_)
  refine Wc_seq (Wc_ops (Wo_run (fun call => by simp only [List.drop_succ_cons, List.drop_zero, iops_nil, iops_op, iops_grd, iK_some, iG_true, iG_false, gval_bool, beq_true, beq_false, Bool.not_true, Bool.not_false, iop, ev, upd, dstUpd, binV, binI, unV, ptr, Heap.cell, Heap.write, cellsOf, put, args0, partL, List.getD_cons_zero, List.getD_cons_succ, List.length_cons, List.length_nil, List.set_cons_zero, List.set_cons_succ, List.getElem?_cons_zero, List.getElem?_cons_succ, reduceIte, Nat.reduceEqDiff, Nat.reduceAdd, Nat.reduceMul, Nat.reduceLeDiff, Nat.zero_add, Nat.add_zero, Option.map_some, Int.reduceEq, Int.reduceLT, Int.reduceLE, Bool.false_eq_true, decide_true, decide_false, ge_iff_le, gt_iff_lt, set_get', hk 19 (by decide) (by decide)]; rfl) ?_))
  show Wc _ _ _ _
  refine Wc_cond false (by simp [ev, upd]) (fun h => by cases h) (fun _ => ?_)
  refine Wc_seq (Wc_ops (Wo_run (fun call => by simp only [List.drop_succ_cons, List.drop_zero, iops_nil, iops_op, iops_grd, iK_some, iG_true, iG_false, gval_bool, beq_true, beq_false, Bool.not_true, Bool.not_false, iop, ev, upd, dstUpd, binV, binI, unV, ptr, Heap.cell, Heap.write, cellsOf, put, args0, partL, List.getD_cons_zero, List.getD_cons_succ, List.length_cons, List.length_nil, List.set_cons_zero, List.set_cons_succ, List.getElem?_cons_zero, List.getElem?_cons_succ, reduceIte, Nat.reduceEqDiff, Nat.reduceAdd, Nat.reduceMul, Nat.reduceLeDiff, Nat.zero_add, Nat.add_zero, Option.map_some, Int.reduceEq, Int.reduceLT, Int.reduceLE, Bool.false_eq_true, decide_true, decide_false, ge_iff_le, gt_iff_lt, set_get', hk 20 (by decide) (by decide)]; rfl) ?_))
  show Wc _ _ _ _
  refine Wc_cond false (by simp [ev, upd]) (fun h => by cases h) (fun _ => ?_)
  refine Wc_seq (Wc_ops (Wo_run (fun call => by simp only [List.drop_succ_cons, List.drop_zero, iops_nil, iops_op, iops_grd, iK_some, iG_true, iG_false, gval_bool, beq_true, beq_false, Bool.not_true, Bool.not_false, iop, ev, upd, dstUpd, binV, binI, unV, ptr, Heap.cell, Heap.write, cellsOf, put, args0, partL, List.getD_cons_zero, List.getD_cons_succ, List.length_cons, List.length_nil, List.set_cons_zero, List.set_cons_succ, List.getElem?_cons_zero, List.getElem?_cons_succ, reduceIte, Nat.reduceEqDiff, Nat.reduceAdd, Nat.reduceMul, Nat.reduceLeDiff, Nat.zero_add, Nat.add_zero, Option.map_some, Int.reduceEq, Int.reduceLT, Int.reduceLE, Bool.false_eq_true, decide_true, decide_false, ge_iff_le, gt_iff_lt, set_get', hk 21 (by decide) (by decide)]; rfl) ?_))
  show Wc _ _ _ _
  refine Wc_cond false (by simp [ev, upd]) (fun h => by cases h) (fun _ => ?_)
  refine Wc_seq (Wc_ops (Wo_run (fun call => by simp only [List.drop_succ_cons, List.drop_zero, iops_nil, iops_op, iops_grd, iK_some, iG_true, iG_false, gval_bool, beq_true, beq_false, Bool.not_true, Bool.not_false, iop, ev, upd, dstUpd, binV, binI, unV, ptr, Heap.cell, Heap.write, cellsOf, put, args0, partL, List.getD_cons_zero, List.getD_cons_succ, List.length_cons, List.length_nil, List.set_cons_zero, List.set_cons_succ, List.getElem?_cons_zero, List.getElem?_cons_succ, reduceIte, Nat.reduceEqDiff, Nat.reduceAdd, Nat.reduceMul, Nat.reduceLeDiff, Nat.zero_add, Nat.add_zero, Option.map_some, Int.reduceEq, Int.reduceLT, Int.reduceLE, Bool.false_eq_true, decide_true, decide_false, ge_iff_le, gt_iff_lt, set_get', hk 22 (by decide) (by decide)]; rfl) ?_))
  show Wc _ _ _ _
  refine Wc_cond false (by simp [ev, upd]) (fun h => by cases h) (fun _ => ?_)
  refine Wc_seq (Wc_ops (Wo_run (fun call => by simp only [List.drop_succ_cons, List.drop_zero, iops_nil, iops_op, iops_grd, iK_some, iG_true, iG_false, gval_bool, beq_true, beq_false, Bool.not_true, Bool.not_false, iop, ev, upd, dstUpd, binV, binI, unV, ptr, Heap.cell, Heap.write, cellsOf, put, args0, partL, List.getD_cons_zero, List.getD_cons_succ, List.length_cons, List.length_nil, List.set_cons_zero, List.set_cons_succ, List.getElem?_cons_zero, List.getElem?_cons_succ, reduceIte, Nat.reduceEqDiff, Nat.reduceAdd, Nat.reduceMul, Nat.reduceLeDiff, Nat.zero_add, Nat.add_zero, Option.map_some, Int.reduceEq, Int.reduceLT, Int.reduceLE, Bool.false_eq_true, decide_true, decide_false, ge_iff_le, gt_iff_lt, set_get', hk 23 (by decide) (by decide)]; rfl) ?_))
  show Wc _ _ _ _
  refine Wc_cond false (by simp [ev, upd]) (fun h => by cases h) (fun _ => ?_)
  refine Wc_seq (Wc_ops (Wo_run (fun call => by simp only [List.drop_succ_cons, List.drop_zero, iops_nil, iops_op, iops_grd, iK_some, iG_true, iG_false, gval_bool, beq_true, beq_false, Bool.not_true, Bool.not_false, iop, ev, upd, dstUpd, binV, binI, unV, ptr, Heap.cell, Heap.write, cellsOf, put, args0, partL, List.getD_cons_zero, List.getD_cons_succ, List.length_cons, List.length_nil, List.set_cons_zero, List.set_cons_succ, List.getElem?_cons_zero, List.getElem?_cons_succ, reduceIte, Nat.reduceEqDiff, Nat.reduceAdd, Nat.reduceMul, Nat.reduceLeDiff, Nat.zero_add, Nat.add_zero, Option.map_some, Int.reduceEq, Int.reduceLT, Int.reduceLE, Bool.false_eq_true, decide_true, decide_false, ge_iff_le, gt_iff_lt, set_get', hk 24 (by decide) (by decide)]; rfl) ?_))
  show Wc _ _ _ _
  refine Wc_cond false (by simp [ev, upd]) (fun h => by cases h) (fun _ => ?_)
  refine Wc_seq (Wc_ops (Wo_run (fun call => by simp only [List.drop_succ_cons, List.drop_zero, iops_nil, iops_op, iops_grd, iK_some, iG_true, iG_false, gval_bool, beq_true, beq_false, Bool.not_true, Bool.not_false, iop, ev, upd, dstUpd, binV, binI, unV, ptr, Heap.cell, Heap.write, cellsOf, put, args0, partL, List.getD_cons_zero, List.getD_cons_succ, List.length_cons, List.length_nil, List.set_cons_zero, List.set_cons_succ, List.getElem?_cons_zero, List.getElem?_cons_succ, reduceIte, Nat.reduceEqDiff, Nat.reduceAdd, Nat.reduceMul, Nat.reduceLeDiff, Nat.zero_add, Nat.add_zero, Option.map_some, Int.reduceEq, Int.reduceLT, Int.reduceLE, Bool.false_eq_true, decide_true, decide_false, ge_iff_le, gt_iff_lt, set_get', hk 25 (by decide) (by decide)]; rfl) ?_))
  show Wc _ _ _ _
  refine Wc_cond false (by simp [ev, upd]) (fun h => by cases h) (fun _ => ?_)
  refine Wc_seq (Wc_ops (Wo_run (fun call => by simp only [List.drop_succ_cons, List.drop_zero, iops_nil, iops_op, iops_grd, iK_some, iG_true, iG_false, gval_bool, beq_true, beq_false, Bool.not_true, Bool.not_false, iop, ev, upd, dstUpd, binV, binI, unV, ptr, Heap.cell, Heap.write, cellsOf, put, args0, partL, List.getD_cons_zero, List.getD_cons_succ, List.length_cons, List.length_nil, List.set_cons_zero, List.set_cons_succ, List.getElem?_cons_zero, List.getElem?_cons_succ, reduceIte, Nat.reduceEqDiff, Nat.reduceAdd, Nat.reduceMul, Nat.reduceLeDiff, Nat.zero_add, Nat.add_zero, Option.map_some, Int.reduceEq, Int.reduceLT, Int.reduceLE, Bool.false_eq_true, decide_true, decide_false, ge_iff_le, gt_iff_lt, set_get', hk 26 (by decide) (by decide)]; rfl) ?_))
  show Wc _ _ _ _
  refine Wc_cond false (by simp [ev, upd]) (fun h => by cases h) (fun _ => ?_)
  refine Wc_seq (Wc_ops (Wo_run (fun call => by simp only [List.drop_succ_cons, List.drop_zero, iops_nil, iops_op, iops_grd, iK_some, iG_true, iG_false, gval_bool, beq_true, beq_false, Bool.not_true, Bool.not_false, iop, ev, upd, dstUpd, binV, binI, unV, ptr, Heap.cell, Heap.write, cellsOf, put, args0, partL, List.getD_cons_zero, List.getD_cons_succ, List.length_cons, List.length_nil, List.set_cons_zero, List.set_cons_succ, List.getElem?_cons_zero, List.getElem?_cons_succ, reduceIte, Nat.reduceEqDiff, Nat.reduceAdd, Nat.reduceMul, Nat.reduceLeDiff, Nat.zero_add, Nat.add_zero, Option.map_some, Int.reduceEq, Int.reduceLT, Int.reduceLE, Bool.false_eq_true, decide_true, decide_false, ge_iff_le, gt_iff_lt, set_get', hk 27 (by decide) (by decide)]; rfl) ?_))
  show Wc _ _ _ _
  refine Wc_cond false (by simp [ev, upd]) (fun h => by cases h) (fun _ => ?_)
  refine Wc_seq (Wc_ops (Wo_run (fun call => by simp only [List.drop_succ_cons, List.drop_zero, iops_nil, iops_op, iops_grd, iK_some, iG_true, iG_false, gval_bool, beq_true, beq_false, Bool.not_true, Bool.not_false, iop, ev, upd, dstUpd, binV, binI, unV, ptr, Heap.cell, Heap.write, cellsOf, put, args0, partL, List.getD_cons_zero, List.getD_cons_succ, List.length_cons, List.length_nil, List.set_cons_zero, List.set_cons_succ, List.getElem?_cons_zero, List.getElem?_cons_succ, reduceIte, Nat.reduceEqDiff, Nat.reduceAdd, Nat.reduceMul, Nat.reduceLeDiff, Nat.zero_add, Nat.add_zero, Option.map_some, Int.reduceEq, Int.reduceLT, Int.reduceLE, Bool.false_eq_true, decide_true, decide_false, ge_iff_le, gt_iff_lt, set_get', hk 28 (by decide) (by decide)]; rfl) ?_))
  show Wc _ _ _ _
  refine Wc_cond false (by simp [ev, upd]) (fun h => by cases h) (fun _ => ?_)
  refine Wc_skip ?_
  show Wc _ _ _ _
  refine Wc_seq (Wc_ops (Wo_run (fun call => by simp only [List.drop_succ_cons, List.drop_zero, iops_nil, iops_op, iops_grd, iK_some, iG_true, iG_false, gval_bool, beq_true, beq_false, Bool.not_true, Bool.not_false, iop, ev, upd, dstUpd, binV, binI, unV, ptr, Heap.cell, Heap.write, cellsOf, put, args0, partL, List.getD_cons_zero, List.getD_cons_succ, List.length_cons, List.length_nil, List.set_cons_zero, List.set_cons_succ, List.getElem?_cons_zero, List.getElem?_cons_succ, reduceIte, Nat.reduceEqDiff, Nat.reduceAdd, Nat.reduceMul, Nat.reduceLeDiff, Nat.zero_add, Nat.add_zero, Option.map_some, Int.reduceEq, Int.reduceLT, Int.reduceLE, Bool.false_eq_true, decide_true, decide_false, ge_iff_le, gt_iff_lt, set_get']; rfl) ?_))
  show Wc _ _ _ _
  refine Wc_ret ⟨.inr rfl, rfl, [.string ⟨#[]⟩, .string ⟨#[]⟩, .string ⟨#[]⟩, .string ⟨#[]⟩], by simp only [resAll, resV, upd, dstUpd, Nat.reduceEqDiff, reduceIte], by rw [row_out ho]; rfl⟩

theorem of25 {op : Int} (ho : ¬ (0 ≤ op ∧ op < 29)) : Wk Tb0 (.fn 25) [.int .i64 op] ⟨fun _ => none, 0⟩ (fun o h' => o = .ret (.agg (rowL op).toArray)) := by
  refine Wk_fn Tb0_25 (by simp [C25]) ?_
  simp only [C25]
  refine Wc_seq (Wc_ops (Wo_run (fun call => by simp only [List.drop_succ_cons, List.drop_zero, iops_nil, iops_op, iops_grd, iK_some, iG_true, iG_false, gval_bool, beq_true, beq_false, Bool.not_true, Bool.not_false, iop, ev, upd, dstUpd, binV, binI, unV, ptr, Heap.cell, Heap.write, cellsOf, put, args0, partL, List.getD_cons_zero, List.getD_cons_succ, List.length_cons, List.length_nil, List.set_cons_zero, List.set_cons_succ, List.getElem?_cons_zero, List.getElem?_cons_succ, reduceIte, Nat.reduceEqDiff, Nat.reduceAdd, Nat.reduceMul, Nat.reduceLeDiff, Nat.zero_add, Nat.add_zero, Option.map_some, Int.reduceEq, Int.reduceLT, Int.reduceLE, Bool.false_eq_true, decide_true, decide_false, ge_iff_le, gt_iff_lt, set_get']; rfl) ?_))
  show Wc _ _ _ _
  have hr := rows_run
  unfold chk42 at hr
  split at hr
  case h_2 => cases hr
  rename_i cs h1 hc
  simp only [Bool.and_eq_true, beq_iff_eq] at hr
  obtain ⟨⟨hcs, hnx⟩, hg⟩ := hr
  split at hg
  case h_2 => cases hg
  rename_i l hl
  simp only [beq_iff_eq] at hg
  obtain ⟨a, b, c, d, rfl⟩ : ∃ a b c d, l = [a, b, c, d] := by
    match l, hg with
    | [a, b, c, d], _ => exact ⟨a, b, c, d, rfl⟩
  refine Wc_seq (Wc_ops (Wo_call ⟨60, _, _, ccall_ideal Tb0 60 _ _ _ _ hc, ?_⟩))
  show Wo _ _ _ _
  have hcl : cs.toList.length = 116 := by simpa using hcs
  have hput : ∀ (xs vs : List Value), vs.length = 116 → xs.length = 116 → (put xs 0 vs).length = 116 := by
    have key : ∀ (vs xs : List Value) (o : Nat), (put xs o vs).length = xs.length := by
      intro vs
      induction vs with
      | nil => intro xs o; rfl
      | cons v vs ih => intro xs o; rw [put, ih, List.length_set]
    intro xs vs _ h; rw [key]; exact h
  refine Wo_op (by simp only [iop]; rfl) ?_
  refine Wo_op (by simp only [iop, ev, dstUpd, upd, reduceIte, Nat.reduceEqDiff, ptr, cellsOf, hcl, Heap.write, new_get', List.length_cons, List.length_nil, Nat.reduceAdd, Nat.reduceLeDiff, Nat.zero_add, Option.map_some]; rfl) ?_
  refine Wo_nil ?_
  show Wc _ _ _ _
  generalize put _ _ cs.toList = ms
  have hgo : ∀ m, ((h1.new m).set h1.next (.cells ms true 0)).get 0 = some (.cells [a, b, c, d] true 0) := by
    intro m
    rw [set_get_ne' _ _ (by omega), new_get_ne' _ _ (by omega), hl]
  have fin : ∀ (e : Env) (hp : Heap), e 2 = ptr 0 0 → hp.get 0 = some (.cells [.string ⟨#[]⟩, .string ⟨#[]⟩, .string ⟨#[]⟩, .string ⟨#[]⟩] true 0) → ((Ex.ret = .normal ∨ Ex.ret = .ret) ∧ some ([] : List Dfr) = some [] ∧ ∃ vs, resAll e hp [.cell 2 (some 4)] = some vs ∧ Out.ret (tup vs) = .ret (.agg (rowL op).toArray)) := by
    intro e hp h2 hg
    refine ⟨.inr rfl, rfl, [.agg #[.string ⟨#[]⟩, .string ⟨#[]⟩, .string ⟨#[]⟩, .string ⟨#[]⟩]], ?_, by rw [row_out ho]; rfl⟩
    simp only [resAll, resV, h2, ptr, Heap.cells, hg, List.length_cons, List.length_nil, Nat.reduceAdd, Nat.reduceLeDiff, reduceIte, List.drop_zero, List.take_succ_cons, List.take_zero, Option.map_some]
  by_cases hneg : op < 0
  · refine Wc_seq (Wc_seq (Wc_ops (Wo_run (fun call => by simp only [List.drop_succ_cons, List.drop_zero, iops_nil, iops_op, iops_grd, iK_some, iG_true, iG_false, gval_bool, beq_true, beq_false, Bool.not_true, Bool.not_false, iop, ev, upd, dstUpd, binV, binI, unV, ptr, Heap.cell, Heap.write, cellsOf, put, args0, partL, List.getD_cons_zero, List.getD_cons_succ, List.length_cons, List.length_nil, List.set_cons_zero, List.set_cons_succ, List.getElem?_cons_zero, List.getElem?_cons_succ, reduceIte, Nat.reduceEqDiff, Nat.reduceAdd, Nat.reduceMul, Nat.reduceLeDiff, Nat.zero_add, Nat.add_zero, Option.map_some, Int.reduceEq, Int.reduceLT, Int.reduceLE, Bool.false_eq_true, decide_true, decide_false, ge_iff_le, gt_iff_lt, set_get', hneg]; rfl) ?_)))
    show Wc _ _ _ _
    refine Wc_cond true (by simp [ev, upd]) (fun _ => ?_) (fun h => by cases h)
    refine Wc_seq (Wc_ops (Wo_run (fun call => by simp only [List.drop_succ_cons, List.drop_zero, iops_nil, iops_op, iops_grd, iK_some, iG_true, iG_false, gval_bool, beq_true, beq_false, Bool.not_true, Bool.not_false, iop, ev, upd, dstUpd, binV, binI, unV, ptr, Heap.cell, Heap.write, cellsOf, put, args0, partL, List.getD_cons_zero, List.getD_cons_succ, List.length_cons, List.length_nil, List.set_cons_zero, List.set_cons_succ, List.getElem?_cons_zero, List.getElem?_cons_succ, reduceIte, Nat.reduceEqDiff, Nat.reduceAdd, Nat.reduceMul, Nat.reduceLeDiff, Nat.zero_add, Nat.add_zero, Option.map_some, Int.reduceEq, Int.reduceLT, Int.reduceLE, Bool.false_eq_true, decide_true, decide_false, ge_iff_le, gt_iff_lt, set_get', hgo, fillL, evps, List.map_nil]; rfl) ?_))
    refine Wc_ret (fin _ _ (by simp [upd, dstUpd, ptr]) (by rw [set_get']))
  · have hge : 29 ≤ op := by omega
    refine Wc_seq (Wc_seq (Wc_ops (Wo_run (fun call => by simp only [List.drop_succ_cons, List.drop_zero, iops_nil, iops_op, iops_grd, iK_some, iG_true, iG_false, gval_bool, beq_true, beq_false, Bool.not_true, Bool.not_false, iop, ev, upd, dstUpd, binV, binI, unV, ptr, Heap.cell, Heap.write, cellsOf, put, args0, partL, List.getD_cons_zero, List.getD_cons_succ, List.length_cons, List.length_nil, List.set_cons_zero, List.set_cons_succ, List.getElem?_cons_zero, List.getElem?_cons_succ, reduceIte, Nat.reduceEqDiff, Nat.reduceAdd, Nat.reduceMul, Nat.reduceLeDiff, Nat.zero_add, Nat.add_zero, Option.map_some, Int.reduceEq, Int.reduceLT, Int.reduceLE, Bool.false_eq_true, decide_true, decide_false, ge_iff_le, gt_iff_lt, set_get', hneg, hge]; rfl) ?_)))
    show Wc _ _ _ _
    refine Wc_cond true (by simp [ev, upd]) (fun _ => ?_) (fun h => by cases h)
    refine Wc_seq (Wc_ops (Wo_run (fun call => by simp only [List.drop_succ_cons, List.drop_zero, iops_nil, iops_op, iops_grd, iK_some, iG_true, iG_false, gval_bool, beq_true, beq_false, Bool.not_true, Bool.not_false, iop, ev, upd, dstUpd, binV, binI, unV, ptr, Heap.cell, Heap.write, cellsOf, put, args0, partL, List.getD_cons_zero, List.getD_cons_succ, List.length_cons, List.length_nil, List.set_cons_zero, List.set_cons_succ, List.getElem?_cons_zero, List.getElem?_cons_succ, reduceIte, Nat.reduceEqDiff, Nat.reduceAdd, Nat.reduceMul, Nat.reduceLeDiff, Nat.zero_add, Nat.add_zero, Option.map_some, Int.reduceEq, Int.reduceLT, Int.reduceLE, Bool.false_eq_true, decide_true, decide_false, ge_iff_le, gt_iff_lt, set_get', hgo, fillL, evps, List.map_nil]; rfl) ?_))
    refine Wc_ret (fin _ _ (by simp [upd, dstUpd, ptr]) (by rw [set_get']))

theorem in_range {op : Int} (h : 0 ≤ op ∧ op < 29) : op.toNat ∈ List.range 29 ∧ ((op.toNat : Nat) : Int) = op := ⟨by simp; omega, by omega⟩

theorem rowL_pure (op : Int) : (rowL op).all scal = true := by simp [rowL, strB, scal]

theorem cprim_icall {T : Tbl} {n : Nat} {f : FuncId} {args : List Value} {v : Value} (h : cprim T n f args = some v) : ∃ h', icall T n (.fn f) args ⟨fun _ => none, 0⟩ = some (.ret v, h') := by
  unfold cprim at h
  split at h
  case isFalse => cases h
  split at h
  case h_2 => cases h
  rename_i u h' hc
  split at h
  case isFalse => cases h
  cases h
  exact ⟨h', ccall_ideal T n _ _ _ _ hc⟩

theorem ofP_ok : PrimOk Try.prog 25 ofP := by
  refine primOk_pure Tb0ok (calleeOk_mk Try.func25 (by kernel_rfl) (by kernel_rfl)) fun args v h => ?_
  unfold ofP at h
  split at h
  case h_2 => cases h
  rename_i op
  refine ⟨rfl, by cases h; exact rowL_pure op, ?_⟩
  by_cases ho : 0 ≤ op ∧ op < 29
  · obtain ⟨h1, h2⟩ := in_range ho
    obtain ⟨u, e1, e2⟩ := optEq_eq (List.all_eq_true.1 of_run _ h1)
    rw [h2] at e1 e2
    simp only [ofP] at e2
    rw [h] at e2; cases e2
    obtain ⟨h', hi⟩ := cprim_icall e1
    exact ⟨60, h', hi⟩
  · obtain ⟨n, o, h', hi, rfl⟩ := of25 ho
    cases h
    exact ⟨n, h', hi⟩

theorem rowP_ok : PrimOk Try.prog 27 rowP := by
  refine primOk_pure Tb0ok (calleeOk_mk Try.func27 (by kernel_rfl) (by kernel_rfl)) fun args v h => ?_
  unfold rowP at h
  split at h
  case h_2 => cases h
  rename_i op
  refine ⟨rfl, by cases h; exact rowL_pure op, ?_⟩
  by_cases ho : 0 ≤ op ∧ op < 29
  · obtain ⟨h1, h2⟩ := in_range ho
    obtain ⟨u, e1, e2⟩ := optEq_eq (List.all_eq_true.1 row_run _ h1)
    rw [h2] at e1 e2
    simp only [rowP] at e2
    rw [h] at e2; cases e2
    obtain ⟨h', hi⟩ := cprim_icall e1
    exact ⟨60, h', hi⟩
  · obtain ⟨n, o, h', hi, rfl⟩ := row27 ho
    cases h
    exact ⟨n, h', hi⟩

theorem awakeP_ok : PrimOk Try.prog 7 (cprim T0 200 7) := primOk_cprim T0ok 200 (calleeOk_mk Try.func7 (by kernel_rfl) (by kernel_rfl))

noncomputable def T1 : Tbl := setPrim (setPrim (setPrim T0 7 (cprim T0 200 7)) 25 ofP) 27 rowP
theorem T1ok : TblOk Try.prog T1 := setPrim_ok (setPrim_ok (setPrim_ok T0ok awakeP_ok) ofP_ok) rowP_ok
theorem wake7 {h : Heap} {K : Out → Heap → Prop} (hK : K (.ret (.bool true)) h) : Wk T1 (.fn 7) [] h K := Wk_prim (p := cprim T0 200 7) (v := .bool true) rfl rfl (isTV_eq awake_run) hK
theorem of25' {op : Int} {h : Heap} {K : Out → Heap → Prop} (hK : K (.ret (.agg (rowL op).toArray)) h) : Wk T1 (.fn 25) [.int .i64 op] h K := Wk_prim (p := ofP) rfl rfl rfl hK
theorem row27' {op : Int} {h : Heap} {K : Out → Heap → Prop} (hK : K (.ret (.tuple (rowL op).toArray)) h) : Wk T1 (.fn 27) [.int .i64 op] h K := Wk_prim (p := rowP) rfl rfl rfl hK

end Go.Idl
end

section
/- What an instruction reads: both packages. -/
namespace Go.Idl
set_option linter.unusedVariables false
set_option linter.unusedSimpArgs false

/-- An instruction. -/
structure Ins where
  op : Int
  a : Int
  b : Int
  c : Int
  k : Int
  l : List Int
  lv : Value

def Ins.cells (x : Ins) : List Value := [.int .i64 x.op, .int .i64 x.a, .int .i64 x.b, .int .i64 x.c, .int .i64 x.k, x.lv]
def Ins.val (x : Ins) : Value := .agg x.cells.toArray
def fld (x : Ins) (c : Int) : Int := if c = 65 then x.a else if c = 66 then x.b else x.c
def lets (x : Ins) (c : UInt8) : List Int := if c = 76 then x.l else [fld x c.toNat]
def rd (x : Ins) : List UInt8 := (rowAt x.op).2.2.1
def readsOf (x : Ins) : List Int := (rd x).flatMap (lets x)

theorem rows_ok : (rowsT.all fun r => decide (r.2.2.1.length ≤ 3) && r.2.2.1.all fun c => decide (c.toNat < 128)) = true := by decide
theorem rd_ok (x : Ins) : (rd x).length ≤ 3 ∧ ∀ c ∈ rd x, c.toNat < 128 := by
  unfold rd rowAt
  split
  · rename_i h
    have hl : rowsT.length = 29 := by decide
    have hlt : x.op.toNat < rowsT.length := by omega
    rw [List.getD_eq_getElem?_getD, List.getElem?_eq_getElem hlt, Option.getD_some]
    have := List.all_eq_true.1 rows_ok _ (List.getElem_mem hlt)
    simp only [Bool.and_eq_true, decide_eq_true_eq, List.all_eq_true] at this
    exact this
  · exact ⟨by simp, by simp⟩

theorem decodeL {l : List UInt8} {k : Nat} {c : UInt8} (h : l[k]? = some c) (hc : c.toNat < 128) : Utf8.decode ⟨l.toArray⟩ k = (c.toNat, 1) := by
  have hlt : k < l.length := (List.getElem?_eq_some_iff.1 h).1
  have hs : k < (⟨l.toArray⟩ : ByteArray).size := by simpa [ByteArray.size] using hlt
  have he : (⟨l.toArray⟩ : ByteArray)[k]'hs = c := by
    have : l[k] = c := (List.getElem?_eq_some_iff.1 h).2
    simpa [ByteArray.getElem_eq_getElem_data] using this
  rw [decode_ascii _ _ hs (by rw [he]; exact hc), he]

theorem reg26 {T : Tbl} (hT : T.fn 26 = some C26) (x : Ins) (c : Int) (h : Heap) : Wk T (.fn 26) [x.val, .int .i32 c] h (fun o h' => Kept h h' ∧ o = .ret (.int .i64 (fld x c))) := by
  refine Wk_fn hT (by simp [C26]) ?_
  simp only [C26]
  have hb : iop (.box (.t 0)) (args0 [x.val, .int .i32 c]) h = some (ptr h.next 0, h.new (.cells x.cells true 0)) := by simp [iop, ev, args0, Ins.val, cellsOf]
  refine Wc_seq (Wc_ops (Wo_op hb (Wo_run (fun call => by simp only [List.drop_succ_cons, List.drop_zero, iops_nil, iops_op, iops_grd, iK_some, iG_true, iG_false, gval_bool, beq_true, beq_false, Bool.not_true, Bool.not_false, iop, ev, upd, dstUpd, binV, binI, unV, ptr, Heap.cell, Heap.write, cellsOf, put, args0, partL, List.getD_cons_zero, List.getD_cons_succ, List.length_cons, List.length_nil, List.set_cons_zero, List.set_cons_succ, List.getElem?_cons_zero, List.getElem?_cons_succ, reduceIte, Nat.reduceEqDiff, Nat.reduceAdd, Nat.reduceMul, Nat.reduceLeDiff, Nat.zero_add, Nat.add_zero, Option.map_some, Int.reduceEq, Int.reduceLT, Int.reduceLE, Bool.false_eq_true, decide_true, decide_false, ge_iff_le, gt_iff_lt, set_get']; rfl) ?_)))
  show Wc T _ _ _
  have hg : (h.new (.cells x.cells true 0)).get h.next = some (.cells x.cells true 0) := new_get' _ _
  have hk : Kept h (h.new (.cells x.cells true 0)) := (Kept.refl h).new _
  generalize h.new (.cells x.cells true 0) = h1 at hg hk ⊢
  have fin : ∀ (e : Env) (n : Int), e 4 = .int .i64 n → fld x c = n → ((Ex.ret = .normal ∨ Ex.ret = .ret) ∧ some ([] : List Dfr) = some [] ∧ ∃ vs, resAll e h1 [.tmp 4] = some vs ∧ Kept h h1 ∧ Out.ret (tup vs) = .ret (.int .i64 (fld x c))) := by
    intro e n h4 hn
    exact ⟨.inr rfl, rfl, [.int .i64 n], by simp only [resAll, resV, h4], hk, by rw [hn]; rfl⟩
  refine Wc_seq (Wc_seq (Wc_ops (Wo_run (fun call => by simp only [List.drop_succ_cons, List.drop_zero, iops_nil, iops_op, iops_grd, iK_some, iG_true, iG_false, gval_bool, beq_true, beq_false, Bool.not_true, Bool.not_false, iop, ev, upd, dstUpd, binV, binI, unV, ptr, Heap.cell, Heap.write, cellsOf, put, args0, partL, List.getD_cons_zero, List.getD_cons_succ, List.length_cons, List.length_nil, List.set_cons_zero, List.set_cons_succ, List.getElem?_cons_zero, List.getElem?_cons_succ, reduceIte, Nat.reduceEqDiff, Nat.reduceAdd, Nat.reduceMul, Nat.reduceLeDiff, Nat.zero_add, Nat.add_zero, Option.map_some, Int.reduceEq, Int.reduceLT, Int.reduceLE, Bool.false_eq_true, decide_true, decide_false, ge_iff_le, gt_iff_lt, set_get']; rfl) ?_)))
  show Wc T _ _ _
  by_cases h65 : c = 65
  · subst h65
    refine Wc_block (Wc_seq (Wc_ops (Wo_run (fun call => by simp only [List.drop_succ_cons, List.drop_zero, iops_nil, iops_op, iops_grd, iK_some, iG_true, iG_false, gval_bool, beq_true, beq_false, Bool.not_true, Bool.not_false, iop, ev, upd, dstUpd, binV, binI, unV, ptr, Heap.cell, Heap.write, cellsOf, put, args0, partL, List.getD_cons_zero, List.getD_cons_succ, List.length_cons, List.length_nil, List.set_cons_zero, List.set_cons_succ, List.getElem?_cons_zero, List.getElem?_cons_succ, reduceIte, Nat.reduceEqDiff, Nat.reduceAdd, Nat.reduceMul, Nat.reduceLeDiff, Nat.zero_add, Nat.add_zero, Option.map_some, Int.reduceEq, Int.reduceLT, Int.reduceLE, Bool.false_eq_true, decide_true, decide_false, ge_iff_le, gt_iff_lt, set_get', beq_self_eq_true]; rfl) ?_)))
    show Wc T _ _ _
    refine Wc_cond true (by simp [ev, upd]) (fun _ => ?_) (fun h => by cases h)
    refine Wc_seq (Wc_ops (Wo_run (fun call => by simp only [List.drop_succ_cons, List.drop_zero, iops_nil, iops_op, iops_grd, iK_some, iG_true, iG_false, gval_bool, beq_true, beq_false, Bool.not_true, Bool.not_false, iop, ev, upd, dstUpd, binV, binI, unV, ptr, Heap.cell, Heap.write, cellsOf, put, args0, partL, List.getD_cons_zero, List.getD_cons_succ, List.length_cons, List.length_nil, List.set_cons_zero, List.set_cons_succ, List.getElem?_cons_zero, List.getElem?_cons_succ, reduceIte, Nat.reduceEqDiff, Nat.reduceAdd, Nat.reduceMul, Nat.reduceLeDiff, Nat.zero_add, Nat.add_zero, Option.map_some, Int.reduceEq, Int.reduceLT, Int.reduceLE, Bool.false_eq_true, decide_true, decide_false, ge_iff_le, gt_iff_lt, set_get', hg, Ins.cells]; rfl) ?_))
    exact Wc_ret (fin _ x.a (by simp [upd, dstUpd]) (by simp [fld]))
  have hc65 : (c == 65) = false := by simpa using h65
  refine Wc_block (Wc_seq (Wc_ops (Wo_run (fun call => by simp only [List.drop_succ_cons, List.drop_zero, iops_nil, iops_op, iops_grd, iK_some, iG_true, iG_false, gval_bool, beq_true, beq_false, Bool.not_true, Bool.not_false, iop, ev, upd, dstUpd, binV, binI, unV, ptr, Heap.cell, Heap.write, cellsOf, put, args0, partL, List.getD_cons_zero, List.getD_cons_succ, List.length_cons, List.length_nil, List.set_cons_zero, List.set_cons_succ, List.getElem?_cons_zero, List.getElem?_cons_succ, reduceIte, Nat.reduceEqDiff, Nat.reduceAdd, Nat.reduceMul, Nat.reduceLeDiff, Nat.zero_add, Nat.add_zero, Option.map_some, Int.reduceEq, Int.reduceLT, Int.reduceLE, Bool.false_eq_true, decide_true, decide_false, ge_iff_le, gt_iff_lt, set_get', hc65]; rfl) ?_)))
  show Wc T _ _ _
  refine Wc_cond false (by simp [ev, upd]) (fun h => by cases h) (fun _ => ?_)
  by_cases h66 : c = 66
  · subst h66
    refine Wc_seq (Wc_ops (Wo_run (fun call => by simp only [List.drop_succ_cons, List.drop_zero, iops_nil, iops_op, iops_grd, iK_some, iG_true, iG_false, gval_bool, beq_true, beq_false, Bool.not_true, Bool.not_false, iop, ev, upd, dstUpd, binV, binI, unV, ptr, Heap.cell, Heap.write, cellsOf, put, args0, partL, List.getD_cons_zero, List.getD_cons_succ, List.length_cons, List.length_nil, List.set_cons_zero, List.set_cons_succ, List.getElem?_cons_zero, List.getElem?_cons_succ, reduceIte, Nat.reduceEqDiff, Nat.reduceAdd, Nat.reduceMul, Nat.reduceLeDiff, Nat.zero_add, Nat.add_zero, Option.map_some, Int.reduceEq, Int.reduceLT, Int.reduceLE, Bool.false_eq_true, decide_true, decide_false, ge_iff_le, gt_iff_lt, set_get', beq_self_eq_true]; rfl) ?_))
    show Wc T _ _ _
    refine Wc_cond true (by simp [ev, upd]) (fun _ => ?_) (fun h => by cases h)
    refine Wc_seq (Wc_ops (Wo_run (fun call => by simp only [List.drop_succ_cons, List.drop_zero, iops_nil, iops_op, iops_grd, iK_some, iG_true, iG_false, gval_bool, beq_true, beq_false, Bool.not_true, Bool.not_false, iop, ev, upd, dstUpd, binV, binI, unV, ptr, Heap.cell, Heap.write, cellsOf, put, args0, partL, List.getD_cons_zero, List.getD_cons_succ, List.length_cons, List.length_nil, List.set_cons_zero, List.set_cons_succ, List.getElem?_cons_zero, List.getElem?_cons_succ, reduceIte, Nat.reduceEqDiff, Nat.reduceAdd, Nat.reduceMul, Nat.reduceLeDiff, Nat.zero_add, Nat.add_zero, Option.map_some, Int.reduceEq, Int.reduceLT, Int.reduceLE, Bool.false_eq_true, decide_true, decide_false, ge_iff_le, gt_iff_lt, set_get', hg, Ins.cells]; rfl) ?_))
    exact Wc_ret (fin _ x.b (by simp [upd, dstUpd]) (by simp [fld]))
  have hc66 : (c == 66) = false := by simpa using h66
  refine Wc_seq (Wc_ops (Wo_run (fun call => by simp only [List.drop_succ_cons, List.drop_zero, iops_nil, iops_op, iops_grd, iK_some, iG_true, iG_false, gval_bool, beq_true, beq_false, Bool.not_true, Bool.not_false, iop, ev, upd, dstUpd, binV, binI, unV, ptr, Heap.cell, Heap.write, cellsOf, put, args0, partL, List.getD_cons_zero, List.getD_cons_succ, List.length_cons, List.length_nil, List.set_cons_zero, List.set_cons_succ, List.getElem?_cons_zero, List.getElem?_cons_succ, reduceIte, Nat.reduceEqDiff, Nat.reduceAdd, Nat.reduceMul, Nat.reduceLeDiff, Nat.zero_add, Nat.add_zero, Option.map_some, Int.reduceEq, Int.reduceLT, Int.reduceLE, Bool.false_eq_true, decide_true, decide_false, ge_iff_le, gt_iff_lt, set_get', hc66]; rfl) ?_))
  show Wc T _ _ _
  refine Wc_cond false (by simp [ev, upd]) (fun h => by cases h) (fun _ => Wc_skip ?_)
  show Wc T _ _ _
  refine Wc_seq (Wc_ops (Wo_run (fun call => by simp only [List.drop_succ_cons, List.drop_zero, iops_nil, iops_op, iops_grd, iK_some, iG_true, iG_false, gval_bool, beq_true, beq_false, Bool.not_true, Bool.not_false, iop, ev, upd, dstUpd, binV, binI, unV, ptr, Heap.cell, Heap.write, cellsOf, put, args0, partL, List.getD_cons_zero, List.getD_cons_succ, List.length_cons, List.length_nil, List.set_cons_zero, List.set_cons_succ, List.getElem?_cons_zero, List.getElem?_cons_succ, reduceIte, Nat.reduceEqDiff, Nat.reduceAdd, Nat.reduceMul, Nat.reduceLeDiff, Nat.zero_add, Nat.add_zero, Option.map_some, Int.reduceEq, Int.reduceLT, Int.reduceLE, Bool.false_eq_true, decide_true, decide_false, ge_iff_le, gt_iff_lt, set_get', hg, Ins.cells]; rfl) ?_))
  exact Wc_ret (fin _ x.c (by simp [upd, dstUpd]) (by simp [fld, h65, h66]))

theorem field28 {T : Tbl} (hT : T.fn 28 = some C28) (x : Ins) (c : Int) (h : Heap) : Wk T (.fn 28) [x.val, .int .u8 c] h (fun o h' => Kept h h' ∧ o = .ret (.int .i64 (fld x c))) := by
  refine Wk_fn hT (by simp [C28]) ?_
  simp only [C28]
  have hb : iop (.box (.t 0)) (args0 [x.val, .int .u8 c]) h = some (ptr h.next 0, h.new (.cells x.cells true 0)) := by simp [iop, ev, args0, Ins.val, cellsOf]
  refine Wc_seq (Wc_ops (Wo_op hb (Wo_run (fun call => by simp only [List.drop_succ_cons, List.drop_zero, iops_nil, iops_op, iops_grd, iK_some, iG_true, iG_false, gval_bool, beq_true, beq_false, Bool.not_true, Bool.not_false, iop, ev, upd, dstUpd, binV, binI, unV, ptr, Heap.cell, Heap.write, cellsOf, put, args0, partL, List.getD_cons_zero, List.getD_cons_succ, List.length_cons, List.length_nil, List.set_cons_zero, List.set_cons_succ, List.getElem?_cons_zero, List.getElem?_cons_succ, reduceIte, Nat.reduceEqDiff, Nat.reduceAdd, Nat.reduceMul, Nat.reduceLeDiff, Nat.zero_add, Nat.add_zero, Option.map_some, Int.reduceEq, Int.reduceLT, Int.reduceLE, Bool.false_eq_true, decide_true, decide_false, ge_iff_le, gt_iff_lt, set_get']; rfl) ?_)))
  show Wc T _ _ _
  have hg : (h.new (.cells x.cells true 0)).get h.next = some (.cells x.cells true 0) := new_get' _ _
  have hk : Kept h (h.new (.cells x.cells true 0)) := (Kept.refl h).new _
  generalize h.new (.cells x.cells true 0) = h1 at hg hk ⊢
  have fin : ∀ (e : Env) (n : Int), e 4 = .int .i64 n → fld x c = n → ((Ex.ret = .normal ∨ Ex.ret = .ret) ∧ some ([] : List Dfr) = some [] ∧ ∃ vs, resAll e h1 [.tmp 4] = some vs ∧ Kept h h1 ∧ Out.ret (tup vs) = .ret (.int .i64 (fld x c))) := by
    intro e n h4 hn
    exact ⟨.inr rfl, rfl, [.int .i64 n], by simp only [resAll, resV, h4], hk, by rw [hn]; rfl⟩
  refine Wc_seq (Wc_seq (Wc_ops (Wo_run (fun call => by simp only [List.drop_succ_cons, List.drop_zero, iops_nil, iops_op, iops_grd, iK_some, iG_true, iG_false, gval_bool, beq_true, beq_false, Bool.not_true, Bool.not_false, iop, ev, upd, dstUpd, binV, binI, unV, ptr, Heap.cell, Heap.write, cellsOf, put, args0, partL, List.getD_cons_zero, List.getD_cons_succ, List.length_cons, List.length_nil, List.set_cons_zero, List.set_cons_succ, List.getElem?_cons_zero, List.getElem?_cons_succ, reduceIte, Nat.reduceEqDiff, Nat.reduceAdd, Nat.reduceMul, Nat.reduceLeDiff, Nat.zero_add, Nat.add_zero, Option.map_some, Int.reduceEq, Int.reduceLT, Int.reduceLE, Bool.false_eq_true, decide_true, decide_false, ge_iff_le, gt_iff_lt, set_get']; rfl) ?_)))
  show Wc T _ _ _
  by_cases h65 : c = 65
  · subst h65
    refine Wc_block (Wc_seq (Wc_ops (Wo_run (fun call => by simp only [List.drop_succ_cons, List.drop_zero, iops_nil, iops_op, iops_grd, iK_some, iG_true, iG_false, gval_bool, beq_true, beq_false, Bool.not_true, Bool.not_false, iop, ev, upd, dstUpd, binV, binI, unV, ptr, Heap.cell, Heap.write, cellsOf, put, args0, partL, List.getD_cons_zero, List.getD_cons_succ, List.length_cons, List.length_nil, List.set_cons_zero, List.set_cons_succ, List.getElem?_cons_zero, List.getElem?_cons_succ, reduceIte, Nat.reduceEqDiff, Nat.reduceAdd, Nat.reduceMul, Nat.reduceLeDiff, Nat.zero_add, Nat.add_zero, Option.map_some, Int.reduceEq, Int.reduceLT, Int.reduceLE, Bool.false_eq_true, decide_true, decide_false, ge_iff_le, gt_iff_lt, set_get', beq_self_eq_true]; rfl) ?_)))
    show Wc T _ _ _
    refine Wc_cond true (by simp [ev, upd]) (fun _ => ?_) (fun h => by cases h)
    refine Wc_seq (Wc_ops (Wo_run (fun call => by simp only [List.drop_succ_cons, List.drop_zero, iops_nil, iops_op, iops_grd, iK_some, iG_true, iG_false, gval_bool, beq_true, beq_false, Bool.not_true, Bool.not_false, iop, ev, upd, dstUpd, binV, binI, unV, ptr, Heap.cell, Heap.write, cellsOf, put, args0, partL, List.getD_cons_zero, List.getD_cons_succ, List.length_cons, List.length_nil, List.set_cons_zero, List.set_cons_succ, List.getElem?_cons_zero, List.getElem?_cons_succ, reduceIte, Nat.reduceEqDiff, Nat.reduceAdd, Nat.reduceMul, Nat.reduceLeDiff, Nat.zero_add, Nat.add_zero, Option.map_some, Int.reduceEq, Int.reduceLT, Int.reduceLE, Bool.false_eq_true, decide_true, decide_false, ge_iff_le, gt_iff_lt, set_get', hg, Ins.cells]; rfl) ?_))
    exact Wc_ret (fin _ x.a (by simp [upd, dstUpd]) (by simp [fld]))
  have hc65 : (c == 65) = false := by simpa using h65
  refine Wc_block (Wc_seq (Wc_ops (Wo_run (fun call => by simp only [List.drop_succ_cons, List.drop_zero, iops_nil, iops_op, iops_grd, iK_some, iG_true, iG_false, gval_bool, beq_true, beq_false, Bool.not_true, Bool.not_false, iop, ev, upd, dstUpd, binV, binI, unV, ptr, Heap.cell, Heap.write, cellsOf, put, args0, partL, List.getD_cons_zero, List.getD_cons_succ, List.length_cons, List.length_nil, List.set_cons_zero, List.set_cons_succ, List.getElem?_cons_zero, List.getElem?_cons_succ, reduceIte, Nat.reduceEqDiff, Nat.reduceAdd, Nat.reduceMul, Nat.reduceLeDiff, Nat.zero_add, Nat.add_zero, Option.map_some, Int.reduceEq, Int.reduceLT, Int.reduceLE, Bool.false_eq_true, decide_true, decide_false, ge_iff_le, gt_iff_lt, set_get', hc65]; rfl) ?_)))
  show Wc T _ _ _
  refine Wc_cond false (by simp [ev, upd]) (fun h => by cases h) (fun _ => ?_)
  by_cases h66 : c = 66
  · subst h66
    refine Wc_seq (Wc_ops (Wo_run (fun call => by simp only [List.drop_succ_cons, List.drop_zero, iops_nil, iops_op, iops_grd, iK_some, iG_true, iG_false, gval_bool, beq_true, beq_false, Bool.not_true, Bool.not_false, iop, ev, upd, dstUpd, binV, binI, unV, ptr, Heap.cell, Heap.write, cellsOf, put, args0, partL, List.getD_cons_zero, List.getD_cons_succ, List.length_cons, List.length_nil, List.set_cons_zero, List.set_cons_succ, List.getElem?_cons_zero, List.getElem?_cons_succ, reduceIte, Nat.reduceEqDiff, Nat.reduceAdd, Nat.reduceMul, Nat.reduceLeDiff, Nat.zero_add, Nat.add_zero, Option.map_some, Int.reduceEq, Int.reduceLT, Int.reduceLE, Bool.false_eq_true, decide_true, decide_false, ge_iff_le, gt_iff_lt, set_get', beq_self_eq_true]; rfl) ?_))
    show Wc T _ _ _
    refine Wc_cond true (by simp [ev, upd]) (fun _ => ?_) (fun h => by cases h)
    refine Wc_seq (Wc_ops (Wo_run (fun call => by simp only [List.drop_succ_cons, List.drop_zero, iops_nil, iops_op, iops_grd, iK_some, iG_true, iG_false, gval_bool, beq_true, beq_false, Bool.not_true, Bool.not_false, iop, ev, upd, dstUpd, binV, binI, unV, ptr, Heap.cell, Heap.write, cellsOf, put, args0, partL, List.getD_cons_zero, List.getD_cons_succ, List.length_cons, List.length_nil, List.set_cons_zero, List.set_cons_succ, List.getElem?_cons_zero, List.getElem?_cons_succ, reduceIte, Nat.reduceEqDiff, Nat.reduceAdd, Nat.reduceMul, Nat.reduceLeDiff, Nat.zero_add, Nat.add_zero, Option.map_some, Int.reduceEq, Int.reduceLT, Int.reduceLE, Bool.false_eq_true, decide_true, decide_false, ge_iff_le, gt_iff_lt, set_get', hg, Ins.cells]; rfl) ?_))
    exact Wc_ret (fin _ x.b (by simp [upd, dstUpd]) (by simp [fld]))
  have hc66 : (c == 66) = false := by simpa using h66
  refine Wc_seq (Wc_ops (Wo_run (fun call => by simp only [List.drop_succ_cons, List.drop_zero, iops_nil, iops_op, iops_grd, iK_some, iG_true, iG_false, gval_bool, beq_true, beq_false, Bool.not_true, Bool.not_false, iop, ev, upd, dstUpd, binV, binI, unV, ptr, Heap.cell, Heap.write, cellsOf, put, args0, partL, List.getD_cons_zero, List.getD_cons_succ, List.length_cons, List.length_nil, List.set_cons_zero, List.set_cons_succ, List.getElem?_cons_zero, List.getElem?_cons_succ, reduceIte, Nat.reduceEqDiff, Nat.reduceAdd, Nat.reduceMul, Nat.reduceLeDiff, Nat.zero_add, Nat.add_zero, Option.map_some, Int.reduceEq, Int.reduceLT, Int.reduceLE, Bool.false_eq_true, decide_true, decide_false, ge_iff_le, gt_iff_lt, set_get', hc66]; rfl) ?_))
  show Wc T _ _ _
  refine Wc_cond false (by simp [ev, upd]) (fun h => by cases h) (fun _ => Wc_skip ?_)
  show Wc T _ _ _
  refine Wc_seq (Wc_ops (Wo_run (fun call => by simp only [List.drop_succ_cons, List.drop_zero, iops_nil, iops_op, iops_grd, iK_some, iG_true, iG_false, gval_bool, beq_true, beq_false, Bool.not_true, Bool.not_false, iop, ev, upd, dstUpd, binV, binI, unV, ptr, Heap.cell, Heap.write, cellsOf, put, args0, partL, List.getD_cons_zero, List.getD_cons_succ, List.length_cons, List.length_nil, List.set_cons_zero, List.set_cons_succ, List.getElem?_cons_zero, List.getElem?_cons_succ, reduceIte, Nat.reduceEqDiff, Nat.reduceAdd, Nat.reduceMul, Nat.reduceLeDiff, Nat.zero_add, Nat.add_zero, Option.map_some, Int.reduceEq, Int.reduceLT, Int.reduceLE, Bool.false_eq_true, decide_true, decide_false, ge_iff_le, gt_iff_lt, set_get', hg, Ins.cells]; rfl) ?_))
  exact Wc_ret (fin _ x.c (by simp [upd, dstUpd]) (by simp [fld, h65, h66]))


theorem flatMap_len {f : UInt8 → List Int} {n : Nat} : ∀ (l : List UInt8), (∀ c, (f c).length ≤ n) → (l.flatMap f).length ≤ l.length * n
  | [], _ => by simp
  | c :: l, h => by
    have := flatMap_len l h
    have := h c
    simp only [List.flatMap_cons, List.length_append, List.length_cons, Nat.add_mul, Nat.one_mul]
    omega

theorem take_flat {l : List UInt8} {k : Nat} {c : UInt8} (f : UInt8 → List Int) (h : l[k]? = some c) : (l.take (k + 1)).flatMap f = (l.take k).flatMap f ++ f c := by
  rw [List.take_add_one, h]; simp

theorem reads12 {T : Tbl} (hT : T.fn 12 = some C12) (hT26 : T.fn 26 = some C26) (h25 : ∀ {op : Int} {h : Heap} {K : Out → Heap → Prop}, K (.ret (.agg (rowL op).toArray)) h → Wk T (.fn 25) [.int .i64 op] h K)
    (x : Ins) (h : Heap) (hx : intsAt h x.lv x.l) (hl : x.l.length ≤ 1000) : Wk T (.fn 12) [x.val] h (fun o h' => Kept h h' ∧ ∃ v, o = .ret v ∧ intsAt h' v (readsOf x)) := by
  refine Wk_fn hT (by simp [C12]) ?_
  simp only [C12]
  have hb : iop (.box (.t 0)) (args0 [x.val]) h = some (ptr h.next 0, h.new (.cells x.cells true 0)) := by simp [iop, ev, args0, Ins.val, cellsOf]
  refine Wc_seq (Wc_ops (Wo_op hb (Wo_run (fun call => by simp only [List.drop_succ_cons, List.drop_zero, iops_nil, iops_op, iops_grd, iK_some, iG_true, iG_false, gval_bool, beq_true, beq_false, Bool.not_true, Bool.not_false, iop, ev, upd, dstUpd, binV, binI, unV, ptr, Heap.cell, Heap.write, cellsOf, put, args0, partL, List.getD_cons_zero, List.getD_cons_succ, List.length_cons, List.length_nil, List.set_cons_zero, List.set_cons_succ, List.getElem?_cons_zero, List.getElem?_cons_succ, reduceIte, Nat.reduceEqDiff, Nat.reduceAdd, Nat.reduceMul, Nat.reduceLeDiff, Nat.zero_add, Nat.add_zero, Option.map_some, Int.reduceEq, Int.reduceLT, Int.reduceLE, Bool.false_eq_true, decide_true, decide_false, ge_iff_le, gt_iff_lt, set_get']; rfl) ?_)))
  show Wc T _ _ _
  have hg : (h.new (.cells x.cells true 0)).get h.next = some (.cells x.cells true 0) := new_get' _ _
  have hk : Kept h (h.new (.cells x.cells true 0)) := (Kept.refl h).new _
  have hn1 : (h.new (.cells x.cells true 0)).next = h.next + 1 := rfl
  generalize h.new (.cells x.cells true 0) = h1 at hg hk hn1 ⊢
  refine Wc_seq (Wc_ops (Wo_run (fun call => by simp only [List.drop_succ_cons, List.drop_zero, iops_nil, iops_op, iops_grd, iK_some, iG_true, iG_false, gval_bool, beq_true, beq_false, Bool.not_true, Bool.not_false, iop, ev, upd, dstUpd, binV, binI, unV, ptr, Heap.cell, Heap.write, cellsOf, put, args0, partL, List.getD_cons_zero, List.getD_cons_succ, List.length_cons, List.length_nil, List.set_cons_zero, List.set_cons_succ, List.getElem?_cons_zero, List.getElem?_cons_succ, reduceIte, Nat.reduceEqDiff, Nat.reduceAdd, Nat.reduceMul, Nat.reduceLeDiff, Nat.zero_add, Nat.add_zero, Option.map_some, Int.reduceEq, Int.reduceLT, Int.reduceLE, Bool.false_eq_true, decide_true, decide_false, ge_iff_le, gt_iff_lt, set_get']; rfl) ?_))
  show Wc T _ _ _
  refine Wc_seq (Wc_seq (Wc_ops (Wo_pre 2 (fun call => by simp only [List.take_succ_cons, List.take_zero, List.drop_succ_cons, List.drop_zero, iops_nil, iops_op, iops_grd, iK_some, iG_true, iG_false, gval_bool, beq_true, beq_false, Bool.not_true, Bool.not_false, iop, ev, upd, dstUpd, binV, binI, unV, ptr, Heap.cell, Heap.write, cellsOf, put, args0, partL, List.getD_cons_zero, List.getD_cons_succ, List.length_cons, List.length_nil, List.set_cons_zero, List.set_cons_succ, List.getElem?_cons_zero, List.getElem?_cons_succ, reduceIte, Nat.reduceEqDiff, Nat.reduceAdd, Nat.reduceMul, Nat.reduceLeDiff, Nat.zero_add, Nat.add_zero, Option.map_some, Int.reduceEq, Int.reduceLT, Int.reduceLE, Bool.false_eq_true, decide_true, decide_false, ge_iff_le, gt_iff_lt, set_get', hg, Ins.cells]; rfl) ?_)))
  refine Wo_call (h25 ?_)
  show Wo T _ _ _
  obtain ⟨hr3, hasc⟩ := rd_ok x
  have hrd : strB (rowAt x.op).2.2.1 = .string ⟨(rd x).toArray⟩ := rfl
  refine (Wo_run (fun call => by simp only [List.drop_succ_cons, List.drop_zero, iops_nil, iops_op, iops_grd, iK_some, iG_true, iG_false, gval_bool, beq_true, beq_false, Bool.not_true, Bool.not_false, iop, ev, upd, dstUpd, binV, binI, unV, ptr, Heap.cell, Heap.write, cellsOf, put, args0, partL, List.getD_cons_zero, List.getD_cons_succ, List.length_cons, List.length_nil, List.set_cons_zero, List.set_cons_succ, List.getElem?_cons_zero, List.getElem?_cons_succ, reduceIte, Nat.reduceEqDiff, Nat.reduceAdd, Nat.reduceMul, Nat.reduceLeDiff, Nat.zero_add, Nat.add_zero, Option.map_some, Int.reduceEq, Int.reduceLT, Int.reduceLE, Bool.false_eq_true, decide_true, decide_false, ge_iff_le, gt_iff_lt, set_get', rowL, hrd]; rfl) ?_)
  show Wc T _ _ _
  have hg2 : (h1.new (.siter ⟨(rd x).toArray⟩ 0)).get h1.next = some (.siter ⟨(rd x).toArray⟩ 0) := new_get' _ _
  have hgb : (h1.new (.siter ⟨(rd x).toArray⟩ 0)).get h.next = some (.cells x.cells true 0) := by rw [new_get_ne' _ _ (by omega)]; exact hg
  have hk2 : Kept h (h1.new (.siter ⟨(rd x).toArray⟩ 0)) := hk.new _
  have hn2 : (h1.new (.siter ⟨(rd x).toArray⟩ 0)).next = h.next + 2 := by rw [new_next]; omega
  rw [hn1] at hg2
  generalize h1.new (.siter ⟨(rd x).toArray⟩ 0) = h2 at hg2 hgb hk2 hn2 ⊢
  refine Wc_block (Wc_loop (fun s => s.d = some [] ∧ Kept h s.h ∧ h.next + 2 ≤ s.h.next ∧ s.e 1 = ptr h.next 0 ∧ s.e 10 = ptr (h.next + 1) 0 ∧ s.h.get h.next = some (.cells x.cells true 0) ∧
      ∃ (k : Nat) (v : Value), k ≤ (rd x).length ∧ s.h.get (h.next + 1) = some (.siter ⟨(rd x).toArray⟩ k) ∧ s.e 3 = v ∧ ownI (h.next + 2) s.h v (((rd x).take k).flatMap (lets x)))
    (fun s => match s.h.get (h.next + 1) with | some (.siter _ k) => (rd x).length - k | _ => 0) ?_ ?_)
  · refine ⟨rfl, hk2, Nat.le_of_eq hn2.symm, by simp [upd, dstUpd, ptr], by simp [upd, dstUpd, ptr, hn1], hgb, 0, .slice none 0 0, Nat.zero_le _, hg2, by simp [upd, dstUpd], .inl ⟨by simp, rfl⟩⟩
  rintro ⟨e, hp, d⟩ ⟨hd, hkp, hnp, g1, g10, gb, k, v, hkl, gs, g3, ho⟩
  simp only at hd hkp hnp g1 g10 gb gs g3 ho
  subst hd
  rw [C12L0]
  have hsz : (⟨(rd x).toArray⟩ : ByteArray).size = (rd x).length := by simp [ByteArray.size]
  by_cases hend : k < (rd x).length
  case neg =>
    have hkk : k = (rd x).length := by omega
    have hlt : ¬ k < (⟨(rd x).toArray⟩ : ByteArray).size := by rw [hsz]; exact hend
    refine Wc_seq (Wc_ops (Wo_run (fun call => by simp only [List.drop_succ_cons, List.drop_zero, iops_nil, iops_op, iops_grd, iK_some, iG_true, iG_false, gval_bool, beq_true, beq_false, Bool.not_true, Bool.not_false, iop, ev, upd, dstUpd, binV, binI, unV, ptr, Heap.cell, Heap.write, cellsOf, put, args0, partL, List.getD_cons_zero, List.getD_cons_succ, List.length_cons, List.length_nil, List.set_cons_zero, List.set_cons_succ, List.getElem?_cons_zero, List.getElem?_cons_succ, reduceIte, Nat.reduceEqDiff, Nat.reduceAdd, Nat.reduceMul, Nat.reduceLeDiff, Nat.zero_add, Nat.add_zero, Option.map_some, Int.reduceEq, Int.reduceLT, Int.reduceLE, Bool.false_eq_true, decide_true, decide_false, ge_iff_le, gt_iff_lt, set_get', g10, gs, hlt]; rfl) ?_))
    show Wc T _ _ _
    refine Wc_seq (Wc_cond false (by simp [ev, upd]) (fun h => by cases h) (fun _ => Wc_exit ?_))
    show Wc T _ _ _
    refine Wc_seq (Wc_ops (Wo_run (fun call => by simp only [List.drop_succ_cons, List.drop_zero, iops_nil, iops_op, iops_grd, iK_some, iG_true, iG_false, gval_bool, beq_true, beq_false, Bool.not_true, Bool.not_false, iop, ev, upd, dstUpd, binV, binI, unV, ptr, Heap.cell, Heap.write, cellsOf, put, args0, partL, List.getD_cons_zero, List.getD_cons_succ, List.length_cons, List.length_nil, List.set_cons_zero, List.set_cons_succ, List.getElem?_cons_zero, List.getElem?_cons_succ, reduceIte, Nat.reduceEqDiff, Nat.reduceAdd, Nat.reduceMul, Nat.reduceLeDiff, Nat.zero_add, Nat.add_zero, Option.map_some, Int.reduceEq, Int.reduceLT, Int.reduceLE, Bool.false_eq_true, decide_true, decide_false, ge_iff_le, gt_iff_lt, set_get', g3]; rfl) ?_))
    refine Wc_ret ⟨.inr rfl, rfl, [v], by simp only [resAll, resV, upd, dstUpd, Nat.reduceEqDiff, reduceIte], hkp, v, rfl, ?_⟩
    rw [hkk, List.take_length] at ho
    exact ho.ints
  obtain ⟨c, hc⟩ : ∃ c, (rd x)[k]? = some c := ⟨_, List.getElem?_eq_getElem hend⟩
  have hca := hasc c (List.mem_of_getElem? hc)
  have hdec := decodeL hc hca
  have hlt : k < (⟨(rd x).toArray⟩ : ByteArray).size := by rw [hsz]; exact hend
  refine Wc_seq (Wc_ops (Wo_run (fun call => by simp only [List.drop_succ_cons, List.drop_zero, iops_nil, iops_op, iops_grd, iK_some, iG_true, iG_false, gval_bool, beq_true, beq_false, Bool.not_true, Bool.not_false, iop, ev, upd, dstUpd, binV, binI, unV, ptr, Heap.cell, Heap.write, cellsOf, put, args0, partL, List.getD_cons_zero, List.getD_cons_succ, List.length_cons, List.length_nil, List.set_cons_zero, List.set_cons_succ, List.getElem?_cons_zero, List.getElem?_cons_succ, reduceIte, Nat.reduceEqDiff, Nat.reduceAdd, Nat.reduceMul, Nat.reduceLeDiff, Nat.zero_add, Nat.add_zero, Option.map_some, Int.reduceEq, Int.reduceLT, Int.reduceLE, Bool.false_eq_true, decide_true, decide_false, ge_iff_le, gt_iff_lt, set_get', g10, gs, hlt, hdec]; rfl) ?_))
  show Wc T _ _ _
  have gs3 : (hp.set (h.next + 1) (.siter ⟨(rd x).toArray⟩ (k + 1))).get (h.next + 1) = some (.siter ⟨(rd x).toArray⟩ (k + 1)) := set_get' _ _ _
  have gb3 : (hp.set (h.next + 1) (.siter ⟨(rd x).toArray⟩ (k + 1))).get h.next = some (.cells x.cells true 0) := by rw [set_get_ne' _ _ (by omega)]; exact gb
  have hk3 : Kept h (hp.set (h.next + 1) (.siter ⟨(rd x).toArray⟩ (k + 1))) := hkp.set (Nat.le_succ _) _
  have ho3 : ownI (h.next + 2) (hp.set (h.next + 1) (.siter ⟨(rd x).toArray⟩ (k + 1))) v (((rd x).take k).flatMap (lets x)) := ho.keep (Nat.le_refl _) (fun b h1 h2 => set_get_ne' _ _ (by omega))
  have hn3 : h.next + 2 ≤ (hp.set (h.next + 1) (.siter ⟨(rd x).toArray⟩ (k + 1))).next := hnp
  generalize hp.set (h.next + 1) (.siter ⟨(rd x).toArray⟩ (k + 1)) = h3 at gs3 gb3 hk3 ho3 hn3 ⊢
  have hlen : (((rd x).take k).flatMap (lets x)).length ≤ 3003 := by
    have h1 := flatMap_len (n := 1001) ((rd x).take k) (f := lets x) (fun c => by unfold lets; split; exact Nat.le_succ_of_le hl; exact Nat.succ_le_succ (Nat.zero_le _))
    have h2 : ((rd x).take k).length ≤ 3 := by rw [List.length_take]; omega
    omega
  have more : ∀ (e' : Env) (h4 : Heap) (v' : Value) , e' 1 = ptr h.next 0 → e' 10 = ptr (h.next + 1) 0 → e' 3 = v' → Beside v h3 h4 → ownI (h.next + 2) h4 v' (((rd x).take k).flatMap (lets x) ++ lets x c) →
      ((some ([] : List Dfr) = some [] ∧ Kept h h4 ∧ h.next + 2 ≤ h4.next ∧ e' 1 = ptr h.next 0 ∧ e' 10 = ptr (h.next + 1) 0 ∧ h4.get h.next = some (.cells x.cells true 0) ∧
      ∃ (k : Nat) (v : Value), k ≤ (rd x).length ∧ h4.get (h.next + 1) = some (.siter ⟨(rd x).toArray⟩ k) ∧ e' 3 = v ∧ ownI (h.next + 2) h4 v (((rd x).take k).flatMap (lets x))) ∧
      (match h4.get (h.next + 1) with | some (.siter _ k) => (rd x).length - k | _ => 0) < (match hp.get (h.next + 1) with | some (.siter _ k) => (rd x).length - k | _ => 0)) := by
    intro e' h4 v' f1 f10 f3 hbs hown
    have hs4 : h4.get (h.next + 1) = some (.siter ⟨(rd x).toArray⟩ (k + 1)) := by rw [hbs.at ho3 (by omega) (by omega)]; exact gs3
    refine ⟨⟨rfl, hbs.kept ho3 (by omega) hk3, Nat.le_trans hn3 hbs.next, f1, f10, by rw [hbs.at ho3 (by omega) (by omega)]; exact gb3, k + 1, v', by omega, hs4, f3, by rw [take_flat (lets x) hc]; exact hown⟩, ?_⟩
    rw [hs4, gs]
    simp only; omega
  refine Wc_seq (Wc_cond true (by simp [ev, upd]) (fun _ => Wc_skip ?_) (fun h => by cases h))
  show Wc T _ _ _
  refine Wc_block (Wc_seq (Wc_ops (Wo_run (fun call => by simp only [List.drop_succ_cons, List.drop_zero, iops_nil, iops_op, iops_grd, iK_some, iG_true, iG_false, gval_bool, beq_true, beq_false, Bool.not_true, Bool.not_false, iop, ev, upd, dstUpd, binV, binI, unV, ptr, Heap.cell, Heap.write, cellsOf, put, args0, partL, List.getD_cons_zero, List.getD_cons_succ, List.length_cons, List.length_nil, List.set_cons_zero, List.set_cons_succ, List.getElem?_cons_zero, List.getElem?_cons_succ, reduceIte, Nat.reduceEqDiff, Nat.reduceAdd, Nat.reduceMul, Nat.reduceLeDiff, Nat.zero_add, Nat.add_zero, Option.map_some, Int.reduceEq, Int.reduceLT, Int.reduceLE, Bool.false_eq_true, decide_true, decide_false, ge_iff_le, gt_iff_lt, set_get']; rfl) ?_)))
  show Wc T _ _ _
  by_cases h76 : c = 76
  · subst h76
    refine Wc_seq (Wc_ops (Wo_run (fun call => by simp only [List.drop_succ_cons, List.drop_zero, iops_nil, iops_op, iops_grd, iK_some, iG_true, iG_false, gval_bool, beq_true, beq_false, Bool.not_true, Bool.not_false, iop, ev, upd, dstUpd, binV, binI, unV, ptr, Heap.cell, Heap.write, cellsOf, put, args0, partL, List.getD_cons_zero, List.getD_cons_succ, List.length_cons, List.length_nil, List.set_cons_zero, List.set_cons_succ, List.getElem?_cons_zero, List.getElem?_cons_succ, reduceIte, Nat.reduceEqDiff, Nat.reduceAdd, Nat.reduceMul, Nat.reduceLeDiff, Nat.zero_add, Nat.add_zero, Option.map_some, Int.reduceEq, Int.reduceLT, Int.reduceLE, Bool.false_eq_true, decide_true, decide_false, ge_iff_le, gt_iff_lt, set_get']; rfl) ?_))
    show Wc T _ _ _
    refine Wc_cond true (by simp [ev, upd]) (fun _ => ?_) (fun h => by cases h)
    obtain ⟨v', h4, ha, hbs, hown, _⟩ := append_own ho3 hn3 (hx.keep hk3).elems (by omega)
    refine Wc_ops (Wo_run (fun call => by simp only [List.drop_succ_cons, List.drop_zero, iops_nil, iops_op, iops_grd, iK_some, iG_true, iG_false, gval_bool, beq_true, beq_false, Bool.not_true, Bool.not_false, iop, ev, upd, dstUpd, binV, binI, unV, ptr, Heap.cell, Heap.write, cellsOf, put, args0, partL, List.getD_cons_zero, List.getD_cons_succ, List.length_cons, List.length_nil, List.set_cons_zero, List.set_cons_succ, List.getElem?_cons_zero, List.getElem?_cons_succ, reduceIte, Nat.reduceEqDiff, Nat.reduceAdd, Nat.reduceMul, Nat.reduceLeDiff, Nat.zero_add, Nat.add_zero, Option.map_some, Int.reduceEq, Int.reduceLT, Int.reduceLE, Bool.false_eq_true, decide_true, decide_false, ge_iff_le, gt_iff_lt, set_get', g3, g1, gb3, Ins.cells, ha]; rfl) ?_)
    exact more _ _ v' (by simp [upd, dstUpd, g1]) (by simp [upd, dstUpd, g10]) (by simp [upd, dstUpd]) hbs (by simpa [lets] using hown)
  · have hne : ((c.toNat : Int) == 76) = false := by
      simp only [beq_eq_false_iff_ne, ne_eq]
      intro e
      apply h76
      apply UInt8.toNat_inj.1
      show c.toNat = 76
      omega
    refine Wc_seq (Wc_ops (Wo_run (fun call => by simp only [List.drop_succ_cons, List.drop_zero, iops_nil, iops_op, iops_grd, iK_some, iG_true, iG_false, gval_bool, beq_true, beq_false, Bool.not_true, Bool.not_false, iop, ev, upd, dstUpd, binV, binI, unV, ptr, Heap.cell, Heap.write, cellsOf, put, args0, partL, List.getD_cons_zero, List.getD_cons_succ, List.length_cons, List.length_nil, List.set_cons_zero, List.set_cons_succ, List.getElem?_cons_zero, List.getElem?_cons_succ, reduceIte, Nat.reduceEqDiff, Nat.reduceAdd, Nat.reduceMul, Nat.reduceLeDiff, Nat.zero_add, Nat.add_zero, Option.map_some, Int.reduceEq, Int.reduceLT, Int.reduceLE, Bool.false_eq_true, decide_true, decide_false, ge_iff_le, gt_iff_lt, set_get', hne]; rfl) ?_))
    show Wc T _ _ _
    refine Wc_cond false (by simp [ev, upd]) (fun h => by cases h) (fun _ => ?_)
    have hload : h3.cells h.next 0 6 = some x.cells := by
      simp only [Heap.cells, gb3]
      rfl
    refine Wc_ops (Wo_pre 3 (fun call => by simp only [List.take_succ_cons, List.take_zero, List.drop_succ_cons, List.drop_zero, iops_nil, iops_op, iops_grd, iK_some, iG_true, iG_false, gval_bool, beq_true, beq_false, Bool.not_true, Bool.not_false, iop, ev, upd, dstUpd, binV, binI, unV, ptr, Heap.cell, Heap.write, cellsOf, put, args0, partL, List.getD_cons_zero, List.getD_cons_succ, List.length_cons, List.length_nil, List.set_cons_zero, List.set_cons_succ, List.getElem?_cons_zero, List.getElem?_cons_succ, reduceIte, Nat.reduceEqDiff, Nat.reduceAdd, Nat.reduceMul, Nat.reduceLeDiff, Nat.zero_add, Nat.add_zero, Option.map_some, Int.reduceEq, Int.reduceLT, Int.reduceLE, Bool.false_eq_true, decide_true, decide_false, ge_iff_le, gt_iff_lt, set_get', g3, g1, hload]; rfl) ?_)
    refine Wo_call ?_
    show Wk T (.fn 26) [x.val, .int .i32 c.toNat] h3 _
    refine (reg26 hT26 x c.toNat h3).mono fun o h4 ⟨hk4, ho4⟩ => ?_
    subst ho4
    show Wo T _ _ _
    have ho4 : ownI (h.next + 2) h4 v (((rd x).take k).flatMap (lets x)) := ho3.keep hk4.next (fun b h1 h2 => hk4.get b h2)
    have ho5 : ownI (h.next + 2) (h4.new (.cells [.int .i64 (fld x c.toNat)] true 1)) v (((rd x).take k).flatMap (lets x)) := ho4.keep (Nat.le_succ _) (fun b h1 h2 => new_get_ne' _ _ (Nat.ne_of_lt h2))
    have hlit : iop (.lit 1 1 [(.int .i64 0)] [(0, 1, (.t 23))]) (dstUpd (dstUpd (dstUpd (dstUpd e none .nilIface) none .nilIface) none .nilIface) (some 23) (.int .i64 (fld x c.toNat))) h4 = some (.slice (some ⟨h4.next, 0, none⟩) 1 1, h4.new (.cells [.int .i64 (fld x c.toNat)] true 1)) := rfl
    have hel : elemsOf (h4.new (.cells [.int .i64 (fld x c.toNat)] true 1)) 1 (.slice (some ⟨h4.next, 0, none⟩) 1 1) = some ([fld x c.toNat].length, ints64 [fld x c.toNat]) := by
      simp [elemsOf, Heap.cells, new_get', ints64]
    obtain ⟨v', h5, ha, hbs, hown, _⟩ := append_own ho5 (by rw [new_next]; have := hk4.next; omega) hel (by rw [List.length_singleton]; omega)
    refine Wo_op rfl ?_
    refine (Wo_run (fun call => by simp only [List.drop_succ_cons, List.drop_zero, iops_nil, iops_op, iops_grd, iK_some, iG_true, iG_false, gval_bool, beq_true, beq_false, Bool.not_true, Bool.not_false, iop, ev, upd, dstUpd, binV, binI, unV, ptr, Heap.cell, Heap.write, cellsOf, put, args0, partL, List.getD_cons_zero, List.getD_cons_succ, List.length_cons, List.length_nil, List.set_cons_zero, List.set_cons_succ, List.getElem?_cons_zero, List.getElem?_cons_succ, reduceIte, Nat.reduceEqDiff, Nat.reduceAdd, Nat.reduceMul, Nat.reduceLeDiff, Nat.zero_add, Nat.add_zero, Option.map_some, Int.reduceEq, Int.reduceLT, Int.reduceLE, Bool.false_eq_true, decide_true, decide_false, ge_iff_le, gt_iff_lt, set_get', g3, ha]; rfl) ?_)
    refine more _ _ v' (by simp [upd, dstUpd, g1]) (by simp [upd, dstUpd, g10]) (by simp [upd, dstUpd]) ⟨?_, fun b h1 h2 => ?_⟩ (by simpa [lets, h76] using hown)
    · show h3.next ≤ h5.next
      have := hk4.next; have := hbs.next; rw [new_next] at this; omega
    · have := hk4.next
      rw [hbs.get b (by rw [new_next]; omega) h2, new_get_ne' _ _ (by omega), hk4.get b h1]

end Go.Idl
end
