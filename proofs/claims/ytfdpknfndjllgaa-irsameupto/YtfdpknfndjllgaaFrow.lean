/- Functions as ideal code. (Printed by wip/tools/Print.lean) -/
import Derived.Test.YtfdpknfndjllgaaI0b
namespace Go.Idl
set_option maxRecDepth 100000
-- swath/ir.of
def C25 : IFn := ⟨15, (.seq (.ops [⟨(some 2), .op (.alloc [(.string ⟨#[]⟩), (.string ⟨#[]⟩), (.string ⟨#[]⟩), (.string ⟨#[]⟩)]), none⟩])
  (.seq (.ops [⟨(some 4), .call 42 [], none⟩,
    ⟨(some 3), .op (.alloc [(.string ⟨#[]⟩), (.string ⟨#[]⟩), (.string ⟨#[]⟩), (.string ⟨#[]⟩), (.string ⟨#[]⟩), (.string ⟨#[]⟩), (.string ⟨#[]⟩), (.string ⟨#[]⟩), (.string ⟨#[]⟩), (.string ⟨#[]⟩), (.string ⟨#[]⟩), (.string ⟨#[]⟩), (.string ⟨#[]⟩), (.string ⟨#[]⟩), (.string ⟨#[]⟩), (.string ⟨#[]⟩), (.string ⟨#[]⟩), (.string ⟨#[]⟩), (.string ⟨#[]⟩), (.string ⟨#[]⟩), (.string ⟨#[]⟩), (.string ⟨#[]⟩), (.string ⟨#[]⟩), (.string ⟨#[]⟩), (.string ⟨#[]⟩), (.string ⟨#[]⟩), (.string ⟨#[]⟩), (.string ⟨#[]⟩), (.string ⟨#[]⟩), (.string ⟨#[]⟩), (.string ⟨#[]⟩), (.string ⟨#[]⟩), (.string ⟨#[]⟩), (.string ⟨#[]⟩), (.string ⟨#[]⟩), (.string ⟨#[]⟩), (.string ⟨#[]⟩), (.string ⟨#[]⟩), (.string ⟨#[]⟩), (.string ⟨#[]⟩), (.string ⟨#[]⟩), (.string ⟨#[]⟩), (.string ⟨#[]⟩), (.string ⟨#[]⟩), (.string ⟨#[]⟩), (.string ⟨#[]⟩), (.string ⟨#[]⟩), (.string ⟨#[]⟩), (.string ⟨#[]⟩), (.string ⟨#[]⟩), (.string ⟨#[]⟩), (.string ⟨#[]⟩), (.string ⟨#[]⟩), (.string ⟨#[]⟩), (.string ⟨#[]⟩), (.string ⟨#[]⟩), (.string ⟨#[]⟩), (.string ⟨#[]⟩), (.string ⟨#[]⟩), (.string ⟨#[]⟩), (.string ⟨#[]⟩), (.string ⟨#[]⟩), (.string ⟨#[]⟩), (.string ⟨#[]⟩), (.string ⟨#[]⟩), (.string ⟨#[]⟩), (.string ⟨#[]⟩), (.string ⟨#[]⟩), (.string ⟨#[]⟩), (.string ⟨#[]⟩), (.string ⟨#[]⟩), (.string ⟨#[]⟩), (.string ⟨#[]⟩), (.string ⟨#[]⟩), (.string ⟨#[]⟩), (.string ⟨#[]⟩), (.string ⟨#[]⟩), (.string ⟨#[]⟩), (.string ⟨#[]⟩), (.string ⟨#[]⟩), (.string ⟨#[]⟩), (.string ⟨#[]⟩), (.string ⟨#[]⟩), (.string ⟨#[]⟩), (.string ⟨#[]⟩), (.string ⟨#[]⟩), (.string ⟨#[]⟩), (.string ⟨#[]⟩), (.string ⟨#[]⟩), (.string ⟨#[]⟩), (.string ⟨#[]⟩), (.string ⟨#[]⟩), (.string ⟨#[]⟩), (.string ⟨#[]⟩), (.string ⟨#[]⟩), (.string ⟨#[]⟩), (.string ⟨#[]⟩), (.string ⟨#[]⟩), (.string ⟨#[]⟩), (.string ⟨#[]⟩), (.string ⟨#[]⟩), (.string ⟨#[]⟩), (.string ⟨#[]⟩), (.string ⟨#[]⟩), (.string ⟨#[]⟩), (.string ⟨#[]⟩), (.string ⟨#[]⟩), (.string ⟨#[]⟩), (.string ⟨#[]⟩), (.string ⟨#[]⟩), (.string ⟨#[]⟩), (.string ⟨#[]⟩), (.string ⟨#[]⟩), (.string ⟨#[]⟩), (.string ⟨#[]⟩), (.string ⟨#[]⟩)]), none⟩,
    ⟨none, .op (.store 116 (.t 3) (.t 4)), none⟩])
  (.seq (.seq (.ops [⟨(some 5), .op (.mov (.t 0)), none⟩,
    ⟨(some 6), .op (.bin .lss (.t 5) (.c (.int .i64 0))), none⟩,
    ⟨(some 7), .op (.mov (.t 6)), none⟩,
    ⟨(some 8), .op (.mov (.t 0)), (some (7, false))⟩,
    ⟨(some 9), .op (.bin .geq (.t 8) (.c (.int .i64 29))), (some (7, false))⟩,
    ⟨(some 10), .op (.pick (.t 7) (.c (.bool true)) (.t 9)), none⟩])
  (.cond (.t 10)
    (.seq (.ops [⟨(some 11), .op (.build [(.string ⟨#[]⟩), (.string ⟨#[]⟩), (.string ⟨#[]⟩), (.string ⟨#[]⟩)] []), none⟩,
      ⟨none, .op (.store 4 (.t 2) (.t 11)), none⟩])
    .ret)
    .skip))
  (.seq (.ops [⟨(some 12), .op (.mov (.t 0)), none⟩,
    ⟨(some 13), .op (.iaddr (.ar 29 4) (.t 3) (.t 12)), none⟩,
    ⟨(some 14), .op (.load (some 4) (.t 13)), none⟩,
    ⟨none, .op (.store 4 (.t 2) (.t 14)), none⟩])
  .ret)))), [.cell 2 (some 4)]⟩
-- swath/swathref10.row
def C27 : IFn := ⟨63, (.seq (.ops [⟨(some 2), .op (.mov (.c (.string ⟨#[]⟩))), none⟩,
    ⟨(some 3), .op (.mov (.c (.string ⟨#[]⟩))), none⟩,
    ⟨(some 4), .op (.mov (.c (.string ⟨#[]⟩))), none⟩,
    ⟨(some 5), .op (.mov (.c (.string ⟨#[]⟩))), none⟩])
  (.seq (.seq (.ops [⟨(some 6), .op (.mov (.t 0)), none⟩])
  (.block 0
    (.seq (.ops [⟨(some 8), .op (.bin .eql (.t 6) (.c (.int .i64 1))), none⟩,
      ⟨(some 7), .op (.mov (.t 8)), none⟩])
    (.cond (.t 7)
      (.seq (.ops [⟨(some 2), .op (.mov (.c (.string ⟨#[110, 117, 109]⟩))), none⟩,
        ⟨(some 3), .op (.mov (.c (.string ⟨#[65, 75]⟩))), none⟩,
        ⟨(some 4), .op (.mov (.c (.string ⟨#[]⟩))), none⟩,
        ⟨(some 5), .op (.mov (.c (.string ⟨#[65]⟩))), none⟩])
      .ret)
      (.seq (.ops [⟨(some 10), .op (.bin .eql (.t 6) (.c (.int .i64 2))), none⟩,
        ⟨(some 9), .op (.mov (.t 10)), none⟩])
      (.cond (.t 9)
        (.seq (.ops [⟨(some 2), .op (.mov (.c (.string ⟨#[110, 117, 108, 108]⟩))), none⟩,
          ⟨(some 3), .op (.mov (.c (.string ⟨#[65]⟩))), none⟩,
          ⟨(some 4), .op (.mov (.c (.string ⟨#[]⟩))), none⟩,
          ⟨(some 5), .op (.mov (.c (.string ⟨#[65]⟩))), none⟩])
        .ret)
        (.seq (.ops [⟨(some 12), .op (.bin .eql (.t 6) (.c (.int .i64 3))), none⟩,
          ⟨(some 11), .op (.mov (.t 12)), none⟩])
        (.cond (.t 11)
          (.seq (.ops [⟨(some 2), .op (.mov (.c (.string ⟨#[109, 111, 118, 101]⟩))), none⟩,
            ⟨(some 3), .op (.mov (.c (.string ⟨#[65, 66]⟩))), none⟩,
            ⟨(some 4), .op (.mov (.c (.string ⟨#[66]⟩))), none⟩,
            ⟨(some 5), .op (.mov (.c (.string ⟨#[65]⟩))), none⟩])
          .ret)
          (.seq (.ops [⟨(some 14), .op (.bin .eql (.t 6) (.c (.int .i64 4))), none⟩,
            ⟨(some 13), .op (.mov (.t 14)), none⟩])
          (.cond (.t 13)
            (.seq (.ops [⟨(some 2), .op (.mov (.c (.string ⟨#[98, 105, 110]⟩))), none⟩,
              ⟨(some 3), .op (.mov (.c (.string ⟨#[65, 66, 67, 75]⟩))), none⟩,
              ⟨(some 4), .op (.mov (.c (.string ⟨#[66, 67]⟩))), none⟩,
              ⟨(some 5), .op (.mov (.c (.string ⟨#[65]⟩))), none⟩])
            .ret)
            (.seq (.ops [⟨(some 16), .op (.bin .eql (.t 6) (.c (.int .i64 5))), none⟩,
              ⟨(some 15), .op (.mov (.t 16)), none⟩])
            (.cond (.t 15)
              (.seq (.ops [⟨(some 2), .op (.mov (.c (.string ⟨#[117, 110]⟩))), none⟩,
                ⟨(some 3), .op (.mov (.c (.string ⟨#[65, 66, 75]⟩))), none⟩,
                ⟨(some 4), .op (.mov (.c (.string ⟨#[66]⟩))), none⟩,
                ⟨(some 5), .op (.mov (.c (.string ⟨#[65]⟩))), none⟩])
              .ret)
              (.seq (.ops [⟨(some 18), .op (.bin .eql (.t 6) (.c (.int .i64 6))), none⟩,
                ⟨(some 17), .op (.mov (.t 18)), none⟩])
              (.cond (.t 17)
                (.seq (.ops [⟨(some 2), .op (.mov (.c (.string ⟨#[101, 113]⟩))), none⟩,
                  ⟨(some 3), .op (.mov (.c (.string ⟨#[65, 66, 67]⟩))), none⟩,
                  ⟨(some 4), .op (.mov (.c (.string ⟨#[66, 67]⟩))), none⟩,
                  ⟨(some 5), .op (.mov (.c (.string ⟨#[65]⟩))), none⟩])
                .ret)
                (.seq (.ops [⟨(some 20), .op (.bin .eql (.t 6) (.c (.int .i64 7))), none⟩,
                  ⟨(some 19), .op (.mov (.t 20)), none⟩])
                (.cond (.t 19)
                  (.seq (.ops [⟨(some 2), .op (.mov (.c (.string ⟨#[110, 101]⟩))), none⟩,
                    ⟨(some 3), .op (.mov (.c (.string ⟨#[65, 66, 67]⟩))), none⟩,
                    ⟨(some 4), .op (.mov (.c (.string ⟨#[66, 67]⟩))), none⟩,
                    ⟨(some 5), .op (.mov (.c (.string ⟨#[65]⟩))), none⟩])
                  .ret)
                  (.seq (.ops [⟨(some 22), .op (.bin .eql (.t 6) (.c (.int .i64 8))), none⟩,
                    ⟨(some 21), .op (.mov (.t 22)), none⟩])
                  (.cond (.t 21)
                    (.seq (.ops [⟨(some 2), .op (.mov (.c (.string ⟨#[103, 101, 116]⟩))), none⟩,
                      ⟨(some 3), .op (.mov (.c (.string ⟨#[65, 66, 67, 75]⟩))), none⟩,
                      ⟨(some 4), .op (.mov (.c (.string ⟨#[66]⟩))), none⟩,
                      ⟨(some 5), .op (.mov (.c (.string ⟨#[65]⟩))), none⟩])
                    .ret)
                    (.seq (.ops [⟨(some 24), .op (.bin .eql (.t 6) (.c (.int .i64 9))), none⟩,
                      ⟨(some 23), .op (.mov (.t 24)), none⟩])
                    (.cond (.t 23)
                      (.seq (.ops [⟨(some 2), .op (.mov (.c (.string ⟨#[112, 117, 116]⟩))), none⟩,
                        ⟨(some 3), .op (.mov (.c (.string ⟨#[65, 66, 67, 75]⟩))), none⟩,
                        ⟨(some 4), .op (.mov (.c (.string ⟨#[65, 66]⟩))), none⟩,
                        ⟨(some 5), .op (.mov (.c (.string ⟨#[]⟩))), none⟩])
                      .ret)
                      (.seq (.ops [⟨(some 26), .op (.bin .eql (.t 6) (.c (.int .i64 10))), none⟩,
                        ⟨(some 25), .op (.mov (.t 26)), none⟩])
                      (.cond (.t 25)
                        (.seq (.ops [⟨(some 2), .op (.mov (.c (.string ⟨#[101, 108, 101, 109]⟩))), none⟩,
                          ⟨(some 3), .op (.mov (.c (.string ⟨#[65, 66, 67]⟩))), none⟩,
                          ⟨(some 4), .op (.mov (.c (.string ⟨#[66, 67]⟩))), none⟩,
                          ⟨(some 5), .op (.mov (.c (.string ⟨#[65]⟩))), none⟩])
                        .ret)
                        (.seq (.ops [⟨(some 28), .op (.bin .eql (.t 6) (.c (.int .i64 11))), none⟩,
                          ⟨(some 27), .op (.mov (.t 28)), none⟩])
                        (.cond (.t 27)
                          (.seq (.ops [⟨(some 2), .op (.mov (.c (.string ⟨#[115, 101, 116, 101, 108, 101, 109]⟩))), none⟩,
                            ⟨(some 3), .op (.mov (.c (.string ⟨#[65, 66, 67]⟩))), none⟩,
                            ⟨(some 4), .op (.mov (.c (.string ⟨#[65, 66, 67]⟩))), none⟩,
                            ⟨(some 5), .op (.mov (.c (.string ⟨#[]⟩))), none⟩])
                          .ret)
                          (.seq (.ops [⟨(some 30), .op (.bin .eql (.t 6) (.c (.int .i64 12))), none⟩,
                            ⟨(some 29), .op (.mov (.t 30)), none⟩])
                          (.cond (.t 29)
                            (.seq (.ops [⟨(some 2), .op (.mov (.c (.string ⟨#[108, 101, 110]⟩))), none⟩,
                              ⟨(some 3), .op (.mov (.c (.string ⟨#[65, 66]⟩))), none⟩,
                              ⟨(some 4), .op (.mov (.c (.string ⟨#[66]⟩))), none⟩,
                              ⟨(some 5), .op (.mov (.c (.string ⟨#[65]⟩))), none⟩])
                            .ret)
                            (.seq (.ops [⟨(some 32), .op (.bin .eql (.t 6) (.c (.int .i64 13))), none⟩,
                              ⟨(some 31), .op (.mov (.t 32)), none⟩])
                            (.cond (.t 31)
                              (.seq (.ops [⟨(some 2), .op (.mov (.c (.string ⟨#[110, 101, 119]⟩))), none⟩,
                                ⟨(some 3), .op (.mov (.c (.string ⟨#[65, 67, 75]⟩))), none⟩,
                                ⟨(some 4), .op (.mov (.c (.string ⟨#[]⟩))), none⟩,
                                ⟨(some 5), .op (.mov (.c (.string ⟨#[65]⟩))), none⟩])
                              .ret)
                              (.seq (.ops [⟨(some 34), .op (.bin .eql (.t 6) (.c (.int .i64 14))), none⟩,
                                ⟨(some 33), .op (.mov (.t 34)), none⟩])
                              (.cond (.t 33)
                                (.seq (.ops [⟨(some 2), .op (.mov (.c (.string ⟨#[97, 114, 114]⟩))), none⟩,
                                  ⟨(some 3), .op (.mov (.c (.string ⟨#[65, 66]⟩))), none⟩,
                                  ⟨(some 4), .op (.mov (.c (.string ⟨#[66]⟩))), none⟩,
                                  ⟨(some 5), .op (.mov (.c (.string ⟨#[65]⟩))), none⟩])
                                .ret)
                                (.seq (.ops [⟨(some 36), .op (.bin .eql (.t 6) (.c (.int .i64 15))), none⟩,
                                  ⟨(some 35), .op (.mov (.t 36)), none⟩])
                                (.cond (.t 35)
                                  (.seq (.ops [⟨(some 2), .op (.mov (.c (.string ⟨#[105, 110]⟩))), none⟩,
                                    ⟨(some 3), .op (.mov (.c (.string ⟨#[65]⟩))), none⟩,
                                    ⟨(some 4), .op (.mov (.c (.string ⟨#[]⟩))), none⟩,
                                    ⟨(some 5), .op (.mov (.c (.string ⟨#[65]⟩))), none⟩])
                                  .ret)
                                  (.seq (.ops [⟨(some 38), .op (.bin .eql (.t 6) (.c (.int .i64 16))), none⟩,
                                    ⟨(some 37), .op (.mov (.t 38)), none⟩])
                                  (.cond (.t 37)
                                    (.seq (.ops [⟨(some 2), .op (.mov (.c (.string ⟨#[111, 117, 116]⟩))), none⟩,
                                      ⟨(some 3), .op (.mov (.c (.string ⟨#[65]⟩))), none⟩,
                                      ⟨(some 4), .op (.mov (.c (.string ⟨#[65]⟩))), none⟩,
                                      ⟨(some 5), .op (.mov (.c (.string ⟨#[]⟩))), none⟩])
                                    .ret)
                                    (.seq (.ops [⟨(some 40), .op (.bin .eql (.t 6) (.c (.int .i64 17))), none⟩,
                                      ⟨(some 39), .op (.mov (.t 40)), none⟩])
                                    (.cond (.t 39)
                                      (.seq (.ops [⟨(some 2), .op (.mov (.c (.string ⟨#[105, 109, 103]⟩))), none⟩,
                                        ⟨(some 3), .op (.mov (.c (.string ⟨#[65, 66]⟩))), none⟩,
                                        ⟨(some 4), .op (.mov (.c (.string ⟨#[66]⟩))), none⟩,
                                        ⟨(some 5), .op (.mov (.c (.string ⟨#[65]⟩))), none⟩])
                                      .ret)
                                      (.seq (.ops [⟨(some 42), .op (.bin .eql (.t 6) (.c (.int .i64 18))), none⟩,
                                        ⟨(some 41), .op (.mov (.t 42)), none⟩])
                                      (.cond (.t 41)
                                        (.seq (.ops [⟨(some 2), .op (.mov (.c (.string ⟨#[115, 105, 122, 101]⟩))), none⟩,
                                          ⟨(some 3), .op (.mov (.c (.string ⟨#[65]⟩))), none⟩,
                                          ⟨(some 4), .op (.mov (.c (.string ⟨#[]⟩))), none⟩,
                                          ⟨(some 5), .op (.mov (.c (.string ⟨#[65]⟩))), none⟩])
                                        .ret)
                                        (.seq (.ops [⟨(some 44), .op (.bin .eql (.t 6) (.c (.int .i64 19))), none⟩,
                                          ⟨(some 43), .op (.mov (.t 44)), none⟩])
                                        (.cond (.t 43)
                                          (.seq (.ops [⟨(some 2), .op (.mov (.c (.string ⟨#[114, 111, 111, 116]⟩))), none⟩,
                                            ⟨(some 3), .op (.mov (.c (.string ⟨#[65]⟩))), none⟩,
                                            ⟨(some 4), .op (.mov (.c (.string ⟨#[]⟩))), none⟩,
                                            ⟨(some 5), .op (.mov (.c (.string ⟨#[65]⟩))), none⟩])
                                          .ret)
                                          (.seq (.ops [⟨(some 46), .op (.bin .eql (.t 6) (.c (.int .i64 20))), none⟩,
                                            ⟨(some 45), .op (.mov (.t 46)), none⟩])
                                          (.cond (.t 45)
                                            (.seq (.ops [⟨(some 2), .op (.mov (.c (.string ⟨#[115, 101, 116, 114, 111, 111, 116]⟩))), none⟩,
                                              ⟨(some 3), .op (.mov (.c (.string ⟨#[65]⟩))), none⟩,
                                              ⟨(some 4), .op (.mov (.c (.string ⟨#[65]⟩))), none⟩,
                                              ⟨(some 5), .op (.mov (.c (.string ⟨#[]⟩))), none⟩])
                                            .ret)
                                            (.seq (.ops [⟨(some 48), .op (.bin .eql (.t 6) (.c (.int .i64 21))), none⟩,
                                              ⟨(some 47), .op (.mov (.t 48)), none⟩])
                                            (.cond (.t 47)
                                              (.seq (.ops [⟨(some 2), .op (.mov (.c (.string ⟨#[106, 117, 109, 112]⟩))), none⟩,
                                                ⟨(some 3), .op (.mov (.c (.string ⟨#[75]⟩))), none⟩,
                                                ⟨(some 4), .op (.mov (.c (.string ⟨#[]⟩))), none⟩,
                                                ⟨(some 5), .op (.mov (.c (.string ⟨#[]⟩))), none⟩])
                                              .ret)
                                              (.seq (.ops [⟨(some 50), .op (.bin .eql (.t 6) (.c (.int .i64 22))), none⟩,
                                                ⟨(some 49), .op (.mov (.t 50)), none⟩])
                                              (.cond (.t 49)
                                                (.seq (.ops [⟨(some 2), .op (.mov (.c (.string ⟨#[122, 101, 114, 111]⟩))), none⟩,
                                                  ⟨(some 3), .op (.mov (.c (.string ⟨#[65, 75]⟩))), none⟩,
                                                  ⟨(some 4), .op (.mov (.c (.string ⟨#[65]⟩))), none⟩,
                                                  ⟨(some 5), .op (.mov (.c (.string ⟨#[]⟩))), none⟩])
                                                .ret)
                                                (.seq (.ops [⟨(some 52), .op (.bin .eql (.t 6) (.c (.int .i64 23))), none⟩,
                                                  ⟨(some 51), .op (.mov (.t 52)), none⟩])
                                                (.cond (.t 51)
                                                  (.seq (.ops [⟨(some 2), .op (.mov (.c (.string ⟨#[99, 97, 108, 108]⟩))), none⟩,
                                                    ⟨(some 3), .op (.mov (.c (.string ⟨#[65, 75, 76]⟩))), none⟩,
                                                    ⟨(some 4), .op (.mov (.c (.string ⟨#[76]⟩))), none⟩,
                                                    ⟨(some 5), .op (.mov (.c (.string ⟨#[65]⟩))), none⟩])
                                                  .ret)
                                                  (.seq (.ops [⟨(some 54), .op (.bin .eql (.t 6) (.c (.int .i64 24))), none⟩,
                                                    ⟨(some 53), .op (.mov (.t 54)), none⟩])
                                                  (.cond (.t 53)
                                                    (.seq (.ops [⟨(some 2), .op (.mov (.c (.string ⟨#[114, 101, 116]⟩))), none⟩,
                                                      ⟨(some 3), .op (.mov (.c (.string ⟨#[65]⟩))), none⟩,
                                                      ⟨(some 4), .op (.mov (.c (.string ⟨#[65]⟩))), none⟩,
                                                      ⟨(some 5), .op (.mov (.c (.string ⟨#[]⟩))), none⟩])
                                                    .ret)
                                                    (.seq (.ops [⟨(some 56), .op (.bin .eql (.t 6) (.c (.int .i64 25))), none⟩,
                                                      ⟨(some 55), .op (.mov (.t 56)), none⟩])
                                                    (.cond (.t 55)
                                                      (.seq (.ops [⟨(some 2), .op (.mov (.c (.string ⟨#[115, 116, 111, 112]⟩))), none⟩,
                                                        ⟨(some 3), .op (.mov (.c (.string ⟨#[65]⟩))), none⟩,
                                                        ⟨(some 4), .op (.mov (.c (.string ⟨#[65]⟩))), none⟩,
                                                        ⟨(some 5), .op (.mov (.c (.string ⟨#[]⟩))), none⟩])
                                                      .ret)
                                                      (.seq (.ops [⟨(some 58), .op (.bin .eql (.t 6) (.c (.int .i64 26))), none⟩,
                                                        ⟨(some 57), .op (.mov (.t 58)), none⟩])
                                                      (.cond (.t 57)
                                                        (.seq (.ops [⟨(some 2), .op (.mov (.c (.string ⟨#[115, 116, 101, 112]⟩))), none⟩,
                                                          ⟨(some 3), .op (.mov (.c (.string ⟨#[]⟩))), none⟩,
                                                          ⟨(some 4), .op (.mov (.c (.string ⟨#[]⟩))), none⟩,
                                                          ⟨(some 5), .op (.mov (.c (.string ⟨#[]⟩))), none⟩])
                                                        .ret)
                                                        (.seq (.ops [⟨(some 60), .op (.bin .eql (.t 6) (.c (.int .i64 27))), none⟩,
                                                          ⟨(some 59), .op (.mov (.t 60)), none⟩])
                                                        (.cond (.t 59)
                                                          (.seq (.ops [⟨(some 2), .op (.mov (.c (.string ⟨#[109, 101, 114, 103, 101]⟩))), none⟩,
                                                            ⟨(some 3), .op (.mov (.c (.string ⟨#[75, 76]⟩))), none⟩,
                                                            ⟨(some 4), .op (.mov (.c (.string ⟨#[76]⟩))), none⟩,
                                                            ⟨(some 5), .op (.mov (.c (.string ⟨#[]⟩))), none⟩])
                                                          .ret)
                                                          (.seq (.ops [⟨(some 62), .op (.bin .eql (.t 6) (.c (.int .i64 28))), none⟩,
                                                            ⟨(some 61), .op (.mov (.t 62)), none⟩])
                                                          (.cond (.t 61)
                                                            (.seq (.ops [⟨(some 2), .op (.mov (.c (.string ⟨#[112, 114, 111, 109, 111, 116, 101]⟩))), none⟩,
                                                              ⟨(some 3), .op (.mov (.c (.string ⟨#[65, 66]⟩))), none⟩,
                                                              ⟨(some 4), .op (.mov (.c (.string ⟨#[66]⟩))), none⟩,
                                                              ⟨(some 5), .op (.mov (.c (.string ⟨#[65]⟩))), none⟩])
                                                            .ret)
                                                            .skip))))))))))))))))))))))))))))))))))))))))))))))))))))))))))
  (.seq (.ops [⟨(some 2), .op (.mov (.c (.string ⟨#[]⟩))), none⟩,
    ⟨(some 3), .op (.mov (.c (.string ⟨#[]⟩))), none⟩,
    ⟨(some 4), .op (.mov (.c (.string ⟨#[]⟩))), none⟩,
    ⟨(some 5), .op (.mov (.c (.string ⟨#[]⟩))), none⟩])
  .ret))), [.tmp 2, .tmp 3, .tmp 4, .tmp 5]⟩

end Go.Idl
