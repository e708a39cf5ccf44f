/- What nodes must be, by the reference: texts, kinds. -/
import Derived.Test.YtlphecjgkknpnaaI3f
import Derived.Test.YtlphecjgkknpnaaL7
section
/- Functions as ideal code. (Printed by wip/tools/Print.lean) -/
namespace Go.Idl
-- swath/swathlaw05.TreeOnce
def C7A0 : IC :=
  (.ops [⟨(some 7), .op (.mov (.t 30)), none⟩])

def C7B0 : IC :=
  (.block 1
    (.seq (.seq (.ops [⟨(some 32), .op (.mov (.t 7)), none⟩,
      ⟨(some 33), .op (.bin .lss (.t 32) (.c (.int .i64 0))), none⟩,
      ⟨(some 34), .op (.mov (.t 33)), none⟩,
      ⟨(some 35), .op (.mov (.t 7)), (some (34, false))⟩,
      ⟨(some 36), .op (.load none (.t 1)), (some (34, false))⟩,
      ⟨(some 37), .op (.len .sl (.t 36)), (some (34, false))⟩,
      ⟨(some 38), .op (.bin .geq (.t 35) (.t 37)), (some (34, false))⟩,
      ⟨(some 39), .op (.pick (.t 34) (.c (.bool true)) (.t 38)), none⟩])
    (.cond (.t 39)
      (.seq (.ops [⟨none, .op (.store 1 (.t 2) (.c (.bool false))), none⟩])
      .ret)
      .skip))
    (.ops [⟨(some 40), .op (.load none (.t 6)), none⟩,
      ⟨(some 41), .op (.mov (.t 7)), none⟩,
      ⟨(some 42), .op (.iaddr (.sl 1) (.t 40) (.t 41)), none⟩,
      ⟨(some 43), .op (.load none (.t 42)), none⟩,
      ⟨(some 44), .op (.bin .add (.t 43) (.c (.int .i64 1))), none⟩,
      ⟨(some 45), .op (.iaddr (.sl 1) (.t 40) (.t 41)), none⟩,
      ⟨none, .op (.store 1 (.t 45) (.t 44)), none⟩])))

def C7L1 : IC :=
  (.seq (.ops [⟨(some 49), .op (.bin .lss (.t 48) (.t 47)), none⟩])
  (.seq (.cond (.t 49)
    .skip
    (.exit 2))
  (.seq (.block 3
    (.seq (.ops [⟨(some 50), .op (.iaddr (.sl 1) (.t 46) (.t 48)), none⟩,
      ⟨(some 51), .op (.load none (.t 50)), none⟩,
      ⟨(some 9), .op (.mov (.t 51)), none⟩])
    (.seq (.ops [⟨(some 52), .op (.mov (.t 9)), none⟩,
      ⟨(some 53), .op (.bin .neq (.t 52) (.c (.int .i64 1))), none⟩])
    (.cond (.t 53)
      (.seq (.ops [⟨none, .op (.store 1 (.t 2) (.c (.bool false))), none⟩])
      .ret)
      .skip))))
  (.ops [⟨(some 54), .op (.bin .add (.t 48) (.c (.int .i64 1))), none⟩,
    ⟨(some 48), .op (.mov (.t 54)), none⟩]))))

def C7 : IFn := ⟨55, (.seq (.ops [⟨(some 1), .op (.box (.t 0)), none⟩,
    ⟨(some 2), .op (.alloc [(.bool false)]), none⟩])
  (.seq (.seq (.ops [⟨(some 10), .call 9 [], none⟩,
    ⟨(some 11), .op (.un .not (.t 10)), none⟩])
  (.cond (.t 11)
    (.seq (.ops [⟨none, .op (.store 1 (.t 2) (.c (.bool false))), none⟩])
    .ret)
    .skip))
  (.seq (.seq (.ops [⟨(some 12), .op (.load none (.t 1)), none⟩,
    ⟨(some 13), .call 10 [(.t 12)], none⟩,
    ⟨(some 14), .op (.un .not (.t 13)), none⟩])
  (.cond (.t 14)
    (.seq (.ops [⟨none, .op (.store 1 (.t 2) (.c (.bool true))), none⟩])
    .ret)
    .skip))
  (.seq (.seq (.ops [⟨(some 16), .op (.load none (.t 1)), none⟩,
    ⟨(some 17), .call 12 [(.t 16)], none⟩,
    ⟨(some 15), .op (.mov (.t 17)), none⟩,
    ⟨(some 18), .op (.extract (.t 15) 0), none⟩,
    ⟨(some 19), .op (.extract (.t 15) 1), none⟩,
    ⟨(some 3), .op (.mov (.t 18)), none⟩,
    ⟨(some 4), .op (.mov (.t 19)), none⟩])
  (.seq (.ops [⟨(some 20), .op (.mov (.t 4)), none⟩,
    ⟨(some 21), .op (.bin .neq (.t 20) (.c (.int .i64 0))), none⟩])
  (.cond (.t 21)
    (.seq (.ops [⟨none, .op (.store 1 (.t 2) (.c (.bool true))), none⟩])
    .ret)
    .skip)))
  (.seq (.ops [⟨(some 22), .op (.load none (.t 1)), none⟩,
    ⟨(some 23), .call 19 [(.t 22)], none⟩,
    ⟨(some 5), .op (.mov (.t 23)), none⟩])
  (.seq (.seq (.ops [⟨(some 24), .op (.mov (.t 5)), none⟩,
    ⟨(some 25), .op (.isnil .fn false (.t 24)), none⟩])
  (.cond (.t 25)
    (.seq (.ops [⟨none, .op (.store 1 (.t 2) (.c (.bool false))), none⟩])
    .ret)
    .skip))
  (.seq (.ops [⟨(some 26), .op (.load none (.t 1)), none⟩,
    ⟨(some 27), .op (.len .sl (.t 26)), none⟩,
    ⟨(some 28), .op (.mkslice 1 8 [(.int .i64 0)] (.t 27) (.t 27)), none⟩,
    ⟨(some 6), .op (.alloc [(.slice none 0 0)]), none⟩,
    ⟨none, .op (.store 1 (.t 6) (.t 28)), none⟩])
  (.seq (.seq (.ops [⟨(some 29), .op (.mov (.t 5)), none⟩])
  (.block 0
    (.rangeF (.t 29) [30, 31] C7A0 C7B0)))
  (.seq (.seq (.ops [⟨(some 46), .op (.load none (.t 6)), none⟩,
    ⟨(some 47), .op (.len .sl (.t 46)), none⟩,
    ⟨(some 48), .op (.mov (.c (.int .i64 0))), none⟩])
  (.block 2
    (.loop C7L1)))
  (.seq (.ops [⟨none, .op (.store 1 (.t 2) (.c (.bool true))), none⟩])
  .ret)))))))))), [.cell 2 none]⟩

-- swath/tree.Check
def C11L0 : IC :=
  (.seq (.ops [⟨(some 48), .op (.bin .lss (.t 47) (.t 46)), none⟩])
  (.seq (.cond (.t 48)
    .skip
    (.exit 2))
  (.seq (.block 3
    (.seq (.ops [⟨(some 49), .op (.iaddr (.sl 1) (.t 45) (.t 47)), none⟩,
      ⟨(some 50), .op (.load none (.t 49)), none⟩,
      ⟨(some 11), .op (.mov (.t 50)), none⟩])
    (.seq (.seq (.ops [⟨(some 51), .op (.mov (.t 11)), none⟩,
      ⟨(some 52), .op (.bin .lss (.t 51) (.c (.int .i64 0))), none⟩,
      ⟨(some 53), .op (.mov (.t 52)), none⟩,
      ⟨(some 54), .op (.mov (.t 11)), (some (53, false))⟩,
      ⟨(some 55), .op (.mov (.t 6)), (some (53, false))⟩,
      ⟨(some 56), .op (.bin .geq (.t 54) (.t 55)), (some (53, false))⟩,
      ⟨(some 57), .op (.pick (.t 53) (.c (.bool true)) (.t 56)), none⟩,
      ⟨(some 58), .op (.mov (.t 57)), none⟩,
      ⟨(some 59), .op (.mov (.t 5)), (some (58, false))⟩,
      ⟨(some 60), .op (.mov (.t 11)), (some (58, false))⟩,
      ⟨(some 61), .op (.iaddr (.sl 1) (.t 59) (.t 60)), (some (58, false))⟩,
      ⟨(some 62), .op (.load none (.t 61)), (some (58, false))⟩,
      ⟨(some 63), .op (.bin .gtr (.t 62) (.c (.int .i64 0))), (some (58, false))⟩,
      ⟨(some 64), .op (.pick (.t 58) (.c (.bool true)) (.t 63)), none⟩])
    (.cond (.t 64)
      (.seq (.ops [⟨(some 65), .op (.mov (.t 6)), none⟩,
        ⟨(some 2), .op (.mov (.t 65)), none⟩,
        ⟨(some 3), .op (.mov (.c (.int .i64 50))), none⟩])
      .ret)
      .skip))
    (.ops [⟨(some 66), .op (.mov (.t 5)), none⟩,
      ⟨(some 67), .op (.mov (.t 11)), none⟩,
      ⟨(some 68), .op (.mov (.t 6)), none⟩,
      ⟨(some 69), .op (.bin .add (.t 68) (.c (.int .i64 1))), none⟩,
      ⟨(some 70), .op (.iaddr (.sl 1) (.t 66) (.t 67)), none⟩,
      ⟨none, .op (.store 1 (.t 70) (.t 69)), none⟩]))))
  (.ops [⟨(some 71), .op (.bin .add (.t 47) (.c (.int .i64 1))), none⟩,
    ⟨(some 47), .op (.mov (.t 71)), none⟩]))))

def C11L1 : IC :=
  (.seq (.ops [⟨(some 25), .op (.bin .lss (.t 24) (.t 23)), none⟩])
  (.seq (.cond (.t 25)
    .skip
    (.exit 0))
  (.seq (.block 1
    (.seq (.ops [⟨(some 26), .op (.mov (.t 24)), none⟩,
      ⟨(some 27), .op (.iaddr (.sl 4) (.t 22) (.t 24)), none⟩,
      ⟨(some 28), .op (.load (some 4) (.t 27)), none⟩,
      ⟨(some 7), .op (.alloc [(.int .i64 0), (.string ⟨#[]⟩), (.slice none 0 0), (.int .i64 0)]), none⟩,
      ⟨(some 6), .op (.mov (.t 26)), none⟩,
      ⟨none, .op (.store 4 (.t 7) (.t 28)), none⟩])
    (.seq (.ops [⟨(some 30), .op (.mov (.t 4)), none⟩,
      ⟨(some 31), .op (.faddr 0 (.t 7)), none⟩,
      ⟨(some 32), .op (.load none (.t 31)), none⟩,
      ⟨(some 33), .op (.lookup (.one (.int .i64)) (.string ⟨#[]⟩) true (.t 30) (.t 32)), none⟩,
      ⟨(some 29), .op (.mov (.t 33)), none⟩,
      ⟨(some 34), .op (.extract (.t 29) 0), none⟩,
      ⟨(some 35), .op (.extract (.t 29) 1), none⟩,
      ⟨(some 8), .op (.mov (.t 34)), none⟩,
      ⟨(some 9), .op (.mov (.t 35)), none⟩])
    (.seq (.seq (.ops [⟨(some 36), .op (.mov (.t 9)), none⟩,
      ⟨(some 37), .op (.un .not (.t 36)), none⟩,
      ⟨(some 38), .op (.mov (.t 37)), none⟩,
      ⟨(some 39), .op (.faddr 3 (.t 7)), (some (38, false))⟩,
      ⟨(some 40), .op (.load none (.t 39)), (some (38, false))⟩,
      ⟨(some 41), .op (.bin .lss (.t 40) (.c (.int .i64 0))), (some (38, false))⟩,
      ⟨(some 42), .op (.pick (.t 38) (.c (.bool true)) (.t 41)), none⟩])
    (.cond (.t 42)
      (.seq (.ops [⟨(some 43), .op (.mov (.t 6)), none⟩,
        ⟨(some 2), .op (.mov (.t 43)), none⟩,
        ⟨(some 3), .op (.mov (.c (.int .i64 50))), none⟩])
      .ret)
      .skip))
    (.seq (.seq (.ops [⟨(some 44), .op (.faddr 2 (.t 7)), none⟩,
      ⟨(some 45), .op (.load none (.t 44)), none⟩,
      ⟨(some 46), .op (.len .sl (.t 45)), none⟩,
      ⟨(some 47), .op (.mov (.c (.int .i64 0))), none⟩])
    (.block 2
      (.loop C11L0)))
    (.block 4
      (.seq (.ops [⟨(some 73), .op (.load (some 4) (.t 7)), none⟩,
        ⟨(some 74), .call 23 [(.t 73)], none⟩,
        ⟨(some 75), .op (.un .not (.t 74)), none⟩,
        ⟨(some 72), .op (.mov (.t 75)), none⟩])
      (.cond (.t 72)
        (.seq (.ops [⟨(some 76), .op (.mov (.t 6)), none⟩,
          ⟨(some 2), .op (.mov (.t 76)), none⟩,
          ⟨(some 3), .op (.mov (.c (.int .i64 52))), none⟩])
        .ret)
        (.seq (.ops [⟨(some 78), .op (.mov (.t 0)), none⟩,
          ⟨(some 79), .op (.faddr 2 (.t 7)), none⟩,
          ⟨(some 80), .op (.load none (.t 79)), none⟩,
          ⟨(some 81), .op (.mov (.t 8)), none⟩,
          ⟨(some 82), .call 24 [(.t 78), (.t 80), (.t 81)], none⟩,
          ⟨(some 83), .op (.un .not (.t 82)), none⟩,
          ⟨(some 77), .op (.mov (.t 83)), none⟩])
        (.cond (.t 77)
          (.seq (.ops [⟨(some 84), .op (.mov (.t 6)), none⟩,
            ⟨(some 2), .op (.mov (.t 84)), none⟩,
            ⟨(some 3), .op (.mov (.c (.int .i64 53))), none⟩])
          .ret)
          .skip))))))))))
  (.ops [⟨(some 85), .op (.bin .add (.t 24) (.c (.int .i64 1))), none⟩,
    ⟨(some 24), .op (.mov (.t 85)), none⟩]))))

def C11L2 : IC :=
  (.seq (.ops [⟨(some 92), .op (.bin .lss (.t 91) (.t 90)), none⟩])
  (.seq (.cond (.t 92)
    .skip
    (.exit 5))
  (.seq (.block 6
    (.seq (.ops [⟨(some 93), .op (.mov (.t 91)), none⟩,
      ⟨(some 94), .op (.iaddr (.sl 4) (.t 89) (.t 91)), none⟩,
      ⟨(some 95), .op (.load (some 4) (.t 94)), none⟩,
      ⟨(some 14), .op (.alloc [(.int .i64 0), (.string ⟨#[]⟩), (.slice none 0 0), (.int .i64 0)]), none⟩,
      ⟨(some 13), .op (.mov (.t 93)), none⟩,
      ⟨none, .op (.store 4 (.t 14) (.t 95)), none⟩])
    (.seq (.ops [⟨(some 96), .op (.faddr 0 (.t 14)), none⟩,
      ⟨(some 97), .op (.load none (.t 96)), none⟩,
      ⟨(some 98), .op (.bin .eql (.t 97) (.c (.int .i64 1))), none⟩,
      ⟨(some 99), .op (.mov (.t 13)), none⟩,
      ⟨(some 100), .op (.mov (.t 12)), none⟩,
      ⟨(some 101), .op (.bin .eql (.t 99) (.t 100)), none⟩,
      ⟨(some 102), .op (.beq true (.t 98) (.t 101)), none⟩,
      ⟨(some 103), .op (.mov (.t 102)), none⟩,
      ⟨(some 104), .op (.mov (.t 5)), (some (103, false))⟩,
      ⟨(some 105), .op (.mov (.t 13)), (some (103, false))⟩,
      ⟨(some 106), .op (.iaddr (.sl 1) (.t 104) (.t 105)), (some (103, false))⟩,
      ⟨(some 107), .op (.load none (.t 106)), (some (103, false))⟩,
      ⟨(some 108), .op (.bin .eql (.t 107) (.c (.int .i64 0))), (some (103, false))⟩,
      ⟨(some 109), .op (.mov (.t 13)), (some (103, false))⟩,
      ⟨(some 110), .op (.mov (.t 12)), (some (103, false))⟩,
      ⟨(some 111), .op (.bin .eql (.t 109) (.t 110)), (some (103, false))⟩,
      ⟨(some 112), .op (.beq true (.t 108) (.t 111)), (some (103, false))⟩,
      ⟨(some 113), .op (.pick (.t 103) (.c (.bool true)) (.t 112)), none⟩])
    (.cond (.t 113)
      (.seq (.ops [⟨(some 114), .op (.mov (.t 12)), none⟩,
        ⟨(some 2), .op (.mov (.t 114)), none⟩,
        ⟨(some 3), .op (.mov (.c (.int .i64 50))), none⟩])
      .ret)
      .skip))))
  (.ops [⟨(some 115), .op (.bin .add (.t 91) (.c (.int .i64 1))), none⟩,
    ⟨(some 91), .op (.mov (.t 115)), none⟩]))))

def C11 : IFn := ⟨123, (.seq (.ops [⟨(some 2), .op (.mov (.c (.int .i64 0))), none⟩,
    ⟨(some 3), .op (.mov (.c (.int .i64 0))), none⟩])
  (.seq (.seq (.ops [⟨(some 15), .op (.mov (.t 0)), none⟩,
    ⟨(some 16), .op (.len .sl (.t 15)), none⟩,
    ⟨(some 17), .op (.bin .gtr (.t 16) (.c (.int .i64 50000))), none⟩])
  (.cond (.t 17)
    (.seq (.ops [⟨(some 2), .op (.mov (.c (.int .i64 0))), none⟩,
      ⟨(some 3), .op (.mov (.c (.int .i64 2))), none⟩])
    .ret)
    .skip))
  (.seq (.ops [⟨(some 18), .call 22 [], none⟩,
    ⟨(some 4), .op (.mov (.t 18)), none⟩])
  (.seq (.ops [⟨(some 19), .op (.mov (.t 0)), none⟩,
    ⟨(some 20), .op (.len .sl (.t 19)), none⟩,
    ⟨(some 21), .op (.mkslice 1 8 [(.int .i64 0)] (.t 20) (.t 20)), none⟩,
    ⟨(some 5), .op (.mov (.t 21)), none⟩])
  (.seq (.seq (.ops [⟨(some 22), .op (.mov (.t 0)), none⟩,
    ⟨(some 23), .op (.len .sl (.t 22)), none⟩,
    ⟨(some 24), .op (.mov (.c (.int .i64 0))), none⟩])
  (.block 0
    (.loop C11L1)))
  (.seq (.ops [⟨(some 86), .op (.mov (.t 0)), none⟩,
    ⟨(some 87), .op (.len .sl (.t 86)), none⟩,
    ⟨(some 88), .op (.bin .sub (.t 87) (.c (.int .i64 1))), none⟩,
    ⟨(some 12), .op (.mov (.t 88)), none⟩])
  (.seq (.seq (.ops [⟨(some 89), .op (.mov (.t 0)), none⟩,
    ⟨(some 90), .op (.len .sl (.t 89)), none⟩,
    ⟨(some 91), .op (.mov (.c (.int .i64 0))), none⟩])
  (.block 5
    (.loop C11L2)))
  (.seq (.block 7
    (.seq (.ops [⟨(some 117), .op (.mov (.t 12)), none⟩,
      ⟨(some 118), .op (.bin .lss (.t 117) (.c (.int .i64 0))), none⟩,
      ⟨(some 116), .op (.mov (.t 118)), none⟩])
    (.cond (.t 116)
      (.seq (.ops [⟨(some 2), .op (.mov (.c (.int .i64 0))), none⟩,
        ⟨(some 3), .op (.mov (.c (.int .i64 50))), none⟩])
      .ret)
      (.seq (.ops [⟨(some 120), .op (.mov (.t 0)), none⟩,
        ⟨(some 121), .call 13 [(.t 120)], none⟩,
        ⟨(some 122), .op (.bin .gtr (.t 121) (.c (.int .i64 200))), none⟩,
        ⟨(some 119), .op (.mov (.t 122)), none⟩])
      (.cond (.t 119)
        (.seq (.ops [⟨(some 2), .op (.mov (.c (.int .i64 0))), none⟩,
          ⟨(some 3), .op (.mov (.c (.int .i64 51))), none⟩])
        .ret)
        .skip)))))
  (.seq (.ops [⟨(some 2), .op (.mov (.c (.int .i64 0))), none⟩,
    ⟨(some 3), .op (.mov (.c (.int .i64 0))), none⟩])
  .ret))))))))), [.tmp 2, .tmp 3]⟩

-- swath/swathref05.Check
def C12L0 : IC :=
  (.seq (.ops [⟨(some 30), .op (.bin .lss (.t 29) (.t 28)), none⟩])
  (.seq (.cond (.t 30)
    .skip
    (.exit 2))
  (.seq (.block 3
    (.seq (.ops [⟨(some 31), .op (.iaddr (.sl 1) (.t 27) (.t 29)), none⟩,
      ⟨(some 32), .op (.load none (.t 31)), none⟩,
      ⟨(some 9), .op (.mov (.t 32)), none⟩])
    (.seq (.seq (.ops [⟨(some 33), .op (.mov (.t 9)), none⟩,
      ⟨(some 34), .op (.bin .lss (.t 33) (.c (.int .i64 0))), none⟩,
      ⟨(some 35), .op (.mov (.t 34)), none⟩,
      ⟨(some 36), .op (.mov (.t 9)), (some (35, false))⟩,
      ⟨(some 37), .op (.mov (.t 5)), (some (35, false))⟩,
      ⟨(some 38), .op (.bin .geq (.t 36) (.t 37)), (some (35, false))⟩,
      ⟨(some 39), .op (.pick (.t 35) (.c (.bool true)) (.t 38)), none⟩,
      ⟨(some 40), .op (.mov (.t 39)), none⟩,
      ⟨(some 41), .op (.mov (.t 4)), (some (40, false))⟩,
      ⟨(some 42), .op (.mov (.t 9)), (some (40, false))⟩,
      ⟨(some 43), .op (.iaddr (.sl 1) (.t 41) (.t 42)), (some (40, false))⟩,
      ⟨(some 44), .op (.load none (.t 43)), (some (40, false))⟩,
      ⟨(some 45), .op (.pick (.t 40) (.c (.bool true)) (.t 44)), none⟩])
    (.cond (.t 45)
      (.seq (.ops [⟨(some 46), .op (.mov (.t 5)), none⟩,
        ⟨(some 2), .op (.mov (.t 46)), none⟩,
        ⟨(some 3), .op (.mov (.c (.int .i64 50))), none⟩])
      .ret)
      .skip))
    (.seq (.ops [⟨(some 47), .op (.mov (.t 4)), none⟩,
      ⟨(some 48), .op (.mov (.t 9)), none⟩,
      ⟨(some 49), .op (.iaddr (.sl 1) (.t 47) (.t 48)), none⟩,
      ⟨none, .op (.store 1 (.t 49) (.c (.bool true))), none⟩])
    (.ops [⟨(some 50), .op (.mov (.t 7)), none⟩,
      ⟨(some 51), .op (.mov (.t 0)), none⟩,
      ⟨(some 52), .op (.mov (.t 9)), none⟩,
      ⟨(some 53), .op (.iaddr (.sl 4) (.t 51) (.t 52)), none⟩,
      ⟨(some 54), .op (.faddr 0 (.t 53)), none⟩,
      ⟨(some 55), .op (.load none (.t 54)), none⟩,
      ⟨(some 56), .op (.lit 1 1 [(.int .i64 0)] [(0, 1, (.t 55))]), none⟩,
      ⟨(some 57), .op (.append 1 8 (.t 50) (.t 56)), none⟩,
      ⟨(some 7), .op (.mov (.t 57)), none⟩])))))
  (.ops [⟨(some 58), .op (.bin .add (.t 29) (.c (.int .i64 1))), none⟩,
    ⟨(some 29), .op (.mov (.t 58)), none⟩]))))

def C12L1 : IC :=
  (.seq (.ops [⟨(some 22), .op (.bin .lss (.t 21) (.t 20)), none⟩])
  (.seq (.cond (.t 22)
    .skip
    (.exit 0))
  (.seq (.block 1
    (.seq (.ops [⟨(some 23), .op (.mov (.t 21)), none⟩,
      ⟨(some 24), .op (.iaddr (.sl 4) (.t 19) (.t 21)), none⟩,
      ⟨(some 25), .op (.load (some 4) (.t 24)), none⟩,
      ⟨(some 6), .op (.alloc [(.int .i64 0), (.string ⟨#[]⟩), (.slice none 0 0), (.int .i64 0)]), none⟩,
      ⟨(some 5), .op (.mov (.t 23)), none⟩,
      ⟨none, .op (.store 4 (.t 6) (.t 25)), none⟩])
    (.seq (.ops [⟨(some 7), .op (.mov (.c (.slice none 0 0))), none⟩])
    (.seq (.seq (.ops [⟨(some 26), .op (.faddr 2 (.t 6)), none⟩,
      ⟨(some 27), .op (.load none (.t 26)), none⟩,
      ⟨(some 28), .op (.len .sl (.t 27)), none⟩,
      ⟨(some 29), .op (.mov (.c (.int .i64 0))), none⟩])
    (.block 2
      (.loop C12L0)))
    (.seq (.seq (.ops [⟨(some 59), .op (.faddr 3 (.t 6)), none⟩,
      ⟨(some 60), .op (.load none (.t 59)), none⟩,
      ⟨(some 61), .op (.bin .lss (.t 60) (.c (.int .i64 0))), none⟩,
      ⟨(some 62), .op (.mov (.t 61)), none⟩,
      ⟨(some 63), .op (.faddr 0 (.t 6)), (some (62, false))⟩,
      ⟨(some 64), .op (.load none (.t 63)), (some (62, false))⟩,
      ⟨(some 65), .op (.bin .lss (.t 64) (.c (.int .i64 1))), (some (62, false))⟩,
      ⟨(some 66), .op (.pick (.t 62) (.c (.bool true)) (.t 65)), none⟩,
      ⟨(some 67), .op (.mov (.t 66)), none⟩,
      ⟨(some 68), .op (.faddr 0 (.t 6)), (some (67, false))⟩,
      ⟨(some 69), .op (.load none (.t 68)), (some (67, false))⟩,
      ⟨(some 70), .op (.bin .gtr (.t 69) (.c (.int .i64 30))), (some (67, false))⟩,
      ⟨(some 71), .op (.pick (.t 67) (.c (.bool true)) (.t 70)), none⟩])
    (.cond (.t 71)
      (.seq (.ops [⟨(some 72), .op (.mov (.t 5)), none⟩,
        ⟨(some 2), .op (.mov (.t 72)), none⟩,
        ⟨(some 3), .op (.mov (.c (.int .i64 50))), none⟩])
      .ret)
      .skip))
    (.seq (.seq (.ops [⟨(some 73), .op (.load (some 4) (.t 6)), none⟩,
      ⟨(some 74), .call 25 [(.t 73)], none⟩,
      ⟨(some 75), .op (.un .not (.t 74)), none⟩])
    (.cond (.t 75)
      (.seq (.ops [⟨(some 76), .op (.mov (.t 5)), none⟩,
        ⟨(some 2), .op (.mov (.t 76)), none⟩,
        ⟨(some 3), .op (.mov (.c (.int .i64 52))), none⟩])
      .ret)
      .skip))
    (.seq (.ops [⟨(some 77), .op (.faddr 0 (.t 6)), none⟩,
      ⟨(some 78), .op (.load none (.t 77)), none⟩,
      ⟨(some 79), .op (.mov (.t 7)), none⟩,
      ⟨(some 80), .call 26 [(.t 78), (.t 79)], none⟩,
      ⟨(some 81), .op (.un .not (.t 80)), none⟩])
    (.cond (.t 81)
      (.seq (.ops [⟨(some 82), .op (.mov (.t 5)), none⟩,
        ⟨(some 2), .op (.mov (.t 82)), none⟩,
        ⟨(some 3), .op (.mov (.c (.int .i64 53))), none⟩])
      .ret)
      .skip))))))))
  (.ops [⟨(some 83), .op (.bin .add (.t 21) (.c (.int .i64 1))), none⟩,
    ⟨(some 21), .op (.mov (.t 83)), none⟩]))))

def C12L2 : IC :=
  (.seq (.ops [⟨(some 92), .op (.bin .lss (.t 91) (.t 90)), none⟩])
  (.seq (.cond (.t 92)
    .skip
    (.exit 4))
  (.seq (.block 5
    (.seq (.ops [⟨(some 93), .op (.mov (.t 91)), none⟩,
      ⟨(some 94), .op (.iaddr (.sl 4) (.t 89) (.t 91)), none⟩,
      ⟨(some 95), .op (.load (some 4) (.t 94)), none⟩,
      ⟨(some 12), .op (.alloc [(.int .i64 0), (.string ⟨#[]⟩), (.slice none 0 0), (.int .i64 0)]), none⟩,
      ⟨(some 11), .op (.mov (.t 93)), none⟩,
      ⟨none, .op (.store 4 (.t 12) (.t 95)), none⟩])
    (.seq (.ops [⟨(some 96), .op (.faddr 0 (.t 12)), none⟩,
      ⟨(some 97), .op (.load none (.t 96)), none⟩,
      ⟨(some 98), .op (.bin .eql (.t 97) (.c (.int .i64 1))), none⟩,
      ⟨(some 99), .op (.mov (.t 11)), none⟩,
      ⟨(some 100), .op (.mov (.t 10)), none⟩,
      ⟨(some 101), .op (.bin .eql (.t 99) (.t 100)), none⟩,
      ⟨(some 102), .op (.beq true (.t 98) (.t 101)), none⟩,
      ⟨(some 103), .op (.mov (.t 102)), none⟩,
      ⟨(some 104), .op (.mov (.t 4)), (some (103, false))⟩,
      ⟨(some 105), .op (.mov (.t 11)), (some (103, false))⟩,
      ⟨(some 106), .op (.iaddr (.sl 1) (.t 104) (.t 105)), (some (103, false))⟩,
      ⟨(some 107), .op (.load none (.t 106)), (some (103, false))⟩,
      ⟨(some 108), .op (.un .not (.t 107)), (some (103, false))⟩,
      ⟨(some 109), .op (.mov (.t 108)), (some (103, false))⟩,
      ⟨(some 110), .op (.mov (.t 11)), (some (109, true))⟩,
      ⟨(some 111), .op (.mov (.t 10)), (some (109, true))⟩,
      ⟨(some 112), .op (.bin .neq (.t 110) (.t 111)), (some (109, true))⟩,
      ⟨(some 113), .op (.pick (.t 109) (.t 112) (.c (.bool false))), (some (103, false))⟩,
      ⟨(some 114), .op (.pick (.t 103) (.c (.bool true)) (.t 113)), none⟩])
    (.cond (.t 114)
      (.seq (.ops [⟨(some 115), .op (.mov (.t 10)), none⟩,
        ⟨(some 2), .op (.mov (.t 115)), none⟩,
        ⟨(some 3), .op (.mov (.c (.int .i64 50))), none⟩])
      .ret)
      .skip))))
  (.ops [⟨(some 116), .op (.bin .add (.t 91) (.c (.int .i64 1))), none⟩,
    ⟨(some 91), .op (.mov (.t 116)), none⟩]))))

def C12 : IFn := ⟨120, (.seq (.ops [⟨(some 2), .op (.mov (.c (.int .i64 0))), none⟩,
    ⟨(some 3), .op (.mov (.c (.int .i64 0))), none⟩])
  (.seq (.seq (.ops [⟨(some 13), .op (.mov (.t 0)), none⟩,
    ⟨(some 14), .op (.len .sl (.t 13)), none⟩,
    ⟨(some 15), .op (.bin .gtr (.t 14) (.c (.int .i64 50000))), none⟩])
  (.cond (.t 15)
    (.seq (.ops [⟨(some 2), .op (.mov (.c (.int .i64 0))), none⟩,
      ⟨(some 3), .op (.mov (.c (.int .i64 2))), none⟩])
    .ret)
    .skip))
  (.seq (.ops [⟨(some 16), .op (.mov (.t 0)), none⟩,
    ⟨(some 17), .op (.len .sl (.t 16)), none⟩,
    ⟨(some 18), .op (.mkslice 1 1 [(.bool false)] (.t 17) (.t 17)), none⟩,
    ⟨(some 4), .op (.mov (.t 18)), none⟩])
  (.seq (.seq (.ops [⟨(some 19), .op (.mov (.t 0)), none⟩,
    ⟨(some 20), .op (.len .sl (.t 19)), none⟩,
    ⟨(some 21), .op (.mov (.c (.int .i64 0))), none⟩])
  (.block 0
    (.loop C12L1)))
  (.seq (.ops [⟨(some 84), .op (.mov (.t 0)), none⟩,
    ⟨(some 85), .op (.len .sl (.t 84)), none⟩,
    ⟨(some 86), .op (.bin .sub (.t 85) (.c (.int .i64 1))), none⟩,
    ⟨(some 10), .op (.mov (.t 86)), none⟩])
  (.seq (.seq (.ops [⟨(some 87), .op (.mov (.t 10)), none⟩,
    ⟨(some 88), .op (.bin .lss (.t 87) (.c (.int .i64 0))), none⟩])
  (.cond (.t 88)
    (.seq (.ops [⟨(some 2), .op (.mov (.c (.int .i64 0))), none⟩,
      ⟨(some 3), .op (.mov (.c (.int .i64 50))), none⟩])
    .ret)
    .skip))
  (.seq (.seq (.ops [⟨(some 89), .op (.mov (.t 0)), none⟩,
    ⟨(some 90), .op (.len .sl (.t 89)), none⟩,
    ⟨(some 91), .op (.mov (.c (.int .i64 0))), none⟩])
  (.block 4
    (.loop C12L2)))
  (.seq (.seq (.ops [⟨(some 117), .op (.mov (.t 0)), none⟩,
    ⟨(some 118), .call 14 [(.t 117)], none⟩,
    ⟨(some 119), .op (.bin .gtr (.t 118) (.c (.int .i64 200))), none⟩])
  (.cond (.t 119)
    (.seq (.ops [⟨(some 2), .op (.mov (.c (.int .i64 0))), none⟩,
      ⟨(some 3), .op (.mov (.c (.int .i64 51))), none⟩])
    .ret)
    .skip))
  (.seq (.ops [⟨(some 2), .op (.mov (.c (.int .i64 0))), none⟩,
    ⟨(some 3), .op (.mov (.c (.int .i64 0))), none⟩])
  .ret))))))))), [.tmp 2, .tmp 3]⟩

-- swath/tree.Walk
def C19 : IFn := ⟨4, (.seq (.ops [⟨(some 1), .op (.box (.t 0)), none⟩,
    ⟨(some 2), .op (.mov (.c .nilFunc)), none⟩])
  (.seq (.ops [⟨(some 3), .op (.fn 28 [] [(.t 1)]), none⟩,
    ⟨(some 2), .op (.mov (.t 3)), none⟩])
  .ret)), [.tmp 2]⟩

-- swath/tree.wants
def C22 : IFn := ⟨3, (.seq (.ops [⟨(some 0), .op (.mov (.c (.map none))), none⟩])
  (.seq (.ops [⟨(some 1), .op (.mkmap (.one (.int .i64))), none⟩,
    ⟨none, .op (.mapset (.one (.int .i64)) (.t 1) (.c (.int .i64 1)) (.c (.string ⟨#[42, 100]⟩))), none⟩,
    ⟨none, .op (.mapset (.one (.int .i64)) (.t 1) (.c (.int .i64 2)) (.c (.string ⟨#[42, 110]⟩))), none⟩,
    ⟨none, .op (.mapset (.one (.int .i64)) (.t 1) (.c (.int .i64 3)) (.c (.string ⟨#[42, 110, 98]⟩))), none⟩,
    ⟨none, .op (.mapset (.one (.int .i64)) (.t 1) (.c (.int .i64 4)) (.c (.string ⟨#[42, 115]⟩))), none⟩,
    ⟨none, .op (.mapset (.one (.int .i64)) (.t 1) (.c (.int .i64 5)) (.c (.string ⟨#[101]⟩))), none⟩,
    ⟨none, .op (.mapset (.one (.int .i64)) (.t 1) (.c (.int .i64 6)) (.c (.string ⟨#[112, 101]⟩))), none⟩,
    ⟨none, .op (.mapset (.one (.int .i64)) (.t 1) (.c (.int .i64 7)) (.c (.string ⟨#[101, 98, 111]⟩))), none⟩,
    ⟨none, .op (.mapset (.one (.int .i64)) (.t 1) (.c (.int .i64 8)) (.c (.string ⟨#[101, 98]⟩))), none⟩,
    ⟨none, .op (.mapset (.one (.int .i64)) (.t 1) (.c (.int .i64 9)) (.c (.string ⟨#[101]⟩))), none⟩,
    ⟨none, .op (.mapset (.one (.int .i64)) (.t 1) (.c (.int .i64 10)) (.c (.string ⟨#[101]⟩))), none⟩,
    ⟨none, .op (.mapset (.one (.int .i64)) (.t 1) (.c (.int .i64 11)) (.c (.string ⟨#[101]⟩))), none⟩,
    ⟨none, .op (.mapset (.one (.int .i64)) (.t 1) (.c (.int .i64 12)) (.c (.string ⟨#[99]⟩))), none⟩,
    ⟨none, .op (.mapset (.one (.int .i64)) (.t 1) (.c (.int .i64 13)) (.c (.string ⟨#[42, 110]⟩))), none⟩,
    ⟨none, .op (.mapset (.one (.int .i64)) (.t 1) (.c (.int .i64 14)) (.c (.string ⟨#[]⟩))), none⟩,
    ⟨none, .op (.mapset (.one (.int .i64)) (.t 1) (.c (.int .i64 15)) (.c (.string ⟨#[]⟩))), none⟩,
    ⟨none, .op (.mapset (.one (.int .i64)) (.t 1) (.c (.int .i64 16)) (.c (.string ⟨#[]⟩))), none⟩,
    ⟨none, .op (.mapset (.one (.int .i64)) (.t 1) (.c (.int .i64 17)) (.c (.string ⟨#[]⟩))), none⟩,
    ⟨none, .op (.mapset (.one (.int .i64)) (.t 1) (.c (.int .i64 18)) (.c (.string ⟨#[101]⟩))), none⟩,
    ⟨none, .op (.mapset (.one (.int .i64)) (.t 1) (.c (.int .i64 19)) (.c (.string ⟨#[101, 101]⟩))), none⟩,
    ⟨none, .op (.mapset (.one (.int .i64)) (.t 1) (.c (.int .i64 20)) (.c (.string ⟨#[101]⟩))), none⟩,
    ⟨none, .op (.mapset (.one (.int .i64)) (.t 1) (.c (.int .i64 21)) (.c (.string ⟨#[101, 101]⟩))), none⟩,
    ⟨none, .op (.mapset (.one (.int .i64)) (.t 1) (.c (.int .i64 22)) (.c (.string ⟨#[42, 101]⟩))), none⟩,
    ⟨none, .op (.mapset (.one (.int .i64)) (.t 1) (.c (.int .i64 23)) (.c (.string ⟨#[]⟩))), none⟩,
    ⟨none, .op (.mapset (.one (.int .i64)) (.t 1) (.c (.int .i64 24)) (.c (.string ⟨#[101]⟩))), none⟩,
    ⟨none, .op (.mapset (.one (.int .i64)) (.t 1) (.c (.int .i64 25)) (.c (.string ⟨#[101]⟩))), none⟩,
    ⟨none, .op (.mapset (.one (.int .i64)) (.t 1) (.c (.int .i64 26)) (.c (.string ⟨#[]⟩))), none⟩,
    ⟨none, .op (.mapset (.one (.int .i64)) (.t 1) (.c (.int .i64 27)) (.c (.string ⟨#[101]⟩))), none⟩,
    ⟨none, .op (.mapset (.one (.int .i64)) (.t 1) (.c (.int .i64 28)) (.c (.string ⟨#[]⟩))), none⟩,
    ⟨none, .op (.mapset (.one (.int .i64)) (.t 1) (.c (.int .i64 29)) (.c (.string ⟨#[101]⟩))), none⟩,
    ⟨none, .op (.mapset (.one (.int .i64)) (.t 1) (.c (.int .i64 30)) (.c (.string ⟨#[]⟩))), none⟩,
    ⟨(some 2), .op (.mov (.t 1)), none⟩,
    ⟨(some 0), .op (.mov (.t 2)), none⟩])
  .ret)), [.tmp 0]⟩

-- swath/tree.says
def C23 : IFn := ⟨70, (.seq (.ops [⟨(some 1), .op (.box (.t 0)), none⟩,
    ⟨(some 2), .op (.mov (.c (.bool false))), none⟩])
  (.seq (.seq (.ops [⟨(some 5), .op (.faddr 0 (.t 1)), none⟩,
    ⟨(some 6), .op (.load none (.t 5)), none⟩])
  (.block 0
    (.seq (.seq (.ops [⟨(some 8), .op (.bin .eql (.t 6) (.c (.int .i64 2))), none⟩,
      ⟨(some 7), .op (.mov (.t 8)), none⟩])
    (.cond (.t 7)
      .skip
      (.seq (.ops [⟨(some 9), .op (.bin .eql (.t 6) (.c (.int .i64 3))), none⟩,
        ⟨(some 7), .op (.mov (.t 9)), none⟩])
      (.cond (.t 7)
        .skip
        (.seq (.ops [⟨(some 10), .op (.bin .eql (.t 6) (.c (.int .i64 5))), none⟩,
          ⟨(some 7), .op (.mov (.t 10)), none⟩])
        (.cond (.t 7)
          .skip
          (.seq (.ops [⟨(some 11), .op (.bin .eql (.t 6) (.c (.int .i64 17))), none⟩,
            ⟨(some 7), .op (.mov (.t 11)), none⟩])
          (.cond (.t 7)
            .skip
            (.seq (.ops [⟨(some 12), .op (.bin .eql (.t 6) (.c (.int .i64 20))), none⟩,
              ⟨(some 7), .op (.mov (.t 12)), none⟩])
            (.cond (.t 7)
              .skip
              (.seq (.ops [⟨(some 13), .op (.bin .eql (.t 6) (.c (.int .i64 22))), none⟩,
                ⟨(some 7), .op (.mov (.t 13)), none⟩])
              (.cond (.t 7)
                .skip
                (.ops [⟨(some 14), .op (.bin .eql (.t 6) (.c (.int .i64 23))), none⟩,
                  ⟨(some 7), .op (.mov (.t 14)), none⟩])))))))))))))
    (.cond (.t 7)
      (.seq (.ops [⟨(some 15), .op (.faddr 1 (.t 1)), none⟩,
        ⟨(some 16), .op (.load none (.t 15)), none⟩,
        ⟨(some 17), .call 29 [(.t 16)], none⟩,
        ⟨(some 2), .op (.mov (.t 17)), none⟩])
      .ret)
      (.seq (.ops [⟨(some 19), .op (.bin .eql (.t 6) (.c (.int .i64 15))), none⟩,
        ⟨(some 18), .op (.mov (.t 19)), none⟩])
      (.cond (.t 18)
        (.seq (.ops [⟨(some 21), .op (.faddr 1 (.t 1)), none⟩,
          ⟨(some 22), .op (.load none (.t 21)), none⟩,
          ⟨(some 23), .call 30 [(.t 22)], none⟩,
          ⟨(some 20), .op (.mov (.t 23)), none⟩,
          ⟨(some 24), .op (.extract (.t 20) 0), none⟩,
          ⟨(some 25), .op (.extract (.t 20) 1), none⟩,
          ⟨(some 3), .op (.mov (.t 24)), none⟩,
          ⟨(some 4), .op (.mov (.t 25)), none⟩])
        (.seq (.ops [⟨(some 26), .op (.mov (.t 4)), none⟩,
          ⟨(some 27), .op (.mov (.t 26)), none⟩,
          ⟨(some 28), .op (.faddr 1 (.t 1)), (some (27, true))⟩,
          ⟨(some 29), .op (.load none (.t 28)), (some (27, true))⟩,
          ⟨(some 30), .op (.bin .eql (.t 29) (.c (.string ⟨#[48]⟩))), (some (27, true))⟩,
          ⟨(some 31), .op (.mov (.t 30)), (some (27, true))⟩,
          ⟨(some 32), .op (.faddr 1 (.t 1)), (some (31, false))⟩,
          ⟨(some 33), .op (.load none (.t 32)), (some (31, false))⟩,
          ⟨(some 34), .op (.sidx (.t 33) (.c (.int .i64 0))), (some (31, false))⟩,
          ⟨(some 35), .op (.bin .geq (.t 34) (.c (.int .u8 49))), (some (31, false))⟩,
          ⟨(some 36), .op (.mov (.t 35)), (some (31, false))⟩,
          ⟨(some 37), .op (.faddr 1 (.t 1)), (some (36, true))⟩,
          ⟨(some 38), .op (.load none (.t 37)), (some (36, true))⟩,
          ⟨(some 39), .op (.sidx (.t 38) (.c (.int .i64 0))), (some (36, true))⟩,
          ⟨(some 40), .op (.bin .leq (.t 39) (.c (.int .u8 57))), (some (36, true))⟩,
          ⟨(some 41), .op (.pick (.t 36) (.t 40) (.c (.bool false))), (some (31, false))⟩,
          ⟨(some 42), .op (.pick (.t 31) (.c (.bool true)) (.t 41)), (some (27, true))⟩,
          ⟨(some 43), .op (.pick (.t 27) (.t 42) (.c (.bool false))), none⟩,
          ⟨(some 2), .op (.mov (.t 43)), none⟩])
        .ret))
        (.seq (.ops [⟨(some 45), .op (.bin .eql (.t 6) (.c (.int .i64 18))), none⟩,
          ⟨(some 44), .op (.mov (.t 45)), none⟩])
        (.cond (.t 44)
          (.seq (.ops [⟨(some 46), .op (.faddr 1 (.t 1)), none⟩,
            ⟨(some 47), .op (.load none (.t 46)), none⟩,
            ⟨(some 48), .op (.len .str (.t 47)), none⟩,
            ⟨(some 49), .op (.bin .eql (.t 48) (.c (.int .i64 1))), none⟩,
            ⟨(some 50), .op (.mov (.t 49)), none⟩,
            ⟨(some 51), .op (.faddr 1 (.t 1)), (some (50, true))⟩,
            ⟨(some 52), .op (.load none (.t 51)), (some (50, true))⟩,
            ⟨(some 53), .call 31 [(.c (.string ⟨#[45, 33, 126]⟩)), (.t 52)], (some (50, true))⟩,
            ⟨(some 54), .op (.pick (.t 50) (.t 53) (.c (.bool false))), none⟩,
            ⟨(some 2), .op (.mov (.t 54)), none⟩])
          .ret)
          (.seq (.ops [⟨(some 56), .op (.bin .eql (.t 6) (.c (.int .i64 19))), none⟩,
            ⟨(some 55), .op (.mov (.t 56)), none⟩])
          (.cond (.t 55)
            (.seq (.ops [⟨(some 57), .op (.faddr 1 (.t 1)), none⟩,
              ⟨(some 58), .op (.load none (.t 57)), none⟩,
              ⟨(some 59), .op (.bin .neq (.t 58) (.c (.string ⟨#[]⟩))), none⟩,
              ⟨(some 60), .op (.mov (.t 59)), none⟩,
              ⟨(some 61), .op (.faddr 1 (.t 1)), (some (60, true))⟩,
              ⟨(some 62), .op (.load none (.t 61)), (some (60, true))⟩,
              ⟨(some 63), .op (.bin .add (.c (.string ⟨#[32]⟩)) (.t 62)), (some (60, true))⟩,
              ⟨(some 64), .op (.bin .add (.t 63) (.c (.string ⟨#[32]⟩))), (some (60, true))⟩,
              ⟨(some 65), .call 31 [(.c (.string ⟨#[32, 43, 32, 45, 32, 42, 32, 47, 32, 37, 32, 60, 60, 32, 62, 62, 32, 38, 32, 94, 32, 124, 32, 61, 61, 32, 33, 61, 32, 60, 32, 60, 61, 32]⟩)), (.t 64)], (some (60, true))⟩,
              ⟨(some 66), .op (.pick (.t 60) (.t 65) (.c (.bool false))), none⟩,
              ⟨(some 2), .op (.mov (.t 66)), none⟩])
            .ret)
            .skip))))))))))
  (.seq (.ops [⟨(some 67), .op (.faddr 1 (.t 1)), none⟩,
    ⟨(some 68), .op (.load none (.t 67)), none⟩,
    ⟨(some 69), .op (.bin .eql (.t 68) (.c (.string ⟨#[]⟩))), none⟩,
    ⟨(some 2), .op (.mov (.t 69)), none⟩])
  .ret))), [.tmp 2]⟩

-- swath/tree.fits
def C24L0 : IC :=
  (.seq (.seq (.ops [⟨(some 32), .op (.mov (.t 11)), none⟩,
    ⟨(some 33), .op (.bin .gtr (.t 32) (.c (.int .i64 0))), none⟩])
  (.cond (.t 33)
    .skip
    (.exit 2)))
  (.seq (.block 3
    (.seq (.seq (.ops [⟨(some 36), .op (.mov (.t 7)), none⟩,
      ⟨(some 37), .op (.mov (.t 1)), none⟩,
      ⟨(some 38), .op (.len .sl (.t 37)), none⟩,
      ⟨(some 39), .op (.bin .geq (.t 36) (.t 38)), none⟩,
      ⟨(some 40), .op (.mov (.t 39)), none⟩,
      ⟨(some 41), .op (.mov (.t 0)), (some (40, false))⟩,
      ⟨(some 42), .op (.mov (.t 1)), (some (40, false))⟩,
      ⟨(some 43), .op (.mov (.t 7)), (some (40, false))⟩,
      ⟨(some 44), .op (.iaddr (.sl 1) (.t 42) (.t 43)), (some (40, false))⟩,
      ⟨(some 45), .op (.load none (.t 44)), (some (40, false))⟩,
      ⟨(some 46), .op (.iaddr (.sl 4) (.t 41) (.t 45)), (some (40, false))⟩,
      ⟨(some 47), .op (.faddr 0 (.t 46)), (some (40, false))⟩,
      ⟨(some 48), .op (.load none (.t 47)), (some (40, false))⟩,
      ⟨(some 49), .call 34 [(.t 48)], (some (40, false))⟩,
      ⟨(some 50), .op (.mov (.t 10)), (some (40, false))⟩,
      ⟨(some 51), .call 33 [(.t 49), (.t 50)], (some (40, false))⟩,
      ⟨(some 52), .op (.un .not (.t 51)), (some (40, false))⟩,
      ⟨(some 53), .op (.pick (.t 40) (.c (.bool true)) (.t 52)), none⟩])
    (.cond (.t 53)
      (.seq (.ops [⟨(some 6), .op (.mov (.c (.bool false))), none⟩])
      .ret)
      .skip))
    (.ops [⟨(some 54), .op (.mov (.t 7)), none⟩,
      ⟨(some 55), .op (.bin .add (.t 54) (.c (.int .i64 1))), none⟩,
      ⟨(some 7), .op (.mov (.t 55)), none⟩])))
  (.ops [⟨(some 34), .op (.mov (.t 11)), none⟩,
    ⟨(some 35), .op (.bin .sub (.t 34) (.c (.int .i64 1))), none⟩,
    ⟨(some 11), .op (.mov (.t 35)), none⟩])))

def C24L1 : IC :=
  (.seq (.ops [⟨(some 14), .op (.next (.t 13)), none⟩,
    ⟨(some 15), .op (.extract (.t 14) 0), none⟩])
  (.seq (.cond (.t 15)
    .skip
    (.exit 0))
  (.block 1
    (.seq (.ops [⟨(some 16), .op (.extract (.t 14) 2), none⟩,
      ⟨(some 10), .op (.mov (.t 16)), none⟩])
    (.seq (.seq (.ops [⟨(some 17), .op (.mov (.t 10)), none⟩,
      ⟨(some 18), .op (.bin .eql (.t 17) (.c (.int .i32 42))), none⟩])
    (.cond (.t 18)
      (.seq (.ops [⟨(some 8), .op (.mov (.c (.bool true))), none⟩])
      (.exit 1))
      .skip))
    (.seq (.ops [⟨(some 11), .op (.mov (.c (.int .i64 1))), none⟩])
    (.seq (.seq (.ops [⟨(some 19), .op (.mov (.t 8)), none⟩])
    (.cond (.t 19)
      (.seq (.ops [⟨(some 20), .op (.mov (.t 1)), none⟩,
        ⟨(some 21), .op (.len .sl (.t 20)), none⟩,
        ⟨(some 22), .op (.mov (.t 7)), none⟩,
        ⟨(some 23), .op (.bin .sub (.t 21) (.t 22)), none⟩,
        ⟨(some 24), .op (.mov (.t 2)), none⟩,
        ⟨(some 25), .op (.len .str (.t 24)), none⟩,
        ⟨(some 26), .op (.mov (.t 2)), none⟩,
        ⟨(some 27), .op (.mov (.t 10)), none⟩,
        ⟨(some 28), .call 32 [(.t 26), (.t 27)], none⟩,
        ⟨(some 29), .op (.bin .sub (.t 25) (.t 28)), none⟩,
        ⟨(some 30), .op (.bin .sub (.t 29) (.c (.int .i64 1))), none⟩,
        ⟨(some 31), .op (.bin .sub (.t 23) (.t 30)), none⟩,
        ⟨(some 11), .op (.mov (.t 31)), none⟩])
      (.ops [⟨(some 8), .op (.mov (.c (.bool false))), none⟩]))
      .skip))
    (.block 2
      (.loop C24L0)))))))))

def C24 : IFn := ⟨60, (.seq (.ops [⟨(some 6), .op (.mov (.c (.bool false))), none⟩])
  (.seq (.ops [⟨(some 7), .op (.mov (.c (.int .i64 0))), none⟩,
    ⟨(some 8), .op (.mov (.c (.bool false))), none⟩])
  (.seq (.seq (.ops [⟨(some 12), .op (.mov (.t 2)), none⟩,
    ⟨(some 13), .op (.range (.t 12)), none⟩])
  (.block 0
    (.loop C24L1)))
  (.seq (.ops [⟨(some 56), .op (.mov (.t 7)), none⟩,
    ⟨(some 57), .op (.mov (.t 1)), none⟩,
    ⟨(some 58), .op (.len .sl (.t 57)), none⟩,
    ⟨(some 59), .op (.bin .eql (.t 56) (.t 58)), none⟩,
    ⟨(some 6), .op (.mov (.t 59)), none⟩])
  .ret)))), [.tmp 6]⟩

-- swath/swathref05.text
def C25 : IFn := ⟨74, (.seq (.ops [⟨(some 1), .op (.box (.t 0)), none⟩,
    ⟨(some 2), .op (.mov (.c (.bool false))), none⟩])
  (.seq (.seq (.ops [⟨(some 5), .op (.faddr 0 (.t 1)), none⟩,
    ⟨(some 6), .op (.load none (.t 5)), none⟩])
  (.block 0
    (.seq (.seq (.ops [⟨(some 8), .op (.bin .eql (.t 6) (.c (.int .i64 2))), none⟩,
      ⟨(some 7), .op (.mov (.t 8)), none⟩])
    (.cond (.t 7)
      .skip
      (.seq (.ops [⟨(some 9), .op (.bin .eql (.t 6) (.c (.int .i64 3))), none⟩,
        ⟨(some 7), .op (.mov (.t 9)), none⟩])
      (.cond (.t 7)
        .skip
        (.seq (.ops [⟨(some 10), .op (.bin .eql (.t 6) (.c (.int .i64 5))), none⟩,
          ⟨(some 7), .op (.mov (.t 10)), none⟩])
        (.cond (.t 7)
          .skip
          (.seq (.ops [⟨(some 11), .op (.bin .eql (.t 6) (.c (.int .i64 17))), none⟩,
            ⟨(some 7), .op (.mov (.t 11)), none⟩])
          (.cond (.t 7)
            .skip
            (.seq (.ops [⟨(some 12), .op (.bin .eql (.t 6) (.c (.int .i64 20))), none⟩,
              ⟨(some 7), .op (.mov (.t 12)), none⟩])
            (.cond (.t 7)
              .skip
              (.seq (.ops [⟨(some 13), .op (.bin .eql (.t 6) (.c (.int .i64 22))), none⟩,
                ⟨(some 7), .op (.mov (.t 13)), none⟩])
              (.cond (.t 7)
                .skip
                (.ops [⟨(some 14), .op (.bin .eql (.t 6) (.c (.int .i64 23))), none⟩,
                  ⟨(some 7), .op (.mov (.t 14)), none⟩])))))))))))))
    (.cond (.t 7)
      (.seq (.ops [⟨(some 15), .op (.faddr 1 (.t 1)), none⟩,
        ⟨(some 16), .op (.load none (.t 15)), none⟩,
        ⟨(some 17), .call 35 [(.t 16)], none⟩,
        ⟨(some 2), .op (.mov (.t 17)), none⟩])
      .ret)
      (.seq (.ops [⟨(some 19), .op (.bin .eql (.t 6) (.c (.int .i64 15))), none⟩,
        ⟨(some 18), .op (.mov (.t 19)), none⟩])
      (.cond (.t 18)
        (.seq (.ops [⟨(some 21), .op (.faddr 1 (.t 1)), none⟩,
          ⟨(some 22), .op (.load none (.t 21)), none⟩,
          ⟨(some 23), .call 36 [(.t 22)], none⟩,
          ⟨(some 20), .op (.mov (.t 23)), none⟩,
          ⟨(some 24), .op (.extract (.t 20) 0), none⟩,
          ⟨(some 25), .op (.extract (.t 20) 1), none⟩,
          ⟨(some 3), .op (.mov (.t 24)), none⟩,
          ⟨(some 4), .op (.mov (.t 25)), none⟩])
        (.seq (.ops [⟨(some 26), .op (.mov (.t 4)), none⟩,
          ⟨(some 27), .op (.mov (.t 26)), none⟩,
          ⟨(some 28), .op (.faddr 1 (.t 1)), (some (27, true))⟩,
          ⟨(some 29), .op (.load none (.t 28)), (some (27, true))⟩,
          ⟨(some 30), .op (.sidx (.t 29) (.c (.int .i64 0))), (some (27, true))⟩,
          ⟨(some 31), .op (.bin .geq (.t 30) (.c (.int .u8 48))), (some (27, true))⟩,
          ⟨(some 32), .op (.pick (.t 27) (.t 31) (.c (.bool false))), none⟩,
          ⟨(some 33), .op (.mov (.t 32)), none⟩,
          ⟨(some 34), .op (.faddr 1 (.t 1)), (some (33, true))⟩,
          ⟨(some 35), .op (.load none (.t 34)), (some (33, true))⟩,
          ⟨(some 36), .op (.sidx (.t 35) (.c (.int .i64 0))), (some (33, true))⟩,
          ⟨(some 37), .op (.bin .leq (.t 36) (.c (.int .u8 57))), (some (33, true))⟩,
          ⟨(some 38), .op (.pick (.t 33) (.t 37) (.c (.bool false))), none⟩,
          ⟨(some 39), .op (.mov (.t 38)), none⟩,
          ⟨(some 40), .op (.faddr 1 (.t 1)), (some (39, true))⟩,
          ⟨(some 41), .op (.load none (.t 40)), (some (39, true))⟩,
          ⟨(some 42), .op (.len .str (.t 41)), (some (39, true))⟩,
          ⟨(some 43), .op (.bin .eql (.t 42) (.c (.int .i64 1))), (some (39, true))⟩,
          ⟨(some 44), .op (.mov (.t 43)), (some (39, true))⟩,
          ⟨(some 45), .op (.faddr 1 (.t 1)), (some (44, false))⟩,
          ⟨(some 46), .op (.load none (.t 45)), (some (44, false))⟩,
          ⟨(some 47), .op (.sidx (.t 46) (.c (.int .i64 0))), (some (44, false))⟩,
          ⟨(some 48), .op (.bin .neq (.t 47) (.c (.int .u8 48))), (some (44, false))⟩,
          ⟨(some 49), .op (.pick (.t 44) (.c (.bool true)) (.t 48)), (some (39, true))⟩,
          ⟨(some 50), .op (.pick (.t 39) (.t 49) (.c (.bool false))), none⟩,
          ⟨(some 2), .op (.mov (.t 50)), none⟩])
        .ret))
        (.seq (.ops [⟨(some 52), .op (.bin .eql (.t 6) (.c (.int .i64 18))), none⟩,
          ⟨(some 51), .op (.mov (.t 52)), none⟩])
        (.cond (.t 51)
          (.seq (.ops [⟨(some 53), .op (.faddr 1 (.t 1)), none⟩,
            ⟨(some 54), .op (.load none (.t 53)), none⟩,
            ⟨(some 55), .op (.bin .eql (.t 54) (.c (.string ⟨#[45]⟩))), none⟩,
            ⟨(some 56), .op (.mov (.t 55)), none⟩,
            ⟨(some 57), .op (.faddr 1 (.t 1)), (some (56, false))⟩,
            ⟨(some 58), .op (.load none (.t 57)), (some (56, false))⟩,
            ⟨(some 59), .op (.bin .eql (.t 58) (.c (.string ⟨#[33]⟩))), (some (56, false))⟩,
            ⟨(some 60), .op (.pick (.t 56) (.c (.bool true)) (.t 59)), none⟩,
            ⟨(some 61), .op (.mov (.t 60)), none⟩,
            ⟨(some 62), .op (.faddr 1 (.t 1)), (some (61, false))⟩,
            ⟨(some 63), .op (.load none (.t 62)), (some (61, false))⟩,
            ⟨(some 64), .op (.bin .eql (.t 63) (.c (.string ⟨#[126]⟩))), (some (61, false))⟩,
            ⟨(some 65), .op (.pick (.t 61) (.c (.bool true)) (.t 64)), none⟩,
            ⟨(some 2), .op (.mov (.t 65)), none⟩])
          .ret)
          (.seq (.ops [⟨(some 67), .op (.bin .eql (.t 6) (.c (.int .i64 19))), none⟩,
            ⟨(some 66), .op (.mov (.t 67)), none⟩])
          (.cond (.t 66)
            (.seq (.ops [⟨(some 68), .op (.faddr 1 (.t 1)), none⟩,
              ⟨(some 69), .op (.load none (.t 68)), none⟩,
              ⟨(some 70), .call 37 [(.t 69)], none⟩,
              ⟨(some 2), .op (.mov (.t 70)), none⟩])
            .ret)
            .skip))))))))))
  (.seq (.ops [⟨(some 71), .op (.faddr 1 (.t 1)), none⟩,
    ⟨(some 72), .op (.load none (.t 71)), none⟩,
    ⟨(some 73), .op (.bin .eql (.t 72) (.c (.string ⟨#[]⟩))), none⟩,
    ⟨(some 2), .op (.mov (.t 73)), none⟩])
  .ret))), [.tmp 2]⟩

-- swath/swathref05.shape
def C26L0 : IC :=
  (.seq (.ops [⟨(some 18), .op (.bin .lss (.t 17) (.t 16)), none⟩])
  (.seq (.cond (.t 18)
    .skip
    (.exit 1))
  (.seq (.block 2
    (.seq (.ops [⟨(some 19), .op (.iaddr (.sl 1) (.t 15) (.t 17)), none⟩,
      ⟨(some 20), .op (.load none (.t 19)), none⟩,
      ⟨(some 7), .op (.mov (.t 20)), none⟩])
    (.seq (.ops [⟨(some 21), .op (.mov (.t 7)), none⟩,
      ⟨(some 22), .op (.bin .neq (.t 21) (.c (.int .i64 2))), none⟩,
      ⟨(some 23), .op (.mov (.t 22)), none⟩,
      ⟨(some 24), .op (.mov (.t 7)), (some (23, true))⟩,
      ⟨(some 25), .op (.bin .neq (.t 24) (.c (.int .i64 3))), (some (23, true))⟩,
      ⟨(some 26), .op (.pick (.t 23) (.t 25) (.c (.bool false))), none⟩])
    (.cond (.t 26)
      (.seq (.ops [⟨(some 4), .op (.mov (.c (.bool false))), none⟩])
      .ret)
      .skip))))
  (.ops [⟨(some 27), .op (.bin .add (.t 17) (.c (.int .i64 1))), none⟩,
    ⟨(some 17), .op (.mov (.t 27)), none⟩]))))

def C26L1 : IC :=
  (.seq (.ops [⟨(some 57), .op (.bin .lss (.t 56) (.t 55)), none⟩])
  (.seq (.cond (.t 57)
    .skip
    (.exit 3))
  (.seq (.block 4
    (.seq (.ops [⟨(some 58), .op (.iaddr (.sl 1) (.t 54) (.t 56)), none⟩,
      ⟨(some 59), .op (.load none (.t 58)), none⟩,
      ⟨(some 9), .op (.mov (.t 59)), none⟩])
    (.seq (.ops [⟨(some 60), .op (.mov (.t 9)), none⟩,
      ⟨(some 61), .call 39 [(.t 60)], none⟩,
      ⟨(some 62), .op (.un .not (.t 61)), none⟩])
    (.cond (.t 62)
      (.seq (.ops [⟨(some 4), .op (.mov (.c (.bool false))), none⟩])
      .ret)
      .skip))))
  (.ops [⟨(some 63), .op (.bin .add (.t 56) (.c (.int .i64 1))), none⟩,
    ⟨(some 56), .op (.mov (.t 63)), none⟩]))))

def C26 : IFn := ⟨180, (.seq (.ops [⟨(some 4), .op (.mov (.c (.bool false))), none⟩])
  (.seq (.ops [⟨(some 10), .op (.mov (.t 1)), none⟩,
    ⟨(some 11), .op (.len .sl (.t 10)), none⟩,
    ⟨(some 5), .op (.mov (.t 11)), none⟩])
  (.seq (.seq (.ops [⟨(some 12), .op (.mov (.t 0)), none⟩])
  (.block 0
    (.seq (.ops [⟨(some 14), .op (.bin .eql (.t 12) (.c (.int .i64 1))), none⟩,
      ⟨(some 13), .op (.mov (.t 14)), none⟩])
    (.cond (.t 13)
      (.seq (.seq (.ops [⟨(some 15), .op (.mov (.t 1)), none⟩,
        ⟨(some 16), .op (.len .sl (.t 15)), none⟩,
        ⟨(some 17), .op (.mov (.c (.int .i64 0))), none⟩])
      (.block 1
        (.loop C26L0)))
      (.seq (.ops [⟨(some 4), .op (.mov (.c (.bool true))), none⟩])
      .ret))
      (.seq (.seq (.ops [⟨(some 29), .op (.bin .eql (.t 12) (.c (.int .i64 2))), none⟩,
        ⟨(some 28), .op (.mov (.t 29)), none⟩])
      (.cond (.t 28)
        .skip
        (.ops [⟨(some 30), .op (.bin .eql (.t 12) (.c (.int .i64 13))), none⟩,
          ⟨(some 28), .op (.mov (.t 30)), none⟩])))
      (.cond (.t 28)
        (.seq (.ops [⟨(some 31), .op (.mov (.t 1)), none⟩,
          ⟨(some 32), .call 38 [(.t 31), (.c (.int .i64 17))], none⟩,
          ⟨(some 4), .op (.mov (.t 32)), none⟩])
        .ret)
        (.seq (.ops [⟨(some 34), .op (.bin .eql (.t 12) (.c (.int .i64 3))), none⟩,
          ⟨(some 33), .op (.mov (.t 34)), none⟩])
        (.cond (.t 33)
          (.seq (.ops [⟨(some 35), .op (.mov (.t 5)), none⟩,
            ⟨(some 36), .op (.bin .gtr (.t 35) (.c (.int .i64 0))), none⟩,
            ⟨(some 37), .op (.mov (.t 36)), none⟩,
            ⟨(some 38), .op (.mov (.t 1)), (some (37, true))⟩,
            ⟨(some 39), .op (.mov (.t 5)), (some (37, true))⟩,
            ⟨(some 40), .op (.bin .sub (.t 39) (.c (.int .i64 1))), (some (37, true))⟩,
            ⟨(some 41), .op (.sub (.sl 1) (.t 38) none (some (.t 40)) none), (some (37, true))⟩,
            ⟨(some 42), .call 38 [(.t 41), (.c (.int .i64 17))], (some (37, true))⟩,
            ⟨(some 43), .op (.pick (.t 37) (.t 42) (.c (.bool false))), none⟩,
            ⟨(some 44), .op (.mov (.t 43)), none⟩,
            ⟨(some 45), .op (.mov (.t 1)), (some (44, true))⟩,
            ⟨(some 46), .op (.mov (.t 5)), (some (44, true))⟩,
            ⟨(some 47), .op (.bin .sub (.t 46) (.c (.int .i64 1))), (some (44, true))⟩,
            ⟨(some 48), .op (.iaddr (.sl 1) (.t 45) (.t 47)), (some (44, true))⟩,
            ⟨(some 49), .op (.load none (.t 48)), (some (44, true))⟩,
            ⟨(some 50), .op (.bin .eql (.t 49) (.c (.int .i64 4))), (some (44, true))⟩,
            ⟨(some 51), .op (.pick (.t 44) (.t 50) (.c (.bool false))), none⟩,
            ⟨(some 4), .op (.mov (.t 51)), none⟩])
          .ret)
          (.seq (.ops [⟨(some 53), .op (.bin .eql (.t 12) (.c (.int .i64 4))), none⟩,
            ⟨(some 52), .op (.mov (.t 53)), none⟩])
          (.cond (.t 52)
            (.seq (.seq (.ops [⟨(some 54), .op (.mov (.t 1)), none⟩,
              ⟨(some 55), .op (.len .sl (.t 54)), none⟩,
              ⟨(some 56), .op (.mov (.c (.int .i64 0))), none⟩])
            (.block 3
              (.loop C26L1)))
            (.seq (.ops [⟨(some 4), .op (.mov (.c (.bool true))), none⟩])
            .ret))
            (.seq (.seq (.ops [⟨(some 65), .op (.bin .eql (.t 12) (.c (.int .i64 5))), none⟩,
              ⟨(some 64), .op (.mov (.t 65)), none⟩])
            (.cond (.t 64)
              .skip
              (.seq (.ops [⟨(some 66), .op (.bin .eql (.t 12) (.c (.int .i64 9))), none⟩,
                ⟨(some 64), .op (.mov (.t 66)), none⟩])
              (.cond (.t 64)
                .skip
                (.seq (.ops [⟨(some 67), .op (.bin .eql (.t 12) (.c (.int .i64 10))), none⟩,
                  ⟨(some 64), .op (.mov (.t 67)), none⟩])
                (.cond (.t 64)
                  .skip
                  (.seq (.ops [⟨(some 68), .op (.bin .eql (.t 12) (.c (.int .i64 11))), none⟩,
                    ⟨(some 64), .op (.mov (.t 68)), none⟩])
                  (.cond (.t 64)
                    .skip
                    (.seq (.ops [⟨(some 69), .op (.bin .eql (.t 12) (.c (.int .i64 18))), none⟩,
                      ⟨(some 64), .op (.mov (.t 69)), none⟩])
                    (.cond (.t 64)
                      .skip
                      (.seq (.ops [⟨(some 70), .op (.bin .eql (.t 12) (.c (.int .i64 20))), none⟩,
                        ⟨(some 64), .op (.mov (.t 70)), none⟩])
                      (.cond (.t 64)
                        .skip
                        (.seq (.ops [⟨(some 71), .op (.bin .eql (.t 12) (.c (.int .i64 24))), none⟩,
                          ⟨(some 64), .op (.mov (.t 71)), none⟩])
                        (.cond (.t 64)
                          .skip
                          (.seq (.ops [⟨(some 72), .op (.bin .eql (.t 12) (.c (.int .i64 25))), none⟩,
                            ⟨(some 64), .op (.mov (.t 72)), none⟩])
                          (.cond (.t 64)
                            .skip
                            (.seq (.ops [⟨(some 73), .op (.bin .eql (.t 12) (.c (.int .i64 27))), none⟩,
                              ⟨(some 64), .op (.mov (.t 73)), none⟩])
                            (.cond (.t 64)
                              .skip
                              (.ops [⟨(some 74), .op (.bin .eql (.t 12) (.c (.int .i64 29))), none⟩,
                                ⟨(some 64), .op (.mov (.t 74)), none⟩])))))))))))))))))))
            (.cond (.t 64)
              (.seq (.ops [⟨(some 75), .op (.mov (.t 1)), none⟩,
                ⟨(some 76), .call 40 [(.t 75), (.c (.int .i64 1))], none⟩,
                ⟨(some 4), .op (.mov (.t 76)), none⟩])
              .ret)
              (.seq (.ops [⟨(some 78), .op (.bin .eql (.t 12) (.c (.int .i64 6))), none⟩,
                ⟨(some 77), .op (.mov (.t 78)), none⟩])
              (.cond (.t 77)
                (.seq (.ops [⟨(some 79), .op (.mov (.t 1)), none⟩,
                  ⟨(some 80), .call 40 [(.t 79), (.c (.int .i64 2))], none⟩,
                  ⟨(some 81), .op (.mov (.t 80)), none⟩,
                  ⟨(some 82), .op (.mov (.t 1)), (some (81, true))⟩,
                  ⟨(some 83), .op (.iaddr (.sl 1) (.t 82) (.c (.int .i64 0))), (some (81, true))⟩,
                  ⟨(some 84), .op (.load none (.t 83)), (some (81, true))⟩,
                  ⟨(some 85), .op (.bin .eql (.t 84) (.c (.int .i64 17))), (some (81, true))⟩,
                  ⟨(some 86), .op (.mov (.t 85)), (some (81, true))⟩,
                  ⟨(some 87), .op (.mov (.t 1)), (some (86, false))⟩,
                  ⟨(some 88), .op (.iaddr (.sl 1) (.t 87) (.c (.int .i64 0))), (some (86, false))⟩,
                  ⟨(some 89), .op (.load none (.t 88)), (some (86, false))⟩,
                  ⟨(some 90), .op (.bin .eql (.t 89) (.c (.int .i64 20))), (some (86, false))⟩,
                  ⟨(some 91), .op (.pick (.t 86) (.c (.bool true)) (.t 90)), (some (81, true))⟩,
                  ⟨(some 92), .op (.mov (.t 91)), (some (81, true))⟩,
                  ⟨(some 93), .op (.mov (.t 1)), (some (92, false))⟩,
                  ⟨(some 94), .op (.iaddr (.sl 1) (.t 93) (.c (.int .i64 0))), (some (92, false))⟩,
                  ⟨(some 95), .op (.load none (.t 94)), (some (92, false))⟩,
                  ⟨(some 96), .op (.bin .eql (.t 95) (.c (.int .i64 21))), (some (92, false))⟩,
                  ⟨(some 97), .op (.pick (.t 92) (.c (.bool true)) (.t 96)), (some (81, true))⟩,
                  ⟨(some 98), .op (.mov (.t 97)), (some (81, true))⟩,
                  ⟨(some 99), .op (.mov (.t 1)), (some (98, false))⟩,
                  ⟨(some 100), .op (.iaddr (.sl 1) (.t 99) (.c (.int .i64 0))), (some (98, false))⟩,
                  ⟨(some 101), .op (.load none (.t 100)), (some (98, false))⟩,
                  ⟨(some 102), .op (.bin .eql (.t 101) (.c (.int .i64 30))), (some (98, false))⟩,
                  ⟨(some 103), .op (.pick (.t 98) (.c (.bool true)) (.t 102)), (some (81, true))⟩,
                  ⟨(some 104), .op (.pick (.t 81) (.t 103) (.c (.bool false))), none⟩,
                  ⟨(some 4), .op (.mov (.t 104)), none⟩])
                .ret)
                (.seq (.ops [⟨(some 106), .op (.bin .eql (.t 12) (.c (.int .i64 7))), none⟩,
                  ⟨(some 105), .op (.mov (.t 106)), none⟩])
                (.cond (.t 105)
                  (.seq (.ops [⟨(some 107), .op (.mov (.t 5)), none⟩,
                    ⟨(some 108), .op (.bin .eql (.t 107) (.c (.int .i64 3))), none⟩,
                    ⟨(some 109), .op (.mov (.t 108)), none⟩,
                    ⟨(some 110), .op (.mov (.t 1)), (some (109, true))⟩,
                    ⟨(some 111), .op (.iaddr (.sl 1) (.t 110) (.c (.int .i64 0))), (some (109, true))⟩,
                    ⟨(some 112), .op (.load none (.t 111)), (some (109, true))⟩,
                    ⟨(some 113), .call 41 [(.t 112)], (some (109, true))⟩,
                    ⟨(some 114), .op (.pick (.t 109) (.t 113) (.c (.bool false))), none⟩,
                    ⟨(some 115), .op (.mov (.t 114)), none⟩,
                    ⟨(some 116), .op (.mov (.t 1)), (some (115, true))⟩,
                    ⟨(some 117), .op (.iaddr (.sl 1) (.t 116) (.c (.int .i64 1))), (some (115, true))⟩,
                    ⟨(some 118), .op (.load none (.t 117)), (some (115, true))⟩,
                    ⟨(some 119), .op (.bin .eql (.t 118) (.c (.int .i64 4))), (some (115, true))⟩,
                    ⟨(some 120), .op (.pick (.t 115) (.t 119) (.c (.bool false))), none⟩,
                    ⟨(some 121), .op (.mov (.t 120)), none⟩,
                    ⟨(some 122), .op (.mov (.t 1)), (some (121, true))⟩,
                    ⟨(some 123), .op (.iaddr (.sl 1) (.t 122) (.c (.int .i64 2))), (some (121, true))⟩,
                    ⟨(some 124), .op (.load none (.t 123)), (some (121, true))⟩,
                    ⟨(some 125), .op (.bin .eql (.t 124) (.c (.int .i64 4))), (some (121, true))⟩,
                    ⟨(some 126), .op (.mov (.t 125)), (some (121, true))⟩,
                    ⟨(some 127), .op (.mov (.t 1)), (some (126, false))⟩,
                    ⟨(some 128), .op (.iaddr (.sl 1) (.t 127) (.c (.int .i64 2))), (some (126, false))⟩,
                    ⟨(some 129), .op (.load none (.t 128)), (some (126, false))⟩,
                    ⟨(some 130), .op (.bin .eql (.t 129) (.c (.int .i64 14))), (some (126, false))⟩,
                    ⟨(some 131), .op (.pick (.t 126) (.c (.bool true)) (.t 130)), (some (121, true))⟩,
                    ⟨(some 132), .op (.pick (.t 121) (.t 131) (.c (.bool false))), none⟩,
                    ⟨(some 4), .op (.mov (.t 132)), none⟩])
                  .ret)
                  (.seq (.ops [⟨(some 134), .op (.bin .eql (.t 12) (.c (.int .i64 8))), none⟩,
                    ⟨(some 133), .op (.mov (.t 134)), none⟩])
                  (.cond (.t 133)
                    (.seq (.ops [⟨(some 135), .op (.mov (.t 5)), none⟩,
                      ⟨(some 136), .op (.bin .eql (.t 135) (.c (.int .i64 2))), none⟩,
                      ⟨(some 137), .op (.mov (.t 136)), none⟩,
                      ⟨(some 138), .op (.mov (.t 1)), (some (137, true))⟩,
                      ⟨(some 139), .op (.iaddr (.sl 1) (.t 138) (.c (.int .i64 0))), (some (137, true))⟩,
                      ⟨(some 140), .op (.load none (.t 139)), (some (137, true))⟩,
                      ⟨(some 141), .call 41 [(.t 140)], (some (137, true))⟩,
                      ⟨(some 142), .op (.pick (.t 137) (.t 141) (.c (.bool false))), none⟩,
                      ⟨(some 143), .op (.mov (.t 142)), none⟩,
                      ⟨(some 144), .op (.mov (.t 1)), (some (143, true))⟩,
                      ⟨(some 145), .op (.iaddr (.sl 1) (.t 144) (.c (.int .i64 1))), (some (143, true))⟩,
                      ⟨(some 146), .op (.load none (.t 145)), (some (143, true))⟩,
                      ⟨(some 147), .op (.bin .eql (.t 146) (.c (.int .i64 4))), (some (143, true))⟩,
                      ⟨(some 148), .op (.pick (.t 143) (.t 147) (.c (.bool false))), none⟩,
                      ⟨(some 4), .op (.mov (.t 148)), none⟩])
                    .ret)
                    (.seq (.ops [⟨(some 150), .op (.bin .eql (.t 12) (.c (.int .i64 12))), none⟩,
                      ⟨(some 149), .op (.mov (.t 150)), none⟩])
                    (.cond (.t 149)
                      (.seq (.ops [⟨(some 151), .op (.mov (.t 5)), none⟩,
                        ⟨(some 152), .op (.bin .eql (.t 151) (.c (.int .i64 1))), none⟩,
                        ⟨(some 153), .op (.mov (.t 152)), none⟩,
                        ⟨(some 154), .op (.mov (.t 1)), (some (153, true))⟩,
                        ⟨(some 155), .op (.iaddr (.sl 1) (.t 154) (.c (.int .i64 0))), (some (153, true))⟩,
                        ⟨(some 156), .op (.load none (.t 155)), (some (153, true))⟩,
                        ⟨(some 157), .op (.bin .eql (.t 156) (.c (.int .i64 22))), (some (153, true))⟩,
                        ⟨(some 158), .op (.pick (.t 153) (.t 157) (.c (.bool false))), none⟩,
                        ⟨(some 4), .op (.mov (.t 158)), none⟩])
                      .ret)
                      (.seq (.seq (.ops [⟨(some 160), .op (.bin .eql (.t 12) (.c (.int .i64 19))), none⟩,
                        ⟨(some 159), .op (.mov (.t 160)), none⟩])
                      (.cond (.t 159)
                        .skip
                        (.ops [⟨(some 161), .op (.bin .eql (.t 12) (.c (.int .i64 21))), none⟩,
                          ⟨(some 159), .op (.mov (.t 161)), none⟩])))
                      (.cond (.t 159)
                        (.seq (.ops [⟨(some 162), .op (.mov (.t 1)), none⟩,
                          ⟨(some 163), .call 40 [(.t 162), (.c (.int .i64 2))], none⟩,
                          ⟨(some 4), .op (.mov (.t 163)), none⟩])
                        .ret)
                        (.seq (.ops [⟨(some 165), .op (.bin .eql (.t 12) (.c (.int .i64 22))), none⟩,
                          ⟨(some 164), .op (.mov (.t 165)), none⟩])
                        (.cond (.t 164)
                          (.seq (.ops [⟨(some 166), .op (.mov (.t 1)), none⟩,
                            ⟨(some 167), .op (.mov (.t 5)), none⟩,
                            ⟨(some 168), .call 40 [(.t 166), (.t 167)], none⟩,
                            ⟨(some 4), .op (.mov (.t 168)), none⟩])
                          .ret)
                          (.seq (.seq (.ops [⟨(some 170), .op (.bin .eql (.t 12) (.c (.int .i64 14))), none⟩,
                            ⟨(some 169), .op (.mov (.t 170)), none⟩])
                          (.cond (.t 169)
                            .skip
                            (.seq (.ops [⟨(some 171), .op (.bin .eql (.t 12) (.c (.int .i64 15))), none⟩,
                              ⟨(some 169), .op (.mov (.t 171)), none⟩])
                            (.cond (.t 169)
                              .skip
                              (.seq (.ops [⟨(some 172), .op (.bin .eql (.t 12) (.c (.int .i64 16))), none⟩,
                                ⟨(some 169), .op (.mov (.t 172)), none⟩])
                              (.cond (.t 169)
                                .skip
                                (.seq (.ops [⟨(some 173), .op (.bin .eql (.t 12) (.c (.int .i64 17))), none⟩,
                                  ⟨(some 169), .op (.mov (.t 173)), none⟩])
                                (.cond (.t 169)
                                  .skip
                                  (.seq (.ops [⟨(some 174), .op (.bin .eql (.t 12) (.c (.int .i64 23))), none⟩,
                                    ⟨(some 169), .op (.mov (.t 174)), none⟩])
                                  (.cond (.t 169)
                                    .skip
                                    (.seq (.ops [⟨(some 175), .op (.bin .eql (.t 12) (.c (.int .i64 26))), none⟩,
                                      ⟨(some 169), .op (.mov (.t 175)), none⟩])
                                    (.cond (.t 169)
                                      .skip
                                      (.seq (.ops [⟨(some 176), .op (.bin .eql (.t 12) (.c (.int .i64 28))), none⟩,
                                        ⟨(some 169), .op (.mov (.t 176)), none⟩])
                                      (.cond (.t 169)
                                        .skip
                                        (.ops [⟨(some 177), .op (.bin .eql (.t 12) (.c (.int .i64 30))), none⟩,
                                          ⟨(some 169), .op (.mov (.t 177)), none⟩])))))))))))))))
                          (.cond (.t 169)
                            (.seq (.ops [⟨(some 178), .op (.mov (.t 5)), none⟩,
                              ⟨(some 179), .op (.bin .eql (.t 178) (.c (.int .i64 0))), none⟩,
                              ⟨(some 4), .op (.mov (.t 179)), none⟩])
                            .ret)
                            .skip))))))))))))))))))))))))))
  (.seq (.ops [⟨(some 4), .op (.mov (.c (.bool false))), none⟩])
  .ret)))), [.tmp 4]⟩

-- swath/tree.Walk$1
def C28L0 : IC :=
  (.seq (.ops [⟨(some 51), .op (.bin .lss (.t 50) (.t 49)), none⟩])
  (.seq (.cond (.t 51)
    .skip
    (.exit 2))
  (.seq (.block 3
    (.seq (.ops [⟨(some 52), .op (.mov (.t 50)), none⟩,
      ⟨(some 8), .op (.mov (.t 52)), none⟩])
    (.draw [⟨(some 53), .op (.mov (.t 5)), none⟩,
      ⟨(some 54), .op (.mov (.t 7)), none⟩,
      ⟨(some 55), .op (.mov (.t 7)), none⟩,
      ⟨(some 56), .op (.len .sl (.t 55)), none⟩,
      ⟨(some 57), .op (.bin .sub (.t 56) (.c (.int .i64 1))), none⟩,
      ⟨(some 58), .op (.mov (.t 8)), none⟩,
      ⟨(some 59), .op (.bin .sub (.t 57) (.t 58)), none⟩,
      ⟨(some 60), .op (.iaddr (.sl 1) (.t 54) (.t 59)), none⟩,
      ⟨(some 61), .op (.load none (.t 60)), none⟩,
      ⟨(some 62), .op (.faddr 1 (.t 6)), none⟩,
      ⟨(some 63), .op (.load none (.t 62)), none⟩,
      ⟨(some 64), .op (.bin .add (.t 63) (.c (.int .i64 1))), none⟩,
      ⟨(some 65), .op (.build [(.int .i64 0), (.int .i64 0)] [(0, 1, (.t 61)), (1, 1, (.t 64))]), none⟩,
      ⟨(some 66), .op (.lit 2 1 [(.int .i64 0), (.int .i64 0)] [(0, 2, (.t 65))]), none⟩,
      ⟨(some 67), .op (.append 2 16 (.t 53) (.t 66)), none⟩,
      ⟨(some 5), .op (.mov (.t 67)), none⟩]
      [[], [], [], [2], [3, 2], [], [5, 4, 3, 2], [6, 5, 4, 3, 2, 1], [7, 6, 5, 4, 3, 2, 1], [], [9], [10, 9], [11, 10, 9, 8, 7, 6, 5, 4, 3, 2, 1], [12, 11, 10, 9, 8, 7, 6, 5, 4, 3, 2, 1], [13, 12, 11, 10, 9, 8, 7, 6, 5, 4, 3, 2, 1, 0], [14, 13, 12, 11, 10, 9, 8, 7, 6, 5, 4, 3, 2, 1, 0]])))
  (.ops [⟨(some 68), .op (.bin .add (.t 50) (.c (.int .i64 1))), none⟩,
    ⟨(some 50), .op (.mov (.t 68)), none⟩]))))

def C28L1 : IC :=
  (.seq (.seq (.ops [⟨(some 21), .op (.mov (.t 5)), none⟩,
    ⟨(some 22), .op (.len .sl (.t 21)), none⟩,
    ⟨(some 23), .op (.bin .gtr (.t 22) (.c (.int .i64 0))), none⟩])
  (.cond (.t 23)
    .skip
    (.exit 0)))
  (.block 1
    (.seq (.ops [⟨(some 24), .op (.mov (.t 5)), none⟩,
      ⟨(some 25), .op (.mov (.t 5)), none⟩,
      ⟨(some 26), .op (.len .sl (.t 25)), none⟩,
      ⟨(some 27), .op (.bin .sub (.t 26) (.c (.int .i64 1))), none⟩,
      ⟨(some 28), .op (.iaddr (.sl 2) (.t 24) (.t 27)), none⟩,
      ⟨(some 29), .op (.load (some 2) (.t 28)), none⟩,
      ⟨(some 6), .op (.alloc [(.int .i64 0), (.int .i64 0)]), none⟩,
      ⟨none, .op (.store 2 (.t 6) (.t 29)), none⟩])
    (.seq (.ops [⟨(some 30), .op (.mov (.t 5)), none⟩,
      ⟨(some 31), .op (.mov (.t 5)), none⟩,
      ⟨(some 32), .op (.len .sl (.t 31)), none⟩,
      ⟨(some 33), .op (.bin .sub (.t 32) (.c (.int .i64 1))), none⟩,
      ⟨(some 34), .op (.sub (.sl 2) (.t 30) none (some (.t 33)) none), none⟩,
      ⟨(some 5), .op (.mov (.t 34)), none⟩])
    (.seq (.seq (.ops [⟨(some 35), .op (.mov (.t 0)), none⟩,
      ⟨(some 36), .op (.faddr 0 (.t 6)), none⟩,
      ⟨(some 37), .op (.load none (.t 36)), none⟩,
      ⟨(some 38), .op (.faddr 1 (.t 6)), none⟩,
      ⟨(some 39), .op (.load none (.t 38)), none⟩,
      ⟨(some 40), .callv (.t 35) [(.t 37), (.t 39)], none⟩,
      ⟨(some 41), .op (.un .not (.t 40)), none⟩])
    (.cond (.t 41)
      .ret
      .skip))
    (.seq (.ops [⟨(some 42), .op (.load none (.t 1)), none⟩,
      ⟨(some 43), .op (.faddr 0 (.t 6)), none⟩,
      ⟨(some 44), .op (.load none (.t 43)), none⟩,
      ⟨(some 45), .op (.iaddr (.sl 4) (.t 42) (.t 44)), none⟩,
      ⟨(some 46), .op (.faddr 2 (.t 45)), none⟩,
      ⟨(some 47), .op (.load none (.t 46)), none⟩,
      ⟨(some 7), .op (.mov (.t 47)), none⟩])
    (.seq (.ops [⟨(some 48), .op (.mov (.t 7)), none⟩,
      ⟨(some 49), .op (.len .sl (.t 48)), none⟩,
      ⟨(some 50), .op (.mov (.c (.int .i64 0))), none⟩])
    (.block 2
      (.loop C28L0)))))))))

def C28 : IFn := ⟨69, (.seq (.seq (.ops [⟨(some 10), .op (.load none (.t 1)), none⟩,
    ⟨(some 11), .call 11 [(.t 10)], none⟩,
    ⟨(some 9), .op (.mov (.t 11)), none⟩,
    ⟨(some 12), .op (.extract (.t 9) 0), none⟩,
    ⟨(some 13), .op (.extract (.t 9) 1), none⟩,
    ⟨(some 3), .op (.mov (.t 12)), none⟩,
    ⟨(some 4), .op (.mov (.t 13)), none⟩])
  (.seq (.ops [⟨(some 14), .op (.mov (.t 4)), none⟩,
    ⟨(some 15), .op (.bin .neq (.t 14) (.c (.int .i64 0))), none⟩])
  (.cond (.t 15)
    .ret
    .skip)))
  (.seq (.ops [⟨(some 16), .op (.load none (.t 1)), none⟩,
    ⟨(some 17), .op (.len .sl (.t 16)), none⟩,
    ⟨(some 18), .op (.bin .sub (.t 17) (.c (.int .i64 1))), none⟩,
    ⟨(some 19), .op (.build [(.int .i64 0), (.int .i64 0)] [(0, 1, (.t 18)), (1, 1, (.c (.int .i64 0)))]), none⟩,
    ⟨(some 20), .op (.lit 2 1 [(.int .i64 0), (.int .i64 0)] [(0, 2, (.t 19))]), none⟩,
    ⟨(some 5), .op (.mov (.t 20)), none⟩])
  (.block 0
    (.loop C28L1)))), []⟩

-- strings.Contains
def C31 : IFn := ⟨9, (.seq (.ops [⟨(some 4), .op (.mov (.c (.bool false))), none⟩])
  (.seq (.ops [⟨(some 5), .op (.mov (.t 0)), none⟩,
    ⟨(some 6), .op (.mov (.t 1)), none⟩,
    ⟨(some 7), .call 47 [(.t 5), (.t 6)], none⟩,
    ⟨(some 8), .op (.bin .geq (.t 7) (.c (.int .i64 0))), none⟩,
    ⟨(some 4), .op (.mov (.t 8)), none⟩])
  .ret)), [.tmp 4]⟩

-- swath/tree.runeAt
def C32L0 : IC :=
  (.seq (.ops [⟨(some 9), .op (.next (.t 8)), none⟩,
    ⟨(some 10), .op (.extract (.t 9) 0), none⟩])
  (.seq (.cond (.t 10)
    .skip
    (.exit 0))
  (.block 1
    (.seq (.ops [⟨(some 11), .op (.extract (.t 9) 1), none⟩,
      ⟨(some 12), .op (.extract (.t 9) 2), none⟩,
      ⟨(some 5), .op (.mov (.t 11)), none⟩,
      ⟨(some 6), .op (.mov (.t 12)), none⟩])
    (.seq (.ops [⟨(some 13), .op (.mov (.t 6)), none⟩,
      ⟨(some 14), .op (.mov (.t 1)), none⟩,
      ⟨(some 15), .op (.bin .eql (.t 13) (.t 14)), none⟩])
    (.cond (.t 15)
      (.seq (.ops [⟨(some 16), .op (.mov (.t 5)), none⟩,
        ⟨(some 4), .op (.mov (.t 16)), none⟩])
      .ret)
      .skip))))))

def C32 : IFn := ⟨17, (.seq (.ops [⟨(some 4), .op (.mov (.c (.int .i64 0))), none⟩])
  (.seq (.seq (.ops [⟨(some 7), .op (.mov (.t 0)), none⟩,
    ⟨(some 8), .op (.range (.t 7)), none⟩])
  (.block 0
    (.loop C32L0)))
  (.seq (.ops [⟨(some 4), .op (.mov (.c (.int .i64 (-1)))), none⟩])
  .ret))), [.tmp 4]⟩

-- swath/tree.hasRune
def C33L0 : IC :=
  (.seq (.ops [⟨(some 9), .op (.next (.t 8)), none⟩,
    ⟨(some 10), .op (.extract (.t 9) 0), none⟩])
  (.seq (.cond (.t 10)
    .skip
    (.exit 0))
  (.block 1
    (.seq (.ops [⟨(some 11), .op (.extract (.t 9) 2), none⟩,
      ⟨(some 6), .op (.mov (.t 11)), none⟩])
    (.seq (.ops [⟨(some 12), .op (.mov (.t 6)), none⟩,
      ⟨(some 13), .op (.mov (.t 1)), none⟩,
      ⟨(some 14), .op (.bin .eql (.t 12) (.t 13)), none⟩])
    (.cond (.t 14)
      (.seq (.ops [⟨(some 4), .op (.mov (.c (.bool true))), none⟩])
      .ret)
      .skip))))))

def C33 : IFn := ⟨15, (.seq (.ops [⟨(some 4), .op (.mov (.c (.bool false))), none⟩])
  (.seq (.seq (.ops [⟨(some 7), .op (.mov (.t 0)), none⟩,
    ⟨(some 8), .op (.range (.t 7)), none⟩])
  (.block 0
    (.loop C33L0)))
  (.seq (.ops [⟨(some 4), .op (.mov (.c (.bool false))), none⟩])
  .ret))), [.tmp 4]⟩

-- swath/tree.letters
def C34 : IFn := ⟨33, (.seq (.ops [⟨(some 2), .op (.mov (.c (.string ⟨#[]⟩))), none⟩])
  (.seq (.seq (.ops [⟨(some 3), .op (.mov (.t 0)), none⟩])
  (.block 0
    (.seq (.seq (.ops [⟨(some 5), .op (.bin .eql (.t 3) (.c (.int .i64 2))), none⟩,
      ⟨(some 4), .op (.mov (.t 5)), none⟩])
    (.cond (.t 4)
      .skip
      (.ops [⟨(some 6), .op (.bin .eql (.t 3) (.c (.int .i64 3))), none⟩,
        ⟨(some 4), .op (.mov (.t 6)), none⟩])))
    (.cond (.t 4)
      (.seq (.ops [⟨(some 2), .op (.mov (.c (.string ⟨#[100]⟩))), none⟩])
      .ret)
      (.seq (.ops [⟨(some 8), .op (.bin .eql (.t 3) (.c (.int .i64 4))), none⟩,
        ⟨(some 7), .op (.mov (.t 8)), none⟩])
      (.cond (.t 7)
        (.seq (.ops [⟨(some 2), .op (.mov (.c (.string ⟨#[98, 111]⟩))), none⟩])
        .ret)
        (.seq (.ops [⟨(some 10), .op (.bin .eql (.t 3) (.c (.int .i64 14))), none⟩,
          ⟨(some 9), .op (.mov (.t 10)), none⟩])
        (.cond (.t 9)
          (.seq (.ops [⟨(some 2), .op (.mov (.c (.string ⟨#[111]⟩))), none⟩])
          .ret)
          (.seq (.ops [⟨(some 12), .op (.bin .eql (.t 3) (.c (.int .i64 17))), none⟩,
            ⟨(some 11), .op (.mov (.t 12)), none⟩])
          (.cond (.t 11)
            (.seq (.ops [⟨(some 2), .op (.mov (.c (.string ⟨#[110, 101, 112]⟩))), none⟩])
            .ret)
            (.seq (.seq (.ops [⟨(some 14), .op (.bin .eql (.t 3) (.c (.int .i64 20))), none⟩,
              ⟨(some 13), .op (.mov (.t 14)), none⟩])
            (.cond (.t 13)
              .skip
              (.seq (.ops [⟨(some 15), .op (.bin .eql (.t 3) (.c (.int .i64 21))), none⟩,
                ⟨(some 13), .op (.mov (.t 15)), none⟩])
              (.cond (.t 13)
                .skip
                (.ops [⟨(some 16), .op (.bin .eql (.t 3) (.c (.int .i64 30))), none⟩,
                  ⟨(some 13), .op (.mov (.t 16)), none⟩])))))
            (.cond (.t 13)
              (.seq (.ops [⟨(some 2), .op (.mov (.c (.string ⟨#[101, 112]⟩))), none⟩])
              .ret)
              (.seq (.ops [⟨(some 18), .op (.bin .eql (.t 3) (.c (.int .i64 22))), none⟩,
                ⟨(some 17), .op (.mov (.t 18)), none⟩])
              (.cond (.t 17)
                (.seq (.ops [⟨(some 2), .op (.mov (.c (.string ⟨#[101, 99]⟩))), none⟩])
                .ret)
                .skip))))))))))))))
  (.seq (.block 1
    (.seq (.ops [⟨(some 20), .op (.mov (.t 0)), none⟩,
      ⟨(some 21), .op (.bin .geq (.t 20) (.c (.int .i64 5))), none⟩,
      ⟨(some 22), .op (.mov (.t 21)), none⟩,
      ⟨(some 23), .op (.mov (.t 0)), (some (22, true))⟩,
      ⟨(some 24), .op (.bin .leq (.t 23) (.c (.int .i64 13))), (some (22, true))⟩,
      ⟨(some 25), .op (.pick (.t 22) (.t 24) (.c (.bool false))), none⟩,
      ⟨(some 19), .op (.mov (.t 25)), none⟩])
    (.cond (.t 19)
      (.seq (.ops [⟨(some 2), .op (.mov (.c (.string ⟨#[115]⟩))), none⟩])
      .ret)
      (.seq (.ops [⟨(some 27), .op (.mov (.t 0)), none⟩,
        ⟨(some 28), .op (.bin .geq (.t 27) (.c (.int .i64 15))), none⟩,
        ⟨(some 29), .op (.mov (.t 28)), none⟩,
        ⟨(some 30), .op (.mov (.t 0)), (some (29, true))⟩,
        ⟨(some 31), .op (.bin .leq (.t 30) (.c (.int .i64 30))), (some (29, true))⟩,
        ⟨(some 32), .op (.pick (.t 29) (.t 31) (.c (.bool false))), none⟩,
        ⟨(some 26), .op (.mov (.t 32)), none⟩])
      (.cond (.t 26)
        (.seq (.ops [⟨(some 2), .op (.mov (.c (.string ⟨#[101]⟩))), none⟩])
        .ret)
        .skip)))))
  (.seq (.ops [⟨(some 2), .op (.mov (.c (.string ⟨#[]⟩))), none⟩])
  .ret)))), [.tmp 2]⟩

-- swath/swathref05.Operator
def C37L0 : IC :=
  (.seq (.ops [⟨(some 8), .op (.bin .lss (.t 7) (.t 6)), none⟩])
  (.seq (.cond (.t 8)
    .skip
    (.exit 0))
  (.seq (.block 1
    (.seq (.ops [⟨(some 9), .op (.iaddr (.sl 1) (.t 5) (.t 7)), none⟩,
      ⟨(some 10), .op (.load none (.t 9)), none⟩,
      ⟨(some 4), .op (.mov (.t 10)), none⟩])
    (.seq (.ops [⟨(some 11), .op (.mov (.t 0)), none⟩,
      ⟨(some 12), .op (.mov (.t 4)), none⟩,
      ⟨(some 13), .op (.bin .eql (.t 11) (.t 12)), none⟩])
    (.cond (.t 13)
      (.seq (.ops [⟨(some 2), .op (.mov (.c (.bool true))), none⟩])
      .ret)
      .skip))))
  (.ops [⟨(some 14), .op (.bin .add (.t 7) (.c (.int .i64 1))), none⟩,
    ⟨(some 7), .op (.mov (.t 14)), none⟩]))))

def C37 : IFn := ⟨15, (.seq (.ops [⟨(some 2), .op (.mov (.c (.bool false))), none⟩])
  (.seq (.seq (.ops [⟨(some 5), .op (.lit 1 14 [(.string ⟨#[]⟩), (.string ⟨#[]⟩), (.string ⟨#[]⟩), (.string ⟨#[]⟩), (.string ⟨#[]⟩), (.string ⟨#[]⟩), (.string ⟨#[]⟩), (.string ⟨#[]⟩), (.string ⟨#[]⟩), (.string ⟨#[]⟩), (.string ⟨#[]⟩), (.string ⟨#[]⟩), (.string ⟨#[]⟩), (.string ⟨#[]⟩)] [(0, 1, (.c (.string ⟨#[43]⟩))), (1, 1, (.c (.string ⟨#[45]⟩))), (2, 1, (.c (.string ⟨#[42]⟩))), (3, 1, (.c (.string ⟨#[47]⟩))), (4, 1, (.c (.string ⟨#[37]⟩))), (5, 1, (.c (.string ⟨#[60, 60]⟩))), (6, 1, (.c (.string ⟨#[62, 62]⟩))), (7, 1, (.c (.string ⟨#[38]⟩))), (8, 1, (.c (.string ⟨#[94]⟩))), (9, 1, (.c (.string ⟨#[124]⟩))), (10, 1, (.c (.string ⟨#[61, 61]⟩))), (11, 1, (.c (.string ⟨#[33, 61]⟩))), (12, 1, (.c (.string ⟨#[60]⟩))), (13, 1, (.c (.string ⟨#[60, 61]⟩)))]), none⟩,
    ⟨(some 6), .op (.len .sl (.t 5)), none⟩,
    ⟨(some 7), .op (.mov (.c (.int .i64 0))), none⟩])
  (.block 0
    (.loop C37L0)))
  (.seq (.ops [⟨(some 2), .op (.mov (.c (.bool false))), none⟩])
  .ret))), [.tmp 2]⟩

-- swath/swathref05.all
def C38L0 : IC :=
  (.seq (.ops [⟨(some 10), .op (.bin .lss (.t 9) (.t 8)), none⟩])
  (.seq (.cond (.t 10)
    .skip
    (.exit 0))
  (.seq (.block 1
    (.seq (.ops [⟨(some 11), .op (.iaddr (.sl 1) (.t 7) (.t 9)), none⟩,
      ⟨(some 12), .op (.load none (.t 11)), none⟩,
      ⟨(some 6), .op (.mov (.t 12)), none⟩])
    (.seq (.ops [⟨(some 13), .op (.mov (.t 6)), none⟩,
      ⟨(some 14), .op (.mov (.t 1)), none⟩,
      ⟨(some 15), .op (.bin .neq (.t 13) (.t 14)), none⟩])
    (.cond (.t 15)
      (.seq (.ops [⟨(some 4), .op (.mov (.c (.bool false))), none⟩])
      .ret)
      .skip))))
  (.ops [⟨(some 16), .op (.bin .add (.t 9) (.c (.int .i64 1))), none⟩,
    ⟨(some 9), .op (.mov (.t 16)), none⟩]))))

def C38 : IFn := ⟨17, (.seq (.ops [⟨(some 4), .op (.mov (.c (.bool false))), none⟩])
  (.seq (.seq (.ops [⟨(some 7), .op (.mov (.t 0)), none⟩,
    ⟨(some 8), .op (.len .sl (.t 7)), none⟩,
    ⟨(some 9), .op (.mov (.c (.int .i64 0))), none⟩])
  (.block 0
    (.loop C38L0)))
  (.seq (.ops [⟨(some 4), .op (.mov (.c (.bool true))), none⟩])
  .ret))), [.tmp 4]⟩

-- swath/swathref05.Stmt
def C39 : IFn := ⟨9, (.seq (.ops [⟨(some 2), .op (.mov (.c (.bool false))), none⟩])
  (.seq (.ops [⟨(some 3), .op (.mov (.t 0)), none⟩,
    ⟨(some 4), .op (.bin .geq (.t 3) (.c (.int .i64 5))), none⟩,
    ⟨(some 5), .op (.mov (.t 4)), none⟩,
    ⟨(some 6), .op (.mov (.t 0)), (some (5, true))⟩,
    ⟨(some 7), .op (.bin .leq (.t 6) (.c (.int .i64 13))), (some (5, true))⟩,
    ⟨(some 8), .op (.pick (.t 5) (.t 7) (.c (.bool false))), none⟩,
    ⟨(some 2), .op (.mov (.t 8)), none⟩])
  .ret)), [.tmp 2]⟩

-- swath/swathref05.exprs
def C40L0 : IC :=
  (.seq (.ops [⟨(some 10), .op (.bin .lss (.t 9) (.t 8)), none⟩])
  (.seq (.cond (.t 10)
    .skip
    (.exit 0))
  (.seq (.block 1
    (.seq (.ops [⟨(some 11), .op (.iaddr (.sl 1) (.t 7) (.t 9)), none⟩,
      ⟨(some 12), .op (.load none (.t 11)), none⟩,
      ⟨(some 6), .op (.mov (.t 12)), none⟩])
    (.seq (.ops [⟨(some 13), .op (.mov (.t 6)), none⟩,
      ⟨(some 14), .call 41 [(.t 13)], none⟩,
      ⟨(some 15), .op (.un .not (.t 14)), none⟩])
    (.cond (.t 15)
      (.seq (.ops [⟨(some 4), .op (.mov (.c (.bool false))), none⟩])
      .ret)
      .skip))))
  (.ops [⟨(some 16), .op (.bin .add (.t 9) (.c (.int .i64 1))), none⟩,
    ⟨(some 9), .op (.mov (.t 16)), none⟩]))))

def C40 : IFn := ⟨21, (.seq (.ops [⟨(some 4), .op (.mov (.c (.bool false))), none⟩])
  (.seq (.seq (.ops [⟨(some 7), .op (.mov (.t 0)), none⟩,
    ⟨(some 8), .op (.len .sl (.t 7)), none⟩,
    ⟨(some 9), .op (.mov (.c (.int .i64 0))), none⟩])
  (.block 0
    (.loop C40L0)))
  (.seq (.ops [⟨(some 17), .op (.mov (.t 0)), none⟩,
    ⟨(some 18), .op (.len .sl (.t 17)), none⟩,
    ⟨(some 19), .op (.mov (.t 1)), none⟩,
    ⟨(some 20), .op (.bin .eql (.t 18) (.t 19)), none⟩,
    ⟨(some 4), .op (.mov (.t 20)), none⟩])
  .ret))), [.tmp 4]⟩

-- swath/swathref05.Expr
def C41 : IFn := ⟨9, (.seq (.ops [⟨(some 2), .op (.mov (.c (.bool false))), none⟩])
  (.seq (.ops [⟨(some 3), .op (.mov (.t 0)), none⟩,
    ⟨(some 4), .op (.bin .geq (.t 3) (.c (.int .i64 15))), none⟩,
    ⟨(some 5), .op (.mov (.t 4)), none⟩,
    ⟨(some 6), .op (.mov (.t 0)), (some (5, true))⟩,
    ⟨(some 7), .op (.bin .leq (.t 6) (.c (.int .i64 30))), (some (5, true))⟩,
    ⟨(some 8), .op (.pick (.t 5) (.t 7) (.c (.bool false))), none⟩,
    ⟨(some 2), .op (.mov (.t 8)), none⟩])
  .ret)), [.tmp 2]⟩

-- strings.Index
def C47 : IFn := ⟨8, (.seq (.ops [⟨(some 4), .op (.mov (.c (.int .i64 0))), none⟩])
  (.seq (.ops [⟨(some 5), .op (.mov (.t 0)), none⟩,
    ⟨(some 6), .op (.mov (.t 1)), none⟩,
    ⟨(some 7), .call 54 [(.t 5), (.t 6)], none⟩,
    ⟨(some 4), .op (.mov (.t 7)), none⟩])
  .ret)), [.tmp 4]⟩


end Go.Idl
end

section
/- What nodes must be, by the reference: texts, kinds. -/
namespace Go.Idl
set_option linter.unusedVariables false
set_option linter.unusedSimpArgs false
set_option maxRecDepth 100000

variable {T : Tbl}

/-- One way of a switch. -/
theorem Wc_case {t t' x : Nat} {a k : Int} {A B : IC} {e : Env} {h : Heap} {d : Option (List Dfr)} {Q : Ex → St → Prop} (hx : e x = .int .i64 k)
    (hA : k = a → Wc T A ⟨upd (upd e t' (.bool true)) t (.bool true), h, d⟩ Q) (hB : k ≠ a → Wc T B ⟨upd (upd e t' (.bool false)) t (.bool false), h, d⟩ Q) :
    Wc T (.seq (.ops [⟨some t', .op (.bin .eql (.t x) (.c (.int .i64 a))), none⟩, ⟨some t, .op (.mov (.t t')), none⟩]) (.cond (.t t) A B)) ⟨e, h, d⟩ Q := by
  refine Wc_seq (Wc_ops (Wo_op (v := .bool (k == a)) (h' := h) (by simp only [iop, ev, hx, binV, binI, if_true, Option.map_some]) (Wo_op (v := .bool (k == a)) (h' := h) (by simp only [iop, ev, dstUpd, upd, if_true]) (Wo_nil ?_))))
  show Wc T _ _ _
  cases hk : (k == a) with
  | true => exact Wc_cond true (by simp only [ev, dstUpd, upd, if_true]) (fun _ => hA (beq_iff_eq.1 hk)) (fun e => by cases e)
  | false => exact Wc_cond false (by simp only [ev, dstUpd, upd, if_true]) (fun e => by cases e) (fun _ => hB (by simpa using hk))

def opsL : List ByteArray := [⟨#[43]⟩, ⟨#[45]⟩, ⟨#[42]⟩, ⟨#[47]⟩, ⟨#[37]⟩, ⟨#[60, 60]⟩, ⟨#[62, 62]⟩, ⟨#[38]⟩, ⟨#[94]⟩, ⟨#[124]⟩, ⟨#[61, 61]⟩, ⟨#[33, 61]⟩, ⟨#[60]⟩, ⟨#[60, 61]⟩]
def opB (s : ByteArray) : Bool := opsL.any fun w => decide (s = w)
theorem opB_of {s : ByteArray} (h : s ∈ opsL) : opB s = true := List.any_eq_true.2 ⟨s, h, decide_eq_true rfl⟩
theorem opB_no {s : ByteArray} (h : ∀ x ∈ opsL, s ≠ x) : opB s = false := by
  cases hb : opB s with
  | false => rfl
  | true =>
    obtain ⟨x, hx, he⟩ := List.any_eq_true.1 hb
    exact absurd (of_decide_eq_true he) (h x hx)

theorem operator_ok (hT : T.fn 37 = some C37) {s : ByteArray} {h : Heap} : Wk T (.fn 37) [.string s] h (fun o h' => Kept h h' ∧ o = .ret (.bool (opB s))) := by
  refine Wk_fn hT (by simp [C37]) ?_
  simp only [C37]
  refine Wc_seq (Wc_ops (Wo_run (fun call => by simp only [List.drop_succ_cons, List.drop_zero, iops_nil, iops_op, iops_grd, iK_some, iG_true, iG_false, gval_bool, beq_self_eq_true, beq_true, beq_false, Bool.not_true, Bool.not_false, iop, ev, upd, dstUpd, binV, binI, unV, ptr, Heap.cell, Heap.write, cellsOf, put, args0, partL, List.getD_cons_zero, List.getD_cons_succ, List.length_cons, List.length_nil, List.set_cons_zero, List.set_cons_succ, List.getElem?_cons_zero, List.getElem?_cons_succ, reduceIte, Nat.reduceEqDiff, Nat.reduceAdd, Nat.reduceMul, Nat.reduceLeDiff, Nat.zero_add, Nat.add_zero, Option.map_some, Int.reduceEq, Int.reduceLT, Int.reduceLE, Bool.false_eq_true, decide_true, decide_false, ge_iff_le, gt_iff_lt, set_get']; rfl) ?_))
  show Wc T _ _ _
  refine Wc_seq (Wc_seq (Wc_ops (Wo_new (v := .slice (some ⟨h.next, 0, none⟩) 14 14) (B := .cells (opsL.flatMap strC) true 1) (by kernel_rfl) fun h1 n1 => (Wo_run (fun call => by simp only [List.drop_succ_cons, List.drop_zero, iops_nil, iops_op, iops_grd, iK_some, iG_true, iG_false, gval_bool, beq_self_eq_true, beq_true, beq_false, Bool.not_true, Bool.not_false, iop, ev, upd, dstUpd, binV, binI, unV, ptr, Heap.cell, Heap.write, cellsOf, put, args0, partL, List.getD_cons_zero, List.getD_cons_succ, List.length_cons, List.length_nil, List.set_cons_zero, List.set_cons_succ, List.getElem?_cons_zero, List.getElem?_cons_succ, reduceIte, Nat.reduceEqDiff, Nat.reduceAdd, Nat.reduceMul, Nat.reduceLeDiff, Nat.zero_add, Nat.add_zero, Option.map_some, Int.reduceEq, Int.reduceLT, Int.reduceLE, Bool.false_eq_true, decide_true, decide_false, ge_iff_le, gt_iff_lt, set_get']; rfl) ?_))))
  show Wc T _ _ _
  have hv : strsAt h1 (.slice (some ⟨h.next, 0, none⟩) 14 14) opsL := ⟨.inr ⟨h.next, 14, rfl, by rw [n1.next]; omega, .inr ⟨true, 1, n1.get⟩⟩, fun _ _ => trivial⟩
  refine Wc_range 14 (fun j e h' d => d = some [] ∧ h' = h1 ∧ ∀ i, i < j → ∀ x, opsL[i]? = some x → s ≠ x) (by decide) (by simp only [upd, dstUpd, reduceIte, Nat.reduceEqDiff]) (by simp only [upd, dstUpd, args0, List.getD_cons_zero, List.getD_cons_succ, reduceIte, Nat.reduceEqDiff, ptr] <;> first | rfl | assumption | (symm; assumption)) (by decide) (by decide) ⟨rfl, rfl, fun i hi => by omega⟩ ?_ ?_
  · rintro j e h' d hj ⟨rfl, hh, hne⟩ hfr h7 h6
    rw [hh]
    obtain ⟨x, hx⟩ : ∃ x, opsL[j]? = some x := ⟨_, List.getElem?_eq_getElem (by rw [show opsL.length = 14 from rfl]; exact hj)⟩
    obtain ⟨b, c, o, z, hvb, hb, hg, hcell⟩ := strsAt.load hv hx
    have e5 : e 5 = .slice (some ⟨h.next, 0, none⟩) 14 14 := (by rw [hfr 5 (by decide)]; try simp only [upd, dstUpd, args0, List.getD_cons_zero, List.getD_cons_succ, reduceIte, Nat.reduceEqDiff] <;> first | rfl | assumption | (symm; assumption))
    have e0 : e 0 = .string s := (by rw [hfr 0 (by decide)]; try simp only [upd, dstUpd, args0, List.getD_cons_zero, List.getD_cons_succ, reduceIte, Nat.reduceEqDiff] <;> first | rfl | assumption | (symm; assumption))
    cases hvb
    refine Wc_seq (Wc_ops (Wo_run (fun call => by simp only [List.drop_succ_cons, List.drop_zero, iops_nil, iops_op, iops_grd, iK_some, iG_true, iG_false, gval_bool, beq_self_eq_true, beq_true, beq_false, Bool.not_true, Bool.not_false, iop, ev, upd, dstUpd, binV, binI, unV, ptr, Heap.cell, Heap.write, cellsOf, put, args0, partL, List.getD_cons_zero, List.getD_cons_succ, List.length_cons, List.length_nil, List.set_cons_zero, List.set_cons_succ, List.getElem?_cons_zero, List.getElem?_cons_succ, reduceIte, Nat.reduceEqDiff, Nat.reduceAdd, Nat.reduceMul, Nat.reduceLeDiff, Nat.zero_add, Nat.add_zero, Option.map_some, Int.reduceEq, Int.reduceLT, Int.reduceLE, Bool.false_eq_true, decide_true, decide_false, ge_iff_le, gt_iff_lt, set_get', h7, e5, idx_ok hj, hg, hcell]; rfl) ?_))
    show Wc T _ _ _
    refine Wc_seq (Wc_ops (Wo_run (fun call => by simp only [List.drop_succ_cons, List.drop_zero, iops_nil, iops_op, iops_grd, iK_some, iG_true, iG_false, gval_bool, beq_self_eq_true, beq_true, beq_false, Bool.not_true, Bool.not_false, iop, ev, upd, dstUpd, binV, binI, unV, ptr, Heap.cell, Heap.write, cellsOf, put, args0, partL, List.getD_cons_zero, List.getD_cons_succ, List.length_cons, List.length_nil, List.set_cons_zero, List.set_cons_succ, List.getElem?_cons_zero, List.getElem?_cons_succ, reduceIte, Nat.reduceEqDiff, Nat.reduceAdd, Nat.reduceMul, Nat.reduceLeDiff, Nat.zero_add, Nat.add_zero, Option.map_some, Int.reduceEq, Int.reduceLT, Int.reduceLE, Bool.false_eq_true, decide_true, decide_false, ge_iff_le, gt_iff_lt, set_get', e0]; rfl) ?_))
    show Wc T _ _ _
    refine Wc_cond (decide (s = x)) (by simp only [upd, dstUpd, args0, List.getD_cons_zero, List.getD_cons_succ, reduceIte, Nat.reduceEqDiff, ptr] <;> first | rfl | assumption | (symm; assumption)) (fun hd => ?_) (fun hd => Wc_skip ?_)
    · have hsx : s = x := by simpa using hd
      refine Wc_seq (Wc_ops (Wo_run (fun call => by simp only [List.drop_succ_cons, List.drop_zero, iops_nil, iops_op, iops_grd, iK_some, iG_true, iG_false, gval_bool, beq_self_eq_true, beq_true, beq_false, Bool.not_true, Bool.not_false, iop, ev, upd, dstUpd, binV, binI, unV, ptr, Heap.cell, Heap.write, cellsOf, put, args0, partL, List.getD_cons_zero, List.getD_cons_succ, List.length_cons, List.length_nil, List.set_cons_zero, List.set_cons_succ, List.getElem?_cons_zero, List.getElem?_cons_succ, reduceIte, Nat.reduceEqDiff, Nat.reduceAdd, Nat.reduceMul, Nat.reduceLeDiff, Nat.zero_add, Nat.add_zero, Option.map_some, Int.reduceEq, Int.reduceLT, Int.reduceLE, Bool.false_eq_true, decide_true, decide_false, ge_iff_le, gt_iff_lt, set_get']; rfl) ?_))
      exact Wc_ret ⟨.inr rfl, rfl, [.bool true], by simp only [resAll, resV, upd, dstUpd, reduceIte, Nat.reduceEqDiff], n1.kept, by rw [opB_of (by rw [hsx]; exact List.mem_of_getElem? hx)]; rfl⟩
    · refine ⟨rfl, rfl, fun i hi y hy => ?_⟩
      rcases Nat.lt_or_eq_of_le (Nat.le_of_lt_succ hi) with h1 | h1
      · exact hne i h1 y hy
      · subst h1; rw [hx] at hy; cases hy; simpa using hd
  · rintro e h' d ⟨rfl, rfl, hne⟩ hfr h7
    show Wc T _ _ _
    refine Wc_seq (Wc_ops (Wo_run (fun call => by simp only [List.drop_succ_cons, List.drop_zero, iops_nil, iops_op, iops_grd, iK_some, iG_true, iG_false, gval_bool, beq_self_eq_true, beq_true, beq_false, Bool.not_true, Bool.not_false, iop, ev, upd, dstUpd, binV, binI, unV, ptr, Heap.cell, Heap.write, cellsOf, put, args0, partL, List.getD_cons_zero, List.getD_cons_succ, List.length_cons, List.length_nil, List.set_cons_zero, List.set_cons_succ, List.getElem?_cons_zero, List.getElem?_cons_succ, reduceIte, Nat.reduceEqDiff, Nat.reduceAdd, Nat.reduceMul, Nat.reduceLeDiff, Nat.zero_add, Nat.add_zero, Option.map_some, Int.reduceEq, Int.reduceLT, Int.reduceLE, Bool.false_eq_true, decide_true, decide_false, ge_iff_le, gt_iff_lt, set_get']; rfl) ?_))
    refine Wc_ret ⟨.inr rfl, rfl, [.bool false], by simp only [resAll, resV, upd, dstUpd, reduceIte, Nat.reduceEqDiff], n1.kept, ?_⟩
    have : opB s = false := opB_no fun x hm => by
      obtain ⟨i, hi⟩ := List.getElem?_of_mem hm
      exact hne i (List.getElem?_eq_some_iff.1 hi).1 x hi
    rw [this]; rfl

/-! Rows of numbers, as they read. -/
structure intsR (h : Heap) (v : Value) (l : List Int) : Prop where
  len : ∃ a c, v = .slice a l.length c
  at' : ∀ (j : Nat) (k : Int), l[j]? = some k → ∃ b o c cs w z, v = .slice (some ⟨b, o, none⟩) l.length c ∧ b < h.next ∧ h.get b = some (.cells cs w z) ∧ cs[o + j * 1]? = some (.int .i64 k)
theorem intsR.keep {h h' : Heap} (hk : Kept h h') {v : Value} {l : List Int} (hh : intsR h v l) : intsR h' v l := ⟨hh.len, fun j k hj => by
  obtain ⟨b, o, c, cs, w, z, h1, h2, h3, h4⟩ := hh.at' j k hj
  exact ⟨b, o, c, cs, w, z, h1, Nat.lt_of_lt_of_le h2 hk.next, by rw [hk.get b h2]; exact h3, h4⟩⟩
theorem intsAt.r {h : Heap} {v : Value} {l : List Int} (hh : intsAt h v l) : intsR h v l := ⟨hh.len, fun j k hj => by
  obtain ⟨b, c, h1, h2, ⟨o, z, h3⟩, h4⟩ := hh.load hj
  exact ⟨b, 0, c, _, o, z, h1, h2, h3, h4⟩⟩

theorem all_ok (hT : T.fn 38 = some C38) {v : Value} {l : List Int} {k : Int} {h : Heap} (hv : intsR h v l) (hl : l.length < 9223372036854775807) : Wk T (.fn 38) [v, .int .i64 k] h (fun o h' => h' = h ∧ o = .ret (.bool (l.all fun x => x == k))) := by
  obtain ⟨va, vc, hvl⟩ := hv.len
  refine Wk_fn hT (by simp [C38]) ?_
  simp only [C38]
  refine Wc_seq (Wc_ops (Wo_run (fun call => by simp only [List.drop_succ_cons, List.drop_zero, iops_nil, iops_op, iops_grd, iK_some, iG_true, iG_false, gval_bool, beq_self_eq_true, beq_true, beq_false, Bool.not_true, Bool.not_false, iop, ev, upd, dstUpd, binV, binI, unV, ptr, Heap.cell, Heap.write, cellsOf, put, args0, partL, List.getD_cons_zero, List.getD_cons_succ, List.length_cons, List.length_nil, List.set_cons_zero, List.set_cons_succ, List.getElem?_cons_zero, List.getElem?_cons_succ, reduceIte, Nat.reduceEqDiff, Nat.reduceAdd, Nat.reduceMul, Nat.reduceLeDiff, Nat.zero_add, Nat.add_zero, Option.map_some, Int.reduceEq, Int.reduceLT, Int.reduceLE, Bool.false_eq_true, decide_true, decide_false, ge_iff_le, gt_iff_lt, set_get']; rfl) ?_))
  show Wc T _ _ _
  refine Wc_seq (Wc_seq (Wc_ops (Wo_run (fun call => by simp only [List.drop_succ_cons, List.drop_zero, iops_nil, iops_op, iops_grd, iK_some, iG_true, iG_false, gval_bool, beq_self_eq_true, beq_true, beq_false, Bool.not_true, Bool.not_false, iop, ev, upd, dstUpd, binV, binI, unV, ptr, Heap.cell, Heap.write, cellsOf, put, args0, partL, List.getD_cons_zero, List.getD_cons_succ, List.length_cons, List.length_nil, List.set_cons_zero, List.set_cons_succ, List.getElem?_cons_zero, List.getElem?_cons_succ, reduceIte, Nat.reduceEqDiff, Nat.reduceAdd, Nat.reduceMul, Nat.reduceLeDiff, Nat.zero_add, Nat.add_zero, Option.map_some, Int.reduceEq, Int.reduceLT, Int.reduceLE, Bool.false_eq_true, decide_true, decide_false, ge_iff_le, gt_iff_lt, set_get', hvl]; rfl) ?_)))
  show Wc T _ _ _
  refine Wc_range l.length (fun j e h' d => d = some [] ∧ h' = h ∧ ∀ i, i < j → ∀ x, l[i]? = some x → x = k) (by decide) (by simp only [upd, dstUpd, args0, List.getD_cons_zero, List.getD_cons_succ, reduceIte, Nat.reduceEqDiff, ptr] <;> first | rfl | assumption | (symm; assumption)) (by simp only [upd, dstUpd, args0, List.getD_cons_zero, List.getD_cons_succ, reduceIte, Nat.reduceEqDiff, ptr] <;> first | rfl | assumption | (symm; assumption)) hl (by decide) ⟨rfl, rfl, fun i hi => by omega⟩ ?_ ?_
  · rintro j e h' d hj ⟨rfl, hh, hok⟩ hfr h9 h8
    rw [hh]
    obtain ⟨x, hx⟩ : ∃ x, l[j]? = some x := ⟨_, List.getElem?_eq_getElem hj⟩
    obtain ⟨b, o, c, cs, w, z, hvb, hb, hg, hcell⟩ := hv.at' j x hx
    have e7 : e 7 = v := (by rw [hfr 7 (by decide)]; try simp only [upd, dstUpd, args0, List.getD_cons_zero, List.getD_cons_succ, reduceIte, Nat.reduceEqDiff] <;> first | rfl | assumption | (symm; assumption))
    have e1 : e 1 = .int .i64 k := (by rw [hfr 1 (by decide)]; try simp only [upd, dstUpd, args0, List.getD_cons_zero, List.getD_cons_succ, reduceIte, Nat.reduceEqDiff] <;> first | rfl | assumption | (symm; assumption))
    refine Wc_seq (Wc_ops (Wo_run (fun call => by simp only [List.drop_succ_cons, List.drop_zero, iops_nil, iops_op, iops_grd, iK_some, iG_true, iG_false, gval_bool, beq_self_eq_true, beq_true, beq_false, Bool.not_true, Bool.not_false, iop, ev, upd, dstUpd, binV, binI, unV, ptr, Heap.cell, Heap.write, cellsOf, put, args0, partL, List.getD_cons_zero, List.getD_cons_succ, List.length_cons, List.length_nil, List.set_cons_zero, List.set_cons_succ, List.getElem?_cons_zero, List.getElem?_cons_succ, reduceIte, Nat.reduceEqDiff, Nat.reduceAdd, Nat.reduceMul, Nat.reduceLeDiff, Nat.zero_add, Nat.add_zero, Option.map_some, Int.reduceEq, Int.reduceLT, Int.reduceLE, Bool.false_eq_true, decide_true, decide_false, ge_iff_le, gt_iff_lt, set_get', h9, e7, hvb, idx_ok hj, hg, hcell]; rfl) ?_))
    show Wc T _ _ _
    refine Wc_seq (Wc_ops (Wo_run (fun call => by simp only [List.drop_succ_cons, List.drop_zero, iops_nil, iops_op, iops_grd, iK_some, iG_true, iG_false, gval_bool, beq_self_eq_true, beq_true, beq_false, Bool.not_true, Bool.not_false, iop, ev, upd, dstUpd, binV, binI, unV, ptr, Heap.cell, Heap.write, cellsOf, put, args0, partL, List.getD_cons_zero, List.getD_cons_succ, List.length_cons, List.length_nil, List.set_cons_zero, List.set_cons_succ, List.getElem?_cons_zero, List.getElem?_cons_succ, reduceIte, Nat.reduceEqDiff, Nat.reduceAdd, Nat.reduceMul, Nat.reduceLeDiff, Nat.zero_add, Nat.add_zero, Option.map_some, Int.reduceEq, Int.reduceLT, Int.reduceLE, Bool.false_eq_true, decide_true, decide_false, ge_iff_le, gt_iff_lt, set_get', e1, bne]; rfl) ?_))
    show Wc T _ _ _
    cases hxk : (x == k)
    · refine Wc_cond true (by simp only [upd, dstUpd, args0, List.getD_cons_zero, List.getD_cons_succ, reduceIte, Nat.reduceEqDiff, ptr, hxk] <;> first | rfl | assumption | (symm; assumption)) (fun _ => ?_) (fun e => by cases e)
      refine Wc_seq (Wc_ops (Wo_run (fun call => by simp only [List.drop_succ_cons, List.drop_zero, iops_nil, iops_op, iops_grd, iK_some, iG_true, iG_false, gval_bool, beq_self_eq_true, beq_true, beq_false, Bool.not_true, Bool.not_false, iop, ev, upd, dstUpd, binV, binI, unV, ptr, Heap.cell, Heap.write, cellsOf, put, args0, partL, List.getD_cons_zero, List.getD_cons_succ, List.length_cons, List.length_nil, List.set_cons_zero, List.set_cons_succ, List.getElem?_cons_zero, List.getElem?_cons_succ, reduceIte, Nat.reduceEqDiff, Nat.reduceAdd, Nat.reduceMul, Nat.reduceLeDiff, Nat.zero_add, Nat.add_zero, Option.map_some, Int.reduceEq, Int.reduceLT, Int.reduceLE, Bool.false_eq_true, decide_true, decide_false, ge_iff_le, gt_iff_lt, set_get']; rfl) ?_))
      refine Wc_ret ⟨.inr rfl, rfl, [.bool false], by simp only [resAll, resV, upd, dstUpd, reduceIte, Nat.reduceEqDiff], rfl, ?_⟩
      have : (l.all fun x => x == k) = false := by
        cases ha : (l.all fun x => x == k) with
        | false => rfl
        | true => have := List.all_eq_true.1 ha x (List.mem_of_getElem? hx); rw [hxk] at this; cases this
      rw [this]; rfl
    · refine Wc_cond false (by simp only [upd, dstUpd, args0, List.getD_cons_zero, List.getD_cons_succ, reduceIte, Nat.reduceEqDiff, ptr, hxk] <;> first | rfl | assumption | (symm; assumption)) (fun e => by cases e) (fun _ => Wc_skip ?_)
      refine ⟨rfl, rfl, fun i hi y hy => ?_⟩
      rcases Nat.lt_or_eq_of_le (Nat.le_of_lt_succ hi) with h1 | h1
      · exact hok i h1 y hy
      · subst h1; rw [hx] at hy; cases hy; exact beq_iff_eq.1 hxk
  · rintro e h' d ⟨rfl, rfl, hok⟩ hfr h9
    show Wc T _ _ _
    refine Wc_seq (Wc_ops (Wo_run (fun call => by simp only [List.drop_succ_cons, List.drop_zero, iops_nil, iops_op, iops_grd, iK_some, iG_true, iG_false, gval_bool, beq_self_eq_true, beq_true, beq_false, Bool.not_true, Bool.not_false, iop, ev, upd, dstUpd, binV, binI, unV, ptr, Heap.cell, Heap.write, cellsOf, put, args0, partL, List.getD_cons_zero, List.getD_cons_succ, List.length_cons, List.length_nil, List.set_cons_zero, List.set_cons_succ, List.getElem?_cons_zero, List.getElem?_cons_succ, reduceIte, Nat.reduceEqDiff, Nat.reduceAdd, Nat.reduceMul, Nat.reduceLeDiff, Nat.zero_add, Nat.add_zero, Option.map_some, Int.reduceEq, Int.reduceLT, Int.reduceLE, Bool.false_eq_true, decide_true, decide_false, ge_iff_le, gt_iff_lt, set_get']; rfl) ?_))
    refine Wc_ret ⟨.inr rfl, rfl, [.bool true], by simp only [resAll, resV, upd, dstUpd, reduceIte, Nat.reduceEqDiff], rfl, ?_⟩
    have : (l.all fun x => x == k) = true := List.all_eq_true.2 fun x hx => by
      obtain ⟨i, hi⟩ := List.getElem?_of_mem hx
      exact beq_iff_eq.2 (hok i (List.getElem?_eq_some_iff.1 hi).1 x hi)
    rw [this]; rfl

def stmtB (k : Int) : Bool := decide (5 ≤ k ∧ k ≤ 13)
def exprB (k : Int) : Bool := decide (15 ≤ k ∧ k ≤ 30)
theorem stmtB_ok (hT : T.fn 39 = some C39) {k : Int} {h : Heap} : Wk T (.fn 39) [.int .i64 k] h (fun o h' => h' = h ∧ o = .ret (.bool (stmtB k))) := by
  refine Wk_fn hT (by simp [C39]) ?_
  simp only [C39]
  refine Wc_seq (Wc_ops (Wo_run (fun call => by simp only [List.drop_succ_cons, List.drop_zero, iops_nil, iops_op, iops_grd, iK_some, iG_true, iG_false, gval_bool, beq_self_eq_true, beq_true, beq_false, Bool.not_true, Bool.not_false, iop, ev, upd, dstUpd, binV, binI, unV, ptr, Heap.cell, Heap.write, cellsOf, put, args0, partL, List.getD_cons_zero, List.getD_cons_succ, List.length_cons, List.length_nil, List.set_cons_zero, List.set_cons_succ, List.getElem?_cons_zero, List.getElem?_cons_succ, reduceIte, Nat.reduceEqDiff, Nat.reduceAdd, Nat.reduceMul, Nat.reduceLeDiff, Nat.zero_add, Nat.add_zero, Option.map_some, Int.reduceEq, Int.reduceLT, Int.reduceLE, Bool.false_eq_true, decide_true, decide_false, ge_iff_le, gt_iff_lt, set_get']; rfl) ?_))
  show Wc T _ _ _
  by_cases a1 : (5 : Int) ≤ k <;> by_cases a2 : k ≤ 13 <;> first
    | (exfalso; omega)
    | (refine Wc_seq (Wc_ops (Wo_run (fun call => by simp only [List.drop_succ_cons, List.drop_zero, iops_nil, iops_op, iops_grd, iK_some, iG_true, iG_false, gval_bool, beq_self_eq_true, beq_true, beq_false, Bool.not_true, Bool.not_false, iop, ev, upd, dstUpd, binV, binI, unV, ptr, Heap.cell, Heap.write, cellsOf, put, args0, partL, List.getD_cons_zero, List.getD_cons_succ, List.length_cons, List.length_nil, List.set_cons_zero, List.set_cons_succ, List.getElem?_cons_zero, List.getElem?_cons_succ, reduceIte, Nat.reduceEqDiff, Nat.reduceAdd, Nat.reduceMul, Nat.reduceLeDiff, Nat.zero_add, Nat.add_zero, Option.map_some, Int.reduceEq, Int.reduceLT, Int.reduceLE, Bool.false_eq_true, decide_true, decide_false, ge_iff_le, gt_iff_lt, set_get', a1, a2]; rfl) ?_)); exact Wc_ret ⟨.inr rfl, rfl, [.bool (stmtB k)], by simp [resAll, resV, upd, dstUpd, stmtB, a1, a2], rfl, rfl⟩)
theorem exprB_ok (hT : T.fn 41 = some C41) {k : Int} {h : Heap} : Wk T (.fn 41) [.int .i64 k] h (fun o h' => h' = h ∧ o = .ret (.bool (exprB k))) := by
  refine Wk_fn hT (by simp [C41]) ?_
  simp only [C41]
  refine Wc_seq (Wc_ops (Wo_run (fun call => by simp only [List.drop_succ_cons, List.drop_zero, iops_nil, iops_op, iops_grd, iK_some, iG_true, iG_false, gval_bool, beq_self_eq_true, beq_true, beq_false, Bool.not_true, Bool.not_false, iop, ev, upd, dstUpd, binV, binI, unV, ptr, Heap.cell, Heap.write, cellsOf, put, args0, partL, List.getD_cons_zero, List.getD_cons_succ, List.length_cons, List.length_nil, List.set_cons_zero, List.set_cons_succ, List.getElem?_cons_zero, List.getElem?_cons_succ, reduceIte, Nat.reduceEqDiff, Nat.reduceAdd, Nat.reduceMul, Nat.reduceLeDiff, Nat.zero_add, Nat.add_zero, Option.map_some, Int.reduceEq, Int.reduceLT, Int.reduceLE, Bool.false_eq_true, decide_true, decide_false, ge_iff_le, gt_iff_lt, set_get']; rfl) ?_))
  show Wc T _ _ _
  by_cases a1 : (15 : Int) ≤ k <;> by_cases a2 : k ≤ 30 <;> first
    | (exfalso; omega)
    | (refine Wc_seq (Wc_ops (Wo_run (fun call => by simp only [List.drop_succ_cons, List.drop_zero, iops_nil, iops_op, iops_grd, iK_some, iG_true, iG_false, gval_bool, beq_self_eq_true, beq_true, beq_false, Bool.not_true, Bool.not_false, iop, ev, upd, dstUpd, binV, binI, unV, ptr, Heap.cell, Heap.write, cellsOf, put, args0, partL, List.getD_cons_zero, List.getD_cons_succ, List.length_cons, List.length_nil, List.set_cons_zero, List.set_cons_succ, List.getElem?_cons_zero, List.getElem?_cons_succ, reduceIte, Nat.reduceEqDiff, Nat.reduceAdd, Nat.reduceMul, Nat.reduceLeDiff, Nat.zero_add, Nat.add_zero, Option.map_some, Int.reduceEq, Int.reduceLT, Int.reduceLE, Bool.false_eq_true, decide_true, decide_false, ge_iff_le, gt_iff_lt, set_get', a1, a2]; rfl) ?_)); exact Wc_ret ⟨.inr rfl, rfl, [.bool (exprB k)], by simp [resAll, resV, upd, dstUpd, exprB, a1, a2], rfl, rfl⟩)

def exprsB (l : List Int) (n : Int) : Bool := l.all exprB && ((l.length : Int) == n)
theorem exprs_ok (hT : T.fn 40 = some C40) (he : T.fn 41 = some C41) {v : Value} {l : List Int} {n : Int} {h : Heap} (hv : intsR h v l) (hl : l.length < 9223372036854775807) : Wk T (.fn 40) [v, .int .i64 n] h (fun o h' => h' = h ∧ o = .ret (.bool (exprsB l n))) := by
  obtain ⟨va, vc, hvl⟩ := hv.len
  refine Wk_fn hT (by simp [C40]) ?_
  simp only [C40]
  refine Wc_seq (Wc_ops (Wo_run (fun call => by simp only [List.drop_succ_cons, List.drop_zero, iops_nil, iops_op, iops_grd, iK_some, iG_true, iG_false, gval_bool, beq_self_eq_true, beq_true, beq_false, Bool.not_true, Bool.not_false, iop, ev, upd, dstUpd, binV, binI, unV, ptr, Heap.cell, Heap.write, cellsOf, put, args0, partL, List.getD_cons_zero, List.getD_cons_succ, List.length_cons, List.length_nil, List.set_cons_zero, List.set_cons_succ, List.getElem?_cons_zero, List.getElem?_cons_succ, reduceIte, Nat.reduceEqDiff, Nat.reduceAdd, Nat.reduceMul, Nat.reduceLeDiff, Nat.zero_add, Nat.add_zero, Option.map_some, Int.reduceEq, Int.reduceLT, Int.reduceLE, Bool.false_eq_true, decide_true, decide_false, ge_iff_le, gt_iff_lt, set_get']; rfl) ?_))
  show Wc T _ _ _
  refine Wc_seq (Wc_seq (Wc_ops (Wo_run (fun call => by simp only [List.drop_succ_cons, List.drop_zero, iops_nil, iops_op, iops_grd, iK_some, iG_true, iG_false, gval_bool, beq_self_eq_true, beq_true, beq_false, Bool.not_true, Bool.not_false, iop, ev, upd, dstUpd, binV, binI, unV, ptr, Heap.cell, Heap.write, cellsOf, put, args0, partL, List.getD_cons_zero, List.getD_cons_succ, List.length_cons, List.length_nil, List.set_cons_zero, List.set_cons_succ, List.getElem?_cons_zero, List.getElem?_cons_succ, reduceIte, Nat.reduceEqDiff, Nat.reduceAdd, Nat.reduceMul, Nat.reduceLeDiff, Nat.zero_add, Nat.add_zero, Option.map_some, Int.reduceEq, Int.reduceLT, Int.reduceLE, Bool.false_eq_true, decide_true, decide_false, ge_iff_le, gt_iff_lt, set_get', hvl]; rfl) ?_)))
  show Wc T _ _ _
  refine Wc_range l.length (fun j e h' d => d = some [] ∧ h' = h ∧ ∀ i, i < j → ∀ x, l[i]? = some x → exprB x = true) (by decide) (by simp only [upd, dstUpd, args0, List.getD_cons_zero, List.getD_cons_succ, reduceIte, Nat.reduceEqDiff, ptr] <;> first | rfl | assumption | (symm; assumption)) (by simp only [upd, dstUpd, args0, List.getD_cons_zero, List.getD_cons_succ, reduceIte, Nat.reduceEqDiff, ptr] <;> first | rfl | assumption | (symm; assumption)) hl (by decide) ⟨rfl, rfl, fun i hi => by omega⟩ ?_ ?_
  · rintro j e h' d hj ⟨rfl, hh, hok⟩ hfr h9 h8
    rw [hh]
    obtain ⟨x, hx⟩ : ∃ x, l[j]? = some x := ⟨_, List.getElem?_eq_getElem hj⟩
    obtain ⟨b, o, c, cs, w, z, hvb, hb, hg, hcell⟩ := hv.at' j x hx
    have e7 : e 7 = v := (by rw [hfr 7 (by decide)]; try simp only [upd, dstUpd, args0, List.getD_cons_zero, List.getD_cons_succ, reduceIte, Nat.reduceEqDiff] <;> first | rfl | assumption | (symm; assumption))
    refine Wc_seq (Wc_ops (Wo_run (fun call => by simp only [List.drop_succ_cons, List.drop_zero, iops_nil, iops_op, iops_grd, iK_some, iG_true, iG_false, gval_bool, beq_self_eq_true, beq_true, beq_false, Bool.not_true, Bool.not_false, iop, ev, upd, dstUpd, binV, binI, unV, ptr, Heap.cell, Heap.write, cellsOf, put, args0, partL, List.getD_cons_zero, List.getD_cons_succ, List.length_cons, List.length_nil, List.set_cons_zero, List.set_cons_succ, List.getElem?_cons_zero, List.getElem?_cons_succ, reduceIte, Nat.reduceEqDiff, Nat.reduceAdd, Nat.reduceMul, Nat.reduceLeDiff, Nat.zero_add, Nat.add_zero, Option.map_some, Int.reduceEq, Int.reduceLT, Int.reduceLE, Bool.false_eq_true, decide_true, decide_false, ge_iff_le, gt_iff_lt, set_get', h9, e7, hvb, idx_ok hj, hg, hcell]; rfl) ?_))
    show Wc T _ _ _
    refine Wc_seq (Wc_ops (Wo_pre 1 (fun call => by simp only [List.take_succ_cons, List.take_zero, List.drop_succ_cons, List.drop_zero, iops_nil, iops_op, iops_grd, iK_some, iG_true, iG_false, gval_bool, beq_self_eq_true, beq_true, beq_false, Bool.not_true, Bool.not_false, iop, ev, upd, dstUpd, binV, binI, unV, ptr, Heap.cell, Heap.write, cellsOf, put, args0, partL, List.getD_cons_zero, List.getD_cons_succ, List.length_cons, List.length_nil, List.set_cons_zero, List.set_cons_succ, List.getElem?_cons_zero, List.getElem?_cons_succ, reduceIte, Nat.reduceEqDiff, Nat.reduceAdd, Nat.reduceMul, Nat.reduceLeDiff, Nat.zero_add, Nat.add_zero, Option.map_some, Int.reduceEq, Int.reduceLT, Int.reduceLE, Bool.false_eq_true, decide_true, decide_false, ge_iff_le, gt_iff_lt, set_get']; rfl) ?_))
    refine Wo_call (Wk_pure (exprB_ok he) ?_)
    refine (Wo_run (fun call => by simp only [List.drop_succ_cons, List.drop_zero, iops_nil, iops_op, iops_grd, iK_some, iG_true, iG_false, gval_bool, beq_self_eq_true, beq_true, beq_false, Bool.not_true, Bool.not_false, iop, ev, upd, dstUpd, binV, binI, unV, ptr, Heap.cell, Heap.write, cellsOf, put, args0, partL, List.getD_cons_zero, List.getD_cons_succ, List.length_cons, List.length_nil, List.set_cons_zero, List.set_cons_succ, List.getElem?_cons_zero, List.getElem?_cons_succ, reduceIte, Nat.reduceEqDiff, Nat.reduceAdd, Nat.reduceMul, Nat.reduceLeDiff, Nat.zero_add, Nat.add_zero, Option.map_some, Int.reduceEq, Int.reduceLT, Int.reduceLE, Bool.false_eq_true, decide_true, decide_false, ge_iff_le, gt_iff_lt, set_get']; rfl) ?_)
    show Wc T _ _ _
    cases hxk : exprB x
    · refine Wc_cond true (by simp only [upd, dstUpd, args0, List.getD_cons_zero, List.getD_cons_succ, reduceIte, Nat.reduceEqDiff, ptr, hxk] <;> first | rfl | assumption | (symm; assumption)) (fun _ => ?_) (fun e => by cases e)
      refine Wc_seq (Wc_ops (Wo_run (fun call => by simp only [List.drop_succ_cons, List.drop_zero, iops_nil, iops_op, iops_grd, iK_some, iG_true, iG_false, gval_bool, beq_self_eq_true, beq_true, beq_false, Bool.not_true, Bool.not_false, iop, ev, upd, dstUpd, binV, binI, unV, ptr, Heap.cell, Heap.write, cellsOf, put, args0, partL, List.getD_cons_zero, List.getD_cons_succ, List.length_cons, List.length_nil, List.set_cons_zero, List.set_cons_succ, List.getElem?_cons_zero, List.getElem?_cons_succ, reduceIte, Nat.reduceEqDiff, Nat.reduceAdd, Nat.reduceMul, Nat.reduceLeDiff, Nat.zero_add, Nat.add_zero, Option.map_some, Int.reduceEq, Int.reduceLT, Int.reduceLE, Bool.false_eq_true, decide_true, decide_false, ge_iff_le, gt_iff_lt, set_get']; rfl) ?_))
      refine Wc_ret ⟨.inr rfl, rfl, [.bool false], by simp only [resAll, resV, upd, dstUpd, reduceIte, Nat.reduceEqDiff], rfl, ?_⟩
      have : l.all exprB = false := by
        cases ha : l.all exprB with
        | false => rfl
        | true => have := List.all_eq_true.1 ha x (List.mem_of_getElem? hx); rw [hxk] at this; cases this
      rw [exprsB, this]; rfl
    · refine Wc_cond false (by simp only [upd, dstUpd, args0, List.getD_cons_zero, List.getD_cons_succ, reduceIte, Nat.reduceEqDiff, ptr, hxk] <;> first | rfl | assumption | (symm; assumption)) (fun e => by cases e) (fun _ => Wc_skip ?_)
      refine ⟨rfl, rfl, fun i hi y hy => ?_⟩
      rcases Nat.lt_or_eq_of_le (Nat.le_of_lt_succ hi) with h1 | h1
      · exact hok i h1 y hy
      · subst h1; rw [hx] at hy; cases hy; exact hxk
  · rintro e h' d ⟨rfl, rfl, hok⟩ hfr h9
    have e0 : e 0 = v := (by rw [hfr 0 (by decide)]; try simp only [upd, dstUpd, args0, List.getD_cons_zero, List.getD_cons_succ, reduceIte, Nat.reduceEqDiff] <;> first | rfl | assumption | (symm; assumption))
    have e1 : e 1 = .int .i64 n := (by rw [hfr 1 (by decide)]; try simp only [upd, dstUpd, args0, List.getD_cons_zero, List.getD_cons_succ, reduceIte, Nat.reduceEqDiff] <;> first | rfl | assumption | (symm; assumption))
    show Wc T _ _ _
    refine Wc_seq (Wc_ops (Wo_run (fun call => by simp only [List.drop_succ_cons, List.drop_zero, iops_nil, iops_op, iops_grd, iK_some, iG_true, iG_false, gval_bool, beq_self_eq_true, beq_true, beq_false, Bool.not_true, Bool.not_false, iop, ev, upd, dstUpd, binV, binI, unV, ptr, Heap.cell, Heap.write, cellsOf, put, args0, partL, List.getD_cons_zero, List.getD_cons_succ, List.length_cons, List.length_nil, List.set_cons_zero, List.set_cons_succ, List.getElem?_cons_zero, List.getElem?_cons_succ, reduceIte, Nat.reduceEqDiff, Nat.reduceAdd, Nat.reduceMul, Nat.reduceLeDiff, Nat.zero_add, Nat.add_zero, Option.map_some, Int.reduceEq, Int.reduceLT, Int.reduceLE, Bool.false_eq_true, decide_true, decide_false, ge_iff_le, gt_iff_lt, set_get', e0, e1, hvl]; rfl) ?_))
    refine Wc_ret ⟨.inr rfl, rfl, [.bool ((l.length : Int) == n)], by simp only [resAll, resV, upd, dstUpd, reduceIte, Nat.reduceEqDiff], rfl, ?_⟩
    have : l.all exprB = true := List.all_eq_true.2 fun x hx => by
      obtain ⟨i, hi⟩ := List.getElem?_of_mem hx
      exact hok i (List.getElem?_eq_some_iff.1 hi).1 x hi
    rw [exprsB, this]; rfl

end Go.Idl
end
