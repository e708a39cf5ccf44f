/- Texts of the proof. -/
import Derived.Test.YtbngfhkhdilfdaaGreatDoorI3f
import Derived.Test.YtbngfhkhdilfdaaGreatDoorN7
import Derived.Test.YtbngfhkhdilfdaaGreatDoorI29
import Derived.KernelRfl
set_option linter.unusedVariables false
set_option linter.unusedSimpArgs false
set_option maxRecDepth 100000
section
namespace Go.Idl
def C13L0 : IC := (.seq (.ops [⟨some 48, .op (.bin .lss (.t 47) (.t 46)), none⟩]) (.seq (.cond (.t 48) .skip (.exit 2)) (.seq (.block 3 (.seq (.ops [⟨some 49, .op (.iaddr (.sl 1) (.t 45) (.t 47)), none⟩, ⟨some 50, .op (.load none (.t 49)), none⟩, ⟨some 11, .op (.mov (.t 50)), none⟩]) (.seq (.seq (.ops [⟨some 51, .op (.mov (.t 11)), none⟩, ⟨some 52, .op (.bin .lss (.t 51) (.c (.int .i64 0))), none⟩, ⟨some 53, .op (.mov (.t 52)), none⟩, ⟨some 54, .op (.mov (.t 11)), (some (53, false))⟩, ⟨some 55, .op (.mov (.t 6)), (some (53, false))⟩, ⟨some 56, .op (.bin .geq (.t 54) (.t 55)), (some (53, false))⟩, ⟨some 57, .op (.pick (.t 53) (.c (.bool true)) (.t 56)), none⟩, ⟨some 58, .op (.mov (.t 57)), none⟩, ⟨some 59, .op (.mov (.t 5)), (some (58, false))⟩, ⟨some 60, .op (.mov (.t 11)), (some (58, false))⟩, ⟨some 61, .op (.iaddr (.sl 1) (.t 59) (.t 60)), (some (58, false))⟩, ⟨some 62, .op (.load none (.t 61)), (some (58, false))⟩, ⟨some 63, .op (.bin .gtr (.t 62) (.c (.int .i64 0))), (some (58, false))⟩, ⟨some 64, .op (.pick (.t 58) (.c (.bool true)) (.t 63)), none⟩]) (.cond (.t 64) (.seq (.ops [⟨some 65, .op (.mov (.t 6)), none⟩, ⟨some 2, .op (.mov (.t 65)), none⟩, ⟨some 3, .op (.mov (.c (.int .i64 50))), none⟩]) .ret) .skip)) (.ops [⟨some 66, .op (.mov (.t 5)), none⟩, ⟨some 67, .op (.mov (.t 11)), none⟩, ⟨some 68, .op (.mov (.t 6)), none⟩, ⟨some 69, .op (.bin .add (.t 68) (.c (.int .i64 1))), none⟩, ⟨some 70, .op (.iaddr (.sl 1) (.t 66) (.t 67)), none⟩, ⟨none, .op (.store 1 (.t 70) (.t 69)), none⟩])))) (.ops [⟨some 71, .op (.bin .add (.t 47) (.c (.int .i64 1))), none⟩, ⟨some 47, .op (.mov (.t 71)), none⟩])))) def C13L1 : IC := (.seq (.ops [⟨some 25, .op (.bin .lss (.t 24) (.t 23)), none⟩]) (.seq (.cond (.t 25) .skip (.exit 0)) (.seq (.block 1 (.seq (.ops [⟨some 26, .op (.mov (.t 24)), none⟩, ⟨some 27, .op (.iaddr (.sl 4) (.t 22) (.t 24)), none⟩, ⟨some 28, .op (.load (some 4) (.t 27)), none⟩, ⟨some 7, .op (.alloc [.int .i64 0, .string ⟨#[]⟩, (.slice none 0 0), .int .i64 0]), none⟩, ⟨some 6, .op (.mov (.t 26)), none⟩, ⟨none, .op (.store 4 (.t 7) (.t 28)), none⟩]) (.seq (.ops [⟨some 30, .op (.mov (.t 4)), none⟩, ⟨some 31, .op (.faddr 0 (.t 7)), none⟩, ⟨some 32, .op (.load none (.t 31)), none⟩, ⟨some 33, .op (.lookup (.one (.int .i64)) (.string ⟨#[]⟩) true (.t 30) (.t 32)), none⟩, ⟨some 29, .op (.mov (.t 33)), none⟩, ⟨some 34, .op (.extract (.t 29) 0), none⟩, ⟨some 35, .op (.extract (.t 29) 1), none⟩, ⟨some 8, .op (.mov (.t 34)), none⟩, ⟨some 9, .op (.mov (.t 35)), none⟩]) (.seq (.seq (.ops [⟨some 36, .op (.mov (.t 9)), none⟩, ⟨some 37, .op (.un .not (.t 36)), none⟩, ⟨some 38, .op (.mov (.t 37)), none⟩, ⟨some 39, .op (.faddr 3 (.t 7)), (some (38, false))⟩, ⟨some 40, .op (.load none (.t 39)), (some (38, false))⟩, ⟨some 41, .op (.bin .lss (.t 40) (.c (.int .i64 0))), (some (38, false))⟩, ⟨some 42, .op (.pick (.t 38) (.c (.bool true)) (.t 41)), none⟩]) (.cond (.t 42) (.seq (.ops [⟨some 43, .op (.mov (.t 6)), none⟩, ⟨some 2, .op (.mov (.t 43)), none⟩, ⟨some 3, .op (.mov (.c (.int .i64 50))), none⟩]) .ret) .skip)) (.seq (.seq (.ops [⟨some 44, .op (.faddr 2 (.t 7)), none⟩, ⟨some 45, .op (.load none (.t 44)), none⟩, ⟨some 46, .op (.len .sl (.t 45)), none⟩, ⟨some 47, .op (.mov (.c (.int .i64 0))), none⟩]) (.block 2 (.loop C13L0))) (.block 4 (.seq (.ops [⟨some 73, .op (.load (some 4) (.t 7)), none⟩, ⟨some 74, .call 23 [.t 73], none⟩, ⟨some 75, .op (.un .not (.t 74)), none⟩, ⟨some 72, .op (.mov (.t 75)), none⟩]) (.cond (.t 72) (.seq (.ops [⟨some 76, .op (.mov (.t 6)), none⟩, ⟨some 2, .op (.mov (.t 76)), none⟩, ⟨some 3, .op (.mov (.c (.int .i64 52))), none⟩]) .ret) (.seq (.ops [⟨some 78, .op (.mov (.t 0)), none⟩, ⟨some 79, .op (.faddr 2 (.t 7)), none⟩, ⟨some 80, .op (.load none (.t 79)), none⟩, ⟨some 81, .op (.mov (.t 8)), none⟩, ⟨some 82, .call 24 [.t 78, .t 80, .t 81], none⟩, ⟨some 83, .op (.un .not (.t 82)), none⟩, ⟨some 77, .op (.mov (.t 83)), none⟩]) (.cond (.t 77) (.seq (.ops [⟨some 84, .op (.mov (.t 6)), none⟩, ⟨some 2, .op (.mov (.t 84)), none⟩, ⟨some 3, .op (.mov (.c (.int .i64 53))), none⟩]) .ret) .skip)))))))))) (.ops [⟨some 85, .op (.bin .add (.t 24) (.c (.int .i64 1))), none⟩, ⟨some 24, .op (.mov (.t 85)), none⟩])))) def C13L2 : IC := (.seq (.ops [⟨some 92, .op (.bin .lss (.t 91) (.t 90)), none⟩]) (.seq (.cond (.t 92) .skip (.exit 5)) (.seq (.block 6 (.seq (.ops [⟨some 93, .op (.mov (.t 91)), none⟩, ⟨some 94, .op (.iaddr (.sl 4) (.t 89) (.t 91)), none⟩, ⟨some 95, .op (.load (some 4) (.t 94)), none⟩, ⟨some 14, .op (.alloc [.int .i64 0, .string ⟨#[]⟩, (.slice none 0 0), .int .i64 0]), none⟩, ⟨some 13, .op (.mov (.t 93)), none⟩, ⟨none, .op (.store 4 (.t 14) (.t 95)), none⟩]) (.seq (.ops [⟨some 96, .op (.faddr 0 (.t 14)), none⟩, ⟨some 97, .op (.load none (.t 96)), none⟩, ⟨some 98, .op (.bin .eql (.t 97) (.c (.int .i64 1))), none⟩, ⟨some 99, .op (.mov (.t 13)), none⟩, ⟨some 100, .op (.mov (.t 12)), none⟩, ⟨some 101, .op (.bin .eql (.t 99) (.t 100)), none⟩, ⟨some 102, .op (.beq true (.t 98) (.t 101)), none⟩, ⟨some 103, .op (.mov (.t 102)), none⟩, ⟨some 104, .op (.mov (.t 5)), (some (103, false))⟩, ⟨some 105, .op (.mov (.t 13)), (some (103, false))⟩, ⟨some 106, .op (.iaddr (.sl 1) (.t 104) (.t 105)), (some (103, false))⟩, ⟨some 107, .op (.load none (.t 106)), (some (103, false))⟩, ⟨some 108, .op (.bin .eql (.t 107) (.c (.int .i64 0))), (some (103, false))⟩, ⟨some 109, .op (.mov (.t 13)), (some (103, false))⟩, ⟨some 110, .op (.mov (.t 12)), (some (103, false))⟩, ⟨some 111, .op (.bin .eql (.t 109) (.t 110)), (some (103, false))⟩, ⟨some 112, .op (.beq true (.t 108) (.t 111)), (some (103, false))⟩, ⟨some 113, .op (.pick (.t 103) (.c (.bool true)) (.t 112)), none⟩]) (.cond (.t 113) (.seq (.ops [⟨some 114, .op (.mov (.t 12)), none⟩, ⟨some 2, .op (.mov (.t 114)), none⟩, ⟨some 3, .op (.mov (.c (.int .i64 50))), none⟩]) .ret) .skip)))) (.ops [⟨some 115, .op (.bin .add (.t 91) (.c (.int .i64 1))), none⟩, ⟨some 91, .op (.mov (.t 115)), none⟩])))) def C13 : IFn := ⟨123, (.seq (.ops [⟨some 2, .op (.mov (.c (.int .i64 0))), none⟩, ⟨some 3, .op (.mov (.c (.int .i64 0))), none⟩]) (.seq (.seq (.ops [⟨some 15, .op (.mov (.t 0)), none⟩, ⟨some 16, .op (.len .sl (.t 15)), none⟩, ⟨some 17, .op (.bin .gtr (.t 16) (.c (.int .i64 50000))), none⟩]) (.cond (.t 17) (.seq (.ops [⟨some 2, .op (.mov (.c (.int .i64 0))), none⟩, ⟨some 3, .op (.mov (.c (.int .i64 2))), none⟩]) .ret) .skip)) (.seq (.ops [⟨some 18, .call 22 [], none⟩, ⟨some 4, .op (.mov (.t 18)), none⟩]) (.seq (.ops [⟨some 19, .op (.mov (.t 0)), none⟩, ⟨some 20, .op (.len .sl (.t 19)), none⟩, ⟨some 21, .op (.mkslice 1 8 [.int .i64 0] (.t 20) (.t 20)), none⟩, ⟨some 5, .op (.mov (.t 21)), none⟩]) (.seq (.seq (.ops [⟨some 22, .op (.mov (.t 0)), none⟩, ⟨some 23, .op (.len .sl (.t 22)), none⟩, ⟨some 24, .op (.mov (.c (.int .i64 0))), none⟩]) (.block 0 (.loop C13L1))) (.seq (.ops [⟨some 86, .op (.mov (.t 0)), none⟩, ⟨some 87, .op (.len .sl (.t 86)), none⟩, ⟨some 88, .op (.bin .sub (.t 87) (.c (.int .i64 1))), none⟩, ⟨some 12, .op (.mov (.t 88)), none⟩]) (.seq (.seq (.ops [⟨some 89, .op (.mov (.t 0)), none⟩, ⟨some 90, .op (.len .sl (.t 89)), none⟩, ⟨some 91, .op (.mov (.c (.int .i64 0))), none⟩]) (.block 5 (.loop C13L2))) (.seq (.block 7 (.seq (.ops [⟨some 117, .op (.mov (.t 12)), none⟩, ⟨some 118, .op (.bin .lss (.t 117) (.c (.int .i64 0))), none⟩, ⟨some 116, .op (.mov (.t 118)), none⟩]) (.cond (.t 116) (.seq (.ops [⟨some 2, .op (.mov (.c (.int .i64 0))), none⟩, ⟨some 3, .op (.mov (.c (.int .i64 50))), none⟩]) .ret) (.seq (.ops [⟨some 120, .op (.mov (.t 0)), none⟩, ⟨some 121, .call 21 [.t 120], none⟩, ⟨some 122, .op (.bin .gtr (.t 121) (.c (.int .i64 200))), none⟩, ⟨some 119, .op (.mov (.t 122)), none⟩]) (.cond (.t 119) (.seq (.ops [⟨some 2, .op (.mov (.c (.int .i64 0))), none⟩, ⟨some 3, .op (.mov (.c (.int .i64 51))), none⟩]) .ret) .skip))))) (.seq (.ops [⟨some 2, .op (.mov (.c (.int .i64 0))), none⟩, ⟨some 3, .op (.mov (.c (.int .i64 0))), none⟩]) .ret))))))))), [.tmp 2, .tmp 3]⟩
def C29 : IFn := ⟨4, (.seq (.ops [⟨some 1, .op (.box (.t 0)), none⟩, ⟨some 2, .op (.mov (.c .nilFunc)), none⟩]) (.seq (.ops [⟨some 3, .op (.fn 48 [] [.t 1]), none⟩, ⟨some 2, .op (.mov (.t 3)), none⟩]) .ret)), [.tmp 2]⟩
def C22 : IFn := ⟨3, (.seq (.ops [⟨some 0, .op (.mov (.c (.map none))), none⟩]) (.seq (.ops [⟨some 1, .op (.mkmap (.one (.int .i64))), none⟩, ⟨none, .op (.mapset (.one (.int .i64)) (.t 1) (.c (.int .i64 1)) (.c (.string ⟨#[42, 100]⟩))), none⟩, ⟨none, .op (.mapset (.one (.int .i64)) (.t 1) (.c (.int .i64 2)) (.c (.string ⟨#[42, 110]⟩))), none⟩, ⟨none, .op (.mapset (.one (.int .i64)) (.t 1) (.c (.int .i64 3)) (.c (.string ⟨#[42, 110, 98]⟩))), none⟩, ⟨none, .op (.mapset (.one (.int .i64)) (.t 1) (.c (.int .i64 4)) (.c (.string ⟨#[42, 115]⟩))), none⟩, ⟨none, .op (.mapset (.one (.int .i64)) (.t 1) (.c (.int .i64 5)) (.c (.string ⟨#[101]⟩))), none⟩, ⟨none, .op (.mapset (.one (.int .i64)) (.t 1) (.c (.int .i64 6)) (.c (.string ⟨#[112, 101]⟩))), none⟩, ⟨none, .op (.mapset (.one (.int .i64)) (.t 1) (.c (.int .i64 7)) (.c (.string ⟨#[101, 98, 111]⟩))), none⟩, ⟨none, .op (.mapset (.one (.int .i64)) (.t 1) (.c (.int .i64 8)) (.c (.string ⟨#[101, 98]⟩))), none⟩, ⟨none, .op (.mapset (.one (.int .i64)) (.t 1) (.c (.int .i64 9)) (.c (.string ⟨#[101]⟩))), none⟩, ⟨none, .op (.mapset (.one (.int .i64)) (.t 1) (.c (.int .i64 10)) (.c (.string ⟨#[101]⟩))), none⟩, ⟨none, .op (.mapset (.one (.int .i64)) (.t 1) (.c (.int .i64 11)) (.c (.string ⟨#[101]⟩))), none⟩, ⟨none, .op (.mapset (.one (.int .i64)) (.t 1) (.c (.int .i64 12)) (.c (.string ⟨#[99]⟩))), none⟩, ⟨none, .op (.mapset (.one (.int .i64)) (.t 1) (.c (.int .i64 13)) (.c (.string ⟨#[42, 110]⟩))), none⟩, ⟨none, .op (.mapset (.one (.int .i64)) (.t 1) (.c (.int .i64 14)) (.c (.string ⟨#[]⟩))), none⟩, ⟨none, .op (.mapset (.one (.int .i64)) (.t 1) (.c (.int .i64 15)) (.c (.string ⟨#[]⟩))), none⟩, ⟨none, .op (.mapset (.one (.int .i64)) (.t 1) (.c (.int .i64 16)) (.c (.string ⟨#[]⟩))), none⟩, ⟨none, .op (.mapset (.one (.int .i64)) (.t 1) (.c (.int .i64 17)) (.c (.string ⟨#[]⟩))), none⟩, ⟨none, .op (.mapset (.one (.int .i64)) (.t 1) (.c (.int .i64 18)) (.c (.string ⟨#[101]⟩))), none⟩, ⟨none, .op (.mapset (.one (.int .i64)) (.t 1) (.c (.int .i64 19)) (.c (.string ⟨#[101, 101]⟩))), none⟩, ⟨none, .op (.mapset (.one (.int .i64)) (.t 1) (.c (.int .i64 20)) (.c (.string ⟨#[101]⟩))), none⟩, ⟨none, .op (.mapset (.one (.int .i64)) (.t 1) (.c (.int .i64 21)) (.c (.string ⟨#[101, 101]⟩))), none⟩, ⟨none, .op (.mapset (.one (.int .i64)) (.t 1) (.c (.int .i64 22)) (.c (.string ⟨#[42, 101]⟩))), none⟩, ⟨none, .op (.mapset (.one (.int .i64)) (.t 1) (.c (.int .i64 23)) (.c (.string ⟨#[]⟩))), none⟩, ⟨none, .op (.mapset (.one (.int .i64)) (.t 1) (.c (.int .i64 24)) (.c (.string ⟨#[101]⟩))), none⟩, ⟨none, .op (.mapset (.one (.int .i64)) (.t 1) (.c (.int .i64 25)) (.c (.string ⟨#[101]⟩))), none⟩, ⟨none, .op (.mapset (.one (.int .i64)) (.t 1) (.c (.int .i64 26)) (.c (.string ⟨#[]⟩))), none⟩, ⟨none, .op (.mapset (.one (.int .i64)) (.t 1) (.c (.int .i64 27)) (.c (.string ⟨#[101]⟩))), none⟩, ⟨none, .op (.mapset (.one (.int .i64)) (.t 1) (.c (.int .i64 28)) (.c (.string ⟨#[]⟩))), none⟩, ⟨none, .op (.mapset (.one (.int .i64)) (.t 1) (.c (.int .i64 29)) (.c (.string ⟨#[101]⟩))), none⟩, ⟨none, .op (.mapset (.one (.int .i64)) (.t 1) (.c (.int .i64 30)) (.c (.string ⟨#[]⟩))), none⟩, ⟨some 2, .op (.mov (.t 1)), none⟩, ⟨some 0, .op (.mov (.t 2)), none⟩]) .ret)), [.tmp 0]⟩
def C23 : IFn := ⟨70, (.seq (.ops [⟨some 1, .op (.box (.t 0)), none⟩, ⟨some 2, .op (.mov (.c (.bool false))), none⟩]) (.seq (.seq (.ops [⟨some 5, .op (.faddr 0 (.t 1)), none⟩, ⟨some 6, .op (.load none (.t 5)), none⟩]) (.block 0 (.seq (.seq (.ops [⟨some 8, .op (.bin .eql (.t 6) (.c (.int .i64 2))), none⟩, ⟨some 7, .op (.mov (.t 8)), none⟩]) (.cond (.t 7) .skip (.seq (.ops [⟨some 9, .op (.bin .eql (.t 6) (.c (.int .i64 3))), none⟩, ⟨some 7, .op (.mov (.t 9)), none⟩]) (.cond (.t 7) .skip (.seq (.ops [⟨some 10, .op (.bin .eql (.t 6) (.c (.int .i64 5))), none⟩, ⟨some 7, .op (.mov (.t 10)), none⟩]) (.cond (.t 7) .skip (.seq (.ops [⟨some 11, .op (.bin .eql (.t 6) (.c (.int .i64 17))), none⟩, ⟨some 7, .op (.mov (.t 11)), none⟩]) (.cond (.t 7) .skip (.seq (.ops [⟨some 12, .op (.bin .eql (.t 6) (.c (.int .i64 20))), none⟩, ⟨some 7, .op (.mov (.t 12)), none⟩]) (.cond (.t 7) .skip (.seq (.ops [⟨some 13, .op (.bin .eql (.t 6) (.c (.int .i64 22))), none⟩, ⟨some 7, .op (.mov (.t 13)), none⟩]) (.cond (.t 7) .skip (.ops [⟨some 14, .op (.bin .eql (.t 6) (.c (.int .i64 23))), none⟩, ⟨some 7, .op (.mov (.t 14)), none⟩]))))))))))))) (.cond (.t 7) (.seq (.ops [⟨some 15, .op (.faddr 1 (.t 1)), none⟩, ⟨some 16, .op (.load none (.t 15)), none⟩, ⟨some 17, .call 38 [.t 16], none⟩, ⟨some 2, .op (.mov (.t 17)), none⟩]) .ret) (.seq (.ops [⟨some 19, .op (.bin .eql (.t 6) (.c (.int .i64 15))), none⟩, ⟨some 18, .op (.mov (.t 19)), none⟩]) (.cond (.t 18) (.seq (.ops [⟨some 21, .op (.faddr 1 (.t 1)), none⟩, ⟨some 22, .op (.load none (.t 21)), none⟩, ⟨some 23, .call 39 [.t 22], none⟩, ⟨some 20, .op (.mov (.t 23)), none⟩, ⟨some 24, .op (.extract (.t 20) 0), none⟩, ⟨some 25, .op (.extract (.t 20) 1), none⟩, ⟨some 3, .op (.mov (.t 24)), none⟩, ⟨some 4, .op (.mov (.t 25)), none⟩]) (.seq (.ops [⟨some 26, .op (.mov (.t 4)), none⟩, ⟨some 27, .op (.mov (.t 26)), none⟩, ⟨some 28, .op (.faddr 1 (.t 1)), (some (27, true))⟩, ⟨some 29, .op (.load none (.t 28)), (some (27, true))⟩, ⟨some 30, .op (.bin .eql (.t 29) (.c (.string ⟨#[48]⟩))), (some (27, true))⟩, ⟨some 31, .op (.mov (.t 30)), (some (27, true))⟩, ⟨some 32, .op (.faddr 1 (.t 1)), (some (31, false))⟩, ⟨some 33, .op (.load none (.t 32)), (some (31, false))⟩, ⟨some 34, .op (.sidx (.t 33) (.c (.int .i64 0))), (some (31, false))⟩, ⟨some 35, .op (.bin .geq (.t 34) (.c (.int .u8 49))), (some (31, false))⟩, ⟨some 36, .op (.mov (.t 35)), (some (31, false))⟩, ⟨some 37, .op (.faddr 1 (.t 1)), (some (36, true))⟩, ⟨some 38, .op (.load none (.t 37)), (some (36, true))⟩, ⟨some 39, .op (.sidx (.t 38) (.c (.int .i64 0))), (some (36, true))⟩, ⟨some 40, .op (.bin .leq (.t 39) (.c (.int .u8 57))), (some (36, true))⟩, ⟨some 41, .op (.pick (.t 36) (.t 40) (.c (.bool false))), (some (31, false))⟩, ⟨some 42, .op (.pick (.t 31) (.c (.bool true)) (.t 41)), (some (27, true))⟩, ⟨some 43, .op (.pick (.t 27) (.t 42) (.c (.bool false))), none⟩, ⟨some 2, .op (.mov (.t 43)), none⟩]) .ret)) (.seq (.ops [⟨some 45, .op (.bin .eql (.t 6) (.c (.int .i64 18))), none⟩, ⟨some 44, .op (.mov (.t 45)), none⟩]) (.cond (.t 44) (.seq (.ops [⟨some 46, .op (.faddr 1 (.t 1)), none⟩, ⟨some 47, .op (.load none (.t 46)), none⟩, ⟨some 48, .op (.len .str (.t 47)), none⟩, ⟨some 49, .op (.bin .eql (.t 48) (.c (.int .i64 1))), none⟩, ⟨some 50, .op (.mov (.t 49)), none⟩, ⟨some 51, .op (.faddr 1 (.t 1)), (some (50, true))⟩, ⟨some 52, .op (.load none (.t 51)), (some (50, true))⟩, ⟨some 53, .call 40 [.c (.string ⟨#[45, 33, 126]⟩), .t 52], (some (50, true))⟩, ⟨some 54, .op (.pick (.t 50) (.t 53) (.c (.bool false))), none⟩, ⟨some 2, .op (.mov (.t 54)), none⟩]) .ret) (.seq (.ops [⟨some 56, .op (.bin .eql (.t 6) (.c (.int .i64 19))), none⟩, ⟨some 55, .op (.mov (.t 56)), none⟩]) (.cond (.t 55) (.seq (.ops [⟨some 57, .op (.faddr 1 (.t 1)), none⟩, ⟨some 58, .op (.load none (.t 57)), none⟩, ⟨some 59, .op (.bin .neq (.t 58) (.c (.string ⟨#[]⟩))), none⟩, ⟨some 60, .op (.mov (.t 59)), none⟩, ⟨some 61, .op (.faddr 1 (.t 1)), (some (60, true))⟩, ⟨some 62, .op (.load none (.t 61)), (some (60, true))⟩, ⟨some 63, .op (.bin .add (.c (.string ⟨#[32]⟩)) (.t 62)), (some (60, true))⟩, ⟨some 64, .op (.bin .add (.t 63) (.c (.string ⟨#[32]⟩))), (some (60, true))⟩, ⟨some 65, .call 40 [.c (.string ⟨#[32, 43, 32, 45, 32, 42, 32, 47, 32, 37, 32, 60, 60, 32, 62, 62, 32, 38, 32, 94, 32, 124, 32, 61, 61, 32, 33, 61, 32, 60, 32, 60, 61, 32]⟩), .t 64], (some (60, true))⟩, ⟨some 66, .op (.pick (.t 60) (.t 65) (.c (.bool false))), none⟩, ⟨some 2, .op (.mov (.t 66)), none⟩]) .ret) .skip)))))))))) (.seq (.ops [⟨some 67, .op (.faddr 1 (.t 1)), none⟩, ⟨some 68, .op (.load none (.t 67)), none⟩, ⟨some 69, .op (.bin .eql (.t 68) (.c (.string ⟨#[]⟩))), none⟩, ⟨some 2, .op (.mov (.t 69)), none⟩]) .ret))), [.tmp 2]⟩
def C24L0 : IC := (.seq (.seq (.ops [⟨some 32, .op (.mov (.t 11)), none⟩, ⟨some 33, .op (.bin .gtr (.t 32) (.c (.int .i64 0))), none⟩]) (.cond (.t 33) .skip (.exit 2))) (.seq (.block 3 (.seq (.seq (.ops [⟨some 36, .op (.mov (.t 7)), none⟩, ⟨some 37, .op (.mov (.t 1)), none⟩, ⟨some 38, .op (.len .sl (.t 37)), none⟩, ⟨some 39, .op (.bin .geq (.t 36) (.t 38)), none⟩, ⟨some 40, .op (.mov (.t 39)), none⟩, ⟨some 41, .op (.mov (.t 0)), (some (40, false))⟩, ⟨some 42, .op (.mov (.t 1)), (some (40, false))⟩, ⟨some 43, .op (.mov (.t 7)), (some (40, false))⟩, ⟨some 44, .op (.iaddr (.sl 1) (.t 42) (.t 43)), (some (40, false))⟩, ⟨some 45, .op (.load none (.t 44)), (some (40, false))⟩, ⟨some 46, .op (.iaddr (.sl 4) (.t 41) (.t 45)), (some (40, false))⟩, ⟨some 47, .op (.faddr 0 (.t 46)), (some (40, false))⟩, ⟨some 48, .op (.load none (.t 47)), (some (40, false))⟩, ⟨some 49, .call 43 [.t 48], (some (40, false))⟩, ⟨some 50, .op (.mov (.t 10)), (some (40, false))⟩, ⟨some 51, .call 42 [.t 49, .t 50], (some (40, false))⟩, ⟨some 52, .op (.un .not (.t 51)), (some (40, false))⟩, ⟨some 53, .op (.pick (.t 40) (.c (.bool true)) (.t 52)), none⟩]) (.cond (.t 53) (.seq (.ops [⟨some 6, .op (.mov (.c (.bool false))), none⟩]) .ret) .skip)) (.ops [⟨some 54, .op (.mov (.t 7)), none⟩, ⟨some 55, .op (.bin .add (.t 54) (.c (.int .i64 1))), none⟩, ⟨some 7, .op (.mov (.t 55)), none⟩]))) (.ops [⟨some 34, .op (.mov (.t 11)), none⟩, ⟨some 35, .op (.bin .sub (.t 34) (.c (.int .i64 1))), none⟩, ⟨some 11, .op (.mov (.t 35)), none⟩]))) def C24L1 : IC := (.seq (.ops [⟨some 14, .op (.next (.t 13)), none⟩, ⟨some 15, .op (.extract (.t 14) 0), none⟩]) (.seq (.cond (.t 15) .skip (.exit 0)) (.block 1 (.seq (.ops [⟨some 16, .op (.extract (.t 14) 2), none⟩, ⟨some 10, .op (.mov (.t 16)), none⟩]) (.seq (.seq (.ops [⟨some 17, .op (.mov (.t 10)), none⟩, ⟨some 18, .op (.bin .eql (.t 17) (.c (.int .i32 42))), none⟩]) (.cond (.t 18) (.seq (.ops [⟨some 8, .op (.mov (.c (.bool true))), none⟩]) (.exit 1)) .skip)) (.seq (.ops [⟨some 11, .op (.mov (.c (.int .i64 1))), none⟩]) (.seq (.seq (.ops [⟨some 19, .op (.mov (.t 8)), none⟩]) (.cond (.t 19) (.seq (.ops [⟨some 20, .op (.mov (.t 1)), none⟩, ⟨some 21, .op (.len .sl (.t 20)), none⟩, ⟨some 22, .op (.mov (.t 7)), none⟩, ⟨some 23, .op (.bin .sub (.t 21) (.t 22)), none⟩, ⟨some 24, .op (.mov (.t 2)), none⟩, ⟨some 25, .op (.len .str (.t 24)), none⟩, ⟨some 26, .op (.mov (.t 2)), none⟩, ⟨some 27, .op (.mov (.t 10)), none⟩, ⟨some 28, .call 41 [.t 26, .t 27], none⟩, ⟨some 29, .op (.bin .sub (.t 25) (.t 28)), none⟩, ⟨some 30, .op (.bin .sub (.t 29) (.c (.int .i64 1))), none⟩, ⟨some 31, .op (.bin .sub (.t 23) (.t 30)), none⟩, ⟨some 11, .op (.mov (.t 31)), none⟩]) (.ops [⟨some 8, .op (.mov (.c (.bool false))), none⟩])) .skip)) (.block 2 (.loop C24L0))))))))) def C24 : IFn := ⟨60, (.seq (.ops [⟨some 6, .op (.mov (.c (.bool false))), none⟩]) (.seq (.ops [⟨some 7, .op (.mov (.c (.int .i64 0))), none⟩, ⟨some 8, .op (.mov (.c (.bool false))), none⟩]) (.seq (.seq (.ops [⟨some 12, .op (.mov (.t 2)), none⟩, ⟨some 13, .op (.range (.t 12)), none⟩]) (.block 0 (.loop C24L1))) (.seq (.ops [⟨some 56, .op (.mov (.t 7)), none⟩, ⟨some 57, .op (.mov (.t 1)), none⟩, ⟨some 58, .op (.len .sl (.t 57)), none⟩, ⟨some 59, .op (.bin .eql (.t 56) (.t 58)), none⟩, ⟨some 6, .op (.mov (.t 59)), none⟩]) .ret)))), [.tmp 6]⟩
def C48L0 : IC := (.seq (.ops [⟨some 51, .op (.bin .lss (.t 50) (.t 49)), none⟩]) (.seq (.cond (.t 51) .skip (.exit 2)) (.seq (.block 3 (.seq (.ops [⟨some 52, .op (.mov (.t 50)), none⟩, ⟨some 8, .op (.mov (.t 52)), none⟩]) (.draw [⟨some 53, .op (.mov (.t 5)), none⟩, ⟨some 54, .op (.mov (.t 7)), none⟩, ⟨some 55, .op (.mov (.t 7)), none⟩, ⟨some 56, .op (.len .sl (.t 55)), none⟩, ⟨some 57, .op (.bin .sub (.t 56) (.c (.int .i64 1))), none⟩, ⟨some 58, .op (.mov (.t 8)), none⟩, ⟨some 59, .op (.bin .sub (.t 57) (.t 58)), none⟩, ⟨some 60, .op (.iaddr (.sl 1) (.t 54) (.t 59)), none⟩, ⟨some 61, .op (.load none (.t 60)), none⟩, ⟨some 62, .op (.faddr 1 (.t 6)), none⟩, ⟨some 63, .op (.load none (.t 62)), none⟩, ⟨some 64, .op (.bin .add (.t 63) (.c (.int .i64 1))), none⟩, ⟨some 65, .op (.build [.int .i64 0, .int .i64 0] [(0, 1, .t 61), (1, 1, .t 64)]), none⟩, ⟨some 66, .op (.lit 2 1 [.int .i64 0, .int .i64 0] [(0, 2, .t 65)]), none⟩, ⟨some 67, .op (.append 2 16 (.t 53) (.t 66)), none⟩, ⟨some 5, .op (.mov (.t 67)), none⟩] [[], [], [], [2], [3, 2], [], [5, 4, 3, 2], [6, 5, 4, 3, 2, 1], [7, 6, 5, 4, 3, 2, 1], [], [9], [10, 9], [11, 10, 9, 8, 7, 6, 5, 4, 3, 2, 1], [12, 11, 10, 9, 8, 7, 6, 5, 4, 3, 2, 1], [13, 12, 11, 10, 9, 8, 7, 6, 5, 4, 3, 2, 1, 0], [14, 13, 12, 11, 10, 9, 8, 7, 6, 5, 4, 3, 2, 1, 0]]))) (.ops [⟨some 68, .op (.bin .add (.t 50) (.c (.int .i64 1))), none⟩, ⟨some 50, .op (.mov (.t 68)), none⟩])))) def C48L1 : IC := (.seq (.seq (.ops [⟨some 21, .op (.mov (.t 5)), none⟩, ⟨some 22, .op (.len .sl (.t 21)), none⟩, ⟨some 23, .op (.bin .gtr (.t 22) (.c (.int .i64 0))), none⟩]) (.cond (.t 23) .skip (.exit 0))) (.block 1 (.seq (.ops [⟨some 24, .op (.mov (.t 5)), none⟩, ⟨some 25, .op (.mov (.t 5)), none⟩, ⟨some 26, .op (.len .sl (.t 25)), none⟩, ⟨some 27, .op (.bin .sub (.t 26) (.c (.int .i64 1))), none⟩, ⟨some 28, .op (.iaddr (.sl 2) (.t 24) (.t 27)), none⟩, ⟨some 29, .op (.load (some 2) (.t 28)), none⟩, ⟨some 6, .op (.alloc [.int .i64 0, .int .i64 0]), none⟩, ⟨none, .op (.store 2 (.t 6) (.t 29)), none⟩]) (.seq (.ops [⟨some 30, .op (.mov (.t 5)), none⟩, ⟨some 31, .op (.mov (.t 5)), none⟩, ⟨some 32, .op (.len .sl (.t 31)), none⟩, ⟨some 33, .op (.bin .sub (.t 32) (.c (.int .i64 1))), none⟩, ⟨some 34, .op (.sub (.sl 2) (.t 30) none (some (.t 33)) none), none⟩, ⟨some 5, .op (.mov (.t 34)), none⟩]) (.seq (.seq (.ops [⟨some 35, .op (.mov (.t 0)), none⟩, ⟨some 36, .op (.faddr 0 (.t 6)), none⟩, ⟨some 37, .op (.load none (.t 36)), none⟩, ⟨some 38, .op (.faddr 1 (.t 6)), none⟩, ⟨some 39, .op (.load none (.t 38)), none⟩, ⟨some 40, .callv (.t 35) [.t 37, .t 39], none⟩, ⟨some 41, .op (.un .not (.t 40)), none⟩]) (.cond (.t 41) .ret .skip)) (.seq (.ops [⟨some 42, .op (.load none (.t 1)), none⟩, ⟨some 43, .op (.faddr 0 (.t 6)), none⟩, ⟨some 44, .op (.load none (.t 43)), none⟩, ⟨some 45, .op (.iaddr (.sl 4) (.t 42) (.t 44)), none⟩, ⟨some 46, .op (.faddr 2 (.t 45)), none⟩, ⟨some 47, .op (.load none (.t 46)), none⟩, ⟨some 7, .op (.mov (.t 47)), none⟩]) (.seq (.ops [⟨some 48, .op (.mov (.t 7)), none⟩, ⟨some 49, .op (.len .sl (.t 48)), none⟩, ⟨some 50, .op (.mov (.c (.int .i64 0))), none⟩]) (.block 2 (.loop C48L0))))))))) def C48 : IFn := ⟨69, (.seq (.seq (.ops [⟨some 10, .op (.load none (.t 1)), none⟩, ⟨some 11, .call 13 [.t 10], none⟩, ⟨some 9, .op (.mov (.t 11)), none⟩, ⟨some 12, .op (.extract (.t 9) 0), none⟩, ⟨some 13, .op (.extract (.t 9) 1), none⟩, ⟨some 3, .op (.mov (.t 12)), none⟩, ⟨some 4, .op (.mov (.t 13)), none⟩]) (.seq (.ops [⟨some 14, .op (.mov (.t 4)), none⟩, ⟨some 15, .op (.bin .neq (.t 14) (.c (.int .i64 0))), none⟩]) (.cond (.t 15) .ret .skip))) (.seq (.ops [⟨some 16, .op (.load none (.t 1)), none⟩, ⟨some 17, .op (.len .sl (.t 16)), none⟩, ⟨some 18, .op (.bin .sub (.t 17) (.c (.int .i64 1))), none⟩, ⟨some 19, .op (.build [.int .i64 0, .int .i64 0] [(0, 1, .t 18), (1, 1, .c (.int .i64 0))]), none⟩, ⟨some 20, .op (.lit 2 1 [.int .i64 0, .int .i64 0] [(0, 2, .t 19)]), none⟩, ⟨some 5, .op (.mov (.t 20)), none⟩]) (.block 0 (.loop C48L1)))), []⟩
def C41L0 : IC := (.seq (.ops [⟨some 9, .op (.next (.t 8)), none⟩, ⟨some 10, .op (.extract (.t 9) 0), none⟩]) (.seq (.cond (.t 10) .skip (.exit 0)) (.block 1 (.seq (.ops [⟨some 11, .op (.extract (.t 9) 1), none⟩, ⟨some 12, .op (.extract (.t 9) 2), none⟩, ⟨some 5, .op (.mov (.t 11)), none⟩, ⟨some 6, .op (.mov (.t 12)), none⟩]) (.seq (.ops [⟨some 13, .op (.mov (.t 6)), none⟩, ⟨some 14, .op (.mov (.t 1)), none⟩, ⟨some 15, .op (.bin .eql (.t 13) (.t 14)), none⟩]) (.cond (.t 15) (.seq (.ops [⟨some 16, .op (.mov (.t 5)), none⟩, ⟨some 4, .op (.mov (.t 16)), none⟩]) .ret) .skip)))))) def C41 : IFn := ⟨17, (.seq (.ops [⟨some 4, .op (.mov (.c (.int .i64 0))), none⟩]) (.seq (.seq (.ops [⟨some 7, .op (.mov (.t 0)), none⟩, ⟨some 8, .op (.range (.t 7)), none⟩]) (.block 0 (.loop C41L0))) (.seq (.ops [⟨some 4, .op (.mov (.c (.int .i64 (-1)))), none⟩]) .ret))), [.tmp 4]⟩
def C42L0 : IC := (.seq (.ops [⟨some 9, .op (.next (.t 8)), none⟩, ⟨some 10, .op (.extract (.t 9) 0), none⟩]) (.seq (.cond (.t 10) .skip (.exit 0)) (.block 1 (.seq (.ops [⟨some 11, .op (.extract (.t 9) 2), none⟩, ⟨some 6, .op (.mov (.t 11)), none⟩]) (.seq (.ops [⟨some 12, .op (.mov (.t 6)), none⟩, ⟨some 13, .op (.mov (.t 1)), none⟩, ⟨some 14, .op (.bin .eql (.t 12) (.t 13)), none⟩]) (.cond (.t 14) (.seq (.ops [⟨some 4, .op (.mov (.c (.bool true))), none⟩]) .ret) .skip)))))) def C42 : IFn := ⟨15, (.seq (.ops [⟨some 4, .op (.mov (.c (.bool false))), none⟩]) (.seq (.seq (.ops [⟨some 7, .op (.mov (.t 0)), none⟩, ⟨some 8, .op (.range (.t 7)), none⟩]) (.block 0 (.loop C42L0))) (.seq (.ops [⟨some 4, .op (.mov (.c (.bool false))), none⟩]) .ret))), [.tmp 4]⟩
def C43 : IFn := ⟨33, (.seq (.ops [⟨some 2, .op (.mov (.c (.string ⟨#[]⟩))), none⟩]) (.seq (.seq (.ops [⟨some 3, .op (.mov (.t 0)), none⟩]) (.block 0 (.seq (.seq (.ops [⟨some 5, .op (.bin .eql (.t 3) (.c (.int .i64 2))), none⟩, ⟨some 4, .op (.mov (.t 5)), none⟩]) (.cond (.t 4) .skip (.ops [⟨some 6, .op (.bin .eql (.t 3) (.c (.int .i64 3))), none⟩, ⟨some 4, .op (.mov (.t 6)), none⟩]))) (.cond (.t 4) (.seq (.ops [⟨some 2, .op (.mov (.c (.string ⟨#[100]⟩))), none⟩]) .ret) (.seq (.ops [⟨some 8, .op (.bin .eql (.t 3) (.c (.int .i64 4))), none⟩, ⟨some 7, .op (.mov (.t 8)), none⟩]) (.cond (.t 7) (.seq (.ops [⟨some 2, .op (.mov (.c (.string ⟨#[98, 111]⟩))), none⟩]) .ret) (.seq (.ops [⟨some 10, .op (.bin .eql (.t 3) (.c (.int .i64 14))), none⟩, ⟨some 9, .op (.mov (.t 10)), none⟩]) (.cond (.t 9) (.seq (.ops [⟨some 2, .op (.mov (.c (.string ⟨#[111]⟩))), none⟩]) .ret) (.seq (.ops [⟨some 12, .op (.bin .eql (.t 3) (.c (.int .i64 17))), none⟩, ⟨some 11, .op (.mov (.t 12)), none⟩]) (.cond (.t 11) (.seq (.ops [⟨some 2, .op (.mov (.c (.string ⟨#[110, 101, 112]⟩))), none⟩]) .ret) (.seq (.seq (.ops [⟨some 14, .op (.bin .eql (.t 3) (.c (.int .i64 20))), none⟩, ⟨some 13, .op (.mov (.t 14)), none⟩]) (.cond (.t 13) .skip (.seq (.ops [⟨some 15, .op (.bin .eql (.t 3) (.c (.int .i64 21))), none⟩, ⟨some 13, .op (.mov (.t 15)), none⟩]) (.cond (.t 13) .skip (.ops [⟨some 16, .op (.bin .eql (.t 3) (.c (.int .i64 30))), none⟩, ⟨some 13, .op (.mov (.t 16)), none⟩]))))) (.cond (.t 13) (.seq (.ops [⟨some 2, .op (.mov (.c (.string ⟨#[101, 112]⟩))), none⟩]) .ret) (.seq (.ops [⟨some 18, .op (.bin .eql (.t 3) (.c (.int .i64 22))), none⟩, ⟨some 17, .op (.mov (.t 18)), none⟩]) (.cond (.t 17) (.seq (.ops [⟨some 2, .op (.mov (.c (.string ⟨#[101, 99]⟩))), none⟩]) .ret) .skip)))))))))))))) (.seq (.block 1 (.seq (.ops [⟨some 20, .op (.mov (.t 0)), none⟩, ⟨some 21, .op (.bin .geq (.t 20) (.c (.int .i64 5))), none⟩, ⟨some 22, .op (.mov (.t 21)), none⟩, ⟨some 23, .op (.mov (.t 0)), (some (22, true))⟩, ⟨some 24, .op (.bin .leq (.t 23) (.c (.int .i64 13))), (some (22, true))⟩, ⟨some 25, .op (.pick (.t 22) (.t 24) (.c (.bool false))), none⟩, ⟨some 19, .op (.mov (.t 25)), none⟩]) (.cond (.t 19) (.seq (.ops [⟨some 2, .op (.mov (.c (.string ⟨#[115]⟩))), none⟩]) .ret) (.seq (.ops [⟨some 27, .op (.mov (.t 0)), none⟩, ⟨some 28, .op (.bin .geq (.t 27) (.c (.int .i64 15))), none⟩, ⟨some 29, .op (.mov (.t 28)), none⟩, ⟨some 30, .op (.mov (.t 0)), (some (29, true))⟩, ⟨some 31, .op (.bin .leq (.t 30) (.c (.int .i64 30))), (some (29, true))⟩, ⟨some 32, .op (.pick (.t 29) (.t 31) (.c (.bool false))), none⟩, ⟨some 26, .op (.mov (.t 32)), none⟩]) (.cond (.t 26) (.seq (.ops [⟨some 2, .op (.mov (.c (.string ⟨#[101]⟩))), none⟩]) .ret) .skip))))) (.seq (.ops [⟨some 2, .op (.mov (.c (.string ⟨#[]⟩))), none⟩]) .ret)))), [.tmp 2]⟩
end Go.Idl
end

section
namespace Go.Idl
variable {T : Tbl}
def opsL : List ByteArray := [⟨#[43]⟩, ⟨#[45]⟩, ⟨#[42]⟩, ⟨#[47]⟩, ⟨#[37]⟩, ⟨#[60, 60]⟩, ⟨#[62, 62]⟩, ⟨#[38]⟩, ⟨#[94]⟩, ⟨#[124]⟩, ⟨#[61, 61]⟩, ⟨#[33, 61]⟩, ⟨#[60]⟩, ⟨#[60, 61]⟩]
def opB (s : ByteArray) : Bool := opsL.any fun w => decide (s = w)
theorem opB_of {s : ByteArray} (h : s ∈ opsL) : opB s = true := List.any_eq_true.2 ⟨s, h, decide_eq_true rfl⟩
structure intsR (h : Heap) (v : Value) (l : List Int) : Prop where
  len : ∃ a c, v = .slice a l.length c
  at' : ∀ (j : Nat) (k : Int), l[j]? = some k → ∃ b o c cs w z, v = .slice (some ⟨b, o, none⟩) l.length c ∧ b < h.next ∧ h.get b = some (.cells cs w z) ∧ cs[o + j * 1]? = some (.int .i64 k)
theorem intsR.keep {h h' : Heap} (hk : Kept h h') {v : Value} {l : List Int} (hh : intsR h v l) : intsR h' v l := ⟨hh.len, fun j k hj => by
  obtain ⟨b, o, c, cs, w, z, h1, h2, h3, h4⟩ := hh.at' j k hj
  exact ⟨b, o, c, cs, w, z, h1, Nat.lt_of_lt_of_le h2 hk.next, by rw [hk.get b h2]; exact h3, h4⟩⟩
theorem intsAt.r {h : Heap} {v : Value} {l : List Int} (hh : intsAt h v l) : intsR h v l := ⟨hh.len, fun j k hj => by
  obtain ⟨b, c, h1, h2, ⟨o, z, h3⟩, h4⟩ := hh.load hj
  exact ⟨b, 0, c, _, o, z, h1, h2, h3, h4⟩⟩
def stmtB (k : Int) : Bool := decide (5 ≤ k ∧ k ≤ 13)
def exprB (k : Int) : Bool := decide (15 ≤ k ∧ k ≤ 30)
def exprsB (l : List Int) (n : Int) : Bool := l.all exprB && ((l.length : Int) == n)
end Go.Idl
end

section
namespace Go.Idl
variable {T : Tbl}
def mem10 (k : Int) : Bool := decide (k = 5 ∨ k = 9 ∨ k = 10 ∨ k = 11 ∨ k = 18 ∨ k = 20 ∨ k = 24 ∨ k = 25 ∨ k = 27 ∨ k = 29)
def mem8 (k : Int) : Bool := decide (k = 14 ∨ k = 15 ∨ k = 16 ∨ k = 17 ∨ k = 23 ∨ k = 26 ∨ k = 28 ∨ k = 30)
def shapeB (kind : Int) (ks : List Int) : Bool :=
  if kind = 1 then ks.all fun k => k == 2 || k == 3
  else if kind = 2 ∨ kind = 13 then ks.all fun k => k == 17
  else if kind = 3 then decide (0 < ks.length) && ((ks.take (ks.length - 1)).all fun k => k == 17) && (ks.getD (ks.length - 1) 0 == 4)
  else if kind = 4 then ks.all stmtB
  else if mem10 kind then exprsB ks 1
  else if kind = 6 then exprsB ks 2 && (ks.getD 0 0 == 17 || ks.getD 0 0 == 20 || ks.getD 0 0 == 21 || ks.getD 0 0 == 30)
  else if kind = 7 then decide (ks.length = 3) && exprB (ks.getD 0 0) && (ks.getD 1 0 == 4) && (ks.getD 2 0 == 4 || ks.getD 2 0 == 14)
  else if kind = 8 then decide (ks.length = 2) && exprB (ks.getD 0 0) && (ks.getD 1 0 == 4)
  else if kind = 12 then decide (ks.length = 1) && (ks.getD 0 0 == 22)
  else if kind = 19 ∨ kind = 21 then exprsB ks 2
  else if kind = 22 then exprsB ks ks.length
  else if mem8 kind then decide (ks.length = 0)
  else false
theorem len_eq {n a : Nat} : (((n : Nat) : Int) == ((a : Nat) : Int)) = decide (n = a) := by rw [Bool.beq_eq_decide_eq, decide_eq_decide]; omega
theorem intsR.ge {h : Heap} {v : Value} {l : List Int} (hv : intsR h v l) {j : Nat} (hj : j < l.length) : ∃ b o c cs w z, v = .slice (some ⟨b, o, none⟩) l.length c ∧ b < h.next ∧ h.get b = some (.cells cs w z) ∧ cs[o + j * 1]? = some (.int .i64 (l.getD j 0)) := by
  have := hv.at' j _ (List.getElem?_eq_getElem hj)
  simpa [List.getD_eq_getElem?_getD, List.getElem?_eq_getElem hj] using this
theorem intsR.sub {h : Heap} {b o c : Nat} {l : List Int} (hv : intsR h (.slice (some ⟨b, o, none⟩) l.length c) l) {m : Nat} (hm : m ≤ l.length) : intsR h (subSl 1 l.length c 0 m none (some ⟨b, o, none⟩)) (l.take m) := by
  have hlen : (l.take m).length = m := by rw [List.length_take]; omega
  refine ⟨⟨_, _, by simp only [subSl, hlen]; rfl⟩, fun j k hj => ?_⟩
  have hjm : j < m := by have := (List.getElem?_eq_some_iff.1 hj).1; omega
  obtain ⟨b', o', c', cs, w, z, h1, h2, h3, h4⟩ := hv.at' j k (by rw [← hj, List.getElem?_take, if_pos hjm])
  simp only [Value.slice.injEq, Option.some.injEq, Addr.mk.injEq] at h1
  obtain ⟨⟨rfl, rfl, _⟩, _, rfl⟩ := h1
  refine ⟨b, o, (if c = l.length ∧ m = l.length then m - 0 else m - 0 + 1), cs, w, z, ?_, h2, h3, h4⟩
  rw [hlen]
  simp only [subSl, Option.map_some, Nat.zero_mul, Nat.add_zero, Nat.sub_zero]
end Go.Idl
end

section
namespace Go.Idl
variable {T : Tbl}
def mem7 (k : Int) : Bool := decide (k = 2 ∨ k = 3 ∨ k = 5 ∨ k = 17 ∨ k = 20 ∨ k = 22 ∨ k = 23)
def sgnB (s : ByteArray) : Bool := decide (s = ⟨#[45]⟩) || decide (s = ⟨#[33]⟩) || decide (s = ⟨#[126]⟩)
def digB (s : ByteArray) : Bool := (numR (bs s)).2 && decide (48 ≤ bt (bs s) 0) && decide (bt (bs s) 0 ≤ 57) && (decide (s.size = 1) || !(bt (bs s) 0 == 48))
def textB (kind : Int) (s : ByteArray) : Bool :=
  if mem7 kind then nameB s else if kind = 15 then digB s else if kind = 18 then sgnB s else if kind = 19 then opB s else decide (s = ⟨#[]⟩)
theorem num_ne {s : ByteArray} (h : (numR (bs s)).2 = true) : 0 < s.size := by
  rcases Nat.eq_zero_or_pos s.size with h0 | h0
  · have : bs s = [] := List.eq_nil_of_length_eq_zero (by rw [← bs_size]; exact h0)
    rw [this] at h
    exact absurd h (by decide)
  · exact h0
end Go.Idl
end

section
namespace Go.Idl
variable {T : Tbl}
theorem flatN_at : ∀ {l : List Nd} {i : Nat} {x : Nd}, l[i]? = some x → (flatN l)[i * 4]? = some (.int .i64 x.kind) ∧ (flatN l)[i * 4 + 1]? = some (.string x.text) ∧ (flatN l)[i * 4 + 2]? = some x.kv ∧ (flatN l)[i * 4 + 3]? = some (.int .i64 x.pos)
  | [], i, x, h => by simp at h
  | y :: l, 0, x, h => by simp at h; subst h; simp [flatN]
  | y :: l, i + 1, x, h => by
    have := flatN_at (l := l) (i := i) (x := x) (by simpa using h)
    rw [show (i + 1) * 4 = i * 4 + 4 by omega]
    simpa [flatN, show i * 4 + 4 + 1 = (i * 4 + 1) + 4 by omega, show i * 4 + 4 + 2 = (i * 4 + 2) + 4 by omega, show i * 4 + 4 + 3 = (i * 4 + 3) + 4 by omega] using this
theorem nodesAt.load4 {h : Heap} {v : Value} {l : List Nd} (hh : nodesAt h v l) {i : Nat} {x : Nd} (hi : l[i]? = some x) : ∃ b c o z, v = .slice (some ⟨b, 0, none⟩) l.length c ∧ b < h.next ∧ h.get b = some (.cells (flatN l) o z) ∧ h.cells b (i * 4) 4 = some x.cells := by
  obtain ⟨b, c, h1, h2, ⟨o, z, h3⟩, h4⟩ := hh.load hi
  exact ⟨b, c, o, z, h1, h2, h3, by rw [Nat.zero_add] at h4; exact h4⟩
def kindAt (l : List Nd) (k : Int) : Int := (l[k.toNat]?.map (·.kind)).getD 0
def kidsUp (l : List Nd) (j : Nat) : List Int := (l.take j).flatMap (·.kids)
theorem kidsUp_succ {l : List Nd} {j : Nat} {x : Nd} (h : l[j]? = some x) : kidsUp l (j + 1) = kidsUp l j ++ x.kids := by
  simp only [kidsUp]
  rw [List.take_add_one, h]
  simp
structure NodeOk (l : List Nd) (n : Nat) (x : Nd) : Prop where
  kids : ∀ k ∈ x.kids, 0 ≤ k ∧ k < n
  pos : 0 ≤ x.pos
  kind : 1 ≤ x.kind ∧ x.kind ≤ 30
  text : textB x.kind x.text = true
  shape : shapeB x.kind (x.kids.map (kindAt l)) = true
structure GoodT (l : List Nd) : Prop where
  len : l.length ≤ 50000
  ok : ∀ n x, l[n]? = some x → NodeOk l n x
  nodup : (kidsUp l l.length).Nodup
  ne : 0 < l.length
  last : ∀ n x, l[n]? = some x → (x.kind = 1 ↔ n + 1 = l.length)
  used : ∀ n : Nat, n + 1 < l.length → (n : Int) ∈ kidsUp l l.length
  deep : deepOf l ≤ 200
theorem kidsUp_sub {l : List Nd} {j : Nat} (h : j ≤ l.length) : (kidsUp l j).Sublist (kidsUp l l.length) := by
  have : kidsUp l l.length = kidsUp l j ++ (l.drop j).flatMap (·.kids) := by
    simp only [kidsUp, List.take_length]
    rw [← List.flatMap_append, List.take_append_drop]
  rw [this]
  exact List.sublist_append_left _ _
theorem nodesAt.but {m : Nat} {h0 h h' : Heap} (k0 : Kept h0 h) (hb : KeptBut m h h') (hm : h0.next ≤ m) {v : Value} {l : List Nd} (hh : nodesAt h0 v l) : nodesAt h' v l := hh.keep (k0.of_but hb hm)
end Go.Idl
end

section
namespace Go.Idl
variable {T : Tbl}
end Go.Idl
end

section
namespace Go.Idl
variable {T : Tbl}
def lettersOf (k : Int) : ByteArray :=
  if k = 2 ∨ k = 3 then ⟨#[100]⟩ else if k = 4 then ⟨#[98, 111]⟩ else if k = 14 then ⟨#[111]⟩ else if k = 17 then ⟨#[110, 101, 112]⟩ else if k = 20 ∨ k = 21 ∨ k = 30 then ⟨#[101, 112]⟩ else if k = 22 then ⟨#[101, 99]⟩
  else if 5 ≤ k ∧ k ≤ 13 then ⟨#[115]⟩ else if 15 ≤ k ∧ k ≤ 30 then ⟨#[101]⟩ else ⟨#[]⟩
theorem letters_ok (hT : T.fn 43 = some C43) {k : Int} {h : Heap} : Wk T (.fn 43) [.int .i64 k] h (fun o h' => h' = h ∧ o = .ret (.string (lettersOf k))) := by
  refine Wk_fn hT (by simp [C43]) ?_
  simp only [C43]
  have fin : ∀ (e : Env) (x : Ex) (b : ByteArray), (x = .normal ∨ x = .ret) → e 2 = .string b → lettersOf k = b → (x = .normal ∨ x = .ret) ∧ some ([] : List Dfr) = some [] ∧ ∃ vs, resAll e h [.tmp 2] = some vs ∧ h = h ∧ Out.ret (tup vs) = .ret (.string (lettersOf k)) := fun e x b hx h4 hb =>
    ⟨hx, rfl, [.string b], by simp only [resAll, resV, h4], rfl, by rw [hb]; rfl⟩
  refine Wc_seq (Wc_ops (Wo_run (fun call => by simp only [go_sem, seval]; rfl) ?_))
  show Wc T _ _ _
  refine Wc_seq (Wc_seq (Wc_ops (Wo_run (fun call => by simp only [go_sem, seval]; rfl) ?_)))
  show Wc T _ _ _
  refine Wc_block ?_
  refine Wc_mid (fun s' => s'.d = some [] ∧ s'.h = h ∧ s'.e 0 = .int .i64 k ∧ s'.e 3 = .int .i64 k ∧ s'.e 4 = .bool (decide (k = 2 ∨ k = 3))) ?_ ?_
  · clear fin
    refine Wc_case (by first | rfl | assumption) (fun y => Wc_skip ⟨rfl, rfl, (by first | rfl | assumption), (by first | rfl | assumption), by simp only [upd, dstUpd, reduceIte, Nat.reduceEqDiff, y, true_or, decide_true]⟩) (fun m0 => ?_)
    refine Wc_ops (Wo_run (fun call => by simp only [go_sem, seval]; rfl) ?_)
    exact ⟨rfl, rfl, (by first | rfl | assumption), (by first | rfl | assumption), by simp only [upd, dstUpd, reduceIte, Nat.reduceEqDiff, Bool.beq_eq_decide_eq, m0, false_or]⟩
  rintro ⟨e, h', d⟩ ⟨hd, hh, g0, g3, g4⟩
  simp only at hd hh g0 g3 g4
  rw [hd, hh]
  refine Wc_cond _ g4 (fun y => ?_) (fun y => ?_)
  · have y := of_decide_eq_true y
    refine Wc_seq (Wc_ops (Wo_run (fun call => by simp only [go_sem, seval]; rfl) ?_))
    exact Wc_ret (fin _ _ _ (.inr rfl) (by first | rfl | assumption) (by rw [lettersOf, if_pos y]))
  have n2 := of_decide_eq_false y
  refine Wc_case g3 (fun y4 => ?_) (fun n4 => ?_)
  · refine Wc_seq (Wc_ops (Wo_run (fun call => by simp only [go_sem, seval]; rfl) ?_))
    exact Wc_ret (fin _ _ _ (.inr rfl) (by first | rfl | assumption) (by rw [lettersOf, if_neg n2, if_pos y4]))
  refine Wc_case (by simp only [go_sem, seval, g3] <;> first | rfl | assumption | (symm; assumption)) (fun y14 => ?_) (fun n14 => ?_)
  · refine Wc_seq (Wc_ops (Wo_run (fun call => by simp only [go_sem, seval]; rfl) ?_))
    exact Wc_ret (fin _ _ _ (.inr rfl) (by first | rfl | assumption) (by rw [lettersOf, if_neg n2, if_neg n4, if_pos y14]))
  refine Wc_case (by simp only [go_sem, seval, g3] <;> first | rfl | assumption | (symm; assumption)) (fun y17 => ?_) (fun n17 => ?_)
  · refine Wc_seq (Wc_ops (Wo_run (fun call => by simp only [go_sem, seval]; rfl) ?_))
    exact Wc_ret (fin _ _ _ (.inr rfl) (by first | rfl | assumption) (by rw [lettersOf, if_neg n2, if_neg n4, if_neg n14, if_pos y17]))
  refine Wc_mid (fun s' => s'.d = some [] ∧ s'.h = h ∧ s'.e 0 = .int .i64 k ∧ s'.e 3 = .int .i64 k ∧ s'.e 13 = .bool (decide (k = 20 ∨ k = 21 ∨ k = 30))) ?_ ?_
  · clear fin
    refine Wc_case (by simp only [go_sem, seval, g3] <;> first | rfl | assumption | (symm; assumption)) (fun y => Wc_skip ⟨rfl, rfl, (by simp only [go_sem, seval, g0] <;> first | rfl | assumption | (symm; assumption)), (by simp only [go_sem, seval, g3] <;> first | rfl | assumption | (symm; assumption)), by simp only [upd, dstUpd, reduceIte, Nat.reduceEqDiff, y, true_or, decide_true]⟩) (fun m0 => ?_)
    refine Wc_case (by simp only [go_sem, seval, g3] <;> first | rfl | assumption | (symm; assumption)) (fun y => Wc_skip ⟨rfl, rfl, (by simp only [go_sem, seval, g0] <;> first | rfl | assumption | (symm; assumption)), (by simp only [go_sem, seval, g3] <;> first | rfl | assumption | (symm; assumption)), by simp only [upd, dstUpd, reduceIte, Nat.reduceEqDiff, y, true_or, or_true, decide_true]⟩) (fun m1 => ?_)
    refine Wc_ops (Wo_run (fun call => by simp only [go_sem, seval, g3]; rfl) ?_)
    exact ⟨rfl, rfl, (by simp only [go_sem, seval, g0] <;> first | rfl | assumption | (symm; assumption)), (by simp only [go_sem, seval, g3] <;> first | rfl | assumption | (symm; assumption)), by simp only [upd, dstUpd, reduceIte, Nat.reduceEqDiff, Bool.beq_eq_decide_eq, m0, m1, false_or]⟩
  rintro ⟨e, h', d⟩ ⟨hd, hh, g0, g3, g13⟩
  simp only at hd hh g0 g3 g13
  rw [hd, hh]
  refine Wc_cond _ g13 (fun y => ?_) (fun y => ?_)
  · have y := of_decide_eq_true y
    refine Wc_seq (Wc_ops (Wo_run (fun call => by simp only [go_sem, seval]; rfl) ?_))
    exact Wc_ret (fin _ _ _ (.inr rfl) (by first | rfl | assumption) (by rw [lettersOf, if_neg n2, if_neg n4, if_neg n14, if_neg n17, if_pos y]))
  have n20 := of_decide_eq_false y
  refine Wc_case (by simp only [go_sem, seval, g3] <;> first | rfl | assumption | (symm; assumption)) (fun y22 => ?_) (fun n22 => Wc_skip ?_)
  · refine Wc_seq (Wc_ops (Wo_run (fun call => by simp only [go_sem, seval]; rfl) ?_))
    exact Wc_ret (fin _ _ _ (.inr rfl) (by first | rfl | assumption) (by rw [lettersOf, if_neg n2, if_neg n4, if_neg n14, if_neg n17, if_neg n20, if_pos y22]))
  show Wc T _ _ _
  have pre : lettersOf k = if 5 ≤ k ∧ k ≤ 13 then ⟨#[115]⟩ else if 15 ≤ k ∧ k ≤ 30 then ⟨#[101]⟩ else ⟨#[]⟩ := by rw [lettersOf, if_neg n2, if_neg n4, if_neg n14, if_neg n17, if_neg n20, if_neg n22]
  refine Wc_seq (Wc_block ?_)
  refine Wc_mid (fun s' => s'.d = some [] ∧ s'.h = h ∧ s'.e 0 = .int .i64 k ∧ s'.e 19 = .bool (decide (5 ≤ k ∧ k ≤ 13))) ?_ ?_
  · by_cases x1 : (5 : Int) ≤ k <;> by_cases x2 : k ≤ 13 <;> first
      | (exfalso; omega)
      | (refine Wc_ops (Wo_run (fun call => by simp only [go_sem, seval, g0, x1, x2]; rfl) ?_); exact ⟨rfl, rfl, (by simp only [go_sem, seval, g0] <;> first | rfl | assumption | (symm; assumption)), (by simp only [go_sem, seval, x1, x2, and_self, and_true, and_false, decide_true, decide_false] <;> first | rfl | assumption | (symm; assumption))⟩)
  rintro ⟨e, h', d⟩ ⟨hd, hh, g0, g19⟩
  simp only at hd hh g0 g19
  rw [hd, hh]
  refine Wc_cond _ g19 (fun y => ?_) (fun y => ?_)
  · refine Wc_seq (Wc_ops (Wo_run (fun call => by simp only [go_sem, seval]; rfl) ?_))
    exact Wc_ret (fin _ _ _ (.inr rfl) (by first | rfl | assumption) (by rw [pre, if_pos (of_decide_eq_true y)]))
  have n5 := of_decide_eq_false y
  refine Wc_mid (fun s' => s'.d = some [] ∧ s'.h = h ∧ s'.e 26 = .bool (decide (15 ≤ k ∧ k ≤ 30))) ?_ ?_
  · by_cases x1 : (15 : Int) ≤ k <;> by_cases x2 : k ≤ 30 <;> first
      | (exfalso; omega)
      | (refine Wc_ops (Wo_run (fun call => by simp only [go_sem, seval, g0, x1, x2]; rfl) ?_); exact ⟨rfl, rfl, (by simp only [go_sem, seval, x1, x2, and_self, and_true, and_false, decide_true, decide_false] <;> first | rfl | assumption | (symm; assumption))⟩)
  rintro ⟨e, h', d⟩ ⟨hd, hh, g26⟩
  simp only at hd hh g26
  rw [hd, hh]
  refine Wc_cond _ g26 (fun y => ?_) (fun y => Wc_skip ?_)
  · refine Wc_seq (Wc_ops (Wo_run (fun call => by simp only [go_sem, seval]; rfl) ?_))
    exact Wc_ret (fin _ _ _ (.inr rfl) (by first | rfl | assumption) (by rw [pre, if_neg n5, if_pos (of_decide_eq_true y)]))
  show Wc T _ _ _
  refine Wc_seq (Wc_ops (Wo_run (fun call => by simp only [go_sem, seval]; rfl) ?_))
  exact Wc_ret (fin _ _ _ (.inr rfl) (by first | rfl | assumption) (by rw [pre, if_neg n5, if_neg (of_decide_eq_false y)]))
def Asc (s : ByteArray) : Prop := ∀ b ∈ s.data.toList, b.toNat < 128
theorem letters_asc (k : Int) : Asc (lettersOf k) := by
  unfold lettersOf Asc
  repeat' split
  all_goals (intro b hb; revert b; decide)
def hasB (s : ByteArray) (c : Int) : Bool := (bs s).any fun b => ((b.toNat : Nat) : Int) == c
theorem hasRune_ok (hT : T.fn 42 = some C42) {s : ByteArray} {c : Int} {h : Heap} (ha : Asc s) : Wk T (.fn 42) [.string s, .int .i32 c] h (fun o h' => Kept h h' ∧ o = .ret (.bool (hasB s c))) := by
  refine Wk_fn hT (by simp [C42]) ?_
  simp only [C42]
  refine Wc_seq (Wc_ops (Wo_run (fun call => by simp only [go_sem, seval]; rfl) ?_))
  show Wc T _ _ _
  refine Wc_seq (Wc_seq (Wc_ops (Wo_pre 1 (fun call => by simp only [go_sem, seval]; rfl) ?_)))
  refine Wo_new (v := ptr h.next 0) (B := .siter s 0) (by simp only [iop, ev, upd, reduceIte]) fun h1 n1 => Wo_nil ?_
  show Wc T _ _ _
  refine Wc_rangeStr (s := s) (bi := h.next) (fun j e h' d => d = some [] ∧ Kept h h' ∧ ∀ i, i < j → ∀ b, (bs s)[i]? = some b → ((b.toNat : Nat) : Int) ≠ c) ha (by decide) (by decide) (by first | rfl | assumption) n1.get ⟨rfl, n1.kept, fun i hi => by omega⟩ ?_ ?_
  · rintro j b e h' d hb ⟨rfl, hk, hne⟩ hfr hg
    have e1 : e 1 = .int .i32 c := ((hfr 1 (by decide)).trans (by first | rfl | assumption | (symm; assumption)))
    have hk' : Kept h (h'.set h.next (.siter s (j + 1))) := hk.set (Nat.le_refl _) _
    refine Wc_seq (Wc_ops (Wo_op (v := .int .i32 b.toNat) (h' := h'.set h.next (.siter s (j + 1))) (by simp only [iop, ev, upd, reduceIte, Nat.reduceEqDiff]; rfl) (Wo_run (fun call => by simp only [go_sem, seval]; rfl) ?_)))
    show Wc T _ _ _
    refine Wc_seq (Wc_ops (Wo_run (fun call => by simp only [go_sem, seval, e1]; rfl) ?_))
    show Wc T _ _ _
    cases hx : (((b.toNat : Nat) : Int) == c)
    · refine Wc_cond false (by simp only [go_sem, seval, hx] <;> first | rfl | assumption | (symm; assumption)) (fun e => by cases e) (fun _ => Wc_skip ⟨set_get' _ _ _, rfl, hk', fun i hi y hy => ?_⟩)
      rcases Nat.lt_or_eq_of_le (Nat.le_of_lt_succ hi) with h1 | h1
      · exact hne i h1 y hy
      · subst h1; rw [show (bs s)[i]? = some b from hb] at hy; cases hy; simpa using hx
    · refine Wc_cond true (by simp only [go_sem, seval, hx] <;> first | rfl | assumption | (symm; assumption)) (fun _ => ?_) (fun e => by cases e)
      refine Wc_seq (Wc_ops (Wo_run (fun call => by simp only [go_sem, seval]; rfl) ?_))
      refine Wc_ret ⟨.inr rfl, rfl, [.bool true], by simp only [resAll, resV, upd, dstUpd, reduceIte, Nat.reduceEqDiff], hk', ?_⟩
      have : hasB s c = true := List.any_eq_true.2 ⟨b, List.mem_of_getElem? (show (bs s)[j]? = some b from hb), hx⟩
      rw [this]; rfl
  · rintro e h' d ⟨rfl, hk, hne⟩ hfr
    show Wc T _ _ _
    refine Wc_seq (Wc_ops (Wo_run (fun call => by simp only [go_sem, seval]; rfl) ?_))
    refine Wc_ret ⟨.inr rfl, rfl, [.bool false], by simp only [resAll, resV, upd, dstUpd, reduceIte, Nat.reduceEqDiff], hk, ?_⟩
    have : hasB s c = false := by
      cases hz : hasB s c with
      | false => rfl
      | true =>
        obtain ⟨b, hb, he⟩ := List.any_eq_true.1 hz
        obtain ⟨i, hi⟩ := List.getElem?_of_mem hb
        exact absurd (beq_iff_eq.1 he) (hne i (by rw [bs_size]; exact (List.getElem?_eq_some_iff.1 hi).1) b hi)
    rw [this]; rfl
def atB : List UInt8 → Int → Nat → Int
  | [], _, _ => -1
  | b :: l, c, i => if ((b.toNat : Nat) : Int) = c then (i : Int) else atB l c (i + 1)
theorem atB_no {c : Int} : ∀ {l : List UInt8} {i : Nat}, (∀ b ∈ l, ((b.toNat : Nat) : Int) ≠ c) → atB l c i = -1
  | [], _, _ => rfl
  | b :: l, i, h => by rw [atB, if_neg (h b (List.mem_cons_self ..))]; exact atB_no fun y hy => h y (List.mem_cons_of_mem _ hy)
theorem atB_at {c : Int} : ∀ {l : List UInt8} {i j : Nat} {b : UInt8}, (∀ m, m < j → ∀ b, l[m]? = some b → ((b.toNat : Nat) : Int) ≠ c) → l[j]? = some b → ((b.toNat : Nat) : Int) = c → atB l c i = ((i + j : Nat) : Int)
  | [], _, _, _, _, h, _ => by simp at h
  | x :: l, i, 0, b, _, h, hc => by simp at h; subst h; rw [atB, if_pos hc, Nat.add_zero]
  | x :: l, i, j + 1, b, h1, h2, hc => by
    rw [atB, if_neg (h1 0 (Nat.succ_pos _) x rfl), atB_at (j := j) (fun m hm y hy => h1 (m + 1) (Nat.succ_lt_succ hm) y hy) (by simpa using h2) hc]
    congr 1; omega
theorem runeAt_ok (hT : T.fn 41 = some C41) {s : ByteArray} {c : Int} {h : Heap} (ha : Asc s) : Wk T (.fn 41) [.string s, .int .i32 c] h (fun o h' => Kept h h' ∧ o = .ret (.int .i64 (atB (bs s) c 0))) := by
  refine Wk_fn hT (by simp [C41]) ?_
  simp only [C41]
  refine Wc_seq (Wc_ops (Wo_run (fun call => by simp only [go_sem, seval]; rfl) ?_))
  show Wc T _ _ _
  refine Wc_seq (Wc_seq (Wc_ops (Wo_pre 1 (fun call => by simp only [go_sem, seval]; rfl) ?_)))
  refine Wo_new (v := ptr h.next 0) (B := .siter s 0) (by simp only [iop, ev, upd, reduceIte]) fun h1 n1 => Wo_nil ?_
  show Wc T _ _ _
  refine Wc_rangeStr (s := s) (bi := h.next) (fun j e h' d => d = some [] ∧ Kept h h' ∧ ∀ i, i < j → ∀ b, (bs s)[i]? = some b → ((b.toNat : Nat) : Int) ≠ c) ha (by decide) (by decide) (by first | rfl | assumption) n1.get ⟨rfl, n1.kept, fun i hi => by omega⟩ ?_ ?_
  · rintro j b e h' d hb ⟨rfl, hk, hne⟩ hfr hg
    have e1 : e 1 = .int .i32 c := ((hfr 1 (by decide)).trans (by first | rfl | assumption | (symm; assumption)))
    have hk' : Kept h (h'.set h.next (.siter s (j + 1))) := hk.set (Nat.le_refl _) _
    refine Wc_seq (Wc_ops (Wo_op (v := .int .i64 j) (h' := h'.set h.next (.siter s (j + 1))) (by simp only [iop, ev, upd, reduceIte, Nat.reduceEqDiff]; rfl) (Wo_op (v := .int .i32 b.toNat) (h' := h'.set h.next (.siter s (j + 1))) (by simp only [iop, ev, upd, dstUpd, reduceIte, Nat.reduceEqDiff]; rfl) (Wo_run (fun call => by simp only [go_sem, seval]; rfl) ?_))))
    show Wc T _ _ _
    refine Wc_seq (Wc_ops (Wo_run (fun call => by simp only [go_sem, seval, e1]; rfl) ?_))
    show Wc T _ _ _
    cases hx : (((b.toNat : Nat) : Int) == c)
    · refine Wc_cond false (by simp only [go_sem, seval, hx] <;> first | rfl | assumption | (symm; assumption)) (fun e => by cases e) (fun _ => Wc_skip ⟨set_get' _ _ _, rfl, hk', fun i hi y hy => ?_⟩)
      rcases Nat.lt_or_eq_of_le (Nat.le_of_lt_succ hi) with h1 | h1
      · exact hne i h1 y hy
      · subst h1; rw [show (bs s)[i]? = some b from hb] at hy; cases hy; simpa using hx
    · refine Wc_cond true (by simp only [go_sem, seval, hx] <;> first | rfl | assumption | (symm; assumption)) (fun _ => ?_) (fun e => by cases e)
      refine Wc_seq (Wc_ops (Wo_run (fun call => by simp only [go_sem, seval]; rfl) ?_))
      refine Wc_ret ⟨.inr rfl, rfl, [.int .i64 j], by simp only [resAll, resV, upd, dstUpd, reduceIte, Nat.reduceEqDiff], hk', ?_⟩
      rw [atB_at hne (show (bs s)[j]? = some b from hb) (beq_iff_eq.1 hx), Nat.zero_add]; rfl
  · rintro e h' d ⟨rfl, hk, hne⟩ hfr
    show Wc T _ _ _
    refine Wc_seq (Wc_ops (Wo_run (fun call => by simp only [go_sem, seval]; rfl) ?_))
    refine Wc_ret ⟨.inr rfl, rfl, [.int .i64 (-1)], by simp only [resAll, resV, upd, dstUpd, reduceIte, Nat.reduceEqDiff], hk, ?_⟩
    rw [atB_no fun b hb => by
      obtain ⟨i, hi⟩ := List.getElem?_of_mem hb
      exact hne i (by rw [bs_size]; exact (List.getElem?_eq_some_iff.1 hi).1) b hi]
    rfl
end Go.Idl
end

section
namespace Go.Idl
variable {T : Tbl}
def okN (ks : List Int) (c : Int) (at' : Nat) : Nat → Bool
  | 0 => true
  | n + 1 => okN ks c at' n && (decide (at' + n < ks.length) && hasB (lettersOf (ks.getD (at' + n) 0)) c)
theorem okN_no {ks : List Int} {c : Int} {a : Nat} : ∀ {n m : Nat}, n ≤ m → okN ks c a n = false → okN ks c a m = false
  | n, 0, h, hn => by rw [show n = 0 by omega] at hn; exact hn
  | n, m + 1, h, hn => by
    by_cases hm : n = m + 1
    · rw [← hm]; exact hn
    · rw [okN, okN_no (by omega) hn, Bool.false_and]
def manyI (s : ByteArray) (ks : List Int) (c : Int) (at' : Nat) (many : Bool) : Int := if many then (ks.length : Int) - at' - ((s.size : Int) - atB (bs s) c 0 - 1) else 1
def fitF (s : ByteArray) (ks : List Int) : List UInt8 → Nat → Bool → Option Nat
  | [], a, _ => some a
  | c :: r, a, many => if ((c.toNat : Nat) : Int) = 42 then fitF s ks r a true else if okN ks c.toNat a (manyI s ks c.toNat a many).toNat then fitF s ks r (a + (manyI s ks c.toNat a many).toNat) false else none
def fitB (s : ByteArray) (ks : List Int) : Bool := match fitF s ks (bs s) 0 false with
  | some a => decide (a = ks.length)
  | none => false
theorem atB_range {c : Int} : ∀ {l : List UInt8} {i : Nat}, -1 ≤ atB l c i ∧ atB l c i < ((i + l.length : Nat) : Int) + 1
  | [], i => by simp [atB]; omega
  | b :: l, i => by
    rw [atB]
    split
    · simp only [List.length_cons]; omega
    · have := atB_range (c := c) (l := l) (i := i + 1)
      simp only [List.length_cons]; omega
theorem okN_le {ks : List Int} {c : Int} {a : Nat} : ∀ {n : Nat}, okN ks c a n = true → a ≤ ks.length → a + n ≤ ks.length
  | 0, _, h => h
  | n + 1, h, ha => by
    simp only [okN, Bool.and_eq_true, decide_eq_true_eq] at h
    omega
structure FitFns (T : Tbl) : Prop where
  fits : T.fn 24 = some C24
  letters : T.fn 43 = some C43
  hasRune : T.fn 42 = some C42
  runeAt : T.fn 41 = some C41
theorem fits_ok (F : FitFns T) {h : Heap} {v kv : Value} {l : List Nd} {kids : List Int} {s : ByteArray} (hn : nodesAt h v l) (hk : intsAt h kv kids) (hr : ∀ k ∈ kids, 0 ≤ k ∧ k < l.length) (hkl : kids.length ≤ 100000) (ha : Asc s) (hs : s.size ≤ 3000) :
    Wk T (.fn 24) [v, kv, .string s] h (fun o h' => Kept h h' ∧ o = .ret (.bool (fitB s (kids.map (kindAt l))))) := by
  obtain ⟨ka, kc, hkv⟩ := hk.len
  have hksl : (kids.map (kindAt l)).length = kids.length := List.length_map _
  generalize hks : kids.map (kindAt l) = ks at hksl ⊢
  refine Wk_fn F.fits (by simp [C24]) ?_
  simp only [C24]
  have fin : ∀ (e : Env) (h2 : Heap) (x' : Ex) (b : Bool), Kept h h2 → (x' = .normal ∨ x' = .ret) → e 6 = .bool b → fitB s ks = b → (x' = .normal ∨ x' = .ret) ∧ some ([] : List Dfr) = some [] ∧ ∃ vs, resAll e h2 [.tmp 6] = some vs ∧ Kept h h2 ∧ Out.ret (tup vs) = .ret (.bool (fitB s ks)) := fun e h2 x' b hk hx h4 hb =>
    ⟨hx, rfl, [.bool b], by simp only [resAll, resV, h4], hk, by rw [hb]; rfl⟩
  refine Wc_seq (Wc_ops (Wo_run (fun call => by simp only [go_sem, seval]; rfl) ?_))
  show Wc T _ _ _
  refine Wc_seq (Wc_ops (Wo_run (fun call => by simp only [go_sem, seval]; rfl) ?_))
  show Wc T _ _ _
  refine Wc_seq (Wc_seq (Wc_ops (Wo_pre 1 (fun call => by simp only [go_sem, seval]; rfl) ?_)))
  refine Wo_new (v := ptr h.next 0) (B := .siter s 0) (by simp only [iop, ev, upd, reduceIte]) fun h1 n1 => Wo_nil ?_
  show Wc T _ _ _
  refine Wc_rangeStr (s := s) (bi := h.next) (fun j e h' d => d = some [] ∧ (Kept h h' ∧ h.next < h'.next) ∧ ∃ (a : Nat) (many : Bool), a ≤ ks.length ∧ e 7 = .int .i64 a ∧ e 8 = .bool many ∧ fitF s ks (bs s) 0 false = fitF s ks ((bs s).drop j) a many) ha (by decide) (by decide) (by first | rfl | assumption) n1.get ⟨rfl, ⟨n1.kept, by rw [n1.next]; exact Nat.lt_succ_self _⟩, 0, false, Nat.zero_le _, (by first | rfl | assumption), (by first | rfl | assumption), rfl⟩ ?_ ?_
  case refine_2 =>
    rintro e h' d ⟨rfl, ⟨hk', hx'⟩, a, many, hal, h7, h8, hfit⟩ hfr
    have e1 : e 1 = kv := ((hfr 1 (by decide)).trans (by first | rfl | assumption | (symm; assumption)))
    show Wc T _ _ _
    refine Wc_seq (Wc_ops (Wo_run (fun call => by simp only [go_sem, seval, h7, e1, hkv]; rfl) ?_))
    refine Wc_ret (fin _ _ _ _ hk' (.inr rfl) (by first | rfl | assumption) ?_)
    rw [bs_size, List.drop_length] at hfit
    rw [fitB, hfit, fitF, ← hksl, len_eq]
  rintro j c e h' d hc ⟨rfl, ⟨hk', hx'⟩, a, many, hal, h7, h8, hfit⟩ hfr hg
  have hcs : (bs s)[j]? = some c := hc
  have hdrop : (bs s).drop j = c :: (bs s).drop (j + 1) := by
    have hlt := (List.getElem?_eq_some_iff.1 hcs).1
    have he := (List.getElem?_eq_some_iff.1 hcs).2
    rw [List.drop_eq_getElem_cons hlt, he]
  rw [hdrop, fitF] at hfit
  have e0 : e 0 = v := ((hfr 0 (by decide)).trans (by first | rfl | assumption | (symm; assumption)))
  have e1 : e 1 = kv := ((hfr 1 (by decide)).trans (by first | rfl | assumption | (symm; assumption)))
  have e2 : e 2 = .string s := ((hfr 2 (by decide)).trans (by first | rfl | assumption | (symm; assumption)))
  have hk2 : Kept h (h'.set h.next (.siter s (j + 1))) := hk'.set (Nat.le_refl _) _
  have hg2 : (h'.set h.next (.siter s (j + 1))).get h.next = some (.siter s (j + 1)) := set_get' _ _ _
  have hx2 : h.next < (h'.set h.next (.siter s (j + 1))).next := hx'
  generalize h'.set h.next (.siter s (j + 1)) = h2 at hk2 hg2 hx2 ⊢
  refine Wc_seq (Wc_ops (Wo_op (v := .int .i32 c.toNat) (h' := h2) (by simp only [iop, ev, upd, reduceIte, Nat.reduceEqDiff]; rfl) (Wo_run (fun call => by simp only [go_sem, seval]; rfl) ?_)))
  show Wc T _ _ _
  cases hst : (((c.toNat : Nat) : Int) == 42)
  case true =>
    have hst' := beq_iff_eq.1 hst
    rw [if_pos hst'] at hfit
    refine Wc_seq (Wc_seq (Wc_ops (Wo_run (fun call => by simp only [go_sem, seval, hst]; rfl) ?_)))
    show Wc T _ _ _
    refine Wc_cond true (by first | rfl | assumption) (fun _ => ?_) (fun e => by cases e)
    refine Wc_seq (Wc_ops (Wo_run (fun call => by simp only [go_sem, seval]; rfl) ?_))
    exact Wc_exit ⟨hg2, rfl, ⟨hk2, hx2⟩, a, true, hal, (by simp only [go_sem, seval, h7] <;> first | rfl | assumption | (symm; assumption)), (by first | rfl | assumption), hfit⟩
  have hst' : ¬ ((c.toNat : Nat) : Int) = 42 := by simpa using hst
  rw [if_neg hst'] at hfit
  refine Wc_seq (Wc_seq (Wc_ops (Wo_run (fun call => by simp only [go_sem, seval, hst]; rfl) ?_)))
  show Wc T _ _ _
  refine Wc_cond false (by first | rfl | assumption) (fun e => by cases e) (fun _ => Wc_skip ?_)
  show Wc T _ _ _
  refine Wc_seq (Wc_ops (Wo_run (fun call => by simp only [go_sem, seval]; rfl) ?_))
  show Wc T _ _ _
  refine Wc_mid (fun s' => s'.d = some [] ∧ Kept h s'.h ∧ h.next < s'.h.next ∧ s'.h.get h.next = some (.siter s (j + 1)) ∧ s'.e 0 = v ∧ s'.e 1 = kv ∧ s'.e 7 = .int .i64 a ∧ s'.e 8 = .bool false ∧ s'.e 10 = .int .i32 c.toNat ∧ s'.e 11 = .int .i64 (manyI s ks c.toNat a many)) ?_ ?_
  · refine Wc_seq (Wc_ops (Wo_run (fun call => by simp only [go_sem, seval, h8]; rfl) ?_))
    show Wc T _ _ _
    cases many
    · refine Wc_cond false (by first | rfl | assumption) (fun e => by cases e) (fun _ => Wc_skip ?_)
      exact ⟨rfl, hk2, hx2, hg2, (by simp only [go_sem, seval, e0] <;> first | rfl | assumption | (symm; assumption)), (by simp only [go_sem, seval, e1] <;> first | rfl | assumption | (symm; assumption)), (by simp only [go_sem, seval, h7] <;> first | rfl | assumption | (symm; assumption)), (by simp only [go_sem, seval, h8] <;> first | rfl | assumption | (symm; assumption)), (by first | rfl | assumption), (by first | rfl | assumption)⟩
    refine Wc_cond true (by first | rfl | assumption) (fun _ => ?_) (fun e => by cases e)
    have hrange := atB_range (c := c.toNat) (l := bs s) (i := 0)
    rw [← bs_size] at hrange
    have w1 : IntKind.i64.wrap (((kids.length : Nat) : Int) - ((a : Nat) : Int)) = ((kids.length : Nat) : Int) - ((a : Nat) : Int) := wrap64 (by omega) (by omega)
    have w2 : IntKind.i64.wrap (((s.size : Nat) : Int) - atB (bs s) c.toNat 0) = ((s.size : Nat) : Int) - atB (bs s) c.toNat 0 := wrap64 (by omega) (by omega)
    have w3 : IntKind.i64.wrap (((s.size : Nat) : Int) - atB (bs s) c.toNat 0 - 1) = ((s.size : Nat) : Int) - atB (bs s) c.toNat 0 - 1 := wrap64 (by omega) (by omega)
    have w4 : IntKind.i64.wrap (((kids.length : Nat) : Int) - ((a : Nat) : Int) - (((s.size : Nat) : Int) - atB (bs s) c.toNat 0 - 1)) = ((kids.length : Nat) : Int) - ((a : Nat) : Int) - (((s.size : Nat) : Int) - atB (bs s) c.toNat 0 - 1) := wrap64 (by omega) (by omega)
    refine Wc_seq (Wc_ops (Wo_pre 8 (fun call => by simp only [go_sem, seval, e1, e2, hkv, h7, w1]; rfl) ?_))
    refine Wo_call (Wk_kept (runeAt_ok F.runeAt (c := c.toNat) ha) fun h3 k3 => ?_)
    refine (Wo_run (fun call => by simp only [go_sem, seval, w2, w3, w4]; rfl) ?_)
    show Wc T _ _ _
    refine Wc_ops (Wo_run (fun call => by simp only [go_sem, seval]; rfl) ?_)
    refine ⟨rfl, hk2.trans k3, Nat.lt_of_lt_of_le hx2 k3.next, ?_, (by simp only [go_sem, seval, e0] <;> first | rfl | assumption | (symm; assumption)), (by simp only [go_sem, seval, e1] <;> first | rfl | assumption | (symm; assumption)), (by simp only [go_sem, seval, h7] <;> first | rfl | assumption | (symm; assumption)), (by first | rfl | assumption), (by first | rfl | assumption), ?_⟩
    · rw [k3.get _ hx2]; exact hg2
    · simp only [upd, dstUpd, reduceIte, Nat.reduceEqDiff, manyI, hksl]
  rintro ⟨e3, h3, d3⟩ ⟨hd3, hk3, hx3, hg3, e0, e1, e7, e8, e10, e11⟩
  simp only at hd3 hk3 hx3 hg3 e0 e1 e7 e8 e10 e11
  rw [hd3]
  generalize hN : manyI s ks c.toNat a many = N at hfit e11
  refine Wc_block (Wc_loopF (fun e h' d => d = some [] ∧ Kept h h' ∧ h.next < h'.next ∧ h'.get h.next = some (.siter s (j + 1)) ∧ ∃ i : Nat, i ≤ N.toNat ∧ e 11 = .int .i64 (N - i) ∧ e 7 = .int .i64 ((a + i : Nat) : Int) ∧ okN ks c.toNat a i = true) (fun e _ => match e 11 with | .int _ k => k.toNat | _ => 0) ?_ ?_)
  · exact ⟨rfl, hk3, hx3, hg3, 0, Nat.zero_le _, by show e3 11 = _; rw [e11]; congr 1; omega, e7, rfl⟩
  rintro e h4 d ⟨rfl, hk4, hnx, hg4, i, hi, h11, h7', hok⟩ hfr4
  have f0 : e 0 = v := by rw [hfr4 0 (by decide)]; exact e0
  have f1 : e 1 = kv := by rw [hfr4 1 (by decide)]; exact e1
  have f8 : e 8 = .bool false := by rw [hfr4 8 (by decide)]; exact e8
  have f10 : e 10 = .int .i32 c.toNat := by rw [hfr4 10 (by decide)]; exact e10
  rw [C24L0]
  have hal' := okN_le hok hal
  by_cases hmore : (0 : Int) < N - i
  case neg =>
    refine Wc_seq (Wc_seq (Wc_ops (Wo_run (fun call => by simp only [go_sem, seval, h11, hmore]; rfl) ?_)))
    show Wc T _ _ _
    refine Wc_cond false (by first | rfl | assumption) (fun e => by cases e) (fun _ => Wc_exit ?_)
    have hiN : i = N.toNat := by omega
    subst hiN
    rw [if_pos hok] at hfit
    exact ⟨hg4, rfl, ⟨hk4, hnx⟩, a + N.toNat, false, hal', (by simp only [go_sem, seval, h7'] <;> first | rfl | assumption | (symm; assumption)), (by simp only [go_sem, seval, f8] <;> first | rfl | assumption | (symm; assumption)), hfit⟩
  refine Wc_seq (Wc_seq (Wc_ops (Wo_run (fun call => by simp only [go_sem, seval, h11, hmore]; rfl) ?_)))
  show Wc T _ _ _
  refine Wc_cond true (by first | rfl | assumption) (fun _ => Wc_skip ?_) (fun e => by cases e)
  show Wc T _ _ _
  have hbad : (decide (a + i < ks.length) && hasB (lettersOf (ks.getD (a + i) 0)) c.toNat) = false → fitB s ks = false := fun hb => by
    have h1 : okN ks c.toNat a (i + 1) = false := by rw [okN, hb, Bool.and_false]
    have h2 := okN_no (show i + 1 ≤ N.toNat by omega) h1
    rw [if_neg (by rw [h2]; decide)] at hfit
    rw [fitB, hfit]
  by_cases hlt : a + i < kids.length
  case neg =>
    have z : ((kids.length : Nat) : Int) ≤ ((a + i : Nat) : Int) := by omega
    refine Wc_seq (Wc_block (Wc_seq (Wc_seq (Wc_ops (Wo_run (fun call => by simp only [go_sem, seval, h7', f1, hkv, z]; rfl) ?_)))))
    show Wc T _ _ _
    refine Wc_cond true (by first | rfl | assumption) (fun _ => ?_) (fun e => by cases e)
    refine Wc_seq (Wc_ops (Wo_run (fun call => by simp only [go_sem, seval]; rfl) ?_))
    exact Wc_ret (fin _ _ _ false hk4 (.inr rfl) (by first | rfl | assumption) (hbad (by rw [decide_eq_false (by omega)]; rfl)))
  have z : ¬ ((kids.length : Nat) : Int) ≤ ((a + i : Nat) : Int) := by omega
  obtain ⟨k, hkk⟩ : ∃ k, kids[a + i]? = some k := ⟨_, List.getElem?_eq_getElem hlt⟩
  obtain ⟨bk, ck, hkvb, hbk, ⟨ok, zk, hgk⟩, hcell⟩ := (hk.keep hk4).load hkk
  rw [Nat.zero_add] at hcell
  have hkr := hr k (List.mem_of_getElem? hkk)
  obtain ⟨kk, rfl⟩ : ∃ kk : Nat, k = kk := ⟨k.toNat, by omega⟩
  have hkkl : kk < l.length := by omega
  obtain ⟨y, hy⟩ : ∃ y, l[kk]? = some y := ⟨_, List.getElem?_eq_getElem hkkl⟩
  obtain ⟨b5, c5, o5, z5, hvb5, hb5, hg5, _⟩ := (hn.keep hk4).load4 hy
  have hkind := (flatN_at hy).1
  have hka : kindAt l ((kk : Nat) : Int) = y.kind := by simp only [kindAt, Int.toNat_natCast, hy, Option.map_some, Option.getD_some]
  have hgd : ks.getD (a + i) 0 = y.kind := by rw [← hks, List.getD_eq_getElem?_getD, List.getElem?_map, hkk]; exact hka
  refine Wc_seq (Wc_block (Wc_seq (Wc_seq (Wc_ops (Wo_pre 13 (fun call => by simp only [go_sem, seval, h7', f0, f1, hkvb, z, idx_ok hlt, hgk, hcell, hvb5, idx_ok hkkl, hg5, hkind]; rfl) ?_)))))
  refine Wo_take (by simp only [upd, dstUpd, reduceIte, Nat.reduceEqDiff, gval_bool]; rfl) (Wo_call (Wk_pure (letters_ok F.letters) ?_))
  refine (Wo_pre 1 (fun call => by simp only [go_sem, seval, f10]; rfl) ?_)
  refine Wo_take (by simp only [upd, dstUpd, reduceIte, Nat.reduceEqDiff, gval_bool]; rfl) (Wo_call (Wk_kept (hasRune_ok F.hasRune (c := c.toNat) (letters_asc y.kind)) fun h5 k5 => ?_))
  refine (Wo_run (fun call => by simp only [go_sem, seval]; rfl) ?_)
  show Wc T _ _ _
  cases hh : hasB (lettersOf y.kind) c.toNat
  · refine Wc_cond true (by simp only [go_sem, seval, hh] <;> first | rfl | assumption | (symm; assumption)) (fun _ => ?_) (fun e => by cases e)
    refine Wc_seq (Wc_ops (Wo_run (fun call => by simp only [go_sem, seval]; rfl) ?_))
    exact Wc_ret (fin _ _ _ false (hk4.trans k5) (.inr rfl) (by first | rfl | assumption) (hbad (by rw [hgd, hh, Bool.and_false])))
  refine Wc_cond false (by simp only [go_sem, seval, hh] <;> first | rfl | assumption | (symm; assumption)) (fun e => by cases e) (fun _ => Wc_skip ?_)
  show Wc T _ _ _
  have w1 : IntKind.i64.wrap (((a + i : Nat) : Int) + 1) = ((a + (i + 1) : Nat) : Int) := by rw [wrap64] <;> omega
  have hNb : N ≤ 400000 ∧ -400000 ≤ N := by
    have hrange := atB_range (c := c.toNat) (l := bs s) (i := 0)
    rw [← bs_size] at hrange
    rw [← hN, manyI]
    split <;> omega
  have w2 : IntKind.i64.wrap (N - i - 1) = N - ((i + 1 : Nat) : Int) := by rw [wrap64] <;> omega
  refine Wc_ops (Wo_run (fun call => by simp only [go_sem, seval, h7', w1]; rfl) ?_)
  show Wc T _ _ _
  refine Wc_ops (Wo_run (fun call => by simp only [go_sem, seval, h11, w2]; rfl) ?_)
  refine ⟨⟨rfl, hk4.trans k5, Nat.lt_of_lt_of_le hnx k5.next, by rw [k5.get _ hnx]; exact hg4, i + 1, by omega, (by first | rfl | assumption), (by first | rfl | assumption), ?_⟩, ?_⟩
  · rw [okN, hok, hgd, hh, decide_eq_true (show a + i < ks.length by omega)]; rfl
  · simp only [upd, dstUpd, reduceIte, Nat.reduceEqDiff, h11]
    exact (Int.toNat_lt_toNat (by omega)).2 (by omega)
end Go.Idl
end

section
namespace Go.Idl
def wantL : List (Int × ByteArray) := [(1, ⟨#[42, 100]⟩), (2, ⟨#[42, 110]⟩), (3, ⟨#[42, 110, 98]⟩), (4, ⟨#[42, 115]⟩), (5, ⟨#[101]⟩), (6, ⟨#[112, 101]⟩), (7, ⟨#[101, 98, 111]⟩), (8, ⟨#[101, 98]⟩), (9, ⟨#[101]⟩), (10, ⟨#[101]⟩), (11, ⟨#[101]⟩), (12, ⟨#[99]⟩), (13, ⟨#[42, 110]⟩), (14, ⟨#[]⟩), (15, ⟨#[]⟩), (16, ⟨#[]⟩), (17, ⟨#[]⟩), (18, ⟨#[101]⟩), (19, ⟨#[101, 101]⟩), (20, ⟨#[101]⟩), (21, ⟨#[101, 101]⟩), (22, ⟨#[42, 101]⟩), (23, ⟨#[]⟩), (24, ⟨#[101]⟩), (25, ⟨#[101]⟩), (26, ⟨#[]⟩), (27, ⟨#[101]⟩), (28, ⟨#[]⟩), (29, ⟨#[101]⟩), (30, ⟨#[]⟩)]
def wantOf (k : Int) : ByteArray := match wantL.find? fun p => p.1 == k with
  | some p => p.2
  | none => ⟨#[]⟩
theorem has_e {k : Int} (h : exprB k = true) : hasB (lettersOf k) 101 = true := by
  have h := of_decide_eq_true h
  rcases (by omega : k = 15 ∨ k = 16 ∨ k = 17 ∨ k = 18 ∨ k = 19 ∨ k = 20 ∨ k = 21 ∨ k = 22 ∨ k = 23 ∨ k = 24 ∨ k = 25 ∨ k = 26 ∨ k = 27 ∨ k = 28 ∨ k = 29 ∨ k = 30) with rfl | rfl | rfl | rfl | rfl | rfl | rfl | rfl | rfl | rfl | rfl | rfl | rfl | rfl | rfl | rfl <;> decide
theorem has_s {k : Int} (h : stmtB k = true) : hasB (lettersOf k) 115 = true := by
  have h := of_decide_eq_true h
  rcases (by omega : k = 5 ∨ k = 6 ∨ k = 7 ∨ k = 8 ∨ k = 9 ∨ k = 10 ∨ k = 11 ∨ k = 12 ∨ k = 13) with rfl | rfl | rfl | rfl | rfl | rfl | rfl | rfl | rfl <;> decide
theorem has_n {k : Int} (h : (k == 17) = true) : hasB (lettersOf k) 110 = true := by rw [beq_iff_eq.1 h]; decide
theorem has_d {k : Int} (h : (k == 2 || k == 3) = true) : hasB (lettersOf k) 100 = true := by
  rw [Bool.or_eq_true, beq_iff_eq, beq_iff_eq] at h
  rcases h with rfl | rfl <;> decide
theorem has_b {k : Int} (h : (k == 4) = true) : hasB (lettersOf k) 98 = true := by rw [beq_iff_eq.1 h]; decide
theorem has_o {k : Int} (h : (k == 4 || k == 14) = true) : hasB (lettersOf k) 111 = true := by
  rw [Bool.or_eq_true, beq_iff_eq, beq_iff_eq] at h
  rcases h with rfl | rfl <;> decide
theorem has_p {k : Int} (h : (k == 17 || k == 20 || k == 21 || k == 30) = true) : hasB (lettersOf k) 112 = true := by
  rw [Bool.or_eq_true, Bool.or_eq_true, Bool.or_eq_true, beq_iff_eq, beq_iff_eq, beq_iff_eq, beq_iff_eq] at h
  rcases h with ((rfl | rfl) | rfl) | rfl <;> decide
theorem has_c {k : Int} (h : (k == 22) = true) : hasB (lettersOf k) 99 = true := by rw [beq_iff_eq.1 h]; decide
theorem okN_all {ks : List Int} {c : Int} {a : Nat} : ∀ {n : Nat}, (∀ i, i < n → a + i < ks.length ∧ hasB (lettersOf (ks.getD (a + i) 0)) c = true) → okN ks c a n = true
  | 0, _ => rfl
  | n + 1, h => by
    rw [okN, okN_all (n := n) (fun i hi => h i (by omega)), decide_eq_true (h n (Nat.lt_succ_self _)).1, (h n (Nat.lt_succ_self _)).2]; rfl
theorem getD_mem {ks : List Int} {i : Nat} (h : i < ks.length) : ks.getD i 0 ∈ ks := by
  rw [List.getD_eq_getElem?_getD, List.getElem?_eq_getElem h]; exact List.getElem_mem h
theorem fit_star {ks : List Int} {x : UInt8} (hx : ((x.toNat : Nat) : Int) ≠ 42) (h : ∀ k ∈ ks, hasB (lettersOf k) x.toNat = true) : fitB ⟨#[42, x]⟩ ks = true := by
  have hm : manyI ⟨#[42, x]⟩ ks x.toNat 0 true = ks.length := by
    have : atB (bs ⟨#[42, x]⟩) ((x.toNat : Nat) : Int) 0 = 1 := by
      show atB [42, x] _ 0 = 1
      rw [atB, if_neg (fun e => hx e.symm), atB, if_pos rfl]; rfl
    rw [manyI, this]
    show (ks.length : Int) - ((0 : Nat) : Int) - ((2 : Int) - 1 - 1) = ks.length
    omega
  have hf : fitF ⟨#[42, x]⟩ ks [42, x] 0 false = some ks.length := by
    rw [fitF, if_pos (by decide), fitF, if_neg hx, hm, Int.toNat_natCast, okN_all (fun i hi => ⟨by omega, h _ (getD_mem (by omega))⟩), if_pos rfl, fitF, Nat.zero_add]
  rw [fitB, show bs ⟨#[42, x]⟩ = [42, x] from rfl, hf]
  exact decide_eq_true rfl
theorem fit_fn {ks : List Int} (h0 : 0 < ks.length) (h : ((ks.take (ks.length - 1)).all fun k => k == 17) = true) (hb : (ks.getD (ks.length - 1) 0 == 4) = true) : fitB ⟨#[42, 110, 98]⟩ ks = true := by
  have hm : manyI ⟨#[42, 110, 98]⟩ ks 110 0 true = ((ks.length - 1 : Nat) : Int) := by
    have : atB (bs ⟨#[42, 110, 98]⟩) 110 0 = 1 := by decide
    rw [manyI, this]
    show (ks.length : Int) - ((0 : Nat) : Int) - ((3 : Int) - 1 - 1) = ((ks.length - 1 : Nat) : Int)
    omega
  have h1 : okN ks 110 0 (ks.length - 1) = true := okN_all fun i hi => ⟨by omega, has_n (by
    have hi2 : (ks.take (ks.length - 1))[i]? = some (ks.getD i 0) := by rw [List.getElem?_take, if_pos hi, List.getD_eq_getElem?_getD, List.getElem?_eq_getElem (by omega)]; rfl
    rw [Nat.zero_add]
    exact List.all_eq_true.1 h _ (List.mem_of_getElem? hi2))⟩
  have h2 : okN ks 98 (ks.length - 1) 1 = true := okN_all fun i hi => by
    have : i = 0 := by omega
    subst this
    exact ⟨by omega, has_b hb⟩
  have hf : fitF ⟨#[42, 110, 98]⟩ ks [42, 110, 98] 0 false = some ks.length := by
    rw [fitF, if_pos (by decide), fitF, if_neg (by decide), show ((UInt8.toNat 110 : Nat) : Int) = 110 from rfl, hm, Int.toNat_natCast, h1, if_pos rfl, fitF, if_neg (by decide), show ((UInt8.toNat 98 : Nat) : Int) = 98 from rfl, Nat.zero_add]
    have : manyI ⟨#[42, 110, 98]⟩ ks 98 (ks.length - 1) false = 1 := rfl
    rw [this, show Int.toNat 1 = 1 from rfl, h2, if_pos rfl, fitF, show ks.length - 1 + 1 = ks.length by omega]
  rw [fitB, show bs ⟨#[42, 110, 98]⟩ = [42, 110, 98] from rfl, hf]
  exact decide_eq_true rfl
theorem fit_list (x : List UInt8) (ks : List Int) (hx : ∀ c ∈ x, ((c.toNat : Nat) : Int) ≠ 42) (h : ks.length = x.length) (hh : ∀ i c, x[i]? = some c → hasB (lettersOf (ks.getD i 0)) c.toNat = true) : fitB ⟨x.toArray⟩ ks = true := by
  have key : ∀ (y : List UInt8) (a : Nat), x.drop a = y → a ≤ ks.length → fitF ⟨x.toArray⟩ ks y a false = some ks.length := by
    intro y
    induction y with
    | nil =>
      intro a ha hle
      have : x.length ≤ a := by
        rcases Nat.lt_or_ge a x.length with h1 | h1
        · have := congrArg List.length ha
          rw [List.length_drop] at this; simp at this; omega
        · exact h1
      rw [fitF, show a = ks.length by omega]
    | cons c y ih =>
      intro a ha hle
      have hlt : a < x.length := by
        rcases Nat.lt_or_ge a x.length with h1 | h1
        · exact h1
        · rw [List.drop_of_length_le h1] at ha; cases ha
      have hc : x[a]? = some c := by
        have := congrArg (fun l => l[0]?) ha
        simpa [List.getElem?_drop] using this
      have hm : manyI ⟨x.toArray⟩ ks c.toNat a false = 1 := rfl
      have hok : okN ks c.toNat a 1 = true := okN_all fun i hi => by
        have : i = 0 := by omega
        subst this
        exact ⟨by omega, hh a c hc⟩
      rw [fitF, if_neg (hx c (List.mem_of_getElem? hc)), hm, show Int.toNat 1 = 1 from rfl, hok, if_pos rfl]
      refine ih (a + 1) ?_ (by omega)
      rw [List.drop_add_one_eq_tail_drop, ha]; rfl
  rw [fitB, show bs ⟨x.toArray⟩ = x from rfl, key x 0 rfl (Nat.zero_le _)]
  exact decide_eq_true rfl
theorem exprs_facts {ks : List Int} {n : Nat} (h : exprsB ks n = true) : ks.length = n ∧ ∀ k ∈ ks, exprB k = true := by
  simp only [exprsB, Bool.and_eq_true, beq_iff_eq, List.all_eq_true] at h
  exact ⟨by omega, h.1⟩
theorem fitE1 {ks : List Int} (h : exprsB ks ((1 : Nat) : Int) = true) : fitB ⟨#[101]⟩ ks = true := by
  obtain ⟨h1, h2⟩ := exprs_facts h
  refine fit_list [101] ks (by decide) h1 fun i c hc => ?_
  match i with
  | 0 => simp at hc; subst hc; exact has_e (h2 _ (getD_mem (by omega)))
  | i + 1 => simp at hc
theorem fitE2 {ks : List Int} (h : exprsB ks ((2 : Nat) : Int) = true) : fitB ⟨#[101, 101]⟩ ks = true := by
  obtain ⟨h1, h2⟩ := exprs_facts h
  refine fit_list [101, 101] ks (by decide) h1 fun i c hc => ?_
  match i with
  | 0 => simp at hc; subst hc; exact has_e (h2 _ (getD_mem (by omega)))
  | 1 => simp at hc; subst hc; exact has_e (h2 _ (getD_mem (by omega)))
  | i + 2 => simp at hc
theorem fitE0 {ks : List Int} (h : decide (ks.length = 0) = true) : fitB ⟨#[]⟩ ks = true :=
  fit_list [] ks (by decide) (of_decide_eq_true h) fun i c hc => by simp at hc
theorem fit_of_shape {k : Int} {ks : List Int} (h1 : 1 ≤ k) (h2 : k ≤ 30) (h : shapeB k ks = true) : fitB (wantOf k) ks = true := by
  rcases (by omega : k = 1 ∨ k = 2 ∨ k = 3 ∨ k = 4 ∨ k = 5 ∨ k = 6 ∨ k = 7 ∨ k = 8 ∨ k = 9 ∨ k = 10 ∨ k = 11 ∨ k = 12 ∨ k = 13 ∨ k = 14 ∨ k = 15 ∨ k = 16 ∨ k = 17 ∨ k = 18 ∨ k = 19 ∨ k = 20 ∨ k = 21 ∨ k = 22 ∨ k = 23 ∨ k = 24 ∨ k = 25 ∨ k = 26 ∨ k = 27 ∨ k = 28 ∨ k = 29 ∨ k = 30) with rfl | rfl | rfl | rfl | rfl | rfl | rfl | rfl | rfl | rfl | rfl | rfl | rfl | rfl | rfl | rfl | rfl | rfl | rfl | rfl | rfl | rfl | rfl | rfl | rfl | rfl | rfl | rfl | rfl | rfl
  · show fitB ⟨#[42, 100]⟩ ks = true
    exact fit_star (x := 100) (by decide) fun k hk => has_d (List.all_eq_true.1 (show (ks.all fun k => k == 2 || k == 3) = true from h) k hk)
  · show fitB ⟨#[42, 110]⟩ ks = true
    exact fit_star (x := 110) (by decide) fun k hk => has_n (List.all_eq_true.1 (show (ks.all fun k => k == 17) = true from h) k hk)
  · show fitB ⟨#[42, 110, 98]⟩ ks = true
    have h : (decide (0 < ks.length) && ((ks.take (ks.length - 1)).all fun k => k == 17) && (ks.getD (ks.length - 1) 0 == 4)) = true := h
    simp only [Bool.and_eq_true, decide_eq_true_eq] at h
    exact fit_fn h.1.1 h.1.2 h.2
  · show fitB ⟨#[42, 115]⟩ ks = true
    exact fit_star (x := 115) (by decide) fun k hk => has_s (List.all_eq_true.1 (show ks.all stmtB = true from h) k hk)
  · show fitB ⟨#[101]⟩ ks = true
    exact fitE1 h
  · show fitB ⟨#[112, 101]⟩ ks = true
    have h : (exprsB ks ((2 : Nat) : Int) && (ks.getD 0 0 == 17 || ks.getD 0 0 == 20 || ks.getD 0 0 == 21 || ks.getD 0 0 == 30)) = true := h
    rw [Bool.and_eq_true] at h
    obtain ⟨h3, h4⟩ := exprs_facts h.1
    refine fit_list [112, 101] ks (by decide) h3 fun i c hc => ?_
    match i with
    | 0 => simp at hc; subst hc; exact has_p h.2
    | 1 => simp at hc; subst hc; exact has_e (h4 _ (getD_mem (by omega)))
    | i + 2 => simp at hc
  · show fitB ⟨#[101, 98, 111]⟩ ks = true
    have h : (decide (ks.length = 3) && exprB (ks.getD 0 0) && (ks.getD 1 0 == 4) && (ks.getD 2 0 == 4 || ks.getD 2 0 == 14)) = true := h
    rw [Bool.and_eq_true, Bool.and_eq_true, Bool.and_eq_true, decide_eq_true_iff] at h
    refine fit_list [101, 98, 111] ks (by decide) h.1.1.1 fun i c hc => ?_
    match i with
    | 0 => simp at hc; subst hc; exact has_e h.1.1.2
    | 1 => simp at hc; subst hc; exact has_b h.1.2
    | 2 => simp at hc; subst hc; exact has_o h.2
    | i + 3 => simp at hc
  · show fitB ⟨#[101, 98]⟩ ks = true
    have h : (decide (ks.length = 2) && exprB (ks.getD 0 0) && (ks.getD 1 0 == 4)) = true := h
    rw [Bool.and_eq_true, Bool.and_eq_true, decide_eq_true_iff] at h
    refine fit_list [101, 98] ks (by decide) h.1.1 fun i c hc => ?_
    match i with
    | 0 => simp at hc; subst hc; exact has_e h.1.2
    | 1 => simp at hc; subst hc; exact has_b h.2
    | i + 2 => simp at hc
  · show fitB ⟨#[101]⟩ ks = true
    exact fitE1 h
  · show fitB ⟨#[101]⟩ ks = true
    exact fitE1 h
  · show fitB ⟨#[101]⟩ ks = true
    exact fitE1 h
  · show fitB ⟨#[99]⟩ ks = true
    have h : (decide (ks.length = 1) && (ks.getD 0 0 == 22)) = true := h
    rw [Bool.and_eq_true, decide_eq_true_iff] at h
    refine fit_list [99] ks (by decide) h.1 fun i c hc => ?_
    match i with
    | 0 => simp at hc; subst hc; exact has_c h.2
    | i + 1 => simp at hc
  · show fitB ⟨#[42, 110]⟩ ks = true
    exact fit_star (x := 110) (by decide) fun k hk => has_n (List.all_eq_true.1 (show (ks.all fun k => k == 17) = true from h) k hk)
  · show fitB ⟨#[]⟩ ks = true
    exact fitE0 h
  · show fitB ⟨#[]⟩ ks = true
    exact fitE0 h
  · show fitB ⟨#[]⟩ ks = true
    exact fitE0 h
  · show fitB ⟨#[]⟩ ks = true
    exact fitE0 h
  · show fitB ⟨#[101]⟩ ks = true
    exact fitE1 h
  · show fitB ⟨#[101, 101]⟩ ks = true
    exact fitE2 h
  · show fitB ⟨#[101]⟩ ks = true
    exact fitE1 h
  · show fitB ⟨#[101, 101]⟩ ks = true
    exact fitE2 h
  · show fitB ⟨#[42, 101]⟩ ks = true
    exact fit_star (x := 101) (by decide) fun k hk => has_e ((exprs_facts (show exprsB ks ks.length = true from h)).2 k hk)
  · show fitB ⟨#[]⟩ ks = true
    exact fitE0 h
  · show fitB ⟨#[101]⟩ ks = true
    exact fitE1 h
  · show fitB ⟨#[101]⟩ ks = true
    exact fitE1 h
  · show fitB ⟨#[]⟩ ks = true
    exact fitE0 h
  · show fitB ⟨#[101]⟩ ks = true
    exact fitE1 h
  · show fitB ⟨#[]⟩ ks = true
    exact fitE0 h
  · show fitB ⟨#[101]⟩ ks = true
    exact fitE1 h
  · show fitB ⟨#[]⟩ ks = true
    exact fitE0 h
end Go.Idl
end

section
namespace Go.Idl
variable {T : Tbl}
def sgnS : ByteArray := ⟨#[45, 33, 126]⟩
def opsS : ByteArray := ⟨#[32, 43, 32, 45, 32, 42, 32, 47, 32, 37, 32, 60, 60, 32, 62, 62, 32, 38, 32, 94, 32, 124, 32, 61, 61, 32, 33, 61, 32, 60, 32, 60, 61, 32]⟩
def conP (s t : ByteArray) : Bool := (decide (s = sgnS) && sgnB t) || (decide (s = opsS) && opsL.any fun w => decide (t = ⟨#[32]⟩ ++ w ++ ⟨#[32]⟩))
structure SaysFns (T : Tbl) : Prop where
  says : T.fn 23 = some C23
  Name : T.fn 38 = some C38
  classes : ∀ (h : Heap) (K : Out → Heap → Prop), K (.ret clsV) h → Wk T (.fn 30) [] h K
  peek : T.fn 51 = some C51
  goes : T.fn 52 = some C52
  word : T.fn 53 = some C53
  reserved : T.fn 62 = some C62
  Number : T.fn 39 = some C39
  worth : T.fn 58 = some C58
  con : ∀ (s t : ByteArray) (h : Heap) (K : Out → Heap → Prop), conP s t = true → K (.ret (.bool true)) h → Wk T (.fn 40) [.string s, .string t] h K
theorem sgn_size {s : ByteArray} (h : sgnB s = true) : s.size = 1 := by
  simp only [sgnB, Bool.or_eq_true, decide_eq_true_eq] at h
  rcases h with (h | h) | h <;> subst h <;> rfl
theorem op_facts {s : ByteArray} (h : opB s = true) : decide (s = ⟨#[]⟩) = false ∧ s.size ≤ 2 ∧ (opsL.any fun w => decide (⟨#[32]⟩ ++ s ++ ⟨#[32]⟩ = (⟨#[32]⟩ ++ w ++ ⟨#[32]⟩ : ByteArray))) = true := by
  obtain ⟨w, hw, h1⟩ := List.any_eq_true.1 h
  have h1 := of_decide_eq_true h1
  subst h1
  refine ⟨?_, ?_, List.any_eq_true.2 ⟨s, hw, decide_eq_true rfl⟩⟩
  · exact decide_eq_false fun e => by
      have : ∀ w ∈ opsL, w.size ≠ 0 := by decide
      exact this s hw (by rw [e]; rfl)
  · have : ∀ w ∈ opsL, w.size ≤ 2 := by decide
    exact this s hw
theorem dig_facts {s : ByteArray} {c : UInt8} (hc : (bs s)[0]? = some c) (h : digB s = true) : (numR (bs s)).2 = true ∧ (decide (s = ⟨#[48]⟩) = true ∨ ((49 : Int) ≤ ((c.toNat : Nat) : Int) ∧ ((c.toNat : Nat) : Int) ≤ 57)) := by
  rw [digB, bt_at hc] at h
  simp only [Bool.and_eq_true, Bool.or_eq_true, decide_eq_true_eq, Bool.not_eq_true', beq_eq_false_iff_ne] at h
  obtain ⟨⟨⟨h1, h2⟩, h3⟩, h4⟩ := h
  refine ⟨h1, ?_⟩
  by_cases h48 : ((c.toNat : Nat) : Int) = 48
  · left
    rcases h4 with h4 | h4
    · refine decide_eq_true (bs_inj ?_)
      have hl : (bs s).length = 1 := by rw [← bs_size]; exact h4
      match hb : bs s, hl, hc with
      | [x], _, hx =>
        simp at hx
        subst hx
        have : x = 48 := UInt8.toNat_inj.1 (by simp; omega)
        rw [this]; rfl
    · exact absurd h48 h4
  · right; omega
theorem says_ok (F : SaysFns T) {x : Nd} {h : Heap} (hs : x.text.size < 4611686018427387904) (ht : textB x.kind x.text = true) : Wk T (.fn 23) [.agg x.cells.toArray] h (fun o h' => Kept h h' ∧ o = .ret (.bool true)) := by
  refine Wk_fn F.says (by simp [C23]) ?_
  simp only [C23]
  refine Wc_seq (Wc_ops (Wo_box (cs := x.cells) rfl fun h1 n1 => (Wo_run (fun call => by simp only [go_sem, seval]; rfl) ?_)))
  show Wc T _ _ _
  have fin : ∀ (e : Env) (h2 : Heap) (x' : Ex), Kept h1 h2 → (x' = .normal ∨ x' = .ret) → e 2 = .bool true → (x' = .normal ∨ x' = .ret) ∧ some ([] : List Dfr) = some [] ∧ ∃ vs, resAll e h2 [.tmp 2] = some vs ∧ Kept h h2 ∧ Out.ret (tup vs) = .ret (.bool true) := fun e h2 x' hk hx h4 =>
    ⟨hx, rfl, [.bool true], by simp only [resAll, resV, h4], n1.kept.trans hk, rfl⟩
  have hg := n1.get
  refine Wc_seq (Wc_seq (Wc_ops (Wo_run (fun call => by simp only [go_sem, seval, hg, Nd.cells]; rfl) ?_)))
  show Wc T _ _ _
  refine Wc_block ?_
  refine Wc_mid (fun s' => s'.d = some [] ∧ s'.h = h1 ∧ s'.e 1 = ptr h.next 0 ∧ s'.e 6 = .int .i64 x.kind ∧ s'.e 7 = .bool (mem7 x.kind)) ?_ ?_
  · clear fin
    refine Wc_case (by first | rfl | assumption) (fun y => Wc_skip ⟨rfl, rfl, (by first | rfl | assumption), (by first | rfl | assumption), by simp only [upd, dstUpd, reduceIte, Nat.reduceEqDiff, mem7, y, true_or, or_true, decide_true]; try rfl⟩) (fun m0 => ?_)
    refine Wc_case (by first | rfl | assumption) (fun y => Wc_skip ⟨rfl, rfl, (by first | rfl | assumption), (by first | rfl | assumption), by simp only [upd, dstUpd, reduceIte, Nat.reduceEqDiff, mem7, y, true_or, or_true, decide_true]; try rfl⟩) (fun m1 => ?_)
    refine Wc_case (by first | rfl | assumption) (fun y => Wc_skip ⟨rfl, rfl, (by first | rfl | assumption), (by first | rfl | assumption), by simp only [upd, dstUpd, reduceIte, Nat.reduceEqDiff, mem7, y, true_or, or_true, decide_true]; try rfl⟩) (fun m2 => ?_)
    refine Wc_case (by first | rfl | assumption) (fun y => Wc_skip ⟨rfl, rfl, (by first | rfl | assumption), (by first | rfl | assumption), by simp only [upd, dstUpd, reduceIte, Nat.reduceEqDiff, mem7, y, true_or, or_true, decide_true]; try rfl⟩) (fun m3 => ?_)
    refine Wc_case (by first | rfl | assumption) (fun y => Wc_skip ⟨rfl, rfl, (by first | rfl | assumption), (by first | rfl | assumption), by simp only [upd, dstUpd, reduceIte, Nat.reduceEqDiff, mem7, y, true_or, or_true, decide_true]; try rfl⟩) (fun m4 => ?_)
    refine Wc_case (by first | rfl | assumption) (fun y => Wc_skip ⟨rfl, rfl, (by first | rfl | assumption), (by first | rfl | assumption), by simp only [upd, dstUpd, reduceIte, Nat.reduceEqDiff, mem7, y, true_or, or_true, decide_true]; try rfl⟩) (fun m5 => ?_)
    refine Wc_ops (Wo_run (fun call => by simp only [go_sem, seval]; rfl) ?_)
    exact ⟨rfl, rfl, (by first | rfl | assumption), (by first | rfl | assumption), by simp only [upd, dstUpd, reduceIte, Nat.reduceEqDiff, Bool.beq_eq_decide_eq, mem7, m0, m1, m2, m3, m4, m5, false_or]⟩
  rintro ⟨e, h', d⟩ ⟨hd', hh, g1, g6, g7⟩
  simp only at hd' hh g1 g6 g7
  rw [hd', hh]
  have pg : ptr h.next 0 = .pointer (some ⟨h.next, 0, none⟩) := rfl
  rw [pg] at g1
  refine Wc_cond _ g7 (fun y => ?_) (fun n7 => ?_)
  · rw [textB, if_pos y] at ht
    refine Wc_seq (Wc_ops (Wo_pre 2 (fun call => by simp only [go_sem, seval, g1, hg, Nd.cells]; rfl) ?_))
    refine Wo_call (Wk_kept (nameS_ok F.Name F.classes F.peek F.goes F.word F.reserved (s := x.text) hs) fun h2 k2 => ?_)
    refine (Wo_run (fun call => by simp only [go_sem, seval, ht]; rfl) ?_)
    exact Wc_ret (fin _ _ _ k2 (.inr rfl) (by first | rfl | assumption))
  have n7' : ¬ mem7 x.kind = true := by rw [n7]; decide
  rw [textB, if_neg n7'] at ht
  refine Wc_case g6 (fun y15 => ?_) (fun n15 => ?_)
  · rw [if_pos y15] at ht
    refine Wc_seq (Wc_ops (Wo_pre 2 (fun call => by simp only [go_sem, seval, g1, hg, Nd.cells]; rfl) ?_))
    refine Wo_call (Wk_pure (numberS_ok F.Number F.worth (s := x.text) (by omega)) ?_)
    refine (Wo_run (fun call => by simp only [go_sem, seval, numV]; rfl) ?_)
    show Wc T _ _ _
    have hnum : (numR (bs x.text)).2 = true := by
      rw [digB] at ht
      simp only [Bool.and_eq_true] at ht
      exact ht.1.1.1
    have h0 := num_ne hnum
    obtain ⟨c, hc⟩ := bs_at h0
    have s0 : x.text.data.toList[0]? = some c := hc
    have i0 := idx0 (k := .i64) h0
    obtain ⟨_, hz | ⟨x0, x1⟩⟩ := dig_facts hc ht
    · refine Wc_seq (Wc_ops (Wo_run (fun call => by simp only [go_sem, seval, hnum, g1, hg, Nd.cells, hz]; rfl) ?_))
      exact Wc_ret (fin _ _ _ (.refl _) (.inr rfl) (by first | rfl | assumption))
    · cases hz : decide (x.text = ⟨#[48]⟩)
      · refine Wc_seq (Wc_ops (Wo_run (fun call => by simp only [go_sem, seval, hnum, g1, hg, Nd.cells, hz, i0, s0, x0, x1]; rfl) ?_))
        exact Wc_ret (fin _ _ _ (.refl _) (.inr rfl) (by first | rfl | assumption))
      · refine Wc_seq (Wc_ops (Wo_run (fun call => by simp only [go_sem, seval, hnum, g1, hg, Nd.cells, hz]; rfl) ?_))
        exact Wc_ret (fin _ _ _ (.refl _) (.inr rfl) (by first | rfl | assumption))
  rw [if_neg n15] at ht
  refine Wc_case (by simp only [go_sem, seval, g6] <;> first | rfl | assumption | (symm; assumption)) (fun y18 => ?_) (fun n18 => ?_)
  · rw [if_pos y18] at ht
    have hsz := sgn_size ht
    refine Wc_seq (Wc_ops (Wo_pre 7 (fun call => by simp only [go_sem, seval, g1, hg, Nd.cells, hsz, show ((1 : Nat) : Int) = 1 from rfl]; rfl) ?_))
    refine Wo_take (by simp only [upd, dstUpd, reduceIte, Nat.reduceEqDiff, gval_bool]; rfl) (Wo_call (F.con _ _ _ _ ?_ ?_))
    · simp only [conP, ht, sgnS, decide_true, Bool.and_self, Bool.true_or]
    refine (Wo_run (fun call => by simp only [go_sem, seval]; rfl) ?_)
    exact Wc_ret (fin _ _ _ (.refl _) (.inr rfl) (by first | rfl | assumption))
  rw [if_neg n18] at ht
  refine Wc_case (by simp only [go_sem, seval, g6] <;> first | rfl | assumption | (symm; assumption)) (fun y19 => ?_) (fun n19 => Wc_skip ?_)
  · rw [if_pos y19] at ht
    obtain ⟨o1, o2, o3⟩ := op_facts ht
    have z1 : (⟨#[32]⟩ : ByteArray).size + x.text.size ≤ 9223372036854775807 := by
      have : (⟨#[32]⟩ : ByteArray).size = 1 := rfl
      omega
    have z2 : ((⟨#[32]⟩ : ByteArray) ++ x.text).size + (⟨#[32]⟩ : ByteArray).size ≤ 9223372036854775807 := by
      have : (⟨#[32]⟩ : ByteArray).size = 1 := rfl
      rw [ByteArray.size_append]
      omega
    refine Wc_seq (Wc_ops (Wo_pre 8 (fun call => by simp only [go_sem, seval, g1, hg, Nd.cells, o1, z1, z2]; rfl) ?_))
    refine Wo_take (by simp only [upd, dstUpd, reduceIte, Nat.reduceEqDiff, gval_bool]; rfl) (Wo_call (F.con _ _ _ _ ?_ ?_))
    · simp only [conP, o3, opsS, decide_true, Bool.and_self, Bool.or_true]
    refine (Wo_run (fun call => by simp only [go_sem, seval]; rfl) ?_)
    exact Wc_ret (fin _ _ _ (.refl _) (.inr rfl) (by first | rfl | assumption))
  rw [if_neg n19] at ht
  show Wc T _ _ _
  refine Wc_seq (Wc_ops (Wo_run (fun call => by simp only [go_sem, seval, g1, hg, Nd.cells, ht]; rfl) ?_))
  exact Wc_ret (fin _ _ _ (.refl _) (.inr rfl) (by first | rfl | assumption))
end Go.Idl
end

section
namespace Go.Idl
variable {T : Tbl}
def mapStep (p : Int × ByteArray) : Step := ⟨none, .op (.mapset (.one (.int .i64)) (.t 1) (.c (.int .i64 p.1)) (.c (.string p.2))), none⟩
def mapIn (es : List (Value × Value)) (p : Int × ByteArray) : List (Value × Value) := setK [.int .i64 p.1] (.int .i64 p.1) (.string p.2) es
def wantM : List (Value × Value) := wantL.foldl mapIn []
theorem Wo_maps {rest : List Step} {e : Env} {d : Option (List Dfr)} {Q : Option Value → St → Prop} {m : Nat} (he : e 1 = .map (some m)) : ∀ (ps : List (Int × ByteArray)) {h : Heap} {es : List (Value × Value)}, h.get m = some (.map (.one (.int .i64)) es) →
    (∀ h', KeptBut m h h' → h'.next = h.next → h'.get m = some (.map (.one (.int .i64)) (ps.foldl mapIn es)) → Wo T rest ⟨e, h', d⟩ Q) → Wo T (ps.map mapStep ++ rest) ⟨e, h, d⟩ Q
  | [], h, es, hm, k => k h (.refl _ _) rfl hm
  | p :: ps, h, es, hm, k => by
    rw [List.map_cons, List.cons_append]
    refine Wo_op (v := undef) (h' := h.set m (.map (.one (.int .i64)) (mapIn es p))) ?_ ?_
    · simp only [iop, ev, he, hm, keyOf, fit1, beq_self_eq_true, if_true]; rfl
    · refine Wo_maps he ps (set_get' _ _ _) fun h' k1 k2 k3 => k h' (((KeptBut.refl m h).set _ (.inl rfl)).trans k1) k2 k3
theorem wants_ok (hT : T.fn 22 = some C22) {h : Heap} : Wk T (.fn 22) [] h (fun o h' => Kept h h' ∧ ∃ m, h.next ≤ m ∧ m < h'.next ∧ o = .ret (.map (some m)) ∧ h'.get m = some (.map (.one (.int .i64)) wantM)) := by
  refine Wk_fn hT (by simp [C22]) ?_
  simp only [C22]
  refine Wc_seq (Wc_ops (Wo_run (fun call => by simp only [go_sem, seval]; rfl) ?_))
  show Wc T _ _ _
  refine Wc_seq (Wc_ops (Wo_new (v := .map (some h.next)) (B := .map (.one (.int .i64)) []) rfl fun h1 n1 => ?_))
  refine Wo_maps (m := h.next) (by simp only [upd, dstUpd, reduceIte, Nat.reduceEqDiff]) wantL n1.get (rest := [⟨(some 2), .op (.mov (.t 1)), none⟩, ⟨(some 0), .op (.mov (.t 2)), none⟩]) fun h' k1 k2 k3 => ?_
  refine (Wo_run (fun call => by simp only [go_sem, seval]; rfl) ?_)
  refine Wc_ret ⟨.inr rfl, rfl, [.map (some h.next)], by simp only [resAll, resV, upd, dstUpd, reduceIte, Nat.reduceEqDiff], n1.kept.of_but k1 (Nat.le_refl _), h.next, Nat.le_refl _, ?_, rfl, k3⟩
  show h.next < h'.next
  rw [k2, n1.next]; exact Nat.lt_succ_self _
theorem want_all : ((List.range 30).all fun n => match findK [.int .i64 ((n : Int) + 1)] wantM with | some (.string s) => decide (s = wantOf ((n : Int) + 1)) && s.size ≤ 3000 && s.data.toList.all fun b => b.toNat < 128 | _ => false) = true := by kernel_rfl
theorem want_at {k : Int} (h1 : 1 ≤ k) (h2 : k ≤ 30) : findK [.int .i64 k] wantM = some (.string (wantOf k)) ∧ (wantOf k).size ≤ 3000 ∧ Asc (wantOf k) := by
  obtain ⟨n, rfl⟩ : ∃ n : Nat, k = (n : Int) + 1 := ⟨(k - 1).toNat, by omega⟩
  have := List.all_eq_true.1 want_all n (List.mem_range.2 (by omega))
  split at this
  · rename_i s hs
    simp only [Bool.and_eq_true, decide_eq_true_eq] at this
    obtain ⟨⟨rfl, h4⟩, h5⟩ := this
    refine ⟨hs, h4, fun b hb => ?_⟩
    have := List.all_eq_true.1 h5 b hb
    exact of_decide_eq_true this
  · cases this
def momL (n : Nat) (S : List Int) (ms : List Int) : Prop := ms.length = n ∧ ∀ k, k < n → ∃ m : Int, ms[k]? = some m ∧ 0 ≤ m ∧ (m = 0 ↔ (k : Int) ∉ S)
theorem momL_nil (n : Nat) : momL n [] (List.replicate n 0) := ⟨List.length_replicate .., fun k hk => ⟨0, by rw [List.getElem?_replicate, if_pos hk], Int.le_refl _, by simp⟩⟩
theorem momL_set {n : Nat} {S ms : List Int} (h : momL n S ms) {k : Nat} (hk : k < n) {v : Int} (hv : 0 < v) : momL n (S ++ [(k : Int)]) (ms.set k v) := by
  refine ⟨by rw [List.length_set]; exact h.1, fun i hi => ?_⟩
  rw [List.getElem?_set, h.1]
  by_cases e : k = i
  · subst e
    rw [if_pos rfl, if_pos hk]
    exact ⟨v, rfl, by omega, by simp; omega⟩
  · rw [if_neg e]
    obtain ⟨m, h1, h2, h3⟩ := h.2 i hi
    refine ⟨m, h1, h2, ?_⟩
    rw [h3, List.mem_append, List.mem_singleton]
    constructor
    · rintro h (h' | h')
      · exact h h'
      · exact e (by omega)
    · exact fun h h' => h (.inl h')
theorem ints64_set (ms : List Int) (k : Nat) (v : Int) : (ints64 ms).set k (.int .i64 v) = ints64 (ms.set k v) := by simp [ints64, List.map_set]
theorem repI (n : Nat) : (List.replicate n [Value.int .i64 0]).flatten = ints64 (List.replicate n 0) := by
  have : (List.replicate n [Value.int .i64 0]).flatten = List.replicate n (.int .i64 0) := by induction n with | zero => rfl | succ n ih => rw [List.replicate_succ, List.flatten_cons, ih, List.replicate_succ]; rfl
  rw [this, ints64, List.map_replicate]
structure ChkFns (T : Tbl) : Prop where
  check : T.fn 13 = some C13
  wants : T.fn 22 = some C22
  deep : T.fn 21 = some C21
  says : SaysFns T
  fits : FitFns T
theorem check_ok (F : ChkFns T) {h : Heap} {v : Value} {l : List Nd} (hn : nodesAt h v l) (hN : l.length ≤ 50000) (hK : ∀ x ∈ l, x.kids.length ≤ 100000) (hS : ∀ x ∈ l, x.text.size < 4611686018427387904) (g : GoodT l) :
    Wk T (.fn 13) [v] h (fun o h' => Kept h h' ∧ o = .ret (.tuple #[.int .i64 0, .int .i64 0])) := by
  obtain ⟨va, vc, hvl⟩ := hn.len
  refine Wk_fn F.check (by simp [C13]) ?_
  simp only [C13]
  refine Wc_seq (Wc_ops (Wo_run (fun call => by simp only [go_sem, seval]; rfl) ?_))
  show Wc T _ _ _
  have z1 : ¬ ((50000 : Int) < ((l.length : Nat) : Int)) := by omega
  refine Wc_seq (Wc_seq (Wc_ops (Wo_run (fun call => by simp only [go_sem, seval, hvl, z1]; rfl) ?_)))
  show Wc T _ _ _
  refine Wc_cond false (by first | rfl | assumption) (fun e => by cases e) (fun _ => Wc_skip ?_)
  show Wc T _ _ _
  refine Wc_seq (Wc_ops (Wo_call ((wants_ok F.wants).mono ?_)))
  rintro o h1 ⟨k1, M, hM0, hM, rfl, hMg⟩
  show Wo T _ _ _
  refine (Wo_run (fun call => by simp only [go_sem, seval]; rfl) ?_)
  show Wc T _ _ _
  refine Wc_seq (Wc_ops (Wo_pre 2 (fun call => by simp only [go_sem, seval, hvl]; rfl) ?_))
  refine Wo_new (v := .slice (some ⟨h1.next, 0, none⟩) l.length l.length) (B := .cells (ints64 (List.replicate l.length 0)) true 1) ?_ fun h2 n2 => ?_
  · simp only [iop, ev, upd, dstUpd, reduceIte, Nat.reduceEqDiff, Int.toNat_natCast]
    rw [if_pos (by omega), repI]
  refine (Wo_run (fun call => by simp only [go_sem, seval]; rfl) ?_)
  show Wc T _ _ _
  have hMg2 : h2.get M = some (.map (.one (.int .i64)) wantM) := by rw [n2.kept.get _ hM]; exact hMg
  have hM2 : M < h1.next := hM
  have hkept : ∀ h', KeptBut h1.next h2 h' → Kept h h' := fun h' kb => (k1.trans n2.kept).of_but kb k1.next
  have hmap : ∀ h', KeptBut h1.next h2 h' → h'.get M = some (.map (.one (.int .i64)) wantM) := fun h' kb => by rw [kb.get _ (by have := n2.next; omega) (by omega)]; exact hMg2
  have hB : h1.next < h2.next := by rw [n2.next]; exact Nat.lt_succ_self _
  refine Wc_mid (fun s' => s'.d = some [] ∧ KeptBut h1.next h2 s'.h ∧ (∃ ms, s'.h.get h1.next = some (.cells (ints64 ms) true 1) ∧ momL l.length (kidsUp l l.length) ms) ∧ s'.e 0 = v ∧ s'.e 5 = .slice (some ⟨h1.next, 0, none⟩) l.length l.length) ?_ ?_
  · refine Wc_seq (Wc_ops (Wo_run (fun call => by simp only [go_sem, seval, hvl]; rfl) ?_))
    show Wc T _ _ _
    refine Wc_range l.length (fun j e h' d => d = some [] ∧ KeptBut h1.next h2 h' ∧ (∃ ms, h'.get h1.next = some (.cells (ints64 ms) true 1) ∧ momL l.length (kidsUp l j) ms)) (by decide) (by first | rfl | assumption) (by first | rfl | assumption) (by omega) (by decide) ?_ ?_ ?_
    · exact ⟨rfl, .refl _ _, _, n2.get, momL_nil _⟩
    · rintro j e h' d hj ⟨rfl, hkb, ms, hu, hms⟩ hfr h24 h23
      obtain ⟨x, hx⟩ : ∃ x, l[j]? = some x := ⟨_, List.getElem?_eq_getElem hj⟩
      have hxm := List.mem_of_getElem? hx
      have hk : Kept h h' := hkept _ hkb
      have ok := g.ok j x hx
      obtain ⟨b, c, o, z, hvb, hb, hg, hcs⟩ := (hn.keep hk).load4 hx
      have e22 : e 22 = v := ((hfr 22 (by decide)).trans (by first | rfl | assumption | (symm; assumption)))
      have e0 : e 0 = v := ((hfr 0 (by decide)).trans (by first | rfl | assumption | (symm; assumption)))
      have e4 : e 4 = .map (some M) := ((hfr 4 (by decide)).trans (by first | rfl | assumption | (symm; assumption)))
      have e5 : e 5 = .slice (some ⟨h1.next, 0, none⟩) l.length l.length := ((hfr 5 (by decide)).trans (by first | rfl | assumption | (symm; assumption)))
      refine Wc_seq (Wc_ops (Wo_pre 5 (fun call => by simp only [go_sem, seval, h24, e22, hvb, idx_ok hj, hcs]; rfl) ?_))
      refine Wo_store_new (cs := x.cells) (h := h') (by first | rfl | assumption) (by first | rfl | assumption) rfl rfl fun h3 n3 => Wo_nil ?_
      show Wc T _ _ _
      have hk3 : KeptBut h1.next h2 h3 := hkb.kept n3.kept
      have hu3 : h3.get h1.next = some (.cells (ints64 ms) true 1) := by rw [n3.kept.get _ (by have := hkb.next; omega)]; exact hu
      have hm3 := hmap _ hk3
      have hki : intsAt h x.kv x.kids := hn.2 x hxm
      have hkl := hK x hxm
      obtain ⟨ka, kc, hkv⟩ := hki.len
      obtain ⟨w1, w2, w3⟩ := want_at ok.kind.1 ok.kind.2
      have hB3 : h1.next < h3.next := by have := hkb.next; have := n3.kept.next; omega
      have h7lt : h'.next < h3.next := by rw [n3.next]; exact Nat.lt_succ_self _
      have h7ne : h'.next ≠ h1.next := by have := hkb.next; omega
      refine Wc_seq (Wc_ops (Wo_pre 3 (fun call => by simp only [go_sem, seval, n3.get, Nd.cells, e4]; rfl) ?_))
      refine Wo_op (v := .tuple #[.string (wantOf x.kind), .bool true]) (h' := h3) (by simp only [iop, ev, upd, dstUpd, reduceIte, Nat.reduceEqDiff, hm3, keyOf, fit1, beq_self_eq_true, if_true, w1]) ?_
      refine (Wo_run (fun call => by simp only [go_sem, seval]; rfl) ?_)
      show Wc T _ _ _
      have p0 : ¬ x.pos < 0 := by have := ok.pos; omega
      refine Wc_seq (Wc_seq (Wc_ops (Wo_run (fun call => by simp only [go_sem, seval, n3.get, Nd.cells, p0]; rfl) ?_)))
      show Wc T _ _ _
      refine Wc_cond false (by first | rfl | assumption) (fun e => by cases e) (fun _ => Wc_skip ?_)
      show Wc T _ _ _
      refine Wc_mid (fun s' => s'.d = some [] ∧ KeptBut h1.next h3 s'.h ∧ (∃ ms, s'.h.get h1.next = some (.cells (ints64 ms) true 1) ∧ momL l.length (kidsUp l (j + 1)) ms) ∧ s'.e 0 = v ∧ s'.e 7 = ptr h'.next 0 ∧ s'.e 8 = .string (wantOf x.kind)) ?_ ?_
      · rw [kidsUp_succ hx]
        refine Wc_seq (Wc_ops (Wo_run (fun call => by simp only [go_sem, seval, n3.get, Nd.cells, hkv]; rfl) ?_))
        show Wc T _ _ _
        refine Wc_range x.kids.length (fun m e h4 d => d = some [] ∧ KeptBut h1.next h3 h4 ∧ (∃ ms, h4.get h1.next = some (.cells (ints64 ms) true 1) ∧ momL l.length (kidsUp l j ++ x.kids.take m) ms)) (by decide) (by first | rfl | assumption) (by first | rfl | assumption) (by omega) (by decide) ?_ ?_ ?_
        · exact ⟨rfl, .refl _ _, ms, hu3, by rw [List.take_zero, List.append_nil]; exact hms⟩
        · rintro m e3 h4 d hm ⟨rfl, hkb4, ms4, hu4, hms4⟩ hfr h47 h46
          obtain ⟨k, hkm⟩ : ∃ k, x.kids[m]? = some k := ⟨_, List.getElem?_eq_getElem hm⟩
          have hkmem := List.mem_of_getElem? hkm
          have htake : x.kids.take (m + 1) = x.kids.take m ++ [k] := by rw [List.take_add_one, hkm]; rfl
          obtain ⟨k0, kj⟩ := ok.kids k hkmem
          have hk4 : Kept h h4 := hkept _ (hk3.trans hkb4)
          obtain ⟨bk, ck, hkvb, hbk, ⟨ok', zk, hgk⟩, hcell⟩ := (hki.keep hk4).load hkm
          rw [Nat.zero_add] at hcell
          have e45 : e3 45 = x.kv := ((hfr 45 (by decide)).trans (by first | rfl | assumption | (symm; assumption)))
          have e6 : e3 6 = .int .i64 j := ((hfr 6 (by decide)).trans (by first | rfl | assumption | (symm; assumption)))
          have e5' : e3 5 = .slice (some ⟨h1.next, 0, none⟩) l.length l.length := ((hfr 5 (by decide)).trans (by first | rfl | assumption | (symm; assumption)))
          refine Wc_seq (Wc_ops (Wo_run (fun call => by simp only [go_sem, seval, h47, e45, hkvb, idx_ok hm, hgk, hcell]; rfl) ?_))
          show Wc T _ _ _
          obtain ⟨kk, rfl⟩ : ∃ kk : Nat, k = kk := ⟨k.toNat, by omega⟩
          have hkk : kk < l.length := by omega
          have hnew : (kk : Int) ∉ kidsUp l j ++ x.kids.take m := by
            have hnd : (kidsUp l (j + 1)).Nodup := g.nodup.sublist (kidsUp_sub (by omega))
            rw [kidsUp_succ hx] at hnd
            have hsub : (kidsUp l j ++ x.kids.take (m + 1)).Nodup := hnd.sublist (List.Sublist.append (List.Sublist.refl _) (List.take_sublist _ _))
            rw [htake, ← List.append_assoc] at hsub
            exact fun hm => (List.nodup_append.1 hsub).2.2 _ hm _ (List.mem_singleton.2 rfl) rfl
          obtain ⟨m0, hm0, _, hm1⟩ := hms4.2 kk hkk
          have hm00 : m0 = 0 := hm1.2 hnew
          subst hm00
          have hcm : (ints64 ms4)[kk * 1]? = some (.int .i64 0) := by rw [Nat.mul_one]; exact ints64_get hm0
          have k0' : ¬ ((kk : Nat) : Int) < 0 := by omega
          have kj' : ¬ ((j : Nat) : Int) ≤ ((kk : Nat) : Int) := by omega
          refine Wc_seq (Wc_seq (Wc_ops (Wo_run (fun call => by simp only [go_sem, seval, e6, e5', k0', kj', idx_ok hkk, hu4, hcm]; rfl) ?_)))
          show Wc T _ _ _
          refine Wc_cond false (by first | rfl | assumption) (fun e => by cases e) (fun _ => Wc_skip ?_)
          show Wc T _ _ _
          have ew : IntKind.i64.wrap (((j : Nat) : Int) + 1) = ((j : Nat) : Int) + 1 := wrap64 (by omega) (by omega)
          refine Wc_ops (Wo_pre 5 (fun call => by simp only [go_sem, seval, e6, e5', idx_ok hkk, ew]; rfl) ?_)
          refine Wo_op (iop_store_at (k := kk * 1) (v := .int .i64 (((j : Nat) : Int) + 1)) (by first | rfl | assumption) (by simp only [ev, upd, dstUpd, reduceIte, Nat.reduceEqDiff]; rfl) hu4 (by rw [ints64_length, hms4.1]; omega)) (Wo_nil ?_)
          rw [Nat.mul_one, ints64_set]
          refine ⟨rfl, hkb4.set _ (.inl rfl), _, set_get' _ _ _, ?_⟩
          rw [htake, ← List.append_assoc]
          rw [Nat.mul_one]
          exact momL_set (v := ((j : Nat) : Int) + 1) hms4 hkk (by omega)
        · rintro e3 h4 d ⟨rfl, hkb4, hex⟩ hfr h47
          rw [List.take_length] at hex
          have e0' : e3 0 = v := ((hfr 0 (by decide)).trans (by first | rfl | assumption | (symm; assumption)))
          have e7 : e3 7 = ptr h'.next 0 := ((hfr 7 (by decide)).trans (by first | rfl | assumption | (symm; assumption)))
          have e8 : e3 8 = .string (wantOf x.kind) := ((hfr 8 (by decide)).trans (by first | rfl | assumption | (symm; assumption)))
          exact ⟨rfl, hkb4, hex, (by simp only [go_sem, seval, e0'] <;> first | rfl | assumption | (symm; assumption)), by simp only [upd, dstUpd, reduceIte, Nat.reduceEqDiff]; exact e7, (by simp only [go_sem, seval, e8] <;> first | rfl | assumption | (symm; assumption))⟩
      rintro ⟨e3, h4, d3⟩ ⟨hd3, hkb4, hex, e0', e7, e8⟩
      simp only at hd3 hkb4 hex e0' e7 e8
      rw [hd3]
      have hk4 : KeptBut h1.next h2 h4 := hk3.trans hkb4
      have hgx : h4.get h'.next = some (.cells x.cells true 0) := by rw [hkb4.get _ h7lt h7ne]; exact n3.get
      have pg : ptr h'.next 0 = .pointer (some ⟨h'.next, 0, none⟩) := rfl
      rw [pg] at e7
      have hcx : h4.cells h'.next 0 4 = some x.cells := cells_all hgx rfl
      refine Wc_block (Wc_seq (Wc_ops (Wo_pre 1 (fun call => by simp only [go_sem, seval, e7, hcx]; rfl) ?_)))
      refine Wo_call (Wk_kept (says_ok F.says (x := x) (hS x hxm) ok.text) fun h5 k5 => ?_)
      refine (Wo_run (fun call => by simp only [go_sem, seval]; rfl) ?_)
      show Wc T _ _ _
      refine Wc_cond false (by first | rfl | assumption) (fun e => by cases e) (fun _ => ?_)
      have hk5 : KeptBut h1.next h2 h5 := hk4.kept k5
      have hgx5 : h5.get h'.next = some (.cells x.cells true 0) := by rw [k5.get _ (by have := hkb4.next; omega)]; exact hgx
      refine Wc_seq (Wc_ops (Wo_pre 4 (fun call => by simp only [go_sem, seval, e0', e7, hgx5, Nd.cells, e8]; rfl) ?_))
      refine Wo_call (Wk_kept (fits_ok F.fits (hn.keep (hkept _ hk5)) (hki.keep (hkept _ hk5)) (fun k hk => ⟨(ok.kids k hk).1, by have := (ok.kids k hk).2; omega⟩) hkl w3 w2) fun h6 k6 => ?_)
      rw [fit_of_shape ok.kind.1 ok.kind.2 ok.shape]
      refine (Wo_run (fun call => by simp only [go_sem, seval]; rfl) ?_)
      show Wc T _ _ _
      refine Wc_cond false (by first | rfl | assumption) (fun e => by cases e) (fun _ => Wc_skip ?_)
      obtain ⟨ms', hu', hms'⟩ := hex
      refine ⟨rfl, hk5.kept k6, ms', ?_, hms'⟩
      show h6.get h1.next = _
      rw [k6.get _ (by have := hk5.next; omega), k5.get _ (by have := hk4.next; omega)]; exact hu'
    · rintro e h' d ⟨rfl, hkb, hex⟩ hfr h24
      have e0 : e 0 = v := ((hfr 0 (by decide)).trans (by first | rfl | assumption | (symm; assumption)))
      have e5 : e 5 = .slice (some ⟨h1.next, 0, none⟩) l.length l.length := ((hfr 5 (by decide)).trans (by first | rfl | assumption | (symm; assumption)))
      exact ⟨rfl, hkb, hex, (by simp only [go_sem, seval, e0] <;> first | rfl | assumption | (symm; assumption)), (by simp only [go_sem, seval, e5] <;> first | rfl | assumption | (symm; assumption))⟩
  rintro ⟨e, h3, d⟩ ⟨hd, hkb, ⟨ms, hu, hms⟩, e0, e5⟩
  simp only at hd hkb hu e0 e5
  rw [hd]
  have hne := g.ne
  have ew : IntKind.i64.wrap (((l.length : Nat) : Int) - 1) = ((l.length : Nat) : Int) - 1 := wrap64 (by omega) (by omega)
  refine Wc_seq (Wc_ops (Wo_run (fun call => by simp only [go_sem, seval, e0, hvl, ew]; rfl) ?_))
  show Wc T _ _ _
  refine Wc_mid (fun s' => s'.d = some [] ∧ KeptBut h1.next h2 s'.h ∧ s'.e 0 = v ∧ s'.e 12 = .int .i64 (((l.length : Nat) : Int) - 1)) ?_ ?_
  · refine Wc_seq (Wc_ops (Wo_run (fun call => by simp only [go_sem, seval, e0, hvl]; rfl) ?_))
    show Wc T _ _ _
    refine Wc_range l.length (fun j e h' d => d = some [] ∧ KeptBut h1.next h2 h' ∧ h'.get h1.next = some (.cells (ints64 ms) true 1)) (by decide) (by first | rfl | assumption) (by first | rfl | assumption) (by omega) (by decide) ⟨rfl, hkb, hu⟩ ?_ ?_
    · rintro j e' h' d hj ⟨rfl, hkb2, hu2⟩ hfr h91 h90
      obtain ⟨x, hx⟩ : ∃ x, l[j]? = some x := ⟨_, List.getElem?_eq_getElem hj⟩
      obtain ⟨b, c, o, z', hvb, hb, hg, hcs⟩ := (hn.keep (hkept _ hkb2)).load4 hx
      have e89 : e' 89 = v := ((hfr 89 (by decide)).trans (by first | rfl | assumption | (symm; assumption)))
      have e5' : e' 5 = .slice (some ⟨h1.next, 0, none⟩) l.length l.length := ((hfr 5 (by decide)).trans (by first | rfl | assumption | (symm; assumption)))
      have e12 : e' 12 = .int .i64 (((l.length : Nat) : Int) - 1) := ((hfr 12 (by decide)).trans (by first | rfl | assumption | (symm; assumption)))
      refine Wc_seq (Wc_ops (Wo_pre 5 (fun call => by simp only [go_sem, seval, h91, e89, hvb, idx_ok hj, hcs]; rfl) ?_))
      refine Wo_store_new (cs := x.cells) (h := h') (by first | rfl | assumption) (by first | rfl | assumption) rfl rfl fun h4 n4 => Wo_nil ?_
      show Wc T _ _ _
      have hu4 : h4.get h1.next = some (.cells (ints64 ms) true 1) := by
        rw [n4.kept.get _ (by have := hkb2.next; omega)]; exact hu2
      have hk4 : KeptBut h1.next h2 h4 := hkb2.kept n4.kept
      obtain ⟨m0, hm0, hm1, hm2⟩ := hms.2 j hj
      have hcm : (ints64 ms)[j * 1]? = some (.int .i64 m0) := by rw [Nat.mul_one]; exact ints64_get hm0
      have hq : (((j : Nat) : Int) == ((l.length : Nat) : Int) - 1) = decide (j + 1 = l.length) := by rw [Bool.beq_eq_decide_eq, decide_eq_decide]; omega
      have hp : (x.kind == 1) = decide (x.kind = 1) := Bool.beq_eq_decide_eq _ _
      have hlast := g.last j x hx
      have hroot : j + 1 = l.length → (j : Int) ∉ kidsUp l l.length := fun hj1 hm => by
        simp only [kidsUp, List.take_length, List.mem_flatMap] at hm
        obtain ⟨y, hy, hky⟩ := hm
        obtain ⟨i, hi⟩ := List.getElem?_of_mem hy
        have := ((g.ok i y hi).kids _ hky).2
        have := (List.getElem?_eq_some_iff.1 hi).1
        omega
      cases q : decide (j + 1 = l.length)
      · have q' := of_decide_eq_false q
        have p : decide (x.kind = 1) = false := decide_eq_false fun e => q' (hlast.1 e)
        have hm : (m0 == 0) = false := beq_eq_false_iff_ne.2 fun e => hm2.1 e (g.used j (by omega))
        refine Wc_seq (Wc_ops (Wo_run (fun call => by simp only [go_sem, seval, n4.get, Nd.cells, e5', e12, hp, hq, p, q, bne, idx_ok hj, hu4, hcm, hm]; rfl) ?_))
        show Wc T _ _ _
        refine Wc_cond false (by first | rfl | assumption) (fun e => by cases e) (fun _ => Wc_skip ?_)
        exact ⟨rfl, hk4, hu4⟩
      · have q' := of_decide_eq_true q
        have p : decide (x.kind = 1) = true := decide_eq_true (hlast.2 q')
        have hm : (m0 == 0) = true := beq_iff_eq.2 (hm2.2 (hroot q'))
        refine Wc_seq (Wc_ops (Wo_run (fun call => by simp only [go_sem, seval, n4.get, Nd.cells, e5', e12, hp, hq, p, q, bne, idx_ok hj, hu4, hcm, hm]; rfl) ?_))
        show Wc T _ _ _
        refine Wc_cond false (by first | rfl | assumption) (fun e => by cases e) (fun _ => Wc_skip ?_)
        exact ⟨rfl, hk4, hu4⟩
    · rintro e' h' d ⟨rfl, hkb2, hu2⟩ hfr h91
      have e0' : e' 0 = v := ((hfr 0 (by decide)).trans (by first | rfl | assumption | (symm; assumption)))
      have e12 : e' 12 = .int .i64 (((l.length : Nat) : Int) - 1) := ((hfr 12 (by decide)).trans (by first | rfl | assumption | (symm; assumption)))
      exact ⟨rfl, hkb2, (by simp only [go_sem, seval, e0'] <;> first | rfl | assumption | (symm; assumption)), (by simp only [go_sem, seval, e12] <;> first | rfl | assumption | (symm; assumption))⟩
  rintro ⟨e', h4, d⟩ ⟨hd4, hkb4, e0', e12⟩
  simp only at hd4 hkb4 e0' e12
  rw [hd4]
  have z : ¬ ((l.length : Nat) : Int) - 1 < 0 := by omega
  refine Wc_seq (Wc_block (Wc_seq (Wc_ops (Wo_run (fun call => by simp only [go_sem, seval, e12, z]; rfl) ?_))))
  show Wc T _ _ _
  refine Wc_cond false (by first | rfl | assumption) (fun e => by cases e) (fun _ => ?_)
  refine Wc_seq (Wc_ops (Wo_pre 1 (fun call => by simp only [go_sem, seval, e0']; rfl) ?_))
  refine Wo_call (Wk_kept (deep13 F.deep (hn.keep (hkept _ hkb4)) (by omega) hK) fun h5 k5 => ?_)
  refine (Wo_run (fun call => by simp only [go_sem, seval]; rfl) ?_)
  show Wc T _ _ _
  have hdp := g.deep
  refine Wc_cond false (by simp only [go_sem, seval, decide_eq_false (show ¬ (200 : Int) < ((deepOf l : Nat) : Int) by omega)] <;> first | rfl | assumption | (symm; assumption)) (fun e => by cases e) (fun _ => Wc_skip ?_)
  show Wc T _ _ _
  refine Wc_seq (Wc_ops (Wo_run (fun call => by simp only [go_sem, seval]; rfl) ?_))
  exact Wc_ret ⟨.inr rfl, rfl, [.int .i64 0, .int .i64 0], by simp only [resAll, resV, upd, dstUpd, reduceIte, Nat.reduceEqDiff], (hkept _ hkb4).trans k5, rfl⟩
end Go.Idl
end

section
namespace Go.Idl
def kidsAtN (l : List Nd) (p : Nat) : List Int := (l[p]?.map (·.kids)).getD []
def restK (l : List Nd) (told : List Int) (n : Nat) : List Int := (List.range n).flatMap fun p : Nat => if (p : Int) ∈ told then [] else kidsAtN l p
def Bal (l : List Nd) (told todo : List Int) : Prop := ∀ k : Nat, k < l.length → told.count (k : Int) + todo.count (k : Int) + (restK l told l.length).count (k : Int) = 1
theorem restK_nil (l : List Nd) : ∀ n, n ≤ l.length → restK l [] n = kidsUp l n
  | 0, _ => rfl
  | n + 1, h => by
    obtain ⟨x, hx⟩ : ∃ x, l[n]? = some x := ⟨_, List.getElem?_eq_getElem h⟩
    rw [kidsUp_succ hx, ← restK_nil l n (by omega)]
    simp [restK, List.range_succ, kidsAtN, hx]
theorem bal_start {l : List Nd} (g : GoodT l) : Bal l [] [((l.length : Nat) : Int) - 1] := by
  intro k hk
  rw [restK_nil l _ (Nat.le_refl _)]
  have hne := g.ne
  have hroot : ((l.length : Nat) : Int) - 1 ∉ kidsUp l l.length := fun hm => by
    simp only [kidsUp, List.take_length, List.mem_flatMap] at hm
    obtain ⟨y, hy, hky⟩ := hm
    obtain ⟨i, hi⟩ := List.getElem?_of_mem hy
    have := ((g.ok i y hi).kids _ hky).2
    have := (List.getElem?_eq_some_iff.1 hi).1
    omega
  by_cases h : k + 1 = l.length
  · have : (k : Int) = ((l.length : Nat) : Int) - 1 := by omega
    rw [this, List.count_eq_zero.2 hroot]
    simp
  · have h1 : (k : Int) ≠ ((l.length : Nat) : Int) - 1 := by omega
    have h2 := g.used k (by omega)
    have h3 : (kidsUp l l.length).count (k : Int) = 1 := by
      have a := List.nodup_iff_count.1 g.nodup (k : Int)
      have b := List.count_pos_iff.2 h2
      omega
    rw [h3, List.count_nil, List.count_cons, List.count_nil]
    rw [if_neg (by simpa using Ne.symm h1)]
theorem restK_step {l : List Nd} {told : List Int} {n : Nat} (hn : (n : Int) ∉ told) (k : Int) : ∀ m, n < m → (restK l told m).count k = (restK l (told ++ [(n : Int)]) m).count k + (kidsAtN l n).count k
  | m + 1, h => by
    have e : ∀ t : List Int, restK l t (m + 1) = restK l t m ++ (if (m : Int) ∈ t then [] else kidsAtN l m) := fun t => by simp [restK, List.range_succ]
    rw [e, e, List.count_append, List.count_append]
    by_cases hm : n = m
    · subst hm
      rw [if_neg hn, if_pos (List.mem_append_right _ (List.mem_singleton.2 rfl))]
      have same : restK l told n = restK l (told ++ [(n : Int)]) n := by
        simp only [restK]
        refine congrArg List.flatten (List.map_congr_left fun p hp => ?_)
        have hlt := List.mem_range.1 hp
        have : ((p : Int) ∈ told) = ((p : Int) ∈ told ++ [(n : Int)]) := propext (by
          rw [List.mem_append, List.mem_singleton]
          exact ⟨.inl, fun h => h.resolve_right (by omega)⟩)
        simp only [this]
      rw [same]; simp
    · have ih := restK_step (l := l) hn k m (by omega)
      have : ((m : Int) ∈ told) = ((m : Int) ∈ told ++ [(n : Int)]) := propext (by
        rw [List.mem_append, List.mem_singleton]
        exact ⟨.inl, fun h => h.resolve_right (by omega)⟩)
      rw [ih]
      simp only [this]
      omega
theorem bal_new {l : List Nd} {told todo : List Int} {n : Nat} (h : Bal l told (todo ++ [(n : Int)])) (hn : n < l.length) : (n : Int) ∉ told := fun hm => by
  have h1 := h n hn
  have h2 := List.count_pos_iff.2 hm
  rw [List.count_append, List.count_cons, List.count_nil] at h1
  simp at h1
  omega
theorem bal_step {l : List Nd} {told todo : List Int} {n : Nat} (h : Bal l told (todo ++ [(n : Int)])) (hn : n < l.length) : Bal l (told ++ [(n : Int)]) (todo ++ (kidsAtN l n).reverse) := by
  intro k hk
  have h1 := h k hk
  rw [restK_step (bal_new h hn) (k : Int) l.length hn] at h1
  rw [List.count_append] at h1 ⊢
  rw [List.count_append, List.count_reverse]
  omega
def untold (l : List Nd) (told : List Int) : Nat := (List.range l.length).countP fun p : Nat => !decide ((p : Int) ∈ told)
theorem countP_lt {α : Type} {p q : α → Bool} : ∀ {L : List α} {y : α}, (∀ x, q x = true → p x = true) → y ∈ L → p y = true → q y = false → L.countP q < L.countP p
  | x :: L, y, hpq, hm, hp, hq => by
    rw [List.countP_cons, List.countP_cons]
    have mono : L.countP q ≤ L.countP p := List.countP_mono_left fun x _ => hpq x
    rcases List.mem_cons.1 hm with rfl | hm
    · rw [hp, hq]; simp; omega
    · have ih := countP_lt hpq hm hp hq
      have : (if q x = true then 1 else 0) ≤ (if p x = true then 1 else 0) := by
        by_cases h : q x = true
        · rw [if_pos h, if_pos (hpq x h)]; exact Nat.le_refl _
        · rw [if_neg h]; exact Nat.zero_le _
      omega
theorem untold_lt {l : List Nd} {told : List Int} {n : Nat} (hn : n < l.length) (h : (n : Int) ∉ told) : untold l (told ++ [(n : Int)]) < untold l told := by
  refine countP_lt (y := n) ?_ (List.mem_range.2 hn) ?_ ?_
  · intro x hx
    simp only [Bool.not_eq_true', decide_eq_false_iff_not, List.mem_append, not_or] at hx ⊢
    exact hx.1
  · simp [h]
  · simp
theorem bal_end {l : List Nd} (g : GoodT l) {told : List Int} (h : Bal l told []) : ∀ k : Nat, k < l.length → told.count (k : Int) = 1 := by
  have all : ∀ m k : Nat, k < l.length → l.length - k ≤ m → (k : Int) ∈ told := by
    intro m
    induction m with
    | zero => intro k hk h; omega
    | succ m ih =>
      intro k hk hm
      refine Decidable.byContradiction fun hn => ?_
      have h1 := h k hk
      rw [List.count_eq_zero.2 hn, List.count_nil] at h1
      have h2 : (k : Int) ∈ restK l told l.length := List.count_pos_iff.1 (by omega)
      simp only [restK, List.mem_flatMap] at h2
      obtain ⟨p, hp, h3⟩ := h2
      have hpl := List.mem_range.1 hp
      split at h3
      · cases h3
      · rename_i hpn
        obtain ⟨x, hx⟩ : ∃ x, l[p]? = some x := ⟨_, List.getElem?_eq_getElem hpl⟩
        simp only [kidsAtN, hx, Option.map_some, Option.getD_some] at h3
        have := ((g.ok p x hx).kids _ h3).2
        exact hpn (ih p hpl (by omega))
  intro k hk
  have h1 := h k hk
  have h2 := List.count_pos_iff.2 (all _ k hk (Nat.le_refl _))
  omega
end Go.Idl
end

section
namespace Go.Idl
variable {T : Tbl}
structure Low (n : Nat) (h h' : Heap) : Prop where
  next : h.next ≤ h'.next
  get : ∀ b, b < n → h'.get b = h.get b
  one : ∀ b cs, b < h.next → h.get b = some (.cells cs true 1) → h'.get b = some (.cells cs true 1)
theorem Low.refl (n : Nat) (h : Heap) : Low n h h := ⟨Nat.le_refl _, fun _ _ => rfl, fun _ _ _ hg => hg⟩
theorem Low.trans {n : Nat} {a b c : Heap} (x : Low n a b) (y : Low n b c) : Low n a c := ⟨Nat.le_trans x.next y.next, fun k hk => (y.get k hk).trans (x.get k hk), fun k cs hk hg => y.one k cs (Nat.lt_of_lt_of_le hk x.next) (x.one k cs hk hg)⟩
theorem Low.kept {n : Nat} {h h' : Heap} (x : Kept h h') (hn : n ≤ h.next) : Low n h h' := ⟨x.next, fun b hb => x.get b (Nat.lt_of_lt_of_le hb hn), fun b cs hb hg => by rw [x.get b hb]; exact hg⟩
def prC (p : Int × Int) : List Value := [.int .i64 p.1, .int .i64 p.2]
theorem prC_len : ∀ l : List (Int × Int), (l.flatMap prC).length = l.length * 2
  | [] => rfl
  | p :: l => by rw [List.flatMap_cons, List.length_append, prC_len l]; simp [prC]; omega
def todoAt (nb xb : Nat) (h : Heap) (v : Value) (l : List (Int × Int)) : Prop :=
  ∃ b c cs, nb ≤ b ∧ b < h.next ∧ b ≠ xb ∧ v = .slice (some ⟨b, 0, none⟩) l.length c ∧ h.get b = some (.cells cs true 2) ∧ cs.take (l.length * 2) = l.flatMap prC ∧ l.length * 2 ≤ cs.length
theorem todoAt.keep {nb xb xb' : Nat} {h h' : Heap} {v : Value} {l : List (Int × Int)} (ht : todoAt nb xb h v l) (hn : h.next ≤ h'.next) (hg : ∀ b, nb ≤ b → b < h.next → (∀ cs, h.get b ≠ some (.cells cs true 1)) → h'.get b = h.get b) (hx : xb' = xb ∨ h.next ≤ xb') : todoAt nb xb' h' v l := by
  obtain ⟨b, c, cs, h1, h2, h3, h4, h5, h6, h7⟩ := ht
  exact ⟨b, c, cs, h1, Nat.lt_of_lt_of_le h2 hn, by omega, h4, by rw [hg b h1 h2 (fun cs e => by rw [h5] at e; simp at e)]; exact h5, h6, h7⟩
theorem todoAt.append {nb xb : Nat} {h : Heap} {v x : Value} {l : List (Int × Int)} {p : Int × Int} (ht : todoAt nb xb h v l) (hx : elemsOf h 2 x = some (1, prC p)) (hs : l.length ≤ 100000000000) (hnb : nb ≤ h.next) (hxb : xb < h.next) :
    ∃ v' h', appendV 2 16 v x h = some (v', h') ∧ todoAt nb xb h' v' (l ++ [p]) ∧ Low nb h h' ∧ h'.get xb = h.get xb := by
  obtain ⟨b, c, cs, h1, h2, h3, rfl, h5, h6, h7⟩ := ht
  have hlen : (l ++ [p]).length = l.length + 1 := by simp
  have hfl : (l ++ [p]).flatMap prC = l.flatMap prC ++ prC p := by simp
  have hcl : (l.flatMap prC ++ prC p).take ((l ++ [p]).length * 2) = (l ++ [p]).flatMap prC := by
    rw [hfl, List.take_of_length_le]
    rw [List.length_append, prC_len, hlen]; simp [prC]; omega
  have hlc : (l ++ [p]).length * 2 ≤ (l.flatMap prC ++ prC p).length := by
    rw [hlen, List.length_append, prC_len]; simp [prC]; omega
  by_cases hc : l.length = c
  · refine ⟨.slice (some ⟨h.next, 0, none⟩) (l.length + 1) (l.length + 1 + 1), h.new (.cells (l.flatMap prC ++ prC p) true 2), ?_, ⟨h.next, l.length + 1 + 1, _, hnb, Nat.lt_succ_self _, by omega, by rw [hlen], new_get' _ _, hcl, hlc⟩, ⟨Nat.le_succ _, fun k hk => new_get_ne' _ _ (by omega), fun k cs hk hg => by rw [new_get_ne' _ _ (by omega)]; exact hg⟩, new_get_ne' _ _ (by omega)⟩
    have hold : (if l.length = 0 then some [] else h.cells b 0 (l.length * 2)) = some (l.flatMap prC) := by
      by_cases h0 : l.length = 0
      · rw [if_pos h0, List.length_eq_zero_iff.1 h0]; rfl
      · rw [if_neg h0]
        simp only [Heap.cells, h5, Nat.zero_add]
        rw [if_pos h7, List.drop_zero, h6]
    simp only [appendV, hx, Nat.one_ne_zero, if_false]
    rw [if_pos (by omega), if_pos hc, hold]
  · refine ⟨.slice (some ⟨h.next, 0, none⟩) (l.length + 1) (l.length + 1 + 1), (h.set b .dead).new (.cells (l.flatMap prC ++ prC p) true 2), ?_, ⟨h.next, l.length + 1 + 1, _, hnb, Nat.lt_succ_self _, by omega, by rw [hlen], new_get' _ _, hcl, hlc⟩, ⟨Nat.le_succ _, fun k hk => ?_, fun k cs' hk hg => ?_⟩, ?_⟩
    · simp only [appendV, hx, Nat.one_ne_zero, if_false, h5]
      rw [if_pos (by omega), if_neg hc, if_pos ⟨trivial, by omega⟩, List.drop_zero, h6]
    · rw [new_get_ne' _ _ (by rw [set_next]; omega), set_get_ne' _ _ (by omega)]
    · have hkb : k ≠ b := fun e => by subst e; rw [h5] at hg; simp at hg
      rw [new_get_ne' _ _ (by rw [set_next]; omega), set_get_ne' _ _ hkb]; exact hg
    · rw [new_get_ne' _ _ (by rw [set_next]; omega), set_get_ne' _ _ (by omega)]
theorem todoAt.top {nb xb : Nat} {h : Heap} {v : Value} {l : List (Int × Int)} {p : Int × Int} (ht : todoAt nb xb h v (l ++ [p])) : ∃ b c cs, v = .slice (some ⟨b, 0, none⟩) (l.length + 1) c ∧ b < h.next ∧ b ≠ xb ∧ h.get b = some (.cells cs true 2) ∧ h.cells b (l.length * 2) 2 = some (prC p) ∧ todoAt nb xb h (subSl 2 (l.length + 1) c 0 l.length none (some ⟨b, 0, none⟩)) l := by
  obtain ⟨b, c, cs, h1, h2, h3, rfl, h5, h6, h7⟩ := ht
  rw [List.length_append, List.length_singleton] at h6 h7
  have hfl : (l ++ [p]).flatMap prC = l.flatMap prC ++ prC p := by simp
  rw [hfl] at h6
  refine ⟨b, c, cs, by simp, h2, h3, h5, ?_, b, _, cs, h1, h2, h3, rfl, h5, ?_, by omega⟩
  · simp only [Heap.cells, h5]
    rw [if_pos (by omega)]
    have : (cs.drop (l.length * 2)).take 2 = (cs.take ((l.length + 1) * 2)).drop (l.length * 2) := by
      rw [List.drop_take]; congr 1; omega
    rw [this, h6, List.drop_append_of_le_length (by rw [prC_len]; exact Nat.le_refl _), ← prC_len l, List.drop_length, List.nil_append]
  · have : cs.take (l.length * 2) = (cs.take ((l.length + 1) * 2)).take (l.length * 2) := by
      rw [List.take_take]; congr 1; omega
    rw [this, h6, List.take_append_of_le_length (by rw [prC_len]; exact Nat.le_refl _), List.take_of_length_le (by rw [prC_len]; exact Nat.le_refl _)]
end Go.Idl
end

section
namespace Go.Idl
variable {T : Tbl}
theorem walk_ok (F : ChkFns T) (hT : T.fn 48 = some C48) {v : Value} {l : List Nd} {lp cb : Nat} {I : List Int → Heap → Prop} {h : Heap} (g : GoodT l) (hN : l.length ≤ 50000) (hK : ∀ x ∈ l, x.kids.length ≤ 100000) (hS : ∀ x ∈ l, x.text.size < 4611686018427387904)
    (hmem : ∀ told h1, I told h1 → nodesAt h1 v l ∧ h1.get cb = some (.cells [v] true 0))
    (hlow : ∀ told h1 h2, I told h1 → Low h.next h1 h2 → I told h2)
    (hyld : ∀ (told : List Int) (n : Nat) (d : Int) h1, I told h1 → h.next ≤ h1.next → n < l.length → (n : Int) ∉ told → Wk T (.yld lp) [.int .i64 n, .int .i64 d] h1 (fun o h2 => o = .ret (.bool true) ∧ I (told ++ [(n : Int)]) h2 ∧ h1.next ≤ h2.next ∧ ∀ b, h.next ≤ b → b < h1.next → (∀ cs, h1.get b ≠ some (.cells cs true 1)) → h2.get b = h1.get b))
    (h0 : I [] h) : Wk T (.fn 48) [.func (.yield lp) #[] #[], ptr cb 0] h (fun o h' => (∃ r, o = .ret r) ∧ ∃ told, I told h' ∧ ∀ k : Nat, k < l.length → told.count (k : Int) = 1) := by
  refine Wk_fn hT (by simp [C48]) ?_
  simp only [C48]
  obtain ⟨hn, hcb⟩ := hmem _ _ h0
  obtain ⟨va, vc, hvl⟩ := hn.len
  have hcell : h.cell cb 0 = some v := by simp only [Heap.cell, hcb]; rfl
  have pcb : ptr cb 0 = .pointer (some ⟨cb, 0, none⟩) := rfl
  have hne := g.ne
  refine Wc_seq (Wc_seq (Wc_ops (Wo_pre 1 (fun call => by simp only [go_sem, seval, hcb]; rfl) ?_)))
  refine Wo_call (Wk_kept (check_ok F hn hN hK hS g) fun h1 k1 => ?_)
  refine (Wo_run (fun call => by simp only [go_sem, seval]; rfl) ?_)
  show Wc T _ _ _
  refine Wc_seq (Wc_ops (Wo_run (fun call => by simp only [go_sem, seval, bne]; rfl) ?_))
  show Wc T _ _ _
  refine Wc_cond false (by first | rfl | assumption) (fun e => by cases e) (fun _ => Wc_skip ?_)
  show Wc T _ _ _
  have l1 : Low h.next h h1 := .kept k1 (Nat.le_refl _)
  have I1 : I [] h1 := hlow _ _ _ h0 l1
  have hcb1 := (hmem _ _ I1).2
  have ew : IntKind.i64.wrap (((l.length : Nat) : Int) - 1) = ((l.length : Nat) : Int) - 1 := wrap64 (by omega) (by omega)
  refine Wc_seq (Wc_ops (Wo_pre 3 (fun call => by simp only [go_sem, seval, hcb1, hvl, ew]; rfl) ?_))
  refine Wo_op (v := .agg (prC (((l.length : Nat) : Int) - 1, 0)).toArray) (h' := h1) (by rfl) ?_
  refine Wo_new (v := .slice (some ⟨h1.next, 0, none⟩) 1 1) (B := .cells (prC (((l.length : Nat) : Int) - 1, 0)) true 2) (by rfl) fun h2 n2 => ?_
  refine (Wo_run (fun call => by simp only [go_sem, seval]; rfl) ?_)
  show Wc T _ _ _
  have I2 : I [] h2 := hlow _ _ _ I1 (.kept n2.kept l1.next)
  have loop : ∀ (m : Nat) (e : Env) (h3 : Heap) (tv : Value) (todo : List (Int × Int)) (told : List Int) (xb : Nat), untold l told ≤ m → e 0 = .func (.yield lp) #[] #[] → e 1 = ptr cb 0 → e 5 = tv → I told h3 → h.next ≤ h3.next → todoAt h.next xb h3 tv todo → (∀ p ∈ todo, ∃ n : Nat, p.1 = n ∧ n < l.length) → Bal l told (todo.map (·.1)) → todo.length + 100000 * untold l told ≤ 5000000001 →
      Wc T (.loop C48L1) ⟨e, h3, some []⟩ (Tb 0 fun x s => (x = .normal ∨ x = .ret) ∧ s.d = some [] ∧ ∃ vs, resAll s.e s.h [] = some vs ∧ (∃ r, Out.ret (tup vs) = .ret r) ∧ ∃ told, I told s.h ∧ ∀ k : Nat, k < l.length → told.count (k : Int) = 1) := by
    intro m
    induction m with
    | zero =>
      intro e h3 tv todo told xb hm e0 e1 e5 I3 hb3 ht hr hB hlen
      rcases List.eq_nil_or_concat todo with rfl | ⟨L, p, rfl⟩
      · obtain ⟨b, c, cs, _, _, _, rfl, _⟩ := ht
        refine Wc_unroll (Wc_seq (Wc_seq (Wc_ops (Wo_run (fun call => by simp only [go_sem, seval, e5]; rfl) ?_))))
        show Wc T _ _ _
        refine Wc_cond false (by first | rfl | assumption) (fun e => by cases e) (fun _ => Wc_exit ?_)
        exact ⟨.inl rfl, rfl, [], rfl, ⟨_, rfl⟩, told, I3, bal_end g hB⟩
      · rw [List.concat_eq_append] at hr hB
        obtain ⟨n, hpn, hnl⟩ := hr p (by simp)
        rw [List.map_append, List.map_cons, List.map_nil, hpn] at hB
        have := untold_lt hnl (bal_new hB hnl)
        omega
    | succ m ih =>
      intro e h3 tv todo told xb hm e0 e1 e5 I3 hb3 ht hr hB hlen
      rcases List.eq_nil_or_concat todo with rfl | ⟨L, p, rfl⟩
      · obtain ⟨b, c, cs, _, _, _, rfl, _⟩ := ht
        refine Wc_unroll (Wc_seq (Wc_seq (Wc_ops (Wo_run (fun call => by simp only [go_sem, seval, e5]; rfl) ?_))))
        show Wc T _ _ _
        refine Wc_cond false (by first | rfl | assumption) (fun e => by cases e) (fun _ => Wc_exit ?_)
        exact ⟨.inl rfl, rfl, [], rfl, ⟨_, rfl⟩, told, I3, bal_end g hB⟩
      rw [List.concat_eq_append] at hr hB hlen ht
      obtain ⟨pn, pd⟩ := p
      obtain ⟨n, hpn, hnl⟩ := hr (pn, pd) (by simp)
      simp only at hpn
      subst hpn
      rw [List.map_append, List.map_cons, List.map_nil] at hB
      have hnew := bal_new hB hnl
      have hlt := untold_lt hnl hnew
      have hB' := bal_step hB hnl
      rw [List.length_append, List.length_singleton] at hlen
      obtain ⟨b, c, cs, rfl, hb, hbx, hgb, hcell, ht'⟩ := ht.top
      obtain ⟨x, hx⟩ : ∃ x, l[n]? = some x := ⟨_, List.getElem?_eq_getElem hnl⟩
      have hkids : kidsAtN l n = x.kids := by simp only [kidsAtN, hx, Option.map_some, Option.getD_some]
      rw [hkids] at hB'
      have hxm := List.mem_of_getElem? hx
      have hkl := hK x hxm
      have z1 : (0 : Int) < ((L.length + 1 : Nat) : Int) := by omega
      have e26 : IntKind.i64.wrap (((L.length + 1 : Nat) : Int) - 1) = ((L.length : Nat) : Int) := by rw [wrap64] <;> omega
      refine Wc_unroll (Wc_seq (Wc_seq (Wc_ops (Wo_run (fun call => by simp only [go_sem, seval, e5, z1]; rfl) ?_))))
      show Wc T _ _ _
      refine Wc_cond true (by first | rfl | assumption) (fun _ => Wc_skip ?_) (fun e => by cases e)
      show Wc T _ _ _
      refine Wc_block (Wc_seq (Wc_ops (Wo_pre 6 (fun call => by simp only [go_sem, seval, e5, e26, idx_ok (show L.length < L.length + 1 by omega), hcell]; rfl) ?_)))
      refine Wo_store_new (cs := prC ((n : Nat), pd)) (h := h3) (by first | rfl | assumption) (by first | rfl | assumption) rfl rfl fun h4 n4 => Wo_nil ?_
      show Wc T _ _ _
      have hgb4 : h4.get b = some (.cells cs true 2) := by rw [n4.kept.get _ hb]; exact hgb
      have I4 : I told h4 := hlow _ _ _ I3 (.kept n4.kept hb3)
      have hb4 : h.next ≤ h4.next := Nat.le_trans hb3 n4.kept.next
      have ht4 : todoAt h.next h3.next h4 (subSl 2 (L.length + 1) c 0 L.length none (some ⟨b, 0, none⟩)) L := ht'.keep n4.kept.next (fun b _ hb _ => n4.kept.get b hb) (.inr (Nat.le_refl _))
      have hx4 : h3.next < h4.next := by rw [n4.next]; exact Nat.lt_succ_self _
      refine Wc_seq (Wc_ops (Wo_pre 4 (fun call => by simp only [go_sem, seval, e5, e26]; rfl) ?_))
      refine Wo_op (v := subSl 2 (L.length + 1) c 0 L.length none (some ⟨b, 0, none⟩)) (h' := h4) ?_ ?_
      · simp only [iop, ev, upd, dstUpd, reduceIte, Nat.reduceEqDiff, bndO, bnd_ok (Nat.zero_le L.length) (Nat.le_succ L.length), Option.isSome_none, Bool.false_and, Bool.false_or, okSzO, okSz, hgb4, beq_self_eq_true, Bool.or_true, Bool.not_true, Option.getD_none, Bool.false_eq_true]
      refine (Wo_run (fun call => by simp only [go_sem, seval]; rfl) ?_)
      show Wc T _ _ _
      refine Wc_seq (Wc_seq (Wc_ops (Wo_pre 5 (fun call => by simp only [go_sem, seval, e0, n4.get, prC]; rfl) ?_)))
      refine Wo_callv (c := .yld lp) (vs := [.int .i64 n, .int .i64 pd]) (by simp only [go_sem, seval, target, e0] <;> first | rfl | assumption | (symm; assumption)) ((hyld told n pd h4 I4 hb4 hnl hnew).mono ?_)
      rintro o h5 ⟨rfl, I5, k5, g5⟩
      show Wo T _ _ _
      refine (Wo_run (fun call => by simp only [go_sem, seval]; rfl) ?_)
      show Wc T _ _ _
      refine Wc_cond false (by first | rfl | assumption) (fun e => by cases e) (fun _ => Wc_skip ?_)
      show Wc T _ _ _
      have ht5 := ht4.keep (xb' := h3.next) k5 g5 (.inl rfl)
      have hx5 : h5.get h3.next = some (.cells (prC ((n : Nat), pd)) true 0) := by rw [g5 _ hb3 hx4 (fun cs e => by rw [n4.get] at e; simp at e)]; exact n4.get
      have hb5 : h.next ≤ h5.next := Nat.le_trans hb4 k5
      obtain ⟨hn5, hcb5⟩ := hmem _ _ I5
      obtain ⟨b6, c6, o6, z6, hvb, hb6, hg6, _⟩ := hn5.load4 hx
      have hkv := (flatN_at hx).2.2.1
      have hki : intsAt h5 x.kv x.kids := hn5.2 x hxm
      obtain ⟨ka, kc, hkvl⟩ := hki.len
      rw [pcb] at e1
      refine Wc_seq (Wc_ops (Wo_run (fun call => by simp only [go_sem, seval, e1, hcb5, hx5, prC, hvb, idx_ok hnl, hg6, hkv]; rfl) ?_))
      show Wc T _ _ _
      refine Wc_seq (Wc_ops (Wo_run (fun call => by simp only [go_sem, seval, hkvl]; rfl) ?_))
      show Wc T _ _ _
      refine Wc_range x.kids.length (fun j e h' d => d = some [] ∧ I (told ++ [(n : Int)]) h' ∧ h5.next ≤ h'.next ∧ h'.get h3.next = some (.cells (prC ((n : Nat), pd)) true 0) ∧ ∃ t, todoAt h.next h3.next h' (e 5) t ∧ t.map (·.1) = L.map (·.1) ++ x.kids.reverse.take j) (by decide) (by first | rfl | assumption) (by first | rfl | assumption) (by omega) (by decide) ?_ ?_ ?_
      · exact ⟨rfl, I5, Nat.le_refl _, hx5, L, by simpa only [upd, dstUpd, reduceIte, Nat.reduceEqDiff] using ht5, by simp⟩
      · rintro j e' h' d hj ⟨rfl, I', hb', hx', t, ht', hmap⟩ hfr h50 h49
        obtain ⟨hn', _⟩ := hmem _ _ I'
        have hki' : intsAt h' x.kv x.kids := hn'.2 x hxm
        have hjr : x.kids.length - 1 - j < x.kids.length := by omega
        obtain ⟨k, hkm⟩ : ∃ k, x.kids[x.kids.length - 1 - j]? = some k := ⟨_, List.getElem?_eq_getElem hjr⟩
        have hkr : x.kids.reverse[j]? = some k := by rw [List.getElem?_reverse hj]; exact hkm
        obtain ⟨bk, ck, hkvb, hbk, ⟨ok', zk, hgk⟩, hcell'⟩ := hki'.load hkm
        rw [Nat.zero_add] at hcell'
        have htl : t.length = L.length + j := by
          have := congrArg List.length hmap
          simp only [List.length_map, List.length_append, List.length_take, List.length_reverse] at this
          omega
        have e7 : e' 7 = x.kv := ((hfr 7 (by decide)).trans (by first | rfl | assumption | (symm; assumption)))
        have e6 : e' 6 = .pointer (some ⟨h3.next, 0, none⟩) := ((hfr 6 (by decide)).trans (by first | rfl | assumption | (symm; assumption)))
        have w1 : IntKind.i64.wrap (((x.kids.length : Nat) : Int) - 1) = ((x.kids.length : Nat) : Int) - 1 := wrap64 (by omega) (by omega)
        have w2 : IntKind.i64.wrap (((x.kids.length : Nat) : Int) - 1 - ((j : Nat) : Int)) = ((x.kids.length - 1 - j : Nat) : Int) := by rw [wrap64] <;> omega
        refine Wc_seq (Wc_ops (Wo_run (fun call => by simp only [go_sem, seval, h50]; rfl) ?_))
        show Wc T _ _ _
        refine Wc_draw_still (by decide) ?_
        refine (Wo_pre 12 (fun call => by simp only [go_sem, seval, e7, e6, hkvb, w1, w2, idx_ok hjr, hgk, hcell', hx', prC]; rfl) ?_)
        refine Wo_op (v := .agg (prC (k, IntKind.i64.wrap (pd + 1))).toArray) (h' := h') (by rfl) ?_
        refine Wo_new (v := .slice (some ⟨h'.next, 0, none⟩) 1 1) (B := .cells (prC (k, IntKind.i64.wrap (pd + 1))) true 2) (by rfl) fun h6 n6 => ?_
        have hel : elemsOf h6 2 (.slice (some ⟨h'.next, 0, none⟩) 1 1) = some (1, prC (k, IntKind.i64.wrap (pd + 1))) := by
          simp only [elemsOf, Nat.one_ne_zero, if_false, Heap.cells, n6.get]; rfl
        have ht6 : todoAt h.next h3.next h6 (e' 5) t := ht'.keep n6.kept.next (fun b _ hb _ => n6.kept.get b hb) (.inl rfl)
        have hx3 : h3.next < h'.next := by omega
        obtain ⟨v', h7, ha, ht7, hl7, hx7⟩ := ht6.append hel (by omega) (by have := n6.kept.next; omega) (by have := n6.kept.next; omega)
        refine Wo_op (v := v') (h' := h7) (by simp only [iop, ev, upd, dstUpd, reduceIte, Nat.reduceEqDiff]; exact ha) ?_
        refine (Wo_run (fun call => by simp only [go_sem, seval]; rfl) ?_)
        have hl67 : Low h.next h' h7 := (Low.kept n6.kept (by omega)).trans hl7
        refine ⟨rfl, rfl, hlow _ _ _ I' hl67, Nat.le_trans hb' hl67.next, ?_, t ++ [(k, IntKind.i64.wrap (pd + 1))], ?_, ?_⟩
        · show h7.get h3.next = _
          rw [hx7, n6.kept.get _ hx3]; exact hx'
        · simpa only [upd, dstUpd, reduceIte, Nat.reduceEqDiff] using ht7
        · rw [List.map_append, hmap, List.take_add_one, hkr, List.append_assoc]; rfl
      · rintro e' h' d ⟨rfl, I', hb', hx', t, ht', hmap⟩ hfr h50
        rw [← List.length_reverse, List.take_length] at hmap
        have e0' : e' 0 = .func (.yield lp) #[] #[] := ((hfr 0 (by decide)).trans (by first | rfl | assumption | (symm; assumption)))
        have e1' : e' 1 = .pointer (some ⟨cb, 0, none⟩) := ((hfr 1 (by decide)).trans (by first | rfl | assumption | (symm; assumption)))
        have htl : t.length = L.length + x.kids.length := by
          have := congrArg List.length hmap
          simp only [List.length_map, List.length_append, List.length_reverse] at this
          omega
        refine ih _ h' _ t (told ++ [(n : Int)]) h3.next (by omega) (by simp only [go_sem, seval, e0'] <;> first | rfl | assumption | (symm; assumption)) (by simp only [go_sem, seval, e1'] <;> first | rfl | assumption | (symm; assumption)) (by first | rfl | assumption) I' (Nat.le_trans hb5 hb') ht' ?_ (by rw [hmap]; exact hB') (by omega)
        intro p hp
        have hm1 : p.1 ∈ t.map (·.1) := List.mem_map_of_mem hp
        rw [hmap, List.mem_append] at hm1
        rcases hm1 with hm1 | hm1
        · obtain ⟨q, hq, hqe⟩ := List.mem_map.1 hm1
          obtain ⟨i, hi1, hi2⟩ := hr q (List.mem_append_left _ hq)
          exact ⟨i, by rw [← hqe]; exact hi1, hi2⟩
        · have := (g.ok n x hx).kids _ (List.mem_reverse.1 hm1)
          exact ⟨p.1.toNat, by omega, by omega⟩
  refine Wc_block (loop _ _ h2 _ [(((l.length : Nat) : Int) - 1, 0)] [] h2.next (Nat.le_refl _) (by first | rfl | assumption) (by first | rfl | assumption) rfl I2 (Nat.le_trans l1.next n2.kept.next) ?_ ?_ (bal_start g) ?_)
  · exact ⟨h1.next, 1, _, l1.next, by rw [n2.next]; exact Nat.lt_succ_self _, by rw [n2.next]; omega, (by first | rfl | assumption), n2.get, rfl, Nat.le_refl _⟩
  · intro p hp
    rw [List.mem_singleton] at hp
    subst hp
    exact ⟨l.length - 1, by simp only; omega, by omega⟩
  · have : untold l [] ≤ l.length := by
      have := List.countP_le_length (p := fun p : Nat => !decide ((p : Int) ∈ ([] : List Int))) (l := List.range l.length)
      rw [List.length_range] at this
      exact this
    simp only [List.length_singleton]
    omega
end Go.Idl
end

section
namespace Go.Idl
def C18 : IFn := ⟨13, (.seq (.ops [⟨some 2, .op (.alloc [.int .i64 0, .string ⟨#[]⟩, .int .i64 0, .int .i64 0, .int .i64 0]), none⟩]) (.seq (.draw [⟨some 3, .op (.mov (.t 0)), none⟩, ⟨some 4, .op (.nilck (.t 3)), none⟩, ⟨some 5, .op (.faddr 0 (.t 4)), none⟩, ⟨some 6, .op (.load none (.t 5)), none⟩, ⟨some 7, .op (.mov (.t 0)), none⟩, ⟨some 8, .op (.nilck (.t 7)), none⟩, ⟨some 9, .op (.faddr 1 (.t 8)), none⟩, ⟨some 10, .op (.load none (.t 9)), none⟩, ⟨some 11, .op (.iaddr (.sl 5) (.t 6) (.t 10)), none⟩, ⟨some 12, .op (.load (some 5) (.t 11)), none⟩, ⟨none, .op (.store 5 (.t 2) (.t 12)), none⟩] [[], [0], [1, 0], [2, 1, 0], [], [4], [5, 4], [6, 5, 4], [7, 6, 5, 4, 3, 2, 1, 0], [8, 7, 6, 5, 4, 3, 2, 1, 0], [9, 8, 7, 6, 5, 4, 3, 2, 1, 0]]) .ret)), [.cell 2 (some 5)]⟩
def C56 : IFn := ⟨7, (.ops [⟨some 2, .op (.mov (.t 0)), none⟩, ⟨some 3, .call 18 [.t 2], none⟩, ⟨some 4, .op (.field 2 none (.t 3)), none⟩, ⟨some 5, .op (.build [.int .i64 0, .int .i64 0] [(0, 1, .t 4), (1, 1, .c (.int .i64 60))]), none⟩, ⟨some 6, .op (.iface 44 (.t 5)), none⟩, ⟨none, .panic (.t 6), none⟩]), []⟩
def C55 : IFn := ⟨22, (.seq (.ops [⟨some 4, .op (.mov (.c (.bool false))), none⟩]) (.seq (.ops [⟨some 6, .op (.mov (.t 0)), none⟩, ⟨some 7, .call 18 [.t 6], none⟩, ⟨some 5, .op (.alloc [.int .i64 0, .string ⟨#[]⟩, .int .i64 0, .int .i64 0, .int .i64 0]), none⟩, ⟨none, .op (.store 5 (.t 5) (.t 7)), none⟩]) (.seq (.ops [⟨some 8, .op (.faddr 0 (.t 5)), none⟩, ⟨some 9, .op (.load none (.t 8)), none⟩, ⟨some 10, .op (.bin .eql (.t 9) (.c (.int .i64 3))), none⟩, ⟨some 11, .op (.mov (.t 10)), none⟩, ⟨some 12, .op (.faddr 0 (.t 5)), (some (11, false))⟩, ⟨some 13, .op (.load none (.t 12)), (some (11, false))⟩, ⟨some 14, .op (.bin .eql (.t 13) (.c (.int .i64 2))), (some (11, false))⟩, ⟨some 15, .op (.pick (.t 11) (.c (.bool true)) (.t 14)), none⟩, ⟨some 16, .op (.mov (.t 15)), none⟩, ⟨some 17, .op (.mov (.t 1)), (some (16, true))⟩, ⟨some 18, .op (.faddr 1 (.t 5)), (some (16, true))⟩, ⟨some 19, .op (.load none (.t 18)), (some (16, true))⟩, ⟨some 20, .call 63 [.t 17, .t 19], (some (16, true))⟩, ⟨some 21, .op (.pick (.t 16) (.t 20) (.c (.bool false))), none⟩, ⟨some 4, .op (.mov (.t 21)), none⟩]) .ret))), [.tmp 4]⟩
def C32 : IFn := ⟨19, (.seq (.ops [⟨some 4, .op (.mov (.c (.bool false))), none⟩]) (.seq (.ops [⟨some 6, .op (.mov (.t 0)), none⟩, ⟨some 7, .op (.mov (.t 1)), none⟩, ⟨some 8, .op (.lit 1 1 [.string ⟨#[]⟩] [(0, 1, .t 7)]), none⟩, ⟨some 9, .call 55 [.t 6, .t 8], none⟩, ⟨some 5, .op (.mov (.t 9)), none⟩]) (.seq (.seq (.ops [⟨some 10, .op (.mov (.t 5)), none⟩]) (.cond (.t 10) (.ops [⟨some 11, .op (.mov (.t 0)), none⟩, ⟨some 12, .op (.nilck (.t 11)), none⟩, ⟨some 13, .op (.faddr 1 (.t 12)), none⟩, ⟨some 14, .op (.load none (.t 13)), none⟩, ⟨some 15, .op (.bin .add (.t 14) (.c (.int .i64 1))), none⟩, ⟨some 16, .op (.nilck (.t 11)), none⟩, ⟨some 17, .op (.faddr 1 (.t 16)), none⟩, ⟨none, .op (.store 1 (.t 17) (.t 15)), none⟩]) .skip)) (.seq (.ops [⟨some 18, .op (.mov (.t 5)), none⟩, ⟨some 4, .op (.mov (.t 18)), none⟩]) .ret)))), [.tmp 4]⟩
def C34 : IFn := ⟨10, (.seq (.ops [⟨some 4, .op (.mov (.t 0)), none⟩, ⟨some 5, .op (.mov (.t 1)), none⟩, ⟨some 6, .call 32 [.t 4, .t 5], none⟩, ⟨some 7, .op (.un .not (.t 6)), none⟩]) (.cond (.t 7) (.ops [⟨some 8, .op (.mov (.t 0)), none⟩, ⟨some 9, .call 56 [.t 8], none⟩]) .skip)), []⟩
def C33 : IFn := ⟨19, (.seq (.ops [⟨some 2, .op (.alloc [.int .i64 0, .string ⟨#[]⟩, .int .i64 0, .int .i64 0, .int .i64 0]), none⟩]) (.seq (.ops [⟨some 4, .op (.mov (.t 0)), none⟩, ⟨some 5, .call 18 [.t 4], none⟩, ⟨some 3, .op (.alloc [.int .i64 0, .string ⟨#[]⟩, .int .i64 0, .int .i64 0, .int .i64 0]), none⟩, ⟨none, .op (.store 5 (.t 3) (.t 5)), none⟩]) (.seq (.seq (.ops [⟨some 6, .op (.faddr 0 (.t 3)), none⟩, ⟨some 7, .op (.load none (.t 6)), none⟩, ⟨some 8, .op (.bin .neq (.t 7) (.c (.int .i64 1))), none⟩]) (.cond (.t 8) (.ops [⟨some 9, .op (.mov (.t 0)), none⟩, ⟨some 10, .call 56 [.t 9], none⟩]) .skip)) (.seq (.ops [⟨some 11, .op (.mov (.t 0)), none⟩, ⟨some 12, .op (.nilck (.t 11)), none⟩, ⟨some 13, .op (.faddr 1 (.t 12)), none⟩, ⟨some 14, .op (.load none (.t 13)), none⟩, ⟨some 15, .op (.bin .add (.t 14) (.c (.int .i64 1))), none⟩, ⟨some 16, .op (.nilck (.t 11)), none⟩, ⟨some 17, .op (.faddr 1 (.t 16)), none⟩, ⟨none, .op (.store 1 (.t 17) (.t 15)), none⟩]) (.seq (.ops [⟨some 18, .op (.load (some 5) (.t 3)), none⟩, ⟨none, .op (.store 5 (.t 2) (.t 18)), none⟩]) .ret))))), [.cell 2 (some 5)]⟩
def C20 : IFn := ⟨31, (.seq (.ops [⟨some 10, .op (.mov (.c (.int .i64 0))), none⟩]) (.seq (.ops [⟨some 11, .op (.mov (.t 0)), none⟩, ⟨some 12, .op (.mov (.t 0)), none⟩, ⟨some 13, .op (.nilck (.t 12)), none⟩, ⟨some 14, .op (.faddr 2 (.t 13)), none⟩, ⟨some 15, .op (.load none (.t 14)), none⟩, ⟨some 16, .op (.mov (.t 1)), none⟩, ⟨some 17, .op (.mov (.t 2)), none⟩, ⟨some 18, .op (.mov (.t 4)), none⟩, ⟨some 19, .op (.mov (.t 3)), none⟩, ⟨some 20, .op (.build [.int .i64 0, .string ⟨#[]⟩, (.slice none 0 0), .int .i64 0] [(0, 1, .t 16), (1, 1, .t 17), (2, 1, .t 18), (3, 1, .t 19)]), none⟩, ⟨some 21, .op (.lit 4 1 [.int .i64 0, .string ⟨#[]⟩, (.slice none 0 0), .int .i64 0] [(0, 4, .t 20)]), none⟩, ⟨some 22, .op (.append 4 56 (.t 15) (.t 21)), none⟩, ⟨some 23, .op (.nilck (.t 11)), none⟩, ⟨some 24, .op (.faddr 2 (.t 23)), none⟩, ⟨none, .op (.store 1 (.t 24) (.t 22)), none⟩]) (.seq (.ops [⟨some 25, .op (.mov (.t 0)), none⟩, ⟨some 26, .op (.nilck (.t 25)), none⟩, ⟨some 27, .op (.faddr 2 (.t 26)), none⟩, ⟨some 28, .op (.load none (.t 27)), none⟩, ⟨some 29, .op (.len .sl (.t 28)), none⟩, ⟨some 30, .op (.bin .sub (.t 29) (.c (.int .i64 1))), none⟩, ⟨some 10, .op (.mov (.t 30)), none⟩]) .ret))), [.tmp 10]⟩
def C35L0 : IC := (.seq (.seq (.ops [⟨some 19, .op (.mov (.t 0)), none⟩, ⟨some 20, .call 32 [.t 19, .c (.string ⟨#[44]⟩)], none⟩]) (.cond (.t 20) .skip (.exit 0))) (.block 1 (.ops [⟨some 21, .op (.mov (.t 7)), none⟩, ⟨some 22, .op (.mov (.t 2)), none⟩, ⟨some 23, .op (.mov (.t 0)), none⟩, ⟨some 24, .callv (.t 22) [.t 23], none⟩, ⟨some 25, .op (.lit 1 1 [.int .i64 0] [(0, 1, .t 24)]), none⟩, ⟨some 26, .op (.append 1 8 (.t 21) (.t 25)), none⟩, ⟨some 7, .op (.mov (.t 26)), none⟩]))) def C35 : IFn := ⟨31, (.seq (.ops [⟨some 6, .op (.mov (.c (.slice none 0 0))), none⟩]) (.seq (.ops [⟨some 7, .op (.mov (.c (.slice none 0 0))), none⟩]) (.seq (.seq (.ops [⟨some 8, .op (.mov (.t 0)), none⟩, ⟨some 9, .op (.mov (.t 1)), none⟩, ⟨some 10, .op (.lit 1 1 [.string ⟨#[]⟩] [(0, 1, .t 9)]), none⟩, ⟨some 11, .call 55 [.t 8, .t 10], none⟩, ⟨some 12, .op (.un .not (.t 11)), none⟩]) (.cond (.t 12) (.seq (.ops [⟨some 13, .op (.mov (.t 7)), none⟩, ⟨some 14, .op (.mov (.t 2)), none⟩, ⟨some 15, .op (.mov (.t 0)), none⟩, ⟨some 16, .callv (.t 14) [.t 15], none⟩, ⟨some 17, .op (.lit 1 1 [.int .i64 0] [(0, 1, .t 16)]), none⟩, ⟨some 18, .op (.append 1 8 (.t 13) (.t 17)), none⟩, ⟨some 7, .op (.mov (.t 18)), none⟩]) (.block 0 (.loop C35L0))) .skip)) (.seq (.ops [⟨some 27, .op (.mov (.t 0)), none⟩, ⟨some 28, .op (.mov (.t 1)), none⟩, ⟨some 29, .call 34 [.t 27, .t 28], none⟩]) (.seq (.ops [⟨some 30, .op (.mov (.t 7)), none⟩, ⟨some 6, .op (.mov (.t 30)), none⟩]) .ret))))), [.tmp 6]⟩
def C19 : IFn := ⟨42, (.seq (.ops [⟨some 2, .op (.mov (.c (.int .i64 0))), none⟩]) (.seq (.seq (.ops [⟨some 7, .op (.mov (.t 0)), none⟩, ⟨some 8, .call 32 [.t 7, .c (.string ⟨#[114, 101, 99]⟩)], none⟩]) (.cond (.t 8) (.seq (.ops [⟨some 9, .op (.mov (.t 0)), none⟩, ⟨some 10, .call 33 [.t 9], none⟩, ⟨some 3, .op (.alloc [.int .i64 0, .string ⟨#[]⟩, .int .i64 0, .int .i64 0, .int .i64 0]), none⟩, ⟨none, .op (.store 5 (.t 3) (.t 10)), none⟩]) (.seq (.ops [⟨some 11, .op (.mov (.t 0)), none⟩, ⟨some 12, .call 34 [.t 11, .c (.string ⟨#[123]⟩)], none⟩]) (.seq (.ops [⟨some 13, .op (.mov (.t 0)), none⟩, ⟨some 14, .call 35 [.t 13, .c (.string ⟨#[125]⟩), (.c (.func (.func 36) #[] #[]))], none⟩, ⟨some 4, .op (.mov (.t 14)), none⟩]) (.seq (.ops [⟨some 15, .op (.mov (.t 0)), none⟩, ⟨some 16, .op (.faddr 1 (.t 3)), none⟩, ⟨some 17, .op (.load none (.t 16)), none⟩, ⟨some 18, .op (.faddr 2 (.t 3)), none⟩, ⟨some 19, .op (.load none (.t 18)), none⟩, ⟨some 20, .op (.mov (.t 4)), none⟩, ⟨some 21, .call 20 [.t 15, .c (.int .i64 2), .t 17, .t 19, .t 20], none⟩, ⟨some 2, .op (.mov (.t 21)), none⟩]) .ret)))) .skip)) (.seq (.ops [⟨some 22, .op (.mov (.t 0)), none⟩, ⟨some 23, .call 34 [.t 22, .c (.string ⟨#[102, 110]⟩)], none⟩]) (.seq (.ops [⟨some 24, .op (.mov (.t 0)), none⟩, ⟨some 25, .call 33 [.t 24], none⟩, ⟨some 5, .op (.alloc [.int .i64 0, .string ⟨#[]⟩, .int .i64 0, .int .i64 0, .int .i64 0]), none⟩, ⟨none, .op (.store 5 (.t 5) (.t 25)), none⟩]) (.seq (.ops [⟨some 26, .op (.mov (.t 0)), none⟩, ⟨some 27, .call 34 [.t 26, .c (.string ⟨#[40]⟩)], none⟩]) (.seq (.ops [⟨some 28, .op (.mov (.t 0)), none⟩, ⟨some 29, .call 35 [.t 28, .c (.string ⟨#[41]⟩), (.c (.func (.func 36) #[] #[]))], none⟩, ⟨some 6, .op (.mov (.t 29)), none⟩]) (.seq (.ops [⟨some 30, .op (.mov (.t 6)), none⟩, ⟨some 31, .op (.mov (.t 0)), none⟩, ⟨some 32, .call 37 [.t 31], none⟩, ⟨some 33, .op (.lit 1 1 [.int .i64 0] [(0, 1, .t 32)]), none⟩, ⟨some 34, .op (.append 1 8 (.t 30) (.t 33)), none⟩, ⟨some 6, .op (.mov (.t 34)), none⟩]) (.seq (.ops [⟨some 35, .op (.mov (.t 0)), none⟩, ⟨some 36, .op (.faddr 1 (.t 5)), none⟩, ⟨some 37, .op (.load none (.t 36)), none⟩, ⟨some 38, .op (.faddr 2 (.t 5)), none⟩, ⟨some 39, .op (.load none (.t 38)), none⟩, ⟨some 40, .op (.mov (.t 6)), none⟩, ⟨some 41, .call 20 [.t 35, .c (.int .i64 3), .t 37, .t 39, .t 40], none⟩, ⟨some 2, .op (.mov (.t 41)), none⟩]) .ret)))))))), [.tmp 2]⟩
def C36 : IFn := ⟨12, (.seq (.ops [⟨some 2, .op (.mov (.c (.int .i64 0))), none⟩]) (.seq (.ops [⟨some 4, .op (.mov (.t 0)), none⟩, ⟨some 5, .call 33 [.t 4], none⟩, ⟨some 3, .op (.alloc [.int .i64 0, .string ⟨#[]⟩, .int .i64 0, .int .i64 0, .int .i64 0]), none⟩, ⟨none, .op (.store 5 (.t 3) (.t 5)), none⟩]) (.seq (.ops [⟨some 6, .op (.mov (.t 0)), none⟩, ⟨some 7, .op (.faddr 1 (.t 3)), none⟩, ⟨some 8, .op (.load none (.t 7)), none⟩, ⟨some 9, .op (.faddr 2 (.t 3)), none⟩, ⟨some 10, .op (.load none (.t 9)), none⟩, ⟨some 11, .call 20 [.t 6, .c (.int .i64 17), .t 8, .t 10, .c (.slice none 0 0)], none⟩, ⟨some 2, .op (.mov (.t 11)), none⟩]) .ret))), [.tmp 2]⟩
def C37L0 : IC := (.seq (.seq (.ops [⟨some 10, .op (.mov (.t 0)), none⟩, ⟨some 11, .op (.lit 1 1 [.string ⟨#[]⟩] [(0, 1, .c (.string ⟨#[125]⟩))]), none⟩, ⟨some 12, .call 55 [.t 10, .t 11], none⟩, ⟨some 13, .op (.un .not (.t 12)), none⟩]) (.cond (.t 13) .skip (.exit 0))) (.block 1 (.ops [⟨some 14, .op (.mov (.t 4)), none⟩, ⟨some 15, .op (.mov (.t 0)), none⟩, ⟨some 16, .call 57 [.t 15], none⟩, ⟨some 17, .op (.lit 1 1 [.int .i64 0] [(0, 1, .t 16)]), none⟩, ⟨some 18, .op (.append 1 8 (.t 14) (.t 17)), none⟩, ⟨some 4, .op (.mov (.t 18)), none⟩]))) def C37 : IFn := ⟨25, (.seq (.ops [⟨some 2, .op (.mov (.c (.int .i64 0))), none⟩]) (.seq (.ops [⟨some 5, .op (.mov (.t 0)), none⟩, ⟨some 6, .call 18 [.t 5], none⟩, ⟨some 7, .op (.field 2 none (.t 6)), none⟩, ⟨some 3, .op (.mov (.t 7)), none⟩]) (.seq (.ops [⟨some 8, .op (.mov (.t 0)), none⟩, ⟨some 9, .call 34 [.t 8, .c (.string ⟨#[123]⟩)], none⟩]) (.seq (.ops [⟨some 4, .op (.mov (.c (.slice none 0 0))), none⟩]) (.seq (.block 0 (.loop C37L0)) (.seq (.ops [⟨some 19, .op (.mov (.t 0)), none⟩, ⟨some 20, .call 34 [.t 19, .c (.string ⟨#[125]⟩)], none⟩]) (.seq (.ops [⟨some 21, .op (.mov (.t 0)), none⟩, ⟨some 22, .op (.mov (.t 3)), none⟩, ⟨some 23, .op (.mov (.t 4)), none⟩, ⟨some 24, .call 20 [.t 21, .c (.int .i64 4), .c (.string ⟨#[]⟩), .t 22, .t 23], none⟩, ⟨some 2, .op (.mov (.t 24)), none⟩]) .ret))))))), [.tmp 2]⟩
def C57 : IFn := ⟨95, (.seq (.ops [⟨some 2, .op (.mov (.c (.int .i64 0))), none⟩]) (.seq (.ops [⟨some 9, .op (.mov (.t 0)), none⟩, ⟨some 10, .call 18 [.t 9], none⟩, ⟨some 3, .op (.alloc [.int .i64 0, .string ⟨#[]⟩, .int .i64 0, .int .i64 0, .int .i64 0]), none⟩, ⟨none, .op (.store 5 (.t 3) (.t 10)), none⟩]) (.seq (.seq (.draw [⟨some 11, .call 64 [], none⟩, ⟨some 12, .op (.faddr 1 (.t 3)), none⟩, ⟨some 13, .op (.load none (.t 12)), none⟩, ⟨some 14, .op (.lookup (.one .str) .nilFunc false (.t 11) (.t 13)), none⟩, ⟨some 4, .op (.mov (.t 14)), none⟩] [[], [], [1], [2, 1, 0], [3, 2, 1, 0]]) (.seq (.ops [⟨some 15, .op (.faddr 0 (.t 3)), none⟩, ⟨some 16, .op (.load none (.t 15)), none⟩, ⟨some 17, .op (.bin .eql (.t 16) (.c (.int .i64 2))), none⟩, ⟨some 18, .op (.mov (.t 17)), none⟩, ⟨some 19, .op (.mov (.t 4)), (some (18, true))⟩, ⟨some 20, .op (.isnil .fn true (.t 19)), (some (18, true))⟩, ⟨some 21, .op (.pick (.t 18) (.t 20) (.c (.bool false))), none⟩]) (.cond (.t 21) (.seq (.ops [⟨some 22, .op (.mov (.t 0)), none⟩, ⟨some 23, .op (.nilck (.t 22)), none⟩, ⟨some 24, .op (.faddr 1 (.t 23)), none⟩, ⟨some 25, .op (.load none (.t 24)), none⟩, ⟨some 26, .op (.bin .add (.t 25) (.c (.int .i64 1))), none⟩, ⟨some 27, .op (.nilck (.t 22)), none⟩, ⟨some 28, .op (.faddr 1 (.t 27)), none⟩, ⟨none, .op (.store 1 (.t 28) (.t 26)), none⟩]) (.seq (.ops [⟨some 29, .op (.mov (.t 4)), none⟩, ⟨some 30, .op (.mov (.t 0)), none⟩, ⟨some 31, .op (.faddr 2 (.t 3)), none⟩, ⟨some 32, .op (.load none (.t 31)), none⟩, ⟨some 33, .callv (.t 29) [.t 30, .t 32], none⟩, ⟨some 2, .op (.mov (.t 33)), none⟩]) .ret)) .skip))) (.seq (.ops [⟨some 34, .op (.mov (.t 0)), none⟩, ⟨some 35, .call 65 [.t 34], none⟩, ⟨some 5, .op (.mov (.t 35)), none⟩]) (.seq (.ops [⟨some 36, .op (.mov (.t 0)), none⟩, ⟨some 37, .call 18 [.t 36], none⟩, ⟨some 38, .op (.field 2 none (.t 37)), none⟩, ⟨some 6, .op (.mov (.t 38)), none⟩]) (.seq (.seq (.ops [⟨some 39, .op (.mov (.t 0)), none⟩, ⟨some 40, .op (.nilck (.t 39)), none⟩, ⟨some 41, .op (.faddr 2 (.t 40)), none⟩, ⟨some 42, .op (.load none (.t 41)), none⟩, ⟨some 43, .op (.mov (.t 5)), none⟩, ⟨some 44, .op (.iaddr (.sl 4) (.t 42) (.t 43)), none⟩, ⟨some 45, .op (.faddr 0 (.t 44)), none⟩, ⟨some 46, .op (.load none (.t 45)), none⟩, ⟨some 7, .op (.mov (.t 46)), none⟩]) (.block 0 (.seq (.ops [⟨some 48, .op (.mov (.t 7)), none⟩, ⟨some 49, .op (.bin .eql (.t 48) (.c (.int .i64 22))), none⟩, ⟨some 50, .op (.mov (.t 49)), none⟩, ⟨some 51, .op (.mov (.t 0)), (some (50, true))⟩, ⟨some 52, .call 32 [.t 51, .c (.string ⟨#[59]⟩)], (some (50, true))⟩, ⟨some 53, .op (.pick (.t 50) (.t 52) (.c (.bool false))), none⟩, ⟨some 47, .op (.mov (.t 53)), none⟩]) (.cond (.t 47) (.seq (.ops [⟨some 54, .op (.mov (.t 0)), none⟩, ⟨some 55, .op (.mov (.t 0)), none⟩, ⟨some 56, .op (.nilck (.t 55)), none⟩, ⟨some 57, .op (.faddr 2 (.t 56)), none⟩, ⟨some 58, .op (.load none (.t 57)), none⟩, ⟨some 59, .op (.mov (.t 5)), none⟩, ⟨some 60, .op (.iaddr (.sl 4) (.t 58) (.t 59)), none⟩, ⟨some 61, .op (.faddr 3 (.t 60)), none⟩, ⟨some 62, .op (.load none (.t 61)), none⟩, ⟨some 63, .op (.mov (.t 5)), none⟩, ⟨some 64, .op (.lit 1 1 [.int .i64 0] [(0, 1, .t 63)]), none⟩, ⟨some 65, .call 20 [.t 54, .c (.int .i64 12), .c (.string ⟨#[]⟩), .t 62, .t 64], none⟩, ⟨some 2, .op (.mov (.t 65)), none⟩]) .ret) (.seq (.ops [⟨some 67, .op (.mov (.t 7)), none⟩, ⟨some 68, .op (.bin .neq (.t 67) (.c (.int .i64 17))), none⟩, ⟨some 69, .op (.mov (.t 68)), none⟩, ⟨some 70, .op (.mov (.t 7)), (some (69, true))⟩, ⟨some 71, .op (.bin .neq (.t 70) (.c (.int .i64 20))), (some (69, true))⟩, ⟨some 72, .op (.pick (.t 69) (.t 71) (.c (.bool false))), none⟩, ⟨some 73, .op (.mov (.t 72)), none⟩, ⟨some 74, .op (.mov (.t 7)), (some (73, true))⟩, ⟨some 75, .op (.bin .neq (.t 74) (.c (.int .i64 21))), (some (73, true))⟩, ⟨some 76, .op (.pick (.t 73) (.t 75) (.c (.bool false))), none⟩, ⟨some 77, .op (.mov (.t 76)), none⟩, ⟨some 78, .op (.mov (.t 7)), (some (77, true))⟩, ⟨some 79, .op (.bin .neq (.t 78) (.c (.int .i64 30))), (some (77, true))⟩, ⟨some 80, .op (.pick (.t 77) (.t 79) (.c (.bool false))), none⟩, ⟨some 66, .op (.mov (.t 80)), none⟩]) (.cond (.t 66) (.ops [⟨some 81, .op (.mov (.t 0)), none⟩, ⟨some 82, .call 56 [.t 81], none⟩]) .skip)))))) (.seq (.ops [⟨some 83, .op (.mov (.t 0)), none⟩, ⟨some 84, .call 34 [.t 83, .c (.string ⟨#[61]⟩)], none⟩]) (.seq (.ops [⟨some 85, .op (.mov (.t 0)), none⟩, ⟨some 86, .call 66 [.t 85], none⟩, ⟨some 8, .op (.mov (.t 86)), none⟩]) (.seq (.ops [⟨some 87, .op (.mov (.t 0)), none⟩, ⟨some 88, .call 34 [.t 87, .c (.string ⟨#[59]⟩)], none⟩]) (.seq (.ops [⟨some 89, .op (.mov (.t 0)), none⟩, ⟨some 90, .op (.mov (.t 6)), none⟩, ⟨some 91, .op (.mov (.t 5)), none⟩, ⟨some 92, .op (.mov (.t 8)), none⟩, ⟨some 93, .op (.lit 1 2 [.int .i64 0, .int .i64 0] [(0, 1, .t 91), (1, 1, .t 92)]), none⟩, ⟨some 94, .call 20 [.t 89, .c (.int .i64 6), .c (.string ⟨#[]⟩), .t 90, .t 93], none⟩, ⟨some 2, .op (.mov (.t 94)), none⟩]) .ret)))))))))), [.tmp 2]⟩
def C65L0 : IC := (.block 1 (.seq (.ops [⟨some 9, .op (.mov (.t 0)), none⟩, ⟨some 10, .call 18 [.t 9], none⟩, ⟨some 11, .op (.field 2 none (.t 10)), none⟩, ⟨some 4, .op (.mov (.t 11)), none⟩]) (.block 2 (.seq (.ops [⟨some 14, .op (.mov (.t 0)), none⟩, ⟨some 15, .call 32 [.t 14, .c (.string ⟨#[46]⟩)], none⟩, ⟨some 13, .op (.mov (.t 15)), none⟩]) (.cond (.t 13) (.seq (.ops [⟨some 16, .op (.mov (.t 0)), none⟩, ⟨some 17, .call 33 [.t 16], none⟩, ⟨some 5, .op (.alloc [.int .i64 0, .string ⟨#[]⟩, .int .i64 0, .int .i64 0, .int .i64 0]), none⟩, ⟨none, .op (.store 5 (.t 5) (.t 17)), none⟩]) (.ops [⟨some 18, .op (.mov (.t 0)), none⟩, ⟨some 19, .op (.faddr 1 (.t 5)), none⟩, ⟨some 20, .op (.load none (.t 19)), none⟩, ⟨some 21, .op (.mov (.t 4)), none⟩, ⟨some 22, .op (.mov (.t 3)), none⟩, ⟨some 23, .op (.lit 1 1 [.int .i64 0] [(0, 1, .t 22)]), none⟩, ⟨some 24, .call 20 [.t 18, .c (.int .i64 20), .t 20, .t 21, .t 23], none⟩, ⟨some 3, .op (.mov (.t 24)), none⟩])) (.seq (.ops [⟨some 26, .op (.mov (.t 0)), none⟩, ⟨some 27, .call 32 [.t 26, .c (.string ⟨#[91]⟩)], none⟩, ⟨some 25, .op (.mov (.t 27)), none⟩]) (.cond (.t 25) (.seq (.ops [⟨some 28, .op (.mov (.t 0)), none⟩, ⟨some 29, .call 66 [.t 28], none⟩, ⟨some 6, .op (.mov (.t 29)), none⟩]) (.seq (.ops [⟨some 30, .op (.mov (.t 0)), none⟩, ⟨some 31, .call 34 [.t 30, .c (.string ⟨#[93]⟩)], none⟩]) (.ops [⟨some 32, .op (.mov (.t 0)), none⟩, ⟨some 33, .op (.mov (.t 4)), none⟩, ⟨some 34, .op (.mov (.t 3)), none⟩, ⟨some 35, .op (.mov (.t 6)), none⟩, ⟨some 36, .op (.lit 1 2 [.int .i64 0, .int .i64 0] [(0, 1, .t 34), (1, 1, .t 35)]), none⟩, ⟨some 37, .call 20 [.t 32, .c (.int .i64 21), .c (.string ⟨#[]⟩), .t 33, .t 36], none⟩, ⟨some 3, .op (.mov (.t 37)), none⟩]))) (.seq (.ops [⟨some 12, .op (.mov (.t 3)), none⟩, ⟨some 2, .op (.mov (.t 12)), none⟩]) .ret)))))))) def C65 : IFn := ⟨38, (.seq (.ops [⟨some 2, .op (.mov (.c (.int .i64 0))), none⟩]) (.seq (.ops [⟨some 7, .op (.mov (.t 0)), none⟩, ⟨some 8, .call 75 [.t 7], none⟩, ⟨some 3, .op (.mov (.t 8)), none⟩]) (.block 0 (.loop C65L0)))), [.tmp 2]⟩
def C66 : IFn := ⟨33, (.seq (.ops [⟨some 2, .op (.mov (.c (.int .i64 0))), none⟩]) (.seq (.ops [⟨some 6, .op (.mov (.t 0)), none⟩, ⟨some 7, .call 76 [.t 6, .c (.int .i64 0)], none⟩, ⟨some 3, .op (.mov (.t 7)), none⟩]) (.seq (.seq (.ops [⟨some 8, .op (.mov (.t 0)), none⟩, ⟨some 9, .op (.lit 1 4 [.string ⟨#[]⟩, .string ⟨#[]⟩, .string ⟨#[]⟩, .string ⟨#[]⟩] [(0, 1, .c (.string ⟨#[61, 61]⟩)), (1, 1, .c (.string ⟨#[33, 61]⟩)), (2, 1, .c (.string ⟨#[60]⟩)), (3, 1, .c (.string ⟨#[60, 61]⟩))]), none⟩, ⟨some 10, .call 55 [.t 8, .t 9], none⟩, ⟨some 11, .op (.un .not (.t 10)), none⟩]) (.cond (.t 11) (.seq (.ops [⟨some 12, .op (.mov (.t 3)), none⟩, ⟨some 2, .op (.mov (.t 12)), none⟩]) .ret) .skip)) (.seq (.ops [⟨some 13, .op (.mov (.t 0)), none⟩, ⟨some 14, .call 18 [.t 13], none⟩, ⟨some 4, .op (.alloc [.int .i64 0, .string ⟨#[]⟩, .int .i64 0, .int .i64 0, .int .i64 0]), none⟩, ⟨none, .op (.store 5 (.t 4) (.t 14)), none⟩]) (.seq (.ops [⟨some 15, .op (.mov (.t 0)), none⟩, ⟨some 16, .op (.nilck (.t 15)), none⟩, ⟨some 17, .op (.faddr 1 (.t 16)), none⟩, ⟨some 18, .op (.load none (.t 17)), none⟩, ⟨some 19, .op (.bin .add (.t 18) (.c (.int .i64 1))), none⟩, ⟨some 20, .op (.nilck (.t 15)), none⟩, ⟨some 21, .op (.faddr 1 (.t 20)), none⟩, ⟨none, .op (.store 1 (.t 21) (.t 19)), none⟩]) (.seq (.ops [⟨some 22, .op (.mov (.t 0)), none⟩, ⟨some 23, .call 76 [.t 22, .c (.int .i64 0)], none⟩, ⟨some 5, .op (.mov (.t 23)), none⟩]) (.seq (.ops [⟨some 24, .op (.mov (.t 0)), none⟩, ⟨some 25, .op (.faddr 1 (.t 4)), none⟩, ⟨some 26, .op (.load none (.t 25)), none⟩, ⟨some 27, .op (.faddr 2 (.t 4)), none⟩, ⟨some 28, .op (.load none (.t 27)), none⟩, ⟨some 29, .op (.mov (.t 3)), none⟩, ⟨some 30, .op (.mov (.t 5)), none⟩, ⟨some 31, .op (.lit 1 2 [.int .i64 0, .int .i64 0] [(0, 1, .t 29), (1, 1, .t 30)]), none⟩, ⟨some 32, .call 20 [.t 24, .c (.int .i64 19), .t 26, .t 28, .t 31], none⟩, ⟨some 2, .op (.mov (.t 32)), none⟩]) .ret))))))), [.tmp 2]⟩
def C68 : IFn := ⟨23, (.seq (.ops [⟨some 4, .op (.mov (.c (.int .i64 0))), none⟩]) (.seq (.ops [⟨some 7, .op (.mov (.t 0)), none⟩, ⟨some 8, .call 33 [.t 7], none⟩, ⟨some 5, .op (.alloc [.int .i64 0, .string ⟨#[]⟩, .int .i64 0, .int .i64 0, .int .i64 0]), none⟩, ⟨none, .op (.store 5 (.t 5) (.t 8)), none⟩]) (.seq (.ops [⟨some 9, .op (.mov (.t 0)), none⟩, ⟨some 10, .call 34 [.t 9, .c (.string ⟨#[61]⟩)], none⟩]) (.seq (.ops [⟨some 11, .op (.mov (.t 0)), none⟩, ⟨some 12, .call 66 [.t 11], none⟩, ⟨some 6, .op (.mov (.t 12)), none⟩]) (.seq (.ops [⟨some 13, .op (.mov (.t 0)), none⟩, ⟨some 14, .call 34 [.t 13, .c (.string ⟨#[59]⟩)], none⟩]) (.seq (.ops [⟨some 15, .op (.mov (.t 0)), none⟩, ⟨some 16, .op (.faddr 1 (.t 5)), none⟩, ⟨some 17, .op (.load none (.t 16)), none⟩, ⟨some 18, .op (.faddr 2 (.t 5)), none⟩, ⟨some 19, .op (.load none (.t 18)), none⟩, ⟨some 20, .op (.mov (.t 6)), none⟩, ⟨some 21, .op (.lit 1 1 [.int .i64 0] [(0, 1, .t 20)]), none⟩, ⟨some 22, .call 20 [.t 15, .c (.int .i64 5), .t 17, .t 19, .t 21], none⟩, ⟨some 4, .op (.mov (.t 22)), none⟩]) .ret)))))), [.tmp 4]⟩
def C69 : IFn := ⟨29, (.seq (.ops [⟨some 4, .op (.mov (.c (.int .i64 0))), none⟩]) (.seq (.ops [⟨some 7, .op (.mov (.t 0)), none⟩, ⟨some 8, .call 66 [.t 7], none⟩, ⟨some 5, .op (.mov (.t 8)), none⟩]) (.seq (.ops [⟨some 9, .op (.mov (.t 0)), none⟩, ⟨some 10, .call 37 [.t 9], none⟩, ⟨some 6, .op (.mov (.t 10)), none⟩]) (.seq (.seq (.ops [⟨some 11, .op (.mov (.t 0)), none⟩, ⟨some 12, .call 32 [.t 11, .c (.string ⟨#[101, 108, 115, 101]⟩)], none⟩]) (.cond (.t 12) (.seq (.ops [⟨some 13, .op (.mov (.t 0)), none⟩, ⟨some 14, .op (.mov (.t 1)), none⟩, ⟨some 15, .op (.mov (.t 5)), none⟩, ⟨some 16, .op (.mov (.t 6)), none⟩, ⟨some 17, .op (.mov (.t 0)), none⟩, ⟨some 18, .call 37 [.t 17], none⟩, ⟨some 19, .op (.lit 1 3 [.int .i64 0, .int .i64 0, .int .i64 0] [(0, 1, .t 15), (1, 1, .t 16), (2, 1, .t 18)]), none⟩, ⟨some 20, .call 20 [.t 13, .c (.int .i64 7), .c (.string ⟨#[]⟩), .t 14, .t 19], none⟩, ⟨some 4, .op (.mov (.t 20)), none⟩]) .ret) .skip)) (.seq (.ops [⟨some 21, .op (.mov (.t 0)), none⟩, ⟨some 22, .op (.mov (.t 1)), none⟩, ⟨some 23, .op (.mov (.t 5)), none⟩, ⟨some 24, .op (.mov (.t 6)), none⟩, ⟨some 25, .op (.mov (.t 0)), none⟩, ⟨some 26, .call 20 [.t 25, .c (.int .i64 14), .c (.string ⟨#[]⟩), .c (.int .i64 0), .c (.slice none 0 0)], none⟩, ⟨some 27, .op (.lit 1 3 [.int .i64 0, .int .i64 0, .int .i64 0] [(0, 1, .t 23), (1, 1, .t 24), (2, 1, .t 26)]), none⟩, ⟨some 28, .call 20 [.t 21, .c (.int .i64 7), .c (.string ⟨#[]⟩), .t 22, .t 27], none⟩, ⟨some 4, .op (.mov (.t 28)), none⟩]) .ret))))), [.tmp 4]⟩
def C70 : IFn := ⟨15, (.seq (.ops [⟨some 4, .op (.mov (.c (.int .i64 0))), none⟩]) (.seq (.ops [⟨some 6, .op (.mov (.t 0)), none⟩, ⟨some 7, .call 66 [.t 6], none⟩, ⟨some 5, .op (.mov (.t 7)), none⟩]) (.seq (.ops [⟨some 8, .op (.mov (.t 0)), none⟩, ⟨some 9, .op (.mov (.t 1)), none⟩, ⟨some 10, .op (.mov (.t 5)), none⟩, ⟨some 11, .op (.mov (.t 0)), none⟩, ⟨some 12, .call 37 [.t 11], none⟩, ⟨some 13, .op (.lit 1 2 [.int .i64 0, .int .i64 0] [(0, 1, .t 10), (1, 1, .t 12)]), none⟩, ⟨some 14, .call 20 [.t 8, .c (.int .i64 8), .c (.string ⟨#[]⟩), .t 9, .t 13], none⟩, ⟨some 4, .op (.mov (.t 14)), none⟩]) .ret))), [.tmp 4]⟩
def C71 : IFn := ⟨8, (.seq (.ops [⟨some 4, .op (.mov (.c (.int .i64 0))), none⟩]) (.seq (.ops [⟨some 5, .op (.mov (.t 0)), none⟩, ⟨some 6, .op (.mov (.t 1)), none⟩, ⟨some 7, .call 81 [.t 5, .c (.int .i64 9), .t 6], none⟩, ⟨some 4, .op (.mov (.t 7)), none⟩]) .ret)), [.tmp 4]⟩
def C72 : IFn := ⟨8, (.seq (.ops [⟨some 4, .op (.mov (.c (.int .i64 0))), none⟩]) (.seq (.ops [⟨some 5, .op (.mov (.t 0)), none⟩, ⟨some 6, .op (.mov (.t 1)), none⟩, ⟨some 7, .call 81 [.t 5, .c (.int .i64 10), .t 6], none⟩, ⟨some 4, .op (.mov (.t 7)), none⟩]) .ret)), [.tmp 4]⟩
def C73 : IFn := ⟨8, (.seq (.ops [⟨some 4, .op (.mov (.c (.int .i64 0))), none⟩]) (.seq (.ops [⟨some 5, .op (.mov (.t 0)), none⟩, ⟨some 6, .op (.mov (.t 1)), none⟩, ⟨some 7, .call 81 [.t 5, .c (.int .i64 11), .t 6], none⟩, ⟨some 4, .op (.mov (.t 7)), none⟩]) .ret)), [.tmp 4]⟩
def C74 : IFn := ⟨16, (.seq (.ops [⟨some 4, .op (.mov (.c (.int .i64 0))), none⟩]) (.seq (.ops [⟨some 6, .op (.mov (.t 0)), none⟩, ⟨some 7, .call 34 [.t 6, .c (.string ⟨#[40]⟩)], none⟩]) (.seq (.ops [⟨some 8, .op (.mov (.t 0)), none⟩, ⟨some 9, .call 35 [.t 8, .c (.string ⟨#[41]⟩), (.c (.func (.func 36) #[] #[]))], none⟩, ⟨some 5, .op (.mov (.t 9)), none⟩]) (.seq (.ops [⟨some 10, .op (.mov (.t 0)), none⟩, ⟨some 11, .call 34 [.t 10, .c (.string ⟨#[59]⟩)], none⟩]) (.seq (.ops [⟨some 12, .op (.mov (.t 0)), none⟩, ⟨some 13, .op (.mov (.t 1)), none⟩, ⟨some 14, .op (.mov (.t 5)), none⟩, ⟨some 15, .call 20 [.t 12, .c (.int .i64 13), .c (.string ⟨#[]⟩), .t 13, .t 14], none⟩, ⟨some 4, .op (.mov (.t 15)), none⟩]) .ret))))), [.tmp 4]⟩
def C75 : IFn := ⟨81, (.seq (.ops [⟨some 2, .op (.mov (.c (.int .i64 0))), none⟩]) (.seq (.ops [⟨some 7, .op (.mov (.t 0)), none⟩, ⟨some 8, .call 18 [.t 7], none⟩, ⟨some 3, .op (.alloc [.int .i64 0, .string ⟨#[]⟩, .int .i64 0, .int .i64 0, .int .i64 0]), none⟩, ⟨none, .op (.store 5 (.t 3) (.t 8)), none⟩]) (.seq (.seq (.ops [⟨some 9, .op (.faddr 0 (.t 3)), none⟩, ⟨some 10, .op (.load none (.t 9)), none⟩]) (.block 0 (.seq (.ops [⟨some 12, .op (.bin .eql (.t 10) (.c (.int .i64 4))), none⟩, ⟨some 11, .op (.mov (.t 12)), none⟩]) (.cond (.t 11) (.seq (.ops [⟨some 13, .op (.mov (.t 0)), none⟩, ⟨some 14, .op (.nilck (.t 13)), none⟩, ⟨some 15, .op (.faddr 1 (.t 14)), none⟩, ⟨some 16, .op (.load none (.t 15)), none⟩, ⟨some 17, .op (.bin .add (.t 16) (.c (.int .i64 1))), none⟩, ⟨some 18, .op (.nilck (.t 13)), none⟩, ⟨some 19, .op (.faddr 1 (.t 18)), none⟩, ⟨none, .op (.store 1 (.t 19) (.t 17)), none⟩]) (.seq (.draw [⟨some 20, .op (.mov (.t 0)), none⟩, ⟨some 21, .op (.faddr 4 (.t 3)), none⟩, ⟨some 22, .op (.load none (.t 21)), none⟩, ⟨some 23, .call 82 [.t 22, .c (.int .i64 10)], none⟩, ⟨some 24, .op (.faddr 2 (.t 3)), none⟩, ⟨some 25, .op (.load none (.t 24)), none⟩, ⟨some 26, .call 20 [.t 20, .c (.int .i64 15), .t 23, .t 25, .c (.slice none 0 0)], none⟩, ⟨some 2, .op (.mov (.t 26)), none⟩] [[], [], [1], [2, 1], [], [4], [3, 2, 1, 5, 4, 0], [6, 3, 2, 1, 5, 4, 0]]) .ret)) (.seq (.ops [⟨some 28, .op (.bin .eql (.t 10) (.c (.int .i64 1))), none⟩, ⟨some 27, .op (.mov (.t 28)), none⟩]) (.cond (.t 27) (.seq (.ops [⟨some 29, .op (.mov (.t 0)), none⟩, ⟨some 30, .op (.nilck (.t 29)), none⟩, ⟨some 31, .op (.faddr 1 (.t 30)), none⟩, ⟨some 32, .op (.load none (.t 31)), none⟩, ⟨some 33, .op (.bin .add (.t 32) (.c (.int .i64 1))), none⟩, ⟨some 34, .op (.nilck (.t 29)), none⟩, ⟨some 35, .op (.faddr 1 (.t 34)), none⟩, ⟨none, .op (.store 1 (.t 35) (.t 33)), none⟩]) (.seq (.seq (.ops [⟨some 36, .op (.mov (.t 0)), none⟩, ⟨some 37, .call 32 [.t 36, .c (.string ⟨#[40]⟩)], none⟩, ⟨some 38, .op (.un .not (.t 37)), none⟩]) (.cond (.t 38) (.seq (.ops [⟨some 39, .op (.mov (.t 0)), none⟩, ⟨some 40, .op (.faddr 1 (.t 3)), none⟩, ⟨some 41, .op (.load none (.t 40)), none⟩, ⟨some 42, .op (.faddr 2 (.t 3)), none⟩, ⟨some 43, .op (.load none (.t 42)), none⟩, ⟨some 44, .call 20 [.t 39, .c (.int .i64 17), .t 41, .t 43, .c (.slice none 0 0)], none⟩, ⟨some 2, .op (.mov (.t 44)), none⟩]) .ret) .skip)) (.seq (.ops [⟨some 45, .op (.mov (.t 0)), none⟩, ⟨some 46, .call 35 [.t 45, .c (.string ⟨#[41]⟩), (.c (.func (.func 66) #[] #[]))], none⟩, ⟨some 4, .op (.mov (.t 46)), none⟩]) (.seq (.ops [⟨some 47, .op (.mov (.t 0)), none⟩, ⟨some 48, .op (.faddr 1 (.t 3)), none⟩, ⟨some 49, .op (.load none (.t 48)), none⟩, ⟨some 50, .op (.faddr 2 (.t 3)), none⟩, ⟨some 51, .op (.load none (.t 50)), none⟩, ⟨some 52, .op (.mov (.t 4)), none⟩, ⟨some 53, .call 20 [.t 47, .c (.int .i64 22), .t 49, .t 51, .t 52], none⟩, ⟨some 2, .op (.mov (.t 53)), none⟩]) .ret)))) (.seq (.ops [⟨some 55, .op (.bin .eql (.t 10) (.c (.int .i64 2))), none⟩, ⟨some 54, .op (.mov (.t 55)), none⟩]) (.cond (.t 54) (.seq (.draw [⟨some 56, .call 83 [], none⟩, ⟨some 57, .op (.faddr 1 (.t 3)), none⟩, ⟨some 58, .op (.load none (.t 57)), none⟩, ⟨some 59, .op (.lookup (.one .str) .nilFunc false (.t 56) (.t 58)), none⟩, ⟨some 5, .op (.mov (.t 59)), none⟩] [[], [], [1], [2, 1, 0], [3, 2, 1, 0]]) (.seq (.ops [⟨some 60, .op (.mov (.t 5)), none⟩, ⟨some 61, .op (.isnil .fn true (.t 60)), none⟩]) (.cond (.t 61) (.seq (.ops [⟨some 62, .op (.mov (.t 0)), none⟩, ⟨some 63, .op (.nilck (.t 62)), none⟩, ⟨some 64, .op (.faddr 1 (.t 63)), none⟩, ⟨some 65, .op (.load none (.t 64)), none⟩, ⟨some 66, .op (.bin .add (.t 65) (.c (.int .i64 1))), none⟩, ⟨some 67, .op (.nilck (.t 62)), none⟩, ⟨some 68, .op (.faddr 1 (.t 67)), none⟩, ⟨none, .op (.store 1 (.t 68) (.t 66)), none⟩]) (.seq (.ops [⟨some 69, .op (.mov (.t 5)), none⟩, ⟨some 70, .op (.mov (.t 0)), none⟩, ⟨some 71, .op (.faddr 2 (.t 3)), none⟩, ⟨some 72, .op (.load none (.t 71)), none⟩, ⟨some 73, .callv (.t 69) [.t 70, .t 72], none⟩, ⟨some 2, .op (.mov (.t 73)), none⟩]) .ret)) .skip))) .skip)))))))) (.seq (.ops [⟨some 74, .op (.mov (.t 0)), none⟩, ⟨some 75, .call 34 [.t 74, .c (.string ⟨#[40]⟩)], none⟩]) (.seq (.ops [⟨some 76, .op (.mov (.t 0)), none⟩, ⟨some 77, .call 66 [.t 76], none⟩, ⟨some 6, .op (.mov (.t 77)), none⟩]) (.seq (.ops [⟨some 78, .op (.mov (.t 0)), none⟩, ⟨some 79, .call 34 [.t 78, .c (.string ⟨#[41]⟩)], none⟩]) (.seq (.ops [⟨some 80, .op (.mov (.t 6)), none⟩, ⟨some 2, .op (.mov (.t 80)), none⟩]) .ret))))))), [.tmp 2]⟩
def C76L0 : IC := (.seq (.seq (.ops [⟨some 20, .op (.mov (.t 0)), none⟩, ⟨some 21, .op (.mov (.t 5)), none⟩, ⟨some 22, .op (.mov (.t 1)), none⟩, ⟨some 23, .op (.iaddr (.sl 1) (.t 21) (.t 22)), none⟩, ⟨some 24, .op (.load none (.t 23)), none⟩, ⟨some 25, .call 55 [.t 20, .t 24], none⟩]) (.cond (.t 25) .skip (.exit 0))) (.block 1 (.seq (.ops [⟨some 26, .op (.mov (.t 0)), none⟩, ⟨some 27, .call 18 [.t 26], none⟩, ⟨some 7, .op (.alloc [.int .i64 0, .string ⟨#[]⟩, .int .i64 0, .int .i64 0, .int .i64 0]), none⟩, ⟨none, .op (.store 5 (.t 7) (.t 27)), none⟩]) (.seq (.ops [⟨some 28, .op (.mov (.t 0)), none⟩, ⟨some 29, .op (.nilck (.t 28)), none⟩, ⟨some 30, .op (.faddr 1 (.t 29)), none⟩, ⟨some 31, .op (.load none (.t 30)), none⟩, ⟨some 32, .op (.bin .add (.t 31) (.c (.int .i64 1))), none⟩, ⟨some 33, .op (.nilck (.t 28)), none⟩, ⟨some 34, .op (.faddr 1 (.t 33)), none⟩, ⟨none, .op (.store 1 (.t 34) (.t 32)), none⟩]) (.seq (.ops [⟨some 35, .op (.mov (.t 0)), none⟩, ⟨some 36, .op (.mov (.t 1)), none⟩, ⟨some 37, .op (.bin .add (.t 36) (.c (.int .i64 1))), none⟩, ⟨some 38, .call 76 [.t 35, .t 37], none⟩, ⟨some 8, .op (.mov (.t 38)), none⟩]) (.ops [⟨some 39, .op (.mov (.t 0)), none⟩, ⟨some 40, .op (.faddr 1 (.t 7)), none⟩, ⟨some 41, .op (.load none (.t 40)), none⟩, ⟨some 42, .op (.faddr 2 (.t 7)), none⟩, ⟨some 43, .op (.load none (.t 42)), none⟩, ⟨some 44, .op (.mov (.t 6)), none⟩, ⟨some 45, .op (.mov (.t 8)), none⟩, ⟨some 46, .op (.lit 1 2 [.int .i64 0, .int .i64 0] [(0, 1, .t 44), (1, 1, .t 45)]), none⟩, ⟨some 47, .call 20 [.t 39, .c (.int .i64 19), .t 41, .t 43, .t 46], none⟩, ⟨some 6, .op (.mov (.t 47)), none⟩])))))) def C76 : IFn := ⟨49, (.seq (.ops [⟨some 4, .op (.mov (.c (.int .i64 0))), none⟩]) (.seq (.ops [⟨some 9, .call 84 [], none⟩, ⟨some 5, .op (.mov (.t 9)), none⟩]) (.seq (.seq (.ops [⟨some 10, .op (.mov (.t 1)), none⟩, ⟨some 11, .op (.mov (.t 5)), none⟩, ⟨some 12, .op (.len .sl (.t 11)), none⟩, ⟨some 13, .op (.bin .eql (.t 10) (.t 12)), none⟩]) (.cond (.t 13) (.seq (.ops [⟨some 14, .op (.mov (.t 0)), none⟩, ⟨some 15, .call 85 [.t 14], none⟩, ⟨some 4, .op (.mov (.t 15)), none⟩]) .ret) .skip)) (.seq (.ops [⟨some 16, .op (.mov (.t 0)), none⟩, ⟨some 17, .op (.mov (.t 1)), none⟩, ⟨some 18, .op (.bin .add (.t 17) (.c (.int .i64 1))), none⟩, ⟨some 19, .call 76 [.t 16, .t 18], none⟩, ⟨some 6, .op (.mov (.t 19)), none⟩]) (.seq (.block 0 (.loop C76L0)) (.seq (.ops [⟨some 48, .op (.mov (.t 6)), none⟩, ⟨some 4, .op (.mov (.t 48)), none⟩]) .ret)))))), [.tmp 4]⟩
def C81 : IFn := ⟨18, (.seq (.ops [⟨some 6, .op (.mov (.c (.int .i64 0))), none⟩]) (.seq (.ops [⟨some 8, .op (.mov (.t 0)), none⟩, ⟨some 9, .call 66 [.t 8], none⟩, ⟨some 7, .op (.mov (.t 9)), none⟩]) (.seq (.ops [⟨some 10, .op (.mov (.t 0)), none⟩, ⟨some 11, .call 34 [.t 10, .c (.string ⟨#[59]⟩)], none⟩]) (.seq (.ops [⟨some 12, .op (.mov (.t 0)), none⟩, ⟨some 13, .op (.mov (.t 1)), none⟩, ⟨some 14, .op (.mov (.t 2)), none⟩, ⟨some 15, .op (.mov (.t 7)), none⟩, ⟨some 16, .op (.lit 1 1 [.int .i64 0] [(0, 1, .t 15)]), none⟩, ⟨some 17, .call 20 [.t 12, .t 13, .c (.string ⟨#[]⟩), .t 14, .t 16], none⟩, ⟨some 6, .op (.mov (.t 17)), none⟩]) .ret)))), [.tmp 6]⟩
def C85 : IFn := ⟨30, (.seq (.ops [⟨some 2, .op (.mov (.c (.int .i64 0))), none⟩]) (.seq (.ops [⟨some 5, .op (.mov (.t 0)), none⟩, ⟨some 6, .call 18 [.t 5], none⟩, ⟨some 3, .op (.alloc [.int .i64 0, .string ⟨#[]⟩, .int .i64 0, .int .i64 0, .int .i64 0]), none⟩, ⟨none, .op (.store 5 (.t 3) (.t 6)), none⟩]) (.seq (.seq (.ops [⟨some 7, .op (.mov (.t 0)), none⟩, ⟨some 8, .op (.lit 1 3 [.string ⟨#[]⟩, .string ⟨#[]⟩, .string ⟨#[]⟩] [(0, 1, .c (.string ⟨#[45]⟩)), (1, 1, .c (.string ⟨#[33]⟩)), (2, 1, .c (.string ⟨#[126]⟩))]), none⟩, ⟨some 9, .call 55 [.t 7, .t 8], none⟩, ⟨some 10, .op (.un .not (.t 9)), none⟩]) (.cond (.t 10) (.seq (.ops [⟨some 11, .op (.mov (.t 0)), none⟩, ⟨some 12, .call 65 [.t 11], none⟩, ⟨some 2, .op (.mov (.t 12)), none⟩]) .ret) .skip)) (.seq (.ops [⟨some 13, .op (.mov (.t 0)), none⟩, ⟨some 14, .op (.nilck (.t 13)), none⟩, ⟨some 15, .op (.faddr 1 (.t 14)), none⟩, ⟨some 16, .op (.load none (.t 15)), none⟩, ⟨some 17, .op (.bin .add (.t 16) (.c (.int .i64 1))), none⟩, ⟨some 18, .op (.nilck (.t 13)), none⟩, ⟨some 19, .op (.faddr 1 (.t 18)), none⟩, ⟨none, .op (.store 1 (.t 19) (.t 17)), none⟩]) (.seq (.ops [⟨some 20, .op (.mov (.t 0)), none⟩, ⟨some 21, .call 85 [.t 20], none⟩, ⟨some 4, .op (.mov (.t 21)), none⟩]) (.seq (.ops [⟨some 22, .op (.mov (.t 0)), none⟩, ⟨some 23, .op (.faddr 1 (.t 3)), none⟩, ⟨some 24, .op (.load none (.t 23)), none⟩, ⟨some 25, .op (.faddr 2 (.t 3)), none⟩, ⟨some 26, .op (.load none (.t 25)), none⟩, ⟨some 27, .op (.mov (.t 4)), none⟩, ⟨some 28, .op (.lit 1 1 [.int .i64 0] [(0, 1, .t 27)]), none⟩, ⟨some 29, .call 20 [.t 22, .c (.int .i64 18), .t 24, .t 26, .t 28], none⟩, ⟨some 2, .op (.mov (.t 29)), none⟩]) .ret)))))), [.tmp 2]⟩
def C89 : IFn := ⟨8, (.seq (.ops [⟨some 4, .op (.mov (.c (.int .i64 0))), none⟩]) (.seq (.ops [⟨some 5, .op (.mov (.t 0)), none⟩, ⟨some 6, .op (.mov (.t 1)), none⟩, ⟨some 7, .call 20 [.t 5, .c (.int .i64 16), .c (.string ⟨#[]⟩), .t 6, .c (.slice none 0 0)], none⟩, ⟨some 4, .op (.mov (.t 7)), none⟩]) .ret)), [.tmp 4]⟩
def C90 : IFn := ⟨8, (.seq (.ops [⟨some 4, .op (.mov (.c (.int .i64 0))), none⟩]) (.seq (.ops [⟨some 5, .op (.mov (.t 0)), none⟩, ⟨some 6, .op (.mov (.t 1)), none⟩, ⟨some 7, .call 20 [.t 5, .c (.int .i64 30), .c (.string ⟨#[]⟩), .t 6, .c (.slice none 0 0)], none⟩, ⟨some 4, .op (.mov (.t 7)), none⟩]) .ret)), [.tmp 4]⟩
def C91 : IFn := ⟨14, (.seq (.ops [⟨some 4, .op (.mov (.c (.int .i64 0))), none⟩]) (.seq (.ops [⟨some 6, .op (.mov (.t 0)), none⟩, ⟨some 7, .call 33 [.t 6], none⟩, ⟨some 5, .op (.alloc [.int .i64 0, .string ⟨#[]⟩, .int .i64 0, .int .i64 0, .int .i64 0]), none⟩, ⟨none, .op (.store 5 (.t 5) (.t 7)), none⟩]) (.seq (.ops [⟨some 8, .op (.mov (.t 0)), none⟩, ⟨some 9, .op (.faddr 1 (.t 5)), none⟩, ⟨some 10, .op (.load none (.t 9)), none⟩, ⟨some 11, .op (.faddr 2 (.t 5)), none⟩, ⟨some 12, .op (.load none (.t 11)), none⟩, ⟨some 13, .call 20 [.t 8, .c (.int .i64 23), .t 10, .t 12, .c (.slice none 0 0)], none⟩, ⟨some 4, .op (.mov (.t 13)), none⟩]) .ret))), [.tmp 4]⟩
def C92 : IFn := ⟨8, (.seq (.ops [⟨some 4, .op (.mov (.c (.int .i64 0))), none⟩]) (.seq (.ops [⟨some 5, .op (.mov (.t 0)), none⟩, ⟨some 6, .op (.mov (.t 1)), none⟩, ⟨some 7, .call 102 [.t 5, .c (.int .i64 24), .t 6], none⟩, ⟨some 4, .op (.mov (.t 7)), none⟩]) .ret)), [.tmp 4]⟩
def C93 : IFn := ⟨8, (.seq (.ops [⟨some 4, .op (.mov (.c (.int .i64 0))), none⟩]) (.seq (.ops [⟨some 5, .op (.mov (.t 0)), none⟩, ⟨some 6, .op (.mov (.t 1)), none⟩, ⟨some 7, .call 102 [.t 5, .c (.int .i64 25), .t 6], none⟩, ⟨some 4, .op (.mov (.t 7)), none⟩]) .ret)), [.tmp 4]⟩
def C94 : IFn := ⟨8, (.seq (.ops [⟨some 4, .op (.mov (.c (.int .i64 0))), none⟩]) (.seq (.ops [⟨some 5, .op (.mov (.t 0)), none⟩, ⟨some 6, .op (.mov (.t 1)), none⟩, ⟨some 7, .call 103 [.t 5, .c (.int .i64 26), .t 6], none⟩, ⟨some 4, .op (.mov (.t 7)), none⟩]) .ret)), [.tmp 4]⟩
def C95 : IFn := ⟨8, (.seq (.ops [⟨some 4, .op (.mov (.c (.int .i64 0))), none⟩]) (.seq (.ops [⟨some 5, .op (.mov (.t 0)), none⟩, ⟨some 6, .op (.mov (.t 1)), none⟩, ⟨some 7, .call 102 [.t 5, .c (.int .i64 27), .t 6], none⟩, ⟨some 4, .op (.mov (.t 7)), none⟩]) .ret)), [.tmp 4]⟩
def C96 : IFn := ⟨8, (.seq (.ops [⟨some 4, .op (.mov (.c (.int .i64 0))), none⟩]) (.seq (.ops [⟨some 5, .op (.mov (.t 0)), none⟩, ⟨some 6, .op (.mov (.t 1)), none⟩, ⟨some 7, .call 103 [.t 5, .c (.int .i64 28), .t 6], none⟩, ⟨some 4, .op (.mov (.t 7)), none⟩]) .ret)), [.tmp 4]⟩
def C97 : IFn := ⟨8, (.seq (.ops [⟨some 4, .op (.mov (.c (.int .i64 0))), none⟩]) (.seq (.ops [⟨some 5, .op (.mov (.t 0)), none⟩, ⟨some 6, .op (.mov (.t 1)), none⟩, ⟨some 7, .call 102 [.t 5, .c (.int .i64 29), .t 6], none⟩, ⟨some 4, .op (.mov (.t 7)), none⟩]) .ret)), [.tmp 4]⟩
def C102 : IFn := ⟨20, (.seq (.ops [⟨some 6, .op (.mov (.c (.int .i64 0))), none⟩]) (.seq (.ops [⟨some 8, .op (.mov (.t 0)), none⟩, ⟨some 9, .call 34 [.t 8, .c (.string ⟨#[40]⟩)], none⟩]) (.seq (.ops [⟨some 10, .op (.mov (.t 0)), none⟩, ⟨some 11, .call 66 [.t 10], none⟩, ⟨some 7, .op (.mov (.t 11)), none⟩]) (.seq (.ops [⟨some 12, .op (.mov (.t 0)), none⟩, ⟨some 13, .call 34 [.t 12, .c (.string ⟨#[41]⟩)], none⟩]) (.seq (.ops [⟨some 14, .op (.mov (.t 0)), none⟩, ⟨some 15, .op (.mov (.t 1)), none⟩, ⟨some 16, .op (.mov (.t 2)), none⟩, ⟨some 17, .op (.mov (.t 7)), none⟩, ⟨some 18, .op (.lit 1 1 [.int .i64 0] [(0, 1, .t 17)]), none⟩, ⟨some 19, .call 20 [.t 14, .t 15, .c (.string ⟨#[]⟩), .t 16, .t 18], none⟩, ⟨some 6, .op (.mov (.t 19)), none⟩]) .ret))))), [.tmp 6]⟩
def C103 : IFn := ⟨15, (.seq (.ops [⟨some 6, .op (.mov (.c (.int .i64 0))), none⟩]) (.seq (.ops [⟨some 7, .op (.mov (.t 0)), none⟩, ⟨some 8, .call 34 [.t 7, .c (.string ⟨#[40]⟩)], none⟩]) (.seq (.ops [⟨some 9, .op (.mov (.t 0)), none⟩, ⟨some 10, .call 34 [.t 9, .c (.string ⟨#[41]⟩)], none⟩]) (.seq (.ops [⟨some 11, .op (.mov (.t 0)), none⟩, ⟨some 12, .op (.mov (.t 1)), none⟩, ⟨some 13, .op (.mov (.t 2)), none⟩, ⟨some 14, .call 20 [.t 11, .t 12, .c (.string ⟨#[]⟩), .t 13, .c (.slice none 0 0)], none⟩, ⟨some 6, .op (.mov (.t 14)), none⟩]) .ret)))), [.tmp 6]⟩
def C83 : IFn := ⟨3, (.seq (.ops [⟨some 0, .op (.mov (.c (.map none))), none⟩]) (.seq (.ops [⟨some 1, .op (.mkmap (.one .str)), none⟩, ⟨none, .op (.mapset (.one .str) (.t 1) (.c (.string ⟨#[110, 117, 108, 108]⟩)) (.c (.func (.func 89) #[] #[]))), none⟩, ⟨none, .op (.mapset (.one .str) (.t 1) (.c (.string ⟨#[114, 111, 111, 116]⟩)) (.c (.func (.func 90) #[] #[]))), none⟩, ⟨none, .op (.mapset (.one .str) (.t 1) (.c (.string ⟨#[110, 101, 119]⟩)) (.c (.func (.func 91) #[] #[]))), none⟩, ⟨none, .op (.mapset (.one .str) (.t 1) (.c (.string ⟨#[97, 114, 114]⟩)) (.c (.func (.func 92) #[] #[]))), none⟩, ⟨none, .op (.mapset (.one .str) (.t 1) (.c (.string ⟨#[108, 101, 110]⟩)) (.c (.func (.func 93) #[] #[]))), none⟩, ⟨none, .op (.mapset (.one .str) (.t 1) (.c (.string ⟨#[105, 110]⟩)) (.c (.func (.func 94) #[] #[]))), none⟩, ⟨none, .op (.mapset (.one .str) (.t 1) (.c (.string ⟨#[105, 109, 103]⟩)) (.c (.func (.func 95) #[] #[]))), none⟩, ⟨none, .op (.mapset (.one .str) (.t 1) (.c (.string ⟨#[115, 105, 122, 101]⟩)) (.c (.func (.func 96) #[] #[]))), none⟩, ⟨none, .op (.mapset (.one .str) (.t 1) (.c (.string ⟨#[112, 114, 111, 109, 111, 116, 101]⟩)) (.c (.func (.func 97) #[] #[]))), none⟩, ⟨some 2, .op (.mov (.t 1)), none⟩, ⟨some 0, .op (.mov (.t 2)), none⟩]) .ret)), [.tmp 0]⟩
def C64 : IFn := ⟨3, (.seq (.ops [⟨some 0, .op (.mov (.c (.map none))), none⟩]) (.seq (.ops [⟨some 1, .op (.mkmap (.one .str)), none⟩, ⟨none, .op (.mapset (.one .str) (.t 1) (.c (.string ⟨#[108, 101, 116]⟩)) (.c (.func (.func 68) #[] #[]))), none⟩, ⟨none, .op (.mapset (.one .str) (.t 1) (.c (.string ⟨#[105, 102]⟩)) (.c (.func (.func 69) #[] #[]))), none⟩, ⟨none, .op (.mapset (.one .str) (.t 1) (.c (.string ⟨#[119, 104, 105, 108, 101]⟩)) (.c (.func (.func 70) #[] #[]))), none⟩, ⟨none, .op (.mapset (.one .str) (.t 1) (.c (.string ⟨#[114, 101, 116, 117, 114, 110]⟩)) (.c (.func (.func 71) #[] #[]))), none⟩, ⟨none, .op (.mapset (.one .str) (.t 1) (.c (.string ⟨#[111, 117, 116]⟩)) (.c (.func (.func 72) #[] #[]))), none⟩, ⟨none, .op (.mapset (.one .str) (.t 1) (.c (.string ⟨#[115, 116, 111, 112]⟩)) (.c (.func (.func 73) #[] #[]))), none⟩, ⟨none, .op (.mapset (.one .str) (.t 1) (.c (.string ⟨#[109, 101, 114, 103, 101]⟩)) (.c (.func (.func 74) #[] #[]))), none⟩, ⟨some 2, .op (.mov (.t 1)), none⟩, ⟨some 0, .op (.mov (.t 2)), none⟩]) .ret)), [.tmp 0]⟩
def C84 : IFn := ⟨7, (.seq (.ops [⟨some 0, .op (.mov (.c (.slice none 0 0))), none⟩]) (.seq (.ops [⟨some 1, .op (.lit 1 2 [.string ⟨#[]⟩, .string ⟨#[]⟩] [(0, 1, .c (.string ⟨#[124]⟩)), (1, 1, .c (.string ⟨#[94]⟩))]), none⟩, ⟨some 2, .op (.lit 1 1 [.string ⟨#[]⟩] [(0, 1, .c (.string ⟨#[38]⟩))]), none⟩, ⟨some 3, .op (.lit 1 2 [.string ⟨#[]⟩, .string ⟨#[]⟩] [(0, 1, .c (.string ⟨#[60, 60]⟩)), (1, 1, .c (.string ⟨#[62, 62]⟩))]), none⟩, ⟨some 4, .op (.lit 1 2 [.string ⟨#[]⟩, .string ⟨#[]⟩] [(0, 1, .c (.string ⟨#[43]⟩)), (1, 1, .c (.string ⟨#[45]⟩))]), none⟩, ⟨some 5, .op (.lit 1 3 [.string ⟨#[]⟩, .string ⟨#[]⟩, .string ⟨#[]⟩] [(0, 1, .c (.string ⟨#[42]⟩)), (1, 1, .c (.string ⟨#[47]⟩)), (2, 1, .c (.string ⟨#[37]⟩))]), none⟩, ⟨some 6, .op (.lit 1 5 [(.slice none 0 0), (.slice none 0 0), (.slice none 0 0), (.slice none 0 0), (.slice none 0 0)] [(0, 1, .t 1), (1, 1, .t 2), (2, 1, .t 3), (3, 1, .t 4), (4, 1, .t 5)]), none⟩, ⟨some 0, .op (.mov (.t 6)), none⟩]) .ret)), [.tmp 0]⟩
def C17L0 : IC := (.seq (.ops [⟨some 8, .op (.bin .lss (.t 7) (.t 6)), none⟩]) (.seq (.cond (.t 8) .skip (.exit 0)) (.seq (.block 1 (.seq (.ops [⟨some 9, .op (.iaddr (.sl 5) (.t 5) (.t 7)), none⟩, ⟨some 10, .op (.load (some 5) (.t 9)), none⟩, ⟨some 4, .op (.alloc [.int .i64 0, .string ⟨#[]⟩, .int .i64 0, .int .i64 0, .int .i64 0]), none⟩, ⟨none, .op (.store 5 (.t 4) (.t 10)), none⟩]) (.seq (.seq (.ops [⟨some 11, .op (.faddr 0 (.t 4)), none⟩, ⟨some 12, .op (.load none (.t 11)), none⟩, ⟨some 13, .op (.bin .neq (.t 12) (.c (.int .i64 3))), none⟩]) (.cond (.t 13) (.exit 1) .skip)) (.seq (.ops [⟨some 14, .op (.faddr 1 (.t 4)), none⟩, ⟨some 15, .op (.load none (.t 14)), none⟩]) (.block 2 (.seq (.seq (.ops [⟨some 17, .op (.bin .eql (.t 15) (.c (.string ⟨#[40]⟩))), none⟩, ⟨some 16, .op (.mov (.t 17)), none⟩]) (.cond (.t 16) .skip (.seq (.ops [⟨some 18, .op (.bin .eql (.t 15) (.c (.string ⟨#[91]⟩))), none⟩, ⟨some 16, .op (.mov (.t 18)), none⟩]) (.cond (.t 16) .skip (.ops [⟨some 19, .op (.bin .eql (.t 15) (.c (.string ⟨#[123]⟩))), none⟩, ⟨some 16, .op (.mov (.t 19)), none⟩]))))) (.cond (.t 16) (.seq (.ops [⟨some 20, .op (.mov (.t 2)), none⟩, ⟨some 21, .op (.bin .add (.t 20) (.c (.int .i64 1))), none⟩, ⟨some 2, .op (.mov (.t 21)), none⟩]) (.seq (.ops [⟨some 22, .op (.mov (.t 2)), none⟩, ⟨some 23, .op (.bin .gtr (.t 22) (.c (.int .i64 150))), none⟩]) (.cond (.t 23) (.ops [⟨some 24, .op (.faddr 2 (.t 4)), none⟩, ⟨some 25, .op (.load none (.t 24)), none⟩, ⟨some 26, .op (.build [.int .i64 0, .int .i64 0] [(0, 1, .t 25), (1, 1, .c (.int .i64 51))]), none⟩, ⟨some 27, .op (.iface 44 (.t 26)), none⟩, ⟨none, .panic (.t 27), none⟩]) .skip))) (.seq (.seq (.ops [⟨some 29, .op (.bin .eql (.t 15) (.c (.string ⟨#[41]⟩))), none⟩, ⟨some 28, .op (.mov (.t 29)), none⟩]) (.cond (.t 28) .skip (.seq (.ops [⟨some 30, .op (.bin .eql (.t 15) (.c (.string ⟨#[93]⟩))), none⟩, ⟨some 28, .op (.mov (.t 30)), none⟩]) (.cond (.t 28) .skip (.ops [⟨some 31, .op (.bin .eql (.t 15) (.c (.string ⟨#[125]⟩))), none⟩, ⟨some 28, .op (.mov (.t 31)), none⟩]))))) (.cond (.t 28) (.ops [⟨some 32, .op (.mov (.t 2)), none⟩, ⟨some 33, .op (.bin .sub (.t 32) (.c (.int .i64 1))), none⟩, ⟨some 34, .op (.minmax true (.t 33) (.c (.int .i64 0))), none⟩, ⟨some 2, .op (.mov (.t 34)), none⟩]) .skip))))))))) (.ops [⟨some 35, .op (.bin .add (.t 7) (.c (.int .i64 1))), none⟩, ⟨some 7, .op (.mov (.t 35)), none⟩])))) def C17 : IFn := ⟨36, (.seq (.ops [⟨some 2, .op (.mov (.c (.int .i64 0))), none⟩]) (.seq (.ops [⟨some 5, .op (.mov (.t 0)), none⟩, ⟨some 6, .op (.len .sl (.t 5)), none⟩, ⟨some 7, .op (.mov (.c (.int .i64 0))), none⟩]) (.block 0 (.loop C17L0)))), []⟩
def C12L0 : IC := (.seq (.seq (.ops [⟨some 25, .op (.mov (.t 6)), none⟩, ⟨some 26, .call 18 [.t 25], none⟩, ⟨some 27, .op (.field 0 none (.t 26)), none⟩, ⟨some 28, .op (.bin .neq (.t 27) (.c (.int .i64 0))), none⟩]) (.cond (.t 28) .skip (.exit 0))) (.block 1 (.ops [⟨some 29, .op (.mov (.t 7)), none⟩, ⟨some 30, .op (.mov (.t 6)), none⟩, ⟨some 31, .call 19 [.t 30], none⟩, ⟨some 32, .op (.lit 1 1 [.int .i64 0] [(0, 1, .t 31)]), none⟩, ⟨some 33, .op (.append 1 8 (.t 29) (.t 32)), none⟩, ⟨some 7, .op (.mov (.t 33)), none⟩]))) def C12 : IFn := ⟨59, (.seq (.ops [⟨some 2, .op (.mov (.c (.slice none 0 0))), none⟩]) (.seq (.ops [⟨some 9, .op (.mov (.t 0)), none⟩, ⟨some 10, .call 16 [.t 9], none⟩, ⟨some 8, .op (.mov (.t 10)), none⟩, ⟨some 11, .op (.extract (.t 8) 0), none⟩, ⟨some 12, .op (.extract (.t 8) 1), none⟩, ⟨some 13, .op (.extract (.t 8) 2), none⟩, ⟨some 3, .op (.mov (.t 11)), none⟩, ⟨some 4, .op (.mov (.t 12)), none⟩, ⟨some 5, .op (.mov (.t 13)), none⟩]) (.seq (.seq (.ops [⟨some 14, .op (.mov (.t 5)), none⟩, ⟨some 15, .op (.bin .neq (.t 14) (.c (.int .i64 0))), none⟩]) (.cond (.t 15) (.ops [⟨some 16, .op (.mov (.t 4)), none⟩, ⟨some 17, .op (.mov (.t 5)), none⟩, ⟨some 18, .op (.build [.int .i64 0, .int .i64 0] [(0, 1, .t 16), (1, 1, .t 17)]), none⟩, ⟨some 19, .op (.iface 44 (.t 18)), none⟩, ⟨none, .panic (.t 19), none⟩]) .skip)) (.seq (.ops [⟨some 20, .op (.mov (.t 3)), none⟩, ⟨some 21, .call 17 [.t 20], none⟩]) (.seq (.ops [⟨some 22, .op (.mov (.t 3)), none⟩, ⟨some 23, .op (.build [(.slice none 0 0), .int .i64 0, (.slice none 0 0)] [(0, 1, .t 22)]), none⟩, ⟨some 24, .op (.box (.t 23)), none⟩, ⟨some 6, .op (.mov (.t 24)), none⟩]) (.seq (.ops [⟨some 7, .op (.mov (.c (.slice none 0 0))), none⟩]) (.seq (.block 0 (.loop C12L0)) (.seq (.ops [⟨some 34, .op (.mov (.t 6)), none⟩, ⟨some 35, .op (.mov (.t 7)), none⟩, ⟨some 36, .call 20 [.t 34, .c (.int .i64 1), .c (.string ⟨#[]⟩), .c (.int .i64 0), .t 35], none⟩]) (.seq (.block 2 (.seq (.ops [⟨some 38, .op (.mov (.t 6)), none⟩, ⟨some 39, .op (.nilck (.t 38)), none⟩, ⟨some 40, .op (.faddr 2 (.t 39)), none⟩, ⟨some 41, .op (.load none (.t 40)), none⟩, ⟨some 42, .op (.len .sl (.t 41)), none⟩, ⟨some 43, .op (.bin .gtr (.t 42) (.c (.int .i64 50000))), none⟩, ⟨some 37, .op (.mov (.t 43)), none⟩]) (.cond (.t 37) (.ops [⟨some 44, .op (.build [.int .i64 0, .int .i64 0] [(0, 1, .c (.int .i64 0)), (1, 1, .c (.int .i64 2))]), none⟩, ⟨some 45, .op (.iface 44 (.t 44)), none⟩, ⟨none, .panic (.t 45), none⟩]) (.seq (.ops [⟨some 47, .op (.mov (.t 6)), none⟩, ⟨some 48, .op (.nilck (.t 47)), none⟩, ⟨some 49, .op (.faddr 2 (.t 48)), none⟩, ⟨some 50, .op (.load none (.t 49)), none⟩, ⟨some 51, .call 21 [.t 50], none⟩, ⟨some 52, .op (.bin .gtr (.t 51) (.c (.int .i64 200))), none⟩, ⟨some 46, .op (.mov (.t 52)), none⟩]) (.cond (.t 46) (.ops [⟨some 53, .op (.build [.int .i64 0, .int .i64 0] [(0, 1, .c (.int .i64 0)), (1, 1, .c (.int .i64 51))]), none⟩, ⟨some 54, .op (.iface 44 (.t 53)), none⟩, ⟨none, .panic (.t 54), none⟩]) .skip))))) (.seq (.ops [⟨some 55, .op (.mov (.t 6)), none⟩, ⟨some 56, .op (.nilck (.t 55)), none⟩, ⟨some 57, .op (.faddr 2 (.t 56)), none⟩, ⟨some 58, .op (.load none (.t 57)), none⟩, ⟨some 2, .op (.mov (.t 58)), none⟩]) .ret)))))))))), [.tmp 2]⟩
def C9 : IFn := ⟨8, (.seq (.ops [⟨some 2, .op (.alloc [(.slice none 0 0)]), none⟩, ⟨some 3, .op (.alloc [.int .i64 0]), none⟩, ⟨some 4, .op (.alloc [.int .i64 0]), none⟩]) (.seq (.ops [⟨some 5, .op (.fn 11 [] [.t 2, .t 3, .t 4]), none⟩, ⟨none, .defer (.t 5) [], none⟩]) (.seq (.ops [⟨some 6, .op (.mov (.t 0)), none⟩, ⟨some 7, .call 12 [.t 6], none⟩, ⟨none, .op (.store 1 (.t 2) (.t 7)), none⟩, ⟨none, .op (.store 1 (.t 3) (.c (.int .i64 0))), none⟩, ⟨none, .op (.store 1 (.t 4) (.c (.int .i64 0))), none⟩]) .ret))), [.cell 2 none, .cell 3 none, .cell 4 none]⟩
def C11 : IFn := ⟨21, (.seq (.ops [⟨some 6, .op (.recover), none⟩, ⟨some 3, .op (.mov (.t 6)), none⟩]) (.seq (.ops [⟨some 7, .op (.mov (.t 3)), none⟩, ⟨some 8, .op (.isnil .ifc true (.t 7)), none⟩]) (.cond (.t 8) (.seq (.ops [⟨some 10, .op (.mov (.t 3)), none⟩, ⟨some 11, .op (.assert 44 (.agg #[.int .i64 0, .int .i64 0]) (.t 10)), none⟩, ⟨some 9, .op (.mov (.t 11)), none⟩, ⟨some 12, .op (.extract (.t 9) 0), none⟩, ⟨some 13, .op (.extract (.t 9) 1), none⟩, ⟨some 4, .op (.alloc [.int .i64 0, .int .i64 0]), none⟩, ⟨none, .op (.store 2 (.t 4) (.t 12)), none⟩, ⟨some 5, .op (.mov (.t 13)), none⟩]) (.seq (.seq (.ops [⟨some 14, .op (.mov (.t 5)), none⟩, ⟨some 15, .op (.un .not (.t 14)), none⟩]) (.cond (.t 15) (.ops [⟨some 16, .op (.mov (.t 3)), none⟩, ⟨none, .panic (.t 16), none⟩]) .skip)) (.draw [⟨some 17, .op (.faddr 0 (.t 4)), none⟩, ⟨some 18, .op (.load none (.t 17)), none⟩, ⟨some 19, .op (.faddr 1 (.t 4)), none⟩, ⟨some 20, .op (.load none (.t 19)), none⟩, ⟨none, .op (.store 1 (.t 0) (.c (.slice none 0 0))), none⟩, ⟨none, .op (.store 1 (.t 1) (.t 18)), none⟩, ⟨none, .op (.store 1 (.t 2) (.t 20)), none⟩] [[], [0], [], [2], [], [4, 1, 0], [5, 4, 1, 0, 3, 2]]))) .skip))), []⟩
def C63 : IFn := ⟨9, (.seq (.ops [⟨some 4, .op (.mov (.c (.bool false))), none⟩]) (.seq (.ops [⟨some 5, .op (.mov (.t 0)), none⟩, ⟨some 6, .op (.mov (.t 1)), none⟩, ⟨some 7, .call 8 [.t 5, .t 6], none⟩, ⟨some 8, .op (.bin .geq (.t 7) (.c (.int .i64 0))), none⟩, ⟨some 4, .op (.mov (.t 8)), none⟩]) .ret)), [.tmp 4]⟩
def C8L0 : IC := (.seq (.ops [⟨some 9, .op (.bin .lss (.t 8) (.t 7)), none⟩]) (.seq (.cond (.t 9) .skip (.exit 0)) (.seq (.block 1 (.seq (.ops [⟨some 10, .op (.mov (.t 8)), none⟩, ⟨some 5, .op (.mov (.t 10)), none⟩]) (.seq (.ops [⟨some 11, .op (.mov (.t 1)), none⟩, ⟨some 12, .op (.mov (.t 0)), none⟩, ⟨some 13, .op (.mov (.t 5)), none⟩, ⟨some 14, .op (.iaddr (.sl 1) (.t 12) (.t 13)), none⟩, ⟨some 15, .op (.load none (.t 14)), none⟩, ⟨some 16, .op (.bin .eql (.t 11) (.t 15)), none⟩]) (.cond (.t 16) (.seq (.ops [⟨some 17, .op (.mov (.t 5)), none⟩, ⟨some 4, .op (.mov (.t 17)), none⟩]) .ret) .skip)))) (.ops [⟨some 18, .op (.bin .add (.t 8) (.c (.int .i64 1))), none⟩, ⟨some 8, .op (.mov (.t 18)), none⟩])))) def C8 : IFn := ⟨19, (.seq (.ops [⟨some 4, .op (.mov (.c (.int .i64 0))), none⟩]) (.seq (.seq (.ops [⟨some 6, .op (.mov (.t 0)), none⟩, ⟨some 7, .op (.len .sl (.t 6)), none⟩, ⟨some 8, .op (.mov (.c (.int .i64 0))), none⟩]) (.block 0 (.loop C8L0))) (.seq (.ops [⟨some 4, .op (.mov (.c (.int .i64 (-1)))), none⟩]) .ret))), [.tmp 4]⟩ end Go.Idl
end
