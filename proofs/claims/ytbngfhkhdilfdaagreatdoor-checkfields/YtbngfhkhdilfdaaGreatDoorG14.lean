/- Texts of the proof. -/
import Derived.Test.YtbngfhkhdilfdaaGreatDoorI3g
import Derived.Test.YtbngfhkhdilfdaaGreatDoorP12
import Derived.Test.YtbngfhkhdilfdaaGreatDoorO7
import Derived.Test.YtbngfhkhdilfdaaGreatDoorFlex
set_option linter.unusedVariables false
set_option linter.unusedSimpArgs false
set_option maxRecDepth 100000
section
namespace Go.Idl
def C3 : IFn := ⟨44, (.seq (.ops [Sx 2 (.box (.t 0)), Sx 4 (.mov (.c (.bool false)))]) (.seq (.seq (.ops [Sc 11 4 [], Sx 12 (.un .not (.t 11))]) (.cond (.t 12) (.seq (.ops [Sx 4 (.mov (.c (.bool false)))]) .ret) .skip)) (.seq (.seq (.ops [Sf 13 0 2, Sl 14 13, Sx 15 (.len .sl (.t 14)), Sb 16 .gtr (.t 15) (Ci 50)]) (.cond (.t 16) (.seq (.ops [Sx 4 (.mov (.c (.bool true)))]) .ret) .skip)) (.seq (.ops [Sx 18 (.load (some 4) (.t 2)), Sm 19 1, Sc 20 5 [.t 18, .t 19], Sm 17 20, Se 21 17 0, Se 22 17 1, Se 23 17 2, Sm 5 21, Sm 6 22, Sm 7 23]) (.seq (.ops [Sx 25 (.load (some 4) (.t 2)), Sm 26 1, Sc 27 6 [.t 25, .t 26], Sm 24 27, Se 28 24 0, Se 29 24 1, Se 30 24 2, Sm 8 28, Sm 9 29, Sm 10 30]) (.seq (.ops [Sm 31 5, Sm 32 8, Sb 33 .eql (.t 31) (.t 32), Sm 34 33, Sg 35 (.mov (.t 6)) 34 true, Sg 36 (.mov (.t 9)) 34 true, Sg 37 (.bin .eql (.t 35) (.t 36)) 34 true, Sx 38 (.pick (.t 34) (.t 37) (.c (.bool false))), Sm 39 38, Sg 40 (.mov (.t 7)) 39 true, Sg 41 (.mov (.t 10)) 39 true, Sg 42 (.beq false (.t 40) (.t 41)) 39 true, Sx 43 (.pick (.t 39) (.t 42) (.c (.bool false))), Sm 4 43]) .ret)))))), [.tmp 4]⟩
def C4 : IFn := ⟨48, (.seq (.ops [Sx 0 (.mov (.c (.bool false)))]) (.seq (.ops [⟨some 10, .call 7 [.c (.string ⟨#[102, 110, 32, 109, 97, 105, 110, 40, 41, 32, 123, 32, 109, 101, 114, 103, 101, 40, 41, 59, 32, 114, 101, 116, 117, 114, 110, 32, 48, 59, 32, 125]⟩)], none⟩, Sm 9 10, Se 11 9 0, Se 12 9 1, Se 13 9 2, Se 14 9 3, Sx 2 (.alloc [(.slice none 0 0), (.slice none 0 0), .int .i64 0, (.slice none 0 0)]), Sm 1 11, Su (.store 4 (.t 2) (.t 12)), Sm 3 13, Sm 4 14]) (.seq (.ops [⟨some 16, .call 7 [.c (.string ⟨#[102, 110, 32, 109, 97, 105, 110, 40, 41, 32, 123, 32, 108, 101, 116, 32, 120, 32, 61, 32, 49, 59, 32, 119, 104, 105, 108, 101, 32, 120, 32, 123, 32, 109, 101, 114, 103, 101, 40, 120, 41, 59, 32, 120, 32, 61, 32, 120, 32, 45, 32, 49, 59, 32, 125, 32, 114, 101, 116, 117, 114, 110, 32, 120, 59, 32, 125]⟩)], none⟩, Sm 15 16, Se 17 15 0, Se 18 15 1, Se 19 15 2, Se 20 15 3, Sx 6 (.alloc [(.slice none 0 0), (.slice none 0 0), .int .i64 0, (.slice none 0 0)]), Sm 5 17, Su (.store 4 (.t 6) (.t 18)), Sm 7 19, Sm 8 20]) (.seq (.ops [Sm 21 4, Sb 22 .eql (.t 21) (Ci 82), Sm 23 22, Sg 24 (.mov (.t 3)) 23 true, Sg 25 (.bin .eql (.t 24) (Ci 12)) 23 true, Sx 26 (.pick (.t 23) (.t 25) (.c (.bool false))), Sm 27 26, Sg 28 (.mov (.t 8)) 27 true, Sg 29 (.bin .eql (.t 28) (Ci 0)) 27 true, Sx 30 (.pick (.t 27) (.t 29) (.c (.bool false))), Sm 31 30, Sg 32 (.mov (.t 5)) 31 true, Sg 33 (.len .sl (.t 32)) 31 true, Sg 34 (.bin .gtr (.t 33) (Ci 5)) 31 true, Sx 35 (.pick (.t 31) (.t 34) (.c (.bool false))), Sm 36 35, Sg 37 (.faddr 3 (.t 6)) 36 true, Sg 38 (.load none (.t 37)) 36 true, Sg 39 (.len .sl (.t 38)) 36 true, Sg 40 (.bin .eql (.t 39) (Ci 1)) 36 true, Sx 41 (.pick (.t 36) (.t 40) (.c (.bool false))), Sm 42 41, Sg 43 (.faddr 1 (.t 6)) 42 true, Sg 44 (.load none (.t 43)) 42 true, Sg 45 (.len .sl (.t 44)) 42 true, Sg 46 (.bin .eql (.t 45) (Ci 1)) 42 true, Sx 47 (.pick (.t 42) (.t 46) (.c (.bool false))), Sm 0 47]) .ret)))), [.tmp 0]⟩
def C5L0 : IC := (.seq (.ops [Sb 14 .lss (.t 13) (.t 12)]) (.seq (.cond (.t 14) .skip (.exit 0)) (.seq (.block 1 (.seq (.ops [Sm 15 13, Si 16 2 11 13, Sx 17 (.load (some 2) (.t 16)), Sx 8 (.alloc [.string ⟨#[]⟩, (.slice none 0 0)]), Sm 7 15, Su (.store 2 (.t 8) (.t 17))]) (.seq (.ops [Sf 18 1 8, Sl 19 18, Sm 20 1, Sc 21 8 [.t 19, .t 20], Sm 9 21]) (.seq (.ops [Sm 22 9, Sb 23 .geq (.t 22) (Ci 0)]) (.cond (.t 23) (.seq (.ops [Sm 24 7, Sm 25 9, Sm 4 24, Sm 5 25, Sx 6 (.mov (.c (.bool true)))]) .ret) .skip))))) (.ops [Sb 26 .add (.t 13) (Ci 1), Sm 13 26])))) def C5 : IFn := ⟨27, (.seq (.ops [Sx 2 (.box (.t 0)), Sx 4 (.mov (Ci 0)), Sx 5 (.mov (Ci 0)), Sx 6 (.mov (.c (.bool false)))]) (.seq (.seq (.ops [Sf 10 0 2, Sl 11 10, Sx 12 (.len .sl (.t 11)), Sx 13 (.mov (Ci 0))]) (.block 0 (.loop C5L0))) (.seq (.ops [Sx 4 (.mov (Ci 0)), Sx 5 (.mov (Ci 0)), Sx 6 (.mov (.c (.bool false)))]) .ret))), [.tmp 4, .tmp 5, .tmp 6]⟩
def C6L0 : IC := (.seq (.ops [Sb 23 .lss (.t 22) (.t 21)]) (.seq (.cond (.t 23) .skip (.exit 2)) (.seq (.block 3 (.seq (.ops [Sm 24 22, Si 25 1 20 22, Sl 26 25, Sm 9 24, Sm 10 26]) (.seq (.ops [Sm 27 10, Sm 28 1, Sb 29 .eql (.t 27) (.t 28)]) (.cond (.t 29) (.seq (.ops [Sm 30 7, Sm 31 9, Sm 4 30, Sm 5 31, Sx 6 (.mov (.c (.bool true)))]) .ret) .skip)))) (.ops [Sb 32 .add (.t 22) (Ci 1), Sm 22 32])))) def C6L1 : IC := (.seq (.ops [Sb 15 .lss (.t 14) (.t 13)]) (.seq (.cond (.t 15) .skip (.exit 0)) (.seq (.block 1 (.seq (.ops [Sm 16 14, Si 17 2 12 14, Sx 18 (.load (some 2) (.t 17)), Sx 8 (.alloc [.string ⟨#[]⟩, (.slice none 0 0)]), Sm 7 16, Su (.store 2 (.t 8) (.t 18))]) (.seq (.ops [Sf 19 1 8, Sl 20 19, Sx 21 (.len .sl (.t 20)), Sx 22 (.mov (Ci 0))]) (.block 2 (.loop C6L0))))) (.ops [Sb 33 .add (.t 14) (Ci 1), Sm 14 33])))) def C6 : IFn := ⟨34, (.seq (.ops [Sx 2 (.box (.t 0)), Sx 4 (.mov (Ci 0)), Sx 5 (.mov (Ci 0)), Sx 6 (.mov (.c (.bool false)))]) (.seq (.seq (.ops [Sf 11 0 2, Sl 12 11, Sx 13 (.len .sl (.t 12)), Sx 14 (.mov (Ci 0))]) (.block 0 (.loop C6L1))) (.seq (.ops [Sx 4 (.mov (Ci 0)), Sx 5 (.mov (Ci 0)), Sx 6 (.mov (.c (.bool false)))]) .ret))), [.tmp 4, .tmp 5, .tmp 6]⟩
def C7 : IFn := ⟨34, (.seq (.ops [Sx 2 (.mov (.c (.slice none 0 0))), Sx 3 (.alloc [(.slice none 0 0), (.slice none 0 0), .int .i64 0, (.slice none 0 0)]), Sx 4 (.mov (Ci 0)), Sx 5 (.mov (Ci 0))]) (.seq (.ops [Sm 11 0, Sc 12 9 [.t 11], Sm 10 12, Se 13 10 0, Se 14 10 1, Se 15 10 2, Sm 6 13, Sm 7 14, Sm 8 15]) (.seq (.seq (.ops [Sm 16 8, Sb 17 .neq (.t 16) (Ci 0)]) (.cond (.t 17) (.seq (.ops [Sx 18 (.build [(.slice none 0 0), (.slice none 0 0), .int .i64 0, (.slice none 0 0)] []), Sm 19 7, Sm 20 8, Sx 2 (.mov (.c (.slice none 0 0))), Su (.store 4 (.t 3) (.t 18)), Sm 4 19, Sm 5 20]) .ret) .skip)) (.seq (.ops [Sm 22 6, Sc 23 10 [.t 22], Sm 21 23, Se 24 21 0, Se 25 21 1, Se 26 21 2, Sx 9 (.alloc [(.slice none 0 0), (.slice none 0 0), .int .i64 0, (.slice none 0 0)]), Su (.store 4 (.t 9) (.t 24)), Sm 7 25, Sm 8 26]) (.seq (.seq (.ops [Sm 27 8, Sb 28 .neq (.t 27) (Ci 0)]) (.cond (.t 28) (.seq (.ops [Sx 29 (.build [(.slice none 0 0), (.slice none 0 0), .int .i64 0, (.slice none 0 0)] []), Sm 30 7, Sm 31 8, Sx 2 (.mov (.c (.slice none 0 0))), Su (.store 4 (.t 3) (.t 29)), Sm 4 30, Sm 5 31]) .ret) .skip)) (.seq (.draw [Sm 32 6, Sx 33 (.load (some 4) (.t 9)), Sm 2 32, Su (.store 4 (.t 3) (.t 33)), Sx 4 (.mov (Ci 0)), Sx 5 (.mov (Ci 0))] [[], [], [0], [2, 0, 1], [3, 2, 0, 1], [4, 3, 2, 0, 1]]) .ret)))))), [.tmp 2, .cell 3 (some 4), .tmp 4, .tmp 5]⟩
def C10 : IFn := ⟨41, (.seq (.ops [Sx 2 (.alloc [(.slice none 0 0), (.slice none 0 0), .int .i64 0, (.slice none 0 0)]), Sx 3 (.alloc [.int .i64 0]), Sx 4 (.alloc [.int .i64 0])]) (.seq (.seq (.ops [Sm 9 0, Sc 10 13 [.t 9], Sm 8 10, Se 11 8 0, Se 12 8 1, Sm 5 11, Sm 6 12]) (.seq (.ops [Sm 13 6, Sb 14 .neq (.t 13) (Ci 0)]) (.cond (.t 14) (.seq (.seq (.ops [Sm 15 5, Sm 16 0, Sx 17 (.len .sl (.t 16)), Sb 18 .lss (.t 15) (.t 17)]) (.cond (.t 18) (.ops [Sm 19 0, Sm 20 5, Si 21 4 19 20, Sf 22 3 21, Sl 23 22, Sx 24 (.minmax true (.t 23) (Ci 0)), Su (.store 1 (.t 3) (.t 24))]) .skip)) (.seq (.draw [Sx 25 (.build [(.slice none 0 0), (.slice none 0 0), .int .i64 0, (.slice none 0 0)] []), Sl 26 3, Sm 27 6, Su (.store 4 (.t 2) (.t 25)), Su (.store 1 (.t 3) (.t 26)), Su (.store 1 (.t 4) (.t 27))] [[], [], [], [0], [3, 0, 1], [4, 3, 0, 1, 2]]) .ret)) .skip))) (.seq (.ops [Sx 28 (.fn 14 [] [.t 2, .t 3, .t 4]), ⟨none, .defer (.t 28) [], none⟩]) (.seq (.ops [Sm 29 0, Sx 30 (.mkmap (.one .str)), Sx 31 (.mkmap (.one .str)), Sx 32 (.mkmap (.one .str)), Sx 33 (.build [(.slice none 0 0), (.slice none 0 0), (.slice none 0 0), .int .i64 0, (.slice none 0 0), (.map none), (.map none), (.map none)] [(0, 1, .t 29), (5, 1, .t 30), (6, 1, .t 31), (7, 1, .t 32)]), Sx 34 (.box (.t 33)), Sm 7 34]) (.seq (.ops [Sm 35 7, Sc 36 15 [.t 35]]) (.seq (.ops [Sm 37 7, Sn 38 37, Sf 39 1 38, Sx 40 (.load (some 4) (.t 39)), Su (.store 4 (.t 2) (.t 40)), Su (.store 1 (.t 3) (Ci 0)), Su (.store 1 (.t 4) (Ci 0))]) .ret)))))), [.cell 2 (some 4), .cell 3 none, .cell 4 none]⟩
def C14 : IFn := ⟨22, (.seq (.ops [Sx 6 (.recover), Sm 3 6]) (.seq (.ops [Sm 7 3, Sx 8 (.isnil .ifc true (.t 7))]) (.cond (.t 8) (.seq (.ops [Sm 10 3, Sx 11 (.assert 52 (.agg #[.int .i64 0, .int .i64 0]) (.t 10)), Sm 9 11, Se 12 9 0, Se 13 9 1, Sx 4 (.alloc [.int .i64 0, .int .i64 0]), Su (.store 2 (.t 4) (.t 12)), Sm 5 13]) (.seq (.seq (.ops [Sm 14 5, Sx 15 (.un .not (.t 14))]) (.cond (.t 15) (.ops [Sm 16 3, ⟨none, .panic (.t 16), none⟩]) .skip)) (.draw [Sx 17 (.build [(.slice none 0 0), (.slice none 0 0), .int .i64 0, (.slice none 0 0)] []), Sf 18 0 4, Sl 19 18, Sf 20 1 4, Sl 21 20, Su (.store 4 (.t 0) (.t 17)), Su (.store 1 (.t 1) (.t 19)), Su (.store 1 (.t 2) (.t 21))] [[], [], [1], [], [3], [0], [5, 0, 2, 1], [6, 5, 0, 2, 1, 4, 3]]))) .skip))), []⟩
def C15L0 : IC := (.seq (.ops [Sb 28 .lss (.t 27) (.t 26)]) (.seq (.cond (.t 28) .skip (.exit 0)) (.seq (.block 1 (.seq (.ops [Si 29 1 25 27, Sl 30 29, Sm 5 30]) (.seq (.ops [Sl 31 1, Sn 32 31, Sf 33 0 32, Sl 34 33, Sm 35 5, Si 36 4 34 35, Sf 37 0 36, Sl 38 37, Sb 39 .eql (.t 38) (Ci 2)]) (.cond (.t 39) (.ops [Sm 40 2, Sm 41 5, Sx 42 (.lit 1 1 [.int .i64 0] [(0, 1, .t 41)]), Sx 43 (.append 1 8 (.t 40) (.t 42)), Sm 2 43]) (.ops [Sm 44 3, Sm 45 5, Sx 46 (.lit 1 1 [.int .i64 0] [(0, 1, .t 45)]), Sx 47 (.append 1 8 (.t 44) (.t 46)), Sm 3 47]))))) (.ops [Sb 48 .add (.t 27) (Ci 1), Sm 27 48])))) def C15L1 : IC := (.seq (.ops [Sb 62 .lss (.t 61) (.t 60)]) (.seq (.cond (.t 62) .skip (.exit 2)) (.seq (.block 3 (.seq (.ops [Si 63 1 59 61, Sl 64 63, Sm 7 64]) (.ops [Sl 65 1, Sm 66 7, Sc 67 26 [.t 65, .t 66]]))) (.ops [Sb 68 .add (.t 61) (Ci 1), Sm 61 68])))) def C15L2 : IC := (.seq (.ops [Sb 72 .lss (.t 71) (.t 70)]) (.seq (.cond (.t 72) .skip (.exit 4)) (.seq (.block 5 (.seq (.ops [Si 73 1 69 71, Sl 74 73, Sm 9 74]) (.ops [Sl 75 1, Sm 76 9, Sc 77 27 [.t 75, .t 76]]))) (.ops [Sb 78 .add (.t 71) (Ci 1), Sm 71 78])))) def C15L3 : IC := (.seq (.ops [Sb 121 .lss (.t 120) (.t 119)]) (.seq (.cond (.t 121) .skip (.exit 6)) (.seq (.block 7 (.seq (.ops [Si 122 4 118 120, Sx 123 (.load (some 4) (.t 122)), Sx 11 (.alloc [.string ⟨#[]⟩, .int .i64 0, (.slice none 0 0), .int .i64 0]), Su (.store 4 (.t 11) (.t 123))]) (.ops [Sl 124 1, Sx 125 (.load (some 4) (.t 11)), Sc 126 28 [.t 124, .t 125]]))) (.ops [Sb 127 .add (.t 120) (Ci 1), Sm 120 127])))) def C15A4 : IC := (.ops [Sm 12 133]) def C15B4 : IC := (.block 9 (.seq (.ops [Sl 135 1, Sn 136 135, Sf 137 0 136, Sl 138 137, Sm 139 12, Si 140 4 138 139, Sf 141 0 140, Sl 142 141, Sb 143 .eql (.t 142) (Ci 13)]) (.cond (.t 143) (.draw [Sl 144 1, Sl 145 1, Sn 146 145, Sf 147 1 146, Sf 148 3 147, Sl 149 148, Sm 150 12, Sx 151 (.lit 1 1 [.int .i64 0] [(0, 1, .t 150)]), Sx 152 (.append 1 8 (.t 149) (.t 151)), Sn 153 144, Sf 154 1 153, Sf 155 3 154, Su (.store 1 (.t 155) (.t 152))] [[], [], [1], [2, 1], [3, 2, 1], [4, 3, 2, 1], [], [6], [7, 6, 5, 4, 3, 2, 1], [8, 7, 6, 5, 4, 3, 2, 1, 0], [8, 7, 6, 5, 4, 3, 2, 1, 0, 9], [8, 7, 6, 5, 4, 3, 2, 1, 0, 10, 9], [8, 7, 6, 5, 4, 3, 2, 1, 0, 11, 10, 9]]) .skip))) def C15 : IFn := ⟨156, (.seq (.ops [Sx 1 (.box (.t 0))]) (.seq (.ops [Sx 2 (.mov (.c (.slice none 0 0))), Sx 3 (.mov (.c (.slice none 0 0)))]) (.seq (.seq (.draw [Sl 13 1, Sn 14 13, Sf 15 0 14, Sl 16 15, Sl 17 1, Sn 18 17, Sf 19 0 18, Sl 20 19, Sx 21 (.len .sl (.t 20)), Sb 22 .sub (.t 21) (Ci 1), Si 23 4 16 22, Sf 24 2 23, Sl 25 24, Sx 26 (.len .sl (.t 25)), Sx 27 (.mov (Ci 0))] [[], [0], [1, 0], [2, 1, 0], [], [4], [5, 4], [6, 5, 4], [7, 6, 5, 4], [8, 7, 6, 5, 4], [9, 8, 7, 6, 5, 4, 3, 2, 1, 0], [10, 9, 8, 7, 6, 5, 4, 3, 2, 1, 0], [11, 10, 9, 8, 7, 6, 5, 4, 3, 2, 1, 0], [12, 11, 10, 9, 8, 7, 6, 5, 4, 3, 2, 1, 0], []]) (.block 0 (.loop C15L0))) (.seq (.ops [Sl 49 1, Sm 50 2, Sx 51 (.len .sl (.t 50)), Sb 52 .leq (.t 51) (Ci 100), Sm 53 52, Sg 54 (.mov (.t 3)) 53 true, Sg 55 (.len .sl (.t 54)) 53 true, Sg 56 (.bin .leq (.t 55) (Ci 200)) 53 true, Sx 57 (.pick (.t 53) (.t 56) (.c (.bool false))), Sc 58 25 [.t 49, .t 57, (Ci (-1)), (Ci 2)]]) (.seq (.seq (.ops [Sm 59 2, Sx 60 (.len .sl (.t 59)), Sx 61 (.mov (Ci 0))]) (.block 2 (.loop C15L1))) (.seq (.seq (.ops [Sm 69 3, Sx 70 (.len .sl (.t 69)), Sx 71 (.mov (Ci 0))]) (.block 4 (.loop C15L2))) (.seq (.draw [Sl 79 1, Sl 80 1, Sn 81 80, Sf 82 7 81, Sl 83 82, Sx 84 (.lookup (.one .str) (.int .i64 0) false (.t 83) (.c (.string ⟨#[109, 97, 105, 110]⟩))), Sb 85 .sub (.t 84) (Ci 1), Sn 86 79, Sf 87 1 86, Sf 88 2 87, Su (.store 1 (.t 88) (.t 85))] [[], [], [1], [2, 1], [3, 2, 1], [4, 3, 2, 1], [5, 4, 3, 2, 1], [6, 5, 4, 3, 2, 1, 0], [6, 5, 4, 3, 2, 1, 0, 7], [6, 5, 4, 3, 2, 1, 0, 8, 7], [6, 5, 4, 3, 2, 1, 0, 9, 8, 7]]) (.seq (.draw [Sl 89 1, Sl 90 1, Sn 91 90, Sf 92 1 91, Sf 93 2 92, Sl 94 93, Sb 95 .geq (.t 94) (Ci 0), Sm 96 95, Sg 97 (.load none (.t 1)) 96 true, Sg 98 (.nilck (.t 97)) 96 true, Sg 99 (.faddr 1 (.t 98)) 96 true, Sg 100 (.faddr 1 (.t 99)) 96 true, Sg 101 (.load none (.t 100)) 96 true, Sg 102 (.load none (.t 1)) 96 true, Sg 103 (.nilck (.t 102)) 96 true, Sg 104 (.faddr 1 (.t 103)) 96 true, Sg 105 (.faddr 2 (.t 104)) 96 true, Sg 106 (.load none (.t 105)) 96 true, Sg 107 (.minmax true (.t 106) (Ci 0)) 96 true, Sg 108 (.iaddr (.sl 4) (.t 101) (.t 107)) 96 true, Sg 109 (.faddr 1 (.t 108)) 96 true, Sg 110 (.load none (.t 109)) 96 true, Sg 111 (.bin .eql (.t 110) (Ci 0)) 96 true, Sx 112 (.pick (.t 96) (.t 111) (.c (.bool false))), Sc 113 25 [.t 89, .t 112, (Ci (-1)), (Ci 83)]] [[], [], [1], [2, 1], [3, 2, 1], [4, 3, 2, 1], [5, 4, 3, 2, 1], [6, 5, 4, 3, 2, 1], [7, 6, 5, 4, 3, 2, 1], [7, 6, 5, 4, 3, 2, 1, 8], [7, 6, 5, 4, 3, 2, 1, 9, 8], [7, 6, 5, 4, 3, 2, 1, 10, 9, 8], [7, 6, 5, 4, 3, 2, 1, 11, 10, 9, 8], [7, 6, 5, 4, 3, 2, 1], [7, 6, 5, 4, 3, 2, 1, 13], [7, 6, 5, 4, 3, 2, 1, 14, 13], [7, 6, 5, 4, 3, 2, 1, 15, 14, 13], [7, 6, 5, 4, 3, 2, 1, 16, 15, 14, 13], [7, 6, 5, 4, 3, 2, 1, 17, 16, 15, 14, 13], [7, 6, 5, 4, 3, 2, 1, 18, 17, 16, 15, 14, 13, 12, 11, 10, 9, 8], [7, 6, 5, 4, 3, 2, 1, 19, 18, 17, 16, 15, 14, 13, 12, 11, 10, 9, 8], [7, 6, 5, 4, 3, 2, 1, 20, 19, 18, 17, 16, 15, 14, 13, 12, 11, 10, 9, 8], [7, 6, 5, 4, 3, 2, 1, 21, 20, 19, 18, 17, 16, 15, 14, 13, 12, 11, 10, 9, 8], [22, 7, 6, 5, 4, 3, 2, 1, 21, 20, 19, 18, 17, 16, 15, 14, 13, 12, 11, 10, 9, 8], [7, 6, 5, 4, 3, 2, 1, 23, 22, 21, 20, 19, 18, 17, 16, 15, 14, 13, 12, 11, 10, 9, 8, 0]]) (.seq (.seq (.ops [Sl 114 1, Sn 115 114, Sf 116 1 115, Sf 117 1 116, Sl 118 117, Sx 119 (.len .sl (.t 118)), Sx 120 (.mov (Ci 0))]) (.block 6 (.loop C15L3))) (.seq (.ops [Sl 128 1, Sn 129 128, Sf 130 0 129, Sl 131 130, Sc 132 29 [.t 131]]) (.block 8 (.rangeF (.t 132) [133, 134] C15A4 C15B4)))))))))))), []⟩
def C25 : IFn := ⟨24, (.seq (.seq (.ops [Sm 9 1]) (.cond (.t 9) .ret .skip)) (.seq (.ops [Sx 8 (.mov (Ci 0))]) (.seq (.seq (.ops [Sm 10 2, Sb 11 .geq (.t 10) (Ci 0)]) (.cond (.t 11) (.ops [Sm 12 0, Sn 13 12, Sf 14 0 13, Sl 15 14, Sm 16 2, Si 17 4 15 16, Sf 18 3 17, Sl 19 18, Sm 8 19]) .skip)) (.ops [Sm 20 8, Sm 21 3, Sx 22 (.build [.int .i64 0, .int .i64 0] [(0, 1, .t 20), (1, 1, .t 21)]), Sx 23 (.iface 52 (.t 22)), ⟨none, .panic (.t 23), none⟩])))), []⟩
def C26L0 : IC := (.seq (.ops [Sb 39 .lss (.t 38) (.t 37)]) (.seq (.cond (.t 39) .skip (.exit 0)) (.seq (.block 1 (.seq (.ops [Si 40 1 36 38, Sl 41 40, Sm 7 41]) (.seq (.draw [Sm 42 0, Sm 43 0, Sn 44 43, Sf 45 6 44, Sl 46 45, Sm 47 0, Sn 48 47, Sf 49 0 48, Sl 50 49, Sm 51 7, Si 52 4 50 51, Sf 53 1 52, Sl 54 53, Sc 55 44 [.t 46, .t 54], Sm 56 7, Sc 57 25 [.t 42, .t 55, .t 56, (Ci 80)]] [[], [], [1], [2, 1], [3, 2, 1], [], [5], [6, 5], [7, 6, 5], [], [9, 8, 7, 6, 5], [10, 9, 8, 7, 6, 5], [11, 10, 9, 8, 7, 6, 5], [12, 11, 10, 9, 8, 7, 6, 5, 4, 3, 2, 1], [], [13, 12, 11, 10, 9, 8, 7, 6, 5, 4, 3, 2, 1, 14, 0]]) (.draw [Sf 58 1 5, Sl 59 58, Sm 60 0, Sn 61 60, Sf 62 0 61, Sl 63 62, Sm 64 7, Si 65 4 63 64, Sf 66 1 65, Sl 67 66, Sx 68 (.lit 1 1 [.string ⟨#[]⟩] [(0, 1, .t 67)]), Sx 69 (.append 1 16 (.t 59) (.t 68)), Sf 70 1 5, Su (.store 1 (.t 70) (.t 69))] [[], [0], [], [2], [3, 2], [4, 3, 2], [], [6, 5, 4, 3, 2], [7, 6, 5, 4, 3, 2], [8, 7, 6, 5, 4, 3, 2], [9, 8, 7, 6, 5, 4, 3, 2], [10, 9, 8, 7, 6, 5, 4, 3, 2, 1, 0], [11, 10, 9, 8, 7, 6, 5, 4, 3, 2, 1, 0], [11, 10, 9, 8, 7, 6, 5, 4, 3, 2, 1, 0, 12]])))) (.ops [Sb 71 .add (.t 38) (Ci 1), Sm 38 71])))) def C26 : IFn := ⟨84, (.seq (.ops [Sm 8 0, Sn 9 8, Sf 10 0 9, Sl 11 10, Sm 12 1, Si 13 4 11 12, Sx 14 (.load (some 4) (.t 13)), Sx 4 (.alloc [.int .i64 0, .string ⟨#[]⟩, (.slice none 0 0), .int .i64 0]), Su (.store 4 (.t 4) (.t 14))]) (.seq (.draw [Sm 15 0, Sm 16 0, Sn 17 16, Sf 18 5 17, Sl 19 18, Sf 20 1 4, Sl 21 20, Sc 22 44 [.t 19, .t 21], Sm 23 1, Sc 24 25 [.t 15, .t 22, .t 23, (Ci 80)]] [[], [], [1], [2, 1], [3, 2, 1], [], [5], [6, 5, 4, 3, 2, 1], [], [7, 6, 5, 4, 3, 2, 1, 8, 0]]) (.seq (.ops [Sm 25 0, Sf 26 2 4, Sl 27 26, Sx 28 (.len .sl (.t 27)), Sb 29 .leq (.t 28) (Ci 100), Sm 30 1, Sc 31 25 [.t 25, .t 29, .t 30, (Ci 2)]]) (.seq (.ops [Sf 32 1 4, Sl 33 32, Sx 34 (.build [.string ⟨#[]⟩, (.slice none 0 0)] [(0, 1, .t 33)]), Sx 5 (.alloc [.string ⟨#[]⟩, (.slice none 0 0)]), Su (.store 2 (.t 5) (.t 34))]) (.seq (.seq (.ops [Sf 35 2 4, Sl 36 35, Sx 37 (.len .sl (.t 36)), Sx 38 (.mov (Ci 0))]) (.block 0 (.loop C26L0))) (.draw [Sm 72 0, Sm 73 0, Sn 74 73, Sf 75 1 74, Sf 76 0 75, Sl 77 76, Sx 78 (.load (some 2) (.t 5)), Sx 79 (.lit 2 1 [.string ⟨#[]⟩, (.slice none 0 0)] [(0, 2, .t 78)]), Sx 80 (.append 2 40 (.t 77) (.t 79)), Sn 81 72, Sf 82 1 81, Sf 83 0 82, Su (.store 1 (.t 83) (.t 80))] [[], [], [1], [2, 1], [3, 2, 1], [4, 3, 2, 1], [], [6], [7, 6, 5, 4, 3, 2, 1], [8, 7, 6, 5, 4, 3, 2, 1, 0], [8, 7, 6, 5, 4, 3, 2, 1, 0, 9], [8, 7, 6, 5, 4, 3, 2, 1, 0, 10, 9], [8, 7, 6, 5, 4, 3, 2, 1, 0, 11, 10, 9]])))))), []⟩
def C27L0 : IC := (.seq (.ops [Sb 40 .lss (.t 39) (.t 38)]) (.seq (.cond (.t 40) .skip (.exit 0)) (.seq (.block 1 (.seq (.ops [Si 41 1 37 39, Sl 42 41, Sm 7 42]) (.draw [Sf 43 2 5, Sl 44 43, Sm 45 0, Sn 46 45, Sf 47 0 46, Sl 48 47, Sm 49 7, Si 50 4 48 49, Sf 51 1 50, Sl 52 51, Sx 53 (.lit 1 1 [.string ⟨#[]⟩] [(0, 1, .t 52)]), Sx 54 (.append 1 16 (.t 44) (.t 53)), Sf 55 2 5, Su (.store 1 (.t 55) (.t 54))] [[], [0], [], [2], [3, 2], [4, 3, 2], [], [6, 5, 4, 3, 2], [7, 6, 5, 4, 3, 2], [8, 7, 6, 5, 4, 3, 2], [9, 8, 7, 6, 5, 4, 3, 2], [10, 9, 8, 7, 6, 5, 4, 3, 2, 1, 0], [11, 10, 9, 8, 7, 6, 5, 4, 3, 2, 1, 0], [11, 10, 9, 8, 7, 6, 5, 4, 3, 2, 1, 0, 12]]))) (.ops [Sb 56 .add (.t 39) (Ci 1), Sm 39 56])))) def C27 : IFn := ⟨72, (.seq (.ops [Sm 8 0, Sn 9 8, Sf 10 0 9, Sl 11 10, Sm 12 1, Si 13 4 11 12, Sx 14 (.load (some 4) (.t 13)), Sx 4 (.alloc [.int .i64 0, .string ⟨#[]⟩, (.slice none 0 0), .int .i64 0]), Su (.store 4 (.t 4) (.t 14))]) (.seq (.draw [Sm 15 0, Sm 16 0, Sn 17 16, Sf 18 7 17, Sl 19 18, Sf 20 1 4, Sl 21 20, Sc 22 44 [.t 19, .t 21], Sm 23 1, Sc 24 25 [.t 15, .t 22, .t 23, (Ci 80)]] [[], [], [1], [2, 1], [3, 2, 1], [], [5], [6, 5, 4, 3, 2, 1], [], [7, 6, 5, 4, 3, 2, 1, 8, 0]]) (.seq (.ops [Sf 25 1 4, Sl 26 25, Sf 27 2 4, Sl 28 27, Sx 29 (.len .sl (.t 28)), Sb 30 .sub (.t 29) (Ci 1), Sm 31 1, Sx 32 (.build [.string ⟨#[]⟩, .int .i64 0, (.slice none 0 0), .int .i64 0] [(0, 1, .t 26), (1, 1, .t 30), (3, 1, .t 31)]), Sx 5 (.alloc [.string ⟨#[]⟩, .int .i64 0, (.slice none 0 0), .int .i64 0]), Su (.store 4 (.t 5) (.t 32))]) (.seq (.seq (.ops [Sf 33 2 4, Sl 34 33, Sf 35 1 5, Sl 36 35, Sx 37 (.sub (.sl 1) (.t 34) none (some (.t 36)) none), Sx 38 (.len .sl (.t 37)), Sx 39 (.mov (Ci 0))]) (.block 0 (.loop C27L0))) (.seq (.ops [Sm 57 0, Sm 58 1, Sc 59 45 [.t 57, .t 58, .t 5]]) (.draw [Sm 60 0, Sm 61 0, Sn 62 61, Sf 63 1 62, Sf 64 1 63, Sl 65 64, Sx 66 (.load (some 4) (.t 5)), Sx 67 (.lit 4 1 [.string ⟨#[]⟩, .int .i64 0, (.slice none 0 0), .int .i64 0] [(0, 4, .t 66)]), Sx 68 (.append 4 56 (.t 65) (.t 67)), Sn 69 60, Sf 70 1 69, Sf 71 1 70, Su (.store 1 (.t 71) (.t 68))] [[], [], [1], [2, 1], [3, 2, 1], [4, 3, 2, 1], [], [6], [7, 6, 5, 4, 3, 2, 1], [8, 7, 6, 5, 4, 3, 2, 1, 0], [8, 7, 6, 5, 4, 3, 2, 1, 0, 9], [8, 7, 6, 5, 4, 3, 2, 1, 0, 10, 9], [8, 7, 6, 5, 4, 3, 2, 1, 0, 11, 10, 9]])))))), []⟩
def C28L0 : IC := (.seq (.ops [Sb 31 .lss (.t 30) (.t 29)]) (.seq (.cond (.t 31) .skip (.exit 0)) (.seq (.block 1 (.seq (.ops [Si 32 1 28 30, Sl 33 32, Sm 7 33]) (.seq (.ops [Sm 34 0, Sm 35 5, Sm 36 0, Sn 37 36, Sf 38 0 37, Sl 39 38, Sm 40 7, Si 41 4 39 40, Sf 42 1 41, Sl 43 42, Sc 44 46 [.t 35, .t 43], Sx 45 (.un .not (.t 44)), Sm 46 7, Sc 47 25 [.t 34, .t 45, .t 46, (Ci 80)]]) (.ops [Sm 48 5, Sm 49 0, Sn 50 49, Sf 51 0 50, Sl 52 51, Sm 53 7, Si 54 4 52 53, Sf 55 1 54, Sl 56 55, Sx 57 (.build [(.pointer none), .string ⟨#[]⟩] [(0, 1, .t 48), (1, 1, .t 56)]), Sx 58 (.box (.t 57)), Sm 5 58])))) (.ops [Sb 59 .add (.t 30) (Ci 1), Sm 30 59])))) def C28 : IFn := ⟨68, (.seq (.ops [Sx 3 (.box (.t 1))]) (.seq (.ops [Sm 8 0, Sf 9 2 3, Sl 10 9, Sx 11 (.len .sl (.t 10)), Sb 12 .leq (.t 11) (Ci 100), Sf 13 3 3, Sl 14 13, Sc 15 25 [.t 8, .t 12, .t 14, (Ci 2)]]) (.seq (.draw [Sm 16 0, Sn 17 16, Sf 18 0 17, Sl 19 18, Sf 20 3 3, Sl 21 20, Si 22 4 19 21, Sf 23 2 22, Sl 24 23, Sm 4 24] [[], [0], [1, 0], [2, 1, 0], [], [4], [5, 4, 3, 2, 1, 0], [6, 5, 4, 3, 2, 1, 0], [7, 6, 5, 4, 3, 2, 1, 0], [8, 7, 6, 5, 4, 3, 2, 1, 0]]) (.seq (.ops [Sx 5 (.mov (.c (.pointer none)))]) (.seq (.seq (.ops [Sm 25 4, Sf 26 1 3, Sl 27 26, Sx 28 (.sub (.sl 1) (.t 25) none (some (.t 27)) none), Sx 29 (.len .sl (.t 28)), Sx 30 (.mov (Ci 0))]) (.block 0 (.loop C28L0))) (.ops [Sm 60 0, Sm 61 4, Sf 62 1 3, Sl 63 62, Si 64 1 61 63, Sl 65 64, Sm 66 5, Sc 67 47 [.t 60, .t 65, .t 66, .c (.bool false)]])))))), []⟩
def C44 : IFn := ⟨14, (.seq (.ops [Sx 4 (.mov (.c (.bool false)))]) (.seq (.seq (.ops [Sm 5 0, Sm 6 1, Sx 7 (.lookup (.one .str) (.int .i64 0) false (.t 5) (.t 6)), Sb 8 .gtr (.t 7) (Ci 0)]) (.cond (.t 8) (.seq (.ops [Sx 4 (.mov (.c (.bool false)))]) .ret) .skip)) (.seq (.ops [Sm 9 0, Sm 10 1, Sm 11 0, Sx 12 (.len .mp (.t 11)), Sb 13 .add (.t 12) (Ci 1), Su (.mapset (.one .str) (.t 9) (.t 10) (.t 13))]) (.seq (.ops [Sx 4 (.mov (.c (.bool true)))]) .ret)))), [.tmp 4]⟩
def C45L0 : IC := (.seq (.ops [Sb 44 .lss (.t 43) (.t 42)]) (.seq (.cond (.t 44) .skip (.exit 0)) (.seq (.block 1 (.seq (.ops [Si 45 1 41 43, Sl 46 45, Sm 7 46]) (.ops [Sm 47 0, Sm 48 7, Sm 49 2, Sc 50 45 [.t 47, .t 48, .t 49]]))) (.ops [Sb 51 .add (.t 43) (Ci 1), Sm 43 51])))) def C45 : IFn := ⟨52, (.seq (.seq (.ops [Sm 8 0, Sn 9 8, Sf 10 0 9, Sl 11 10, Sm 12 1, Si 13 4 11 12, Sf 14 0 13, Sl 15 14, Sb 16 .eql (.t 15) (Ci 5)]) (.cond (.t 16) (.draw [Sm 17 2, Sm 18 2, Sn 19 18, Sf 20 2 19, Sl 21 20, Sm 22 0, Sn 23 22, Sf 24 0 23, Sl 25 24, Sm 26 1, Si 27 4 25 26, Sf 28 1 27, Sl 29 28, Sx 30 (.lit 1 1 [.string ⟨#[]⟩] [(0, 1, .t 29)]), Sx 31 (.append 1 16 (.t 21) (.t 30)), Sn 32 17, Sf 33 2 32, Su (.store 1 (.t 33) (.t 31))] [[], [], [1], [2, 1], [3, 2, 1], [], [5], [6, 5], [7, 6, 5], [], [9, 8, 7, 6, 5], [10, 9, 8, 7, 6, 5], [11, 10, 9, 8, 7, 6, 5], [12, 11, 10, 9, 8, 7, 6, 5], [13, 12, 11, 10, 9, 8, 7, 6, 5, 4, 3, 2, 1], [14, 13, 12, 11, 10, 9, 8, 7, 6, 5, 4, 3, 2, 1, 0], [14, 13, 12, 11, 10, 9, 8, 7, 6, 5, 4, 3, 2, 1, 0, 15], [14, 13, 12, 11, 10, 9, 8, 7, 6, 5, 4, 3, 2, 1, 0, 16, 15]]) .skip)) (.seq (.ops [Sm 34 0, Sn 35 34, Sf 36 0 35, Sl 37 36, Sm 38 1, Si 39 4 37 38, Sf 40 2 39, Sl 41 40, Sx 42 (.len .sl (.t 41)), Sx 43 (.mov (Ci 0))]) (.block 0 (.loop C45L0)))), []⟩
def C46L0 : IC := (.seq (.seq (.ops [Sm 5 0, Sx 6 (.isnil .ptr true (.t 5))]) (.cond (.t 6) .skip (.exit 0))) (.seq (.block 1 (.seq (.ops [Sm 11 0, Sn 12 11, Sf 13 1 12, Sl 14 13, Sm 15 1, Sb 16 .eql (.t 14) (.t 15)]) (.cond (.t 16) (.seq (.ops [Sx 4 (.mov (.c (.bool true)))]) .ret) .skip))) (.ops [Sm 7 0, Sn 8 7, Sf 9 0 8, Sl 10 9, Sm 0 10]))) def C46 : IFn := ⟨17, (.seq (.ops [Sx 4 (.mov (.c (.bool false)))]) (.seq (.block 0 (.loop C46L0)) (.seq (.ops [Sx 4 (.mov (.c (.bool false)))]) .ret))), [.tmp 4]⟩
def C47L0 : IC := (.seq (.ops [Sb 40 .lss (.t 39) (.t 38)]) (.seq (.cond (.t 40) .skip (.exit 3)) (.seq (.block 4 (.seq (.ops [Si 41 1 37 39, Sl 42 41, Sm 12 42]) (.seq (.ops [Sm 43 0, Sn 44 43, Sf 45 0 44, Sl 46 45, Sm 47 12, Si 48 4 46 47, Sf 49 0 48, Sl 50 49, Sb 51 .eql (.t 50) (Ci 4)]) (.cond (.t 51) (.ops [Sm 52 0, Sm 53 12, Sm 54 2, Sf 55 0 10, Sl 56 55, Sb 57 .eql (.t 56) (Ci 8), Sc 58 47 [.t 52, .t 53, .t 54, .t 57]]) (.ops [Sm 59 0, Sm 60 12, Sm 61 2, Sc 62 61 [.t 59, .t 60, .t 61]]))))) (.ops [Sb 63 .add (.t 39) (Ci 1), Sm 39 63])))) def C47L1 : IC := (.seq (.ops [Sb 23 .lss (.t 22) (.t 21)]) (.seq (.cond (.t 23) .skip (.exit 0)) (.seq (.block 1 (.seq (.ops [Sm 24 22, Si 25 1 20 22, Sl 26 25, Sm 8 24, Sm 9 26]) (.seq (.ops [Sm 27 0, Sn 28 27, Sf 29 0 28, Sl 30 29, Sm 31 9, Si 32 4 30 31, Sx 33 (.load (some 4) (.t 32)), Sx 10 (.alloc [.int .i64 0, .string ⟨#[]⟩, (.slice none 0 0), .int .i64 0]), Su (.store 4 (.t 10) (.t 33))]) (.seq (.ops [Sf 34 0 10, Sl 35 34]) (.block 2 (.seq (.ops [Sb 65 .eql (.t 35) (Ci 13), Sm 64 65]) (.cond (.t 64) (.ops [Sm 66 0, Sm 67 9, Sm 68 2, Sm 69 3, Sm 70 69, Sg 71 (.mov (.t 8)) 70 true, Sg 72 (.bin .eql (.t 71) (Ci 0)) 70 true, Sx 73 (.pick (.t 70) (.t 72) (.c (.bool false))), Sc 74 60 [.t 66, .t 67, .t 68, .t 73]]) (.seq (.ops [Sb 76 .eql (.t 35) (Ci 5), Sm 75 76]) (.cond (.t 75) (.seq (.ops [Sm 77 0, Sm 78 2, Sf 79 1 10, Sl 80 79, Sc 81 46 [.t 78, .t 80], Sx 82 (.un .not (.t 81)), Sm 83 9, Sc 84 25 [.t 77, .t 82, .t 83, (Ci 80)]]) (.seq (.ops [Sm 85 0, Sf 86 2 10, Sl 87 86, Sx 88 (.iaddr (.sl 1) (.t 87) (Ci 0)), Sl 89 88, Sm 90 2, Sc 91 61 [.t 85, .t 89, .t 90]]) (.ops [Sm 92 2, Sf 93 1 10, Sl 94 93, Sx 95 (.build [(.pointer none), .string ⟨#[]⟩] [(0, 1, .t 92), (1, 1, .t 94)]), Sx 96 (.box (.t 95)), Sm 2 96]))) (.seq (.ops [Sf 36 2 10, Sl 37 36, Sx 38 (.len .sl (.t 37)), Sx 39 (.mov (Ci 0))]) (.block 3 (.loop C47L0)))))))))))) (.ops [Sb 97 .add (.t 22) (Ci 1), Sm 22 97])))) def C47 : IFn := ⟨98, (.seq (.ops [Sm 13 0, Sn 14 13, Sf 15 0 14, Sl 16 15, Sm 17 1, Si 18 4 16 17, Sf 19 2 18, Sl 20 19, Sx 21 (.len .sl (.t 20)), Sx 22 (.mov (Ci 0))]) (.block 0 (.loop C47L1))), []⟩
def C60L0 : IC := (.seq (.ops [Sb 33 .lss (.t 32) (.t 31)]) (.seq (.cond (.t 33) .skip (.exit 0)) (.seq (.block 1 (.seq (.ops [Si 34 1 30 32, Sl 35 34, Sm 11 35]) (.ops [Sm 36 0, Sm 37 2, Sm 38 0, Sn 39 38, Sf 40 0 39, Sl 41 40, Sm 42 11, Si 43 4 41 42, Sf 44 1 43, Sl 45 44, Sc 46 46 [.t 37, .t 45], Sm 47 46, Sg 48 (.mov (.t 9)) 47 true, Sg 49 (.mov (.t 0)) 47 true, Sg 50 (.nilck (.t 49)) 47 true, Sg 51 (.faddr 0 (.t 50)) 47 true, Sg 52 (.load none (.t 51)) 47 true, Sg 53 (.mov (.t 11)) 47 true, Sg 54 (.iaddr (.sl 4) (.t 52) (.t 53)) 47 true, Sg 55 (.faddr 1 (.t 54)) 47 true, Sg 56 (.load none (.t 55)) 47 true, ⟨some 57, .call 44 [.t 48, .t 56], (some (47, true))⟩, Sx 58 (.pick (.t 47) (.t 57) (.c (.bool false))), Sm 59 11, Sc 60 25 [.t 36, .t 58, .t 59, (Ci 80)]]))) (.ops [Sb 61 .add (.t 32) (Ci 1), Sm 32 61])))) def C60 : IFn := ⟨62, (.seq (.ops [Sm 12 0, Sn 13 12, Sf 14 0 13, Sl 15 14, Sm 16 1, Si 17 4 15 16, Sf 18 2 17, Sl 19 18, Sm 8 19]) (.seq (.ops [Sm 20 0, Sm 21 3, Sm 22 21, Sg 23 (.mov (.t 8)) 22 true, Sg 24 (.len .sl (.t 23)) 22 true, Sg 25 (.bin .leq (.t 24) (Ci 4)) 22 true, Sx 26 (.pick (.t 22) (.t 25) (.c (.bool false))), Sm 27 1, Sc 28 25 [.t 20, .t 26, .t 27, (Ci 82)]]) (.seq (.ops [Sx 29 (.mkmap (.one .str)), Sm 9 29]) (.seq (.ops [Sm 30 8, Sx 31 (.len .sl (.t 30)), Sx 32 (.mov (Ci 0))]) (.block 0 (.loop C60L0)))))), []⟩
def C61L0 : IC := (.seq (.ops [Sb 89 .lss (.t 88) (.t 87)]) (.seq (.cond (.t 89) .skip (.exit 1)) (.seq (.block 2 (.seq (.ops [Si 90 1 86 88, Sl 91 90, Sm 9 91]) (.ops [Sm 92 0, Sm 93 9, Sm 94 2, Sc 95 61 [.t 92, .t 93, .t 94]]))) (.ops [Sb 96 .add (.t 88) (Ci 1), Sm 88 96])))) def C61 : IFn := ⟨97, (.seq (.ops [Sm 10 0, Sn 11 10, Sf 12 0 11, Sl 13 12, Sm 14 1, Si 15 4 13 14, Sx 16 (.load (some 4) (.t 15)), Sx 6 (.alloc [.int .i64 0, .string ⟨#[]⟩, (.slice none 0 0), .int .i64 0]), Su (.store 4 (.t 6) (.t 16))]) (.seq (.seq (.ops [Sf 17 0 6, Sl 18 17]) (.block 0 (.seq (.ops [Sb 20 .eql (.t 18) (Ci 17), Sm 19 20]) (.cond (.t 19) (.ops [Sm 21 0, Sm 22 2, Sf 23 1 6, Sl 24 23, Sc 25 46 [.t 22, .t 24], Sm 26 1, Sc 27 25 [.t 21, .t 25, .t 26, (Ci 80)]]) (.seq (.ops [Sb 29 .eql (.t 18) (Ci 20), Sm 28 29]) (.cond (.t 28) (.draw [Sm 30 0, Sm 31 0, Sn 32 31, Sf 33 6 32, Sl 34 33, Sf 35 1 6, Sl 36 35, Sx 37 (.lookup (.one .str) (.int .i64 0) false (.t 34) (.t 36)), Sb 38 .gtr (.t 37) (Ci 0), Sm 39 1, Sc 40 25 [.t 30, .t 38, .t 39, (Ci 80)]] [[], [], [1], [2, 1], [3, 2, 1], [], [5], [6, 5, 4, 3, 2, 1], [7, 6, 5, 4, 3, 2, 1], [], [9, 8, 7, 6, 5, 4, 3, 2, 1, 0]]) (.seq (.ops [Sb 42 .eql (.t 18) (Ci 23), Sm 41 42]) (.cond (.t 41) (.draw [Sm 43 0, Sm 44 0, Sn 45 44, Sf 46 5 45, Sl 47 46, Sf 48 1 6, Sl 49 48, Sx 50 (.lookup (.one .str) (.int .i64 0) false (.t 47) (.t 49)), Sb 51 .gtr (.t 50) (Ci 0), Sm 52 1, Sc 53 25 [.t 43, .t 51, .t 52, (Ci 80)]] [[], [], [1], [2, 1], [3, 2, 1], [], [5], [6, 5, 4, 3, 2, 1], [7, 6, 5, 4, 3, 2, 1], [], [9, 8, 7, 6, 5, 4, 3, 2, 1, 0]]) (.seq (.ops [Sb 55 .eql (.t 18) (Ci 22), Sm 54 55]) (.cond (.t 54) (.seq (.draw [Sm 56 0, Sn 57 56, Sf 58 7 57, Sl 59 58, Sf 60 1 6, Sl 61 60, Sx 62 (.lookup (.one .str) (.int .i64 0) false (.t 59) (.t 61)), Sm 7 62] [[], [0], [1, 0], [2, 1, 0], [], [4], [5, 4, 3, 2, 1, 0], [6, 5, 4, 3, 2, 1, 0]]) (.seq (.ops [Sm 63 0, Sm 64 7, Sb 65 .gtr (.t 64) (Ci 0), Sm 66 1, Sc 67 25 [.t 63, .t 65, .t 66, (Ci 80)]]) (.draw [Sm 68 0, Sm 69 0, Sn 70 69, Sf 71 1 70, Sf 72 1 71, Sl 73 72, Sm 74 7, Sb 75 .sub (.t 74) (Ci 1), Si 76 4 73 75, Sf 77 1 76, Sl 78 77, Sf 79 2 6, Sl 80 79, Sx 81 (.len .sl (.t 80)), Sb 82 .eql (.t 78) (.t 81), Sm 83 1, Sc 84 25 [.t 68, .t 82, .t 83, (Ci 81)]] [[], [], [1], [2, 1], [3, 2, 1], [4, 3, 2, 1], [], [6], [7, 6, 5, 4, 3, 2, 1], [8, 7, 6, 5, 4, 3, 2, 1], [9, 8, 7, 6, 5, 4, 3, 2, 1], [], [11], [12, 11], [13, 12, 11, 10, 9, 8, 7, 6, 5, 4, 3, 2, 1], [], [15, 14, 13, 12, 11, 10, 9, 8, 7, 6, 5, 4, 3, 2, 1, 0]]))) .skip)))))))))) (.seq (.ops [Sf 85 2 6, Sl 86 85, Sx 87 (.len .sl (.t 86)), Sx 88 (.mov (Ci 0))]) (.block 1 (.loop C61L0))))), []⟩ end Go.Idl
end

section
namespace Go.Idl
variable {T : Tbl}
def nmapF : List ByteArray → Nat → List (Value × Value)
 | [], _ => []
 | s :: l, k => (.string s, .int .i64 ((k + 1 : Nat) : Int)) :: nmapF l (k + 1)
def nmap (l : List ByteArray) : Blk := .map (.one .str) (nmapF l 0)
def numOf (l : List ByteArray) (s : ByteArray) : Nat := match idxOf l s 0 with
 | some k => k + 1
 | none => 0
theorem find_nmap {s : ByteArray} : ∀ (l : List ByteArray) (k : Nat), findK [.string s] (nmapF l k) = (idxOf l s k).map fun i => Value.int .i64 ((i + 1 : Nat) : Int)
 | [], _ => rfl
 | x :: l, k => by
  simp only [nmapF, findK, cellsV, seqL, seq1, Bool.and_true, decide_eq_true_eq, idxOf]
  split
  ·rfl
  ·exact find_nmap l (k + 1)
theorem set_nmap {s : ByteArray} : ∀ (l : List ByteArray) (k : Nat), idxOf l s k = none → setK [.string s] (.string s) (.int .i64 ((k + l.length + 1 : Nat) : Int)) (nmapF l k) = nmapF (l ++ [s]) k
 | [], k, _ => rfl
 | x :: l, k, h => by
  rw [idxOf] at h
  by_cases hx : s = x
  ·rw [if_pos hx] at h; cases h
  ·rw [if_neg hx] at h
   have ih := set_nmap l (k + 1) h
   simp only [nmapF, setK, cellsV, seqL, seq1, Bool.and_true, decide_eq_true_eq, if_neg hx, List.cons_append]
   rw [show k + (x :: l).length + 1 = k + 1 + l.length + 1 by simp only [List.length_cons]; omega, ih]
theorem nmapF_len : ∀ (l : List ByteArray) (k : Nat), (nmapF l k).length = l.length
 | [], _ => rfl
 | x :: l, k => by rw [nmapF, List.length_cons, nmapF_len l, List.length_cons]
theorem idxOf_le {s : ByteArray} : ∀ {l : List ByteArray} {k i : Nat}, idxOf l s k = some i → k ≤ i ∧ i < k + l.length
 | [], _, _, h => by cases h
 | x :: l, k, i, h => by
  rw [idxOf] at h
  split at h
  ·cases h; simp
  ·have := idxOf_le h; simp only [List.length_cons]; omega
theorem numOf_le (l : List ByteArray) (s : ByteArray) : numOf l s ≤ l.length := by
 unfold numOf
 cases h : idxOf l s 0 with
 | none => exact Nat.zero_le _
 | some k => have := idxOf_le h; simp only; omega
theorem iop_name {e : Env} {h : Heap} {m k b : Nat} {l : List ByteArray} {s : ByteArray} (h1 : e m = .map (some b)) (h2 : h.get b = some (nmap l)) (h3 : e k = .string s) : iop (.lookup (.one .str) (.int .i64 0) false (.t m) (.t k)) e h = some (.int .i64 (numOf l s), h) := by
 simp only [iop, ev, h1, h3, h2, nmap, if_true, keyOf, fit1, find_nmap, numOf]
 cases idxOf l s 0 <;> rfl
theorem lay_ok (hT : T.fn 44 = some C44) {h : Heap} {b : Nat} {l : List ByteArray} {s : ByteArray} (hb : h.get b = some (nmap l)) (hl : l.length < 4611686018427387904) :
 Wk T (.fn 44) [.map (some b), .string s] h (fun o h' => h' = (if numOf l s = 0 then h.set b (nmap (l ++ [s])) else h) ∧ o = .ret (.bool (decide (numOf l s = 0)))) := by
 refine Wk_fn hT (by simp [C44]) ?_
 simp only [C44]
 refine Wc_seq (Wc_ops (Wo_run (fun _ => by simp only [go_sem, seval]; rfl) ?_))
 show Wc T _ _ _
 refine Wc_seq (Wc_seq (Wc_ops (Wo_pre 2 (fun _ => by simp only [go_sem, seval]; rfl) ?_)))
 refine Wo_op (iop_name (by first | rfl | assumption) hb (by first | rfl | assumption)) ?_
 cases hi : idxOf l s 0 with
 | none =>
  have hn : numOf l s = 0 := by rw [numOf, hi]
  rw [if_pos hn]
  refine (Wo_run (fun _ => by simp only [go_sem, seval, hn]; rfl) ?_)
  show Wc T _ _ _
  refine Wc_cond false (by first | rfl | assumption) nofun (fun _ => Wc_skip ?_)
  show Wc T _ _ _
  have hw : IntKind.i64.wrap (((l.length : Nat) : Int) + 1) = ((0 + l.length + 1 : Nat) : Int) := by rw [wrap64] <;> omega
  have hlen : (nmapF l 0).length = l.length := nmapF_len l 0
  refine Wc_seq (Wc_ops (Wo_pre 5 (fun _ => by simp only [go_sem, seval, hb, nmap, hlen, hw]; rfl) ?_))
  refine Wo_op (v := undef) (h' := h.set b (nmap (l ++ [s]))) ?_ (Wo_nil ?_)
  ·simp only [iop, ev, upd, dstUpd, reduceIte, Nat.reduceEqDiff, args0, List.getD_cons_zero, List.getD_cons_succ, hb, nmap, keyOf, fit1, if_true]
   have hset := set_nmap l 0 hi
   rw [Nat.zero_add] at hset
   rw [hset]
  show Wc T _ _ _
  refine Wc_seq (Wc_ops (Wo_run (fun _ => by simp only [go_sem, seval]; rfl) ?_))
  exact Wc_ret ⟨.inr rfl, rfl, [.bool true], by simp only [resAll, resV, upd, dstUpd, reduceIte, Nat.reduceEqDiff], rfl, by rw [decide_eq_true hn]; rfl⟩
 | some k =>
  have hn : numOf l s = k + 1 := by rw [numOf, hi]
  have hn0 : ¬ numOf l s = 0 := by omega
  rw [if_neg hn0]
  have hp : (0 : Int) < ((numOf l s : Nat) : Int) := by omega
  refine (Wo_run (fun _ => by simp only [go_sem, seval, hp]; rfl) ?_)
  show Wc T _ _ _
  refine Wc_cond true (by first | rfl | assumption) (fun _ => ?_) nofun
  refine Wc_seq (Wc_ops (Wo_run (fun _ => by simp only [go_sem, seval]; rfl) ?_))
  exact Wc_ret ⟨.inr rfl, rfl, [.bool false], by simp only [resAll, resV, upd, dstUpd, reduceIte, Nat.reduceEqDiff], rfl, by rw [decide_eq_false hn0]; rfl⟩
def scopeAt (h : Heap) : Value → List ByteArray → Prop
 | v, [] => v = .pointer none
 | v, s :: r => ∃ b p, v = ptr b 0 ∧ b < h.next ∧ h.get b = some (.cells [p, .string s] true 0) ∧ scopeAt h p r
theorem scopeAt.keep {h h' : Heap} (k : Kept h h') : ∀ {l : List ByteArray} {v : Value}, scopeAt h v l → scopeAt h' v l
 | [], _, hs => hs
 | s :: r, v, ⟨b, p, h1, h2, h3, h4⟩ => ⟨b, p, h1, Nat.lt_of_lt_of_le h2 k.next, by rw [k.get b h2]; exact h3, h4.keep k⟩
def hasN (l : List ByteArray) (s : ByteArray) : Bool := l.any fun x => decide (x = s)
theorem has_ok (hT : T.fn 46 = some C46) {h : Heap} {v : Value} {l : List ByteArray} {s : ByteArray} (hv : scopeAt h v l) :
 Wk T (.fn 46) [v, .string s] h (fun o h' => h' = h ∧ o = .ret (.bool (hasN l s))) := by
 refine Wk_fn hT (by simp [C46]) ?_
 simp only [C46]
 refine Wc_seq (Wc_ops (Wo_run (fun _ => by simp only [go_sem, seval]; rfl) ?_))
 show Wc T _ _ _
 have loop : ∀ (r : List ByteArray) (v : Value) (e : Env), scopeAt h v r → e 0 = v → e 1 = .string s → (hasN l s = hasN r s) → Wc T (.loop C46L0) ⟨e, h, some []⟩ (Tb 0 fun x s' => match x with
  | .normal => hasN l s = false ∧ s'.h = h ∧ s'.d = some []
  | .ret => hasN l s = true ∧ s'.h = h ∧ s'.d = some [] ∧ s'.e 4 = .bool true
  | _ => False) := by
  intro r
  induction r with
  | nil =>
   intro v e hv e0 e1 hh
   have hv : v = .pointer none := hv
   refine Wc_unroll (Wc_seq (Wc_seq (Wc_ops (Wo_run (fun _ => by simp only [go_sem, seval, e0, hv, nilV, Option.isNone]; rfl) ?_))))
   show Wc T _ _ _
   refine Wc_cond false (by first | rfl | assumption) nofun (fun _ => Wc_exit ?_)
   exact ⟨hh, rfl, rfl⟩
  | cons x r ih =>
   rintro v e ⟨b, p, hv, hb, hg, hp⟩ e0 e1 hh
   refine Wc_unroll (Wc_seq (Wc_seq (Wc_ops (Wo_run (fun _ => by simp only [go_sem, seval, e0, hv, nilV, Option.isNone]; rfl) ?_))))
   show Wc T _ _ _
   refine Wc_cond true (by first | rfl | assumption) (fun _ => Wc_skip ?_) nofun
   show Wc T _ _ _
   refine Wc_seq (Wc_block ?_)
   refine Wc_seq (Wc_ops (Wo_run (fun _ => by simp only [go_sem, seval, e0, e1, hv, hg]; rfl) ?_))
   show Wc T _ _ _
   by_cases hx : x = s
   ·refine Wc_cond true (congrArg Value.bool (decide_eq_true hx)) (fun _ => ?_) nofun
    refine Wc_seq (Wc_ops (Wo_run (fun _ => by simp only [go_sem, seval]; rfl) ?_))
    refine Wc_ret ⟨?_, rfl, rfl, (by first | rfl | assumption)⟩
    rw [hh, hasN, List.any_cons, decide_eq_true hx]; rfl
   ·refine Wc_cond false (congrArg Value.bool (decide_eq_false hx)) nofun (fun _ => Wc_skip ?_)
    show Wc T _ _ _
    refine Wc_ops (Wo_run (fun _ => by simp only [go_sem, seval, e0, hv, hg]; rfl) ?_)
    refine ih p _ hp (by first | rfl | assumption) (by simp only [go_sem, seval, e1] <;> first | rfl | assumption | (symm; assumption)) ?_
    rw [hh, hasN, List.any_cons, decide_eq_false hx, Bool.false_or]; rfl
 refine Wc_seq (Wc_block ((loop l v _ hv (by first | rfl | assumption) (by first | rfl | assumption) rfl).mono ?_))
 intro x s' hx
 have rest : hasN l s = false ∧ s'.h = h ∧ s'.d = some [] → Wc T (.seq (.ops [⟨(some 4), .op (.mov (.c (.bool false))), none⟩]) .ret) s' (fun x s' => (x = .normal ∨ x = .ret) ∧ s'.d = some [] ∧ ∃ vs, resAll s'.e s'.h [.tmp 4] = some vs ∧ s'.h = h ∧ Out.ret (tup vs) = .ret (.bool (hasN l s))) := by
  obtain ⟨e', h', d'⟩ := s'
  rintro ⟨q1, q2, q3⟩
  simp only at q2 q3
  rw [q1, q2, q3]
  refine Wc_seq (Wc_ops (Wo_run (fun _ => by simp only [go_sem, seval]; rfl) ?_))
  exact Wc_ret ⟨.inr rfl, rfl, [.bool false], by simp only [resAll, resV, upd, dstUpd, reduceIte, Nat.reduceEqDiff], rfl, rfl⟩
 cases x with
 | normal => exact rest hx
 | brk i =>
  simp only [Tb] at hx ⊢
  split at hx
  ·rename_i hi; rw [if_pos hi]; exact rest hx
  ·exact hx.elim
 | ret =>
  obtain ⟨q1, q2, q3, q4⟩ := hx
  exact ⟨.inr rfl, q3, [.bool true], by simp only [C46, resAll, resV, q4], q2, by rw [q1]; rfl⟩
 | pan v => exact hx.elim
end Go.Idl
end

section
namespace Go.Idl
variable {T : Tbl}
structure Srt where
 name : ByteArray
 fv : Value
 fields : List ByteArray
def Srt.cells (x : Srt) : List Value := [.string x.name, x.fv]
structure Fnr where
 name : ByteArray
 params : Nat
 vv : Value
 vars : List ByteArray
 node : Nat
def Fnr.cells (x : Fnr) : List Value := [.string x.name, .int .i64 x.params, x.vv, .int .i64 x.node]
theorem srt_len (x : Srt) : x.cells.length = 2 := rfl
theorem fnr_len (x : Fnr) : x.cells.length = 4 := rfl
structure JSt where
 n0 : Nat
 sn : List ByteArray
 fl : List ByteArray
 fn : List ByteArray
 srt : List Srt
 fns : List Fnr
 main : Int
 mg : List Int
def kzAt (h : Heap) (v : Value) : Prop := ∀ a n c, v = .slice (some a) n c → ∃ cs o z, a.block < h.next ∧ h.get a.block = some (.cells cs o z) ∧ (z = 0 ∨ z = 1)
theorem kzAt.keep {h h' : Heap} (k : Kept h h') {v : Value} (hv : kzAt h v) : kzAt h' v := fun a n c e => by
 obtain ⟨cs, o, z, h1, h2, h3⟩ := hv a n c e
 exact ⟨cs, o, z, Nat.lt_of_lt_of_le h1 k.next, by rw [k.get _ h1]; exact h2, h3⟩
theorem ownL.strs {n0 : Nat} {h : Heap} {v : Value} {l : List ByteArray} (o : ownL strC 1 n0 h v l) : strsAt h v l := by
 refine ⟨?_, fun x hx => trivial⟩
 rcases o with ⟨rfl, rfl⟩ | ⟨b, _, e2, e3, e4⟩
 ·exact .inl ⟨rfl, rfl⟩
 ·exact .inr ⟨b, _, e3, e2, .inr ⟨_, _, e4⟩⟩
structure JRep (jb : Nat) (l : List Nd) (J : JSt) (h : Heap) (v sv fv mv : Value) (a b c : Nat) : Prop where
 lt : jb < h.next
 get : h.get jb = some (.cells [v, sv, fv, .int .i64 J.main, mv, .map (some a), .map (some b), .map (some c)] true 0)
 base : ∃ h0, h0.next ≤ J.n0 ∧ nodesAt h0 v l ∧ (∀ x ∈ l, kzAt h0 x.kv) ∧ Kept h0 h
 ga : h.get a = some (nmap J.sn)
 gb : h.get b = some (nmap J.fl)
 gc : h.get c = some (nmap J.fn)
 la : a < h.next
 lb : b < h.next
 lc : c < h.next
 srt : ownL Srt.cells 2 J.n0 h sv J.srt
 fns : ownL Fnr.cells 4 J.n0 h fv J.fns
 mg : ownI J.n0 h mv J.mg
 vars : ∀ x ∈ J.fns, ownL strC 1 J.n0 h x.vv x.vars
 fields : ∀ x ∈ J.srt, ownL strC 1 J.n0 h x.fv x.fields
 ne : a ≠ b ∧ a ≠ c ∧ b ≠ c
 ge : J.n0 ≤ jb ∧ J.n0 ≤ a ∧ J.n0 ≤ b ∧ J.n0 ≤ c
 mgn : J.mg = [] → mv = .slice none 0 0
def Jud (jb : Nat) (l : List Nd) (J : JSt) (h : Heap) : Prop := ∃ v sv fv mv a b c, JRep jb l J h v sv fv mv a b c
section
variable {jb : Nat} {l : List Nd} {J : JSt} {h h' : Heap} {v sv fv mv : Value} {a b c : Nat}
theorem JRep.nodes (p : JRep jb l J h v sv fv mv a b c) : nodesAt h v l := by
 obtain ⟨h0, _, h2, _, h3⟩ := p.base
 exact h2.keep h3
theorem JRep.kz (p : JRep jb l J h v sv fv mv a b c) : ∀ x ∈ l, kzAt h x.kv := fun x hx => by
 obtain ⟨h0, _, _, h2, h3⟩ := p.base
 exact (h2 x hx).keep h3
theorem JRep.keep (p : JRep jb l J h v sv fv mv a b c) (k : Kept h h') : JRep jb l J h' v sv fv mv a b c :=
 ⟨Nat.lt_of_lt_of_le p.lt k.next, by rw [k.get _ p.lt]; exact p.get, (by obtain ⟨h0, h1, h2, h3, h4⟩ := p.base; exact ⟨h0, h1, h2, h3, h4.trans k⟩), by rw [k.get _ p.la]; exact p.ga, by rw [k.get _ p.lb]; exact p.gb, by rw [k.get _ p.lc]; exact p.gc, Nat.lt_of_lt_of_le p.la k.next, Nat.lt_of_lt_of_le p.lb k.next, Nat.lt_of_lt_of_le p.lc k.next,
  p.srt.kept k, p.fns.kept k, p.mg.keep k.next (fun x _ hx => k.get x hx), fun x hx => (p.vars x hx).kept k, fun x hx => (p.fields x hx).kept k, p.ne, p.ge, p.mgn⟩
theorem Jud.keep (p : Jud jb l J h) (k : Kept h h') : Jud jb l J h' := by
 obtain ⟨v, sv, fv, mv, a, b, c, p⟩ := p
 exact ⟨v, sv, fv, mv, a, b, c, p.keep k⟩
end
abbrev CE := Int × Int
def wrongC (r : CE) : Value := .iface 52 (.agg #[.int .i64 r.1, .int .i64 r.2])
def outC : Option CE → Out
 | none => .ret (tup [])
 | some r => .pan (wrongC r)
def posAt (l : List Nd) (n : Int) : Int := if n < 0 then 0 else (l[n.toNat]?.map (·.pos)).getD 0
def mustE (l : List Nd) (ok : Bool) (n e : Int) : Option CE := if ok then none else some (posAt l n, e)
theorem must_ok (hT : T.fn 25 = some C25) {jb : Nat} {l : List Nd} {J : JSt} {h : Heap} {ok : Bool} {n e : Int} (p : Jud jb l J h) (hn : n < l.length) :
 Wk T (.fn 25) [ptr jb 0, .bool ok, .int .i64 n, .int .i64 e] h (fun o h' => h' = h ∧ o = outC (mustE l ok n e)) := by
 obtain ⟨v, sv, fv, mv, a, b, c, p⟩ := p
 have hg := p.get
 refine Wk_fn2 hT (by simp [C25]) ?_
 simp only [C25]
 refine Wc_seq (Wc_seq (Wc_ops (Wo_run (fun _ => by simp only [go_sem, seval]; rfl) ?_)))
 show Wc T _ _ _
 refine Wc_cond ok (by first | rfl | assumption) (fun hok => ?_) (fun hok => Wc_skip ?_)
 ·subst hok
  exact Wc_ret ⟨rfl, [], rfl, rfl, rfl⟩
 subst hok
 show Wc T _ _ _
 refine Wc_seq (Wc_ops (Wo_run (fun _ => by simp only [go_sem, seval]; rfl) ?_))
 show Wc T _ _ _
 have fin : ∀ (e' : Env), e' 8 = .int .i64 (posAt l n) → e' 3 = .int .i64 e → Wc T (.ops [⟨(some 20), .op (.mov (.t 8)), none⟩, ⟨(some 21), .op (.mov (.t 3)), none⟩, ⟨(some 22), .op (.build [(.int .i64 0), (.int .i64 0)] [(0, 1, (.t 20)), (1, 1, (.t 21))]), none⟩, ⟨(some 23), .op (.iface 52 (.t 22)), none⟩, ⟨none, .panic (.t 23), none⟩]) ⟨e', h, some []⟩ (Fin2 C25 fun o h' => h' = h ∧ o = outC (mustE l false n e)) := by
  intro e' h8 h3
  refine Wc_ops (Wo_pre 2 (fun _ => by simp only [go_sem, seval, h8, h3]; rfl) ?_)
  refine Wo_op (v := .agg #[.int .i64 (posAt l n), .int .i64 e]) (h' := h) (by rfl) ?_
  refine Wo_op (v := wrongC (posAt l n, e)) (h' := h) (by rfl) ?_
  refine Wo_panic (t := 52) (v := .agg #[.int .i64 (posAt l n), .int .i64 e]) (by first | rfl | assumption) ?_
  exact ⟨rfl, rfl, rfl⟩
 by_cases h0 : 0 ≤ n
 ·refine Wc_seq (Wc_seq (Wc_ops (Wo_run (fun _ => by simp only [go_sem, seval, h0]; rfl) ?_)))
  show Wc T _ _ _
  refine Wc_cond true (by first | rfl | assumption) (fun _ => ?_) nofun
  obtain ⟨m, rfl⟩ : ∃ m : Nat, n = m := ⟨n.toNat, by omega⟩
  have hm : m < l.length := by omega
  obtain ⟨x, hx⟩ : ∃ x, l[m]? = some x := ⟨_, List.getElem?_eq_getElem hm⟩
  obtain ⟨q, cp, o, z, hvb, hb, hgb, hcell⟩ := p.nodes.load4 hx
  obtain ⟨f0, f1, f2, f3⟩ := flatN_at hx
  have hpos : posAt l ((m : Nat) : Int) = x.pos := by rw [posAt, if_neg (by omega), Int.toNat_natCast, hx]; rfl
  refine Wc_ops (Wo_run (fun _ => by simp only [go_sem, seval, hg, hvb, idx_ok hm, hgb, f3]; rfl) ?_)
  exact fin _ (by rw [hpos]; exact (by first | rfl | assumption)) (by first | rfl | assumption)
 ·refine Wc_seq (Wc_seq (Wc_ops (Wo_run (fun _ => by simp only [go_sem, seval, h0]; rfl) ?_)))
  show Wc T _ _ _
  refine Wc_cond false (by first | rfl | assumption) nofun (fun _ => Wc_skip ?_)
  have hpos : posAt l n = 0 := by rw [posAt, if_pos (by omega)]
  exact fin _ (by rw [hpos]; exact (by first | rfl | assumption)) (by first | rfl | assumption)
end Go.Idl
end

section
namespace Go.Idl
variable {T : Tbl}
def parN (J : JSt) (k : Nat) : Nat := (J.fns[k]?.map (·.params)).getD 0
def kindE (J : JSt) (sc : List ByteArray) (x : Nd) : Option CE :=
 if x.kind = 17 then (if hasN sc x.text then none else some (x.pos, 80))
 else if x.kind = 20 then (if 0 < numOf J.fl x.text then none else some (x.pos, 80))
 else if x.kind = 23 then (if 0 < numOf J.sn x.text then none else some (x.pos, 80))
 else if x.kind = 22 then (if 0 < numOf J.fn x.text then (if parN J (numOf J.fn x.text - 1) = x.kids.length then none else some (x.pos, 81)) else some (x.pos, 80))
 else none
def exprE (l : List Nd) (J : JSt) (sc : List ByteArray) : Nat → Nat → Option CE
 | 0, _ => none
 | f + 1, n => match l[n]? with
  | none => none
  | some x => match kindE J sc x with
   | some e => some e
   | none => x.kids.findSome? fun k => exprE l J sc f k.toNat
structure JFns (T : Tbl) : Prop where
 must : T.fn 25 = some C25
 lay : T.fn 44 = some C44
 has : T.fn 46 = some C46
 expr : T.fn 61 = some C61
theorem posAt_at {l : List Nd} {n : Nat} {x : Nd} (hx : l[n]? = some x) : posAt l ((n : Nat) : Int) = x.pos := by rw [posAt, if_neg (by omega), Int.toNat_natCast, hx]; rfl
theorem Wo_must (F : JFns T) {jb : Nat} {l : List Nd} {J : JSt} {e : Env} {h : Heap} {d : Option (List Dfr)} {dst : Option Nat} {rest : List Step} {Q : Option Value → St → Prop} {a b c z : Opd} {ok : Bool} {n : Nat} {er : Int} {x : Nd} (p : Jud jb l J h) (hx : l[n]? = some x)
 (ha : ev e a = ptr jb 0) (hb : ev e b = .bool ok) (hc : ev e c = .int .i64 n) (hz : ev e z = .int .i64 er)
 (k1 : ok = true → Wo T rest ⟨dstUpd e dst (tup []), h, d⟩ Q) (k2 : ok = false → Q (some (wrongC (x.pos, er))) ⟨e, h, d⟩) : Wo T (⟨dst, .call 25 [a, b, c, z], none⟩ :: rest) ⟨e, h, d⟩ Q := by
 have hn := (List.getElem?_eq_some_iff.1 hx).1
 refine Wo_call ?_
 simp only [List.map_cons, List.map_nil, ha, hb, hc, hz]
 refine (must_ok F.must (ok := ok) (e := er) p (by omega)).mono ?_
 rintro o h' ⟨rfl, rfl⟩
 cases ok with
 | true => exact k1 rfl
 | false =>
  have := k2 rfl
  rw [← posAt_at hx] at this
  exact this
theorem ownL.cell {α : Type} {f : α → List Value} {w n0 : Nat} (hf : ∀ a, (f a).length = w) {h : Heap} {v : Value} {l : List α} (o : ownL f w n0 h v l) {i : Nat} {x : α} (hi : l[i]? = some x) : ∃ b c, v = .slice (some ⟨b, 0, none⟩) l.length c ∧ b < h.next ∧ h.get b = some (.cells (l.flatMap f) true w) ∧ ∀ j, j < w → (l.flatMap f)[i * w + j]? = (f x)[j]? := by
 obtain ⟨b, c, e1, _, e2, e3, _⟩ := o.load hf hi
 exact ⟨b, c, e1, e2, e3, fun j hj => by rw [← row_at hf hi, List.getElem?_take, if_pos hj, List.getElem?_drop]⟩
theorem expr_ok (F : JFns T) {jb : Nat} {l : List Nd} {J : JSt} {sc : List ByteArray} (g : GoodT l) (hfl : J.fns.length = J.fn.length) (hlen : l.length < 1000000) (hkl : ∀ x ∈ l, x.kids.length < 1000000) (hfn : J.fn.length < 1000000) : ∀ (f n : Nat), n < f → ∀ {h : Heap} {v : Value}, Jud jb l J h → scopeAt h v sc → n < l.length →
 Wk T (.fn 61) [ptr jb 0, .int .i64 n, v] h (fun o h' => Kept h h' ∧ o = outC (exprE l J sc f n)) := by
 intro f
 induction f with
 | zero => intro n hn; omega
 | succ f ih =>
  intro n hnf h v hj hsc hn
  obtain ⟨x, hx⟩ : ∃ x, l[n]? = some x := ⟨_, List.getElem?_eq_getElem hn⟩
  have hxm := List.mem_of_getElem? hx
  have hok := g.ok n x hx
  have hE : exprE l J sc (f + 1) n = match kindE J sc x with
   | some e => some e
   | none => x.kids.findSome? fun k => exprE l J sc f k.toNat := by rw [exprE, hx]
  obtain ⟨lv, sv, fv, mv, a, b, c, p⟩ := id hj
  have hg := p.get
  obtain ⟨q, cp, o, z, hvb, hb, hgb, hcell⟩ := p.nodes.load4 hx
  refine Wk_fn2 F.expr (by simp [C61]) ?_
  simp only [C61]
  refine Wc_seq (Wc_ops (Wo_pre 8 (fun _ => by simp only [go_sem, seval, hg, hvb, idx_ok hn, hcell]; rfl) ?_))
  refine Wo_store_new (cs := x.cells) (h := h) (by first | rfl | assumption) (by first | rfl | assumption) rfl rfl fun h2 n2 => Wo_nil ?_
  show Wc T _ _ _
  have k2 := n2.kept
  have hg6 := n2.get
  have hj2 := hj.keep k2
  have p2 := p.keep k2
  have sc2 := hsc.keep k2
  have bad : ∀ (r : CE) (s' : St), kindE J sc x = some r → s'.d = some [] → s'.h = h2 → Fin2 C61 (fun o h' => Kept h h' ∧ o = outC (exprE l J sc (f + 1) n)) (.pan (wrongC r)) s' := fun r s' h1 hd hh => ⟨hd, by rw [hh]; exact k2, by rw [hE, h1]; rfl⟩
  refine Wc_seq (Wc_seq (Wc_ops (Wo_run (fun _ => by simp only [go_sem, seval, hg6, Nd.cells]; rfl) ?_)))
  show Wc T _ _ _
  refine Wc_block ?_
  refine Wc.mono (Q := fun ex s' => match ex with
   | .normal => kindE J sc x = none ∧ s'.d = some [] ∧ s'.h = h2 ∧ s'.e 0 = ptr jb 0 ∧ s'.e 2 = v ∧ s'.e 6 = ptr h.next 0
   | .pan u => ∃ r, u = wrongC r ∧ kindE J sc x = some r ∧ s'.d = some [] ∧ s'.h = h2
   | _ => False) ?_ ?_
  ·have hh := has_ok F.has (s := x.text) sc2
   refine Wc_case (k := x.kind) (by first | rfl | assumption) (fun k17 => ?_) (fun k17 => ?_)
   ·refine Wc_ops (Wo_pre 4 (fun _ => by simp only [go_sem, seval, hg6, Nd.cells]; rfl) ?_)
    refine Wo_call (Wk_pure hh ?_)
    refine (Wo_pre 1 (fun _ => by simp only [go_sem, seval]; rfl) ?_)
    refine Wo_must F hj2 hx (by first | rfl | assumption) (by first | rfl | assumption) (by first | rfl | assumption) rfl (fun hy => Wo_nil ?_) (fun hy => ?_)
    ·exact ⟨by rw [kindE, if_pos k17, if_pos hy], rfl, rfl, (by first | rfl | assumption), (by first | rfl | assumption), (by first | rfl | assumption)⟩
    ·exact ⟨_, rfl, by rw [kindE, if_pos k17, hy]; rfl, rfl, rfl⟩
   refine Wc_case (k := x.kind) (by first | rfl | assumption) (fun k20 => ?_) (fun k20 => ?_)
   ·refine Wc_draw_end 10 rfl (by decide) ?_
    refine (Wo_pre 7 (fun _ => by simp only [go_sem, seval, p2.get, hg6, Nd.cells]; rfl) ?_)
    refine Wo_op (iop_name (by first | rfl | assumption) p2.gb (by first | rfl | assumption)) ?_
    refine (Wo_run (fun _ => by simp only [go_sem, seval]; rfl) ?_)
    refine ⟨rfl, ?_⟩
    refine Wo_must F hj2 hx (by first | rfl | assumption) (ok := decide (0 < numOf J.fl x.text)) (by simp [ev, upd]) (by first | rfl | assumption) rfl (fun hy => Wo_nil ?_) (fun hy e => ?_)
    ·have hy := of_decide_eq_true hy
     exact ⟨by rw [kindE, if_neg k17, if_pos k20, if_pos hy], rfl, rfl, (by first | rfl | assumption), (by first | rfl | assumption), (by first | rfl | assumption)⟩
    ·have hy := of_decide_eq_false hy
     exact ⟨_, rfl, by rw [kindE, if_neg k17, if_pos k20, if_neg hy], rfl, rfl⟩
   refine Wc_case (k := x.kind) (by first | rfl | assumption) (fun k23 => ?_) (fun k23 => ?_)
   ·refine Wc_draw_end 10 rfl (by decide) ?_
    refine (Wo_pre 7 (fun _ => by simp only [go_sem, seval, p2.get, hg6, Nd.cells]; rfl) ?_)
    refine Wo_op (iop_name (by first | rfl | assumption) p2.ga (by first | rfl | assumption)) ?_
    refine (Wo_run (fun _ => by simp only [go_sem, seval]; rfl) ?_)
    refine ⟨rfl, ?_⟩
    refine Wo_must F hj2 hx (by first | rfl | assumption) (ok := decide (0 < numOf J.sn x.text)) (by simp [ev, upd]) (by first | rfl | assumption) rfl (fun hy => Wo_nil ?_) (fun hy e => ?_)
    ·have hy := of_decide_eq_true hy
     exact ⟨by rw [kindE, if_neg k17, if_neg k20, if_pos k23, if_pos hy], rfl, rfl, (by first | rfl | assumption), (by first | rfl | assumption), (by first | rfl | assumption)⟩
    ·have hy := of_decide_eq_false hy
     exact ⟨_, rfl, by rw [kindE, if_neg k17, if_neg k20, if_pos k23, if_neg hy], rfl, rfl⟩
   refine Wc_case (k := x.kind) (by first | rfl | assumption) (fun k22 => ?_) (fun k22 => Wc_skip ?_)
   ·refine Wc_seq (Wc_draw_still (by decide) ?_)
    refine (Wo_pre 6 (fun _ => by simp only [go_sem, seval, p2.get, hg6, Nd.cells]; rfl) ?_)
    refine Wo_op (iop_name (by first | rfl | assumption) p2.gc (by first | rfl | assumption)) ?_
    refine (Wo_run (fun _ => by simp only [go_sem, seval]; rfl) ?_)
    refine ⟨rfl, ?_⟩
    show Wc T _ _ _
    refine Wc_seq (Wc_ops (Wo_pre 4 (fun _ => by simp only [go_sem, seval]; rfl) ?_))
    refine Wo_must F hj2 hx (by first | rfl | assumption) (ok := decide (0 < numOf J.fn x.text)) (by simp [ev, upd]) (by first | rfl | assumption) rfl (fun hy => Wo_nil ?_) (fun hy => ?_)
    ·have hy := of_decide_eq_true hy
     show Wc T _ _ _
     have hle := numOf_le J.fn x.text
     obtain ⟨r, hr⟩ : ∃ r, J.fns[numOf J.fn x.text - 1]? = some r := ⟨_, List.getElem?_eq_getElem (by omega)⟩
     obtain ⟨rb, rc, hfv, _, hrg, hrc⟩ := p2.fns.cell fnr_len hr
     have hr1 := hrc 1 (by omega)
     have hpar : parN J (numOf J.fn x.text - 1) = r.params := by rw [parN, hr]; rfl
     have hlt := (List.getElem?_eq_some_iff.1 hr).1
     have hw : IntKind.i64.wrap (((numOf J.fn x.text : Nat) : Int) - 1) = ((numOf J.fn x.text - 1 : Nat) : Int) := by rw [wrap64] <;> omega
     obtain ⟨ka, kc, hkv⟩ := (p.nodes.2 x hxm).len
     refine Wc_draw_end 16 rfl (by decide) ?_
     refine (Wo_run (fun _ => by simp only [go_sem, seval, p2.get, hg6, Nd.cells, hfv, hw, idx_ok hlt, hrg, hr1, Fnr.cells, hkv]; rfl) ?_)
     refine ⟨rfl, ?_⟩
     refine Wo_must F hj2 hx (by first | rfl | assumption) (ok := decide (r.params = x.kids.length)) (by simp only [ev, upd, dstUpd, reduceIte, Nat.reduceEqDiff]; rw [len_eq]) (by first | rfl | assumption) rfl (fun hy2 => Wo_nil ?_) (fun hy2 e => ?_)
     ·have hy2 := of_decide_eq_true hy2
      exact ⟨by rw [kindE, if_neg k17, if_neg k20, if_neg k23, if_pos k22, if_pos hy, hpar, if_pos hy2], rfl, rfl, (by first | rfl | assumption), (by first | rfl | assumption), (by first | rfl | assumption)⟩
     ·have hy2 := of_decide_eq_false hy2
      exact ⟨_, rfl, by rw [kindE, if_neg k17, if_neg k20, if_neg k23, if_pos k22, if_pos hy, hpar, if_neg hy2], rfl, rfl⟩
    ·have hy := of_decide_eq_false hy
     exact ⟨_, rfl, by rw [kindE, if_neg k17, if_neg k20, if_neg k23, if_pos k22, if_neg hy], rfl, rfl⟩
   ·exact ⟨by rw [kindE, if_neg k17, if_neg k20, if_neg k23, if_neg k22], rfl, rfl, (by first | rfl | assumption), (by first | rfl | assumption), (by first | rfl | assumption)⟩
  ·intro ex s' hs
   cases ex with
   | brk i => exact hs.elim
   | ret => exact hs.elim
   | pan u => obtain ⟨r, rfl, h1, h2', h3⟩ := hs; exact bad r s' h1 h2' h3
   | normal =>
    obtain ⟨e', h3, d'⟩ := s'
    obtain ⟨hk, hd, hh, e0, e2, e6⟩ := hs
    simp only at hd hh e0 e2 e6
    subst hh
    subst hd
    show Wc T _ _ _
    obtain ⟨ka, kc, hkv⟩ := (p.nodes.2 x hxm).len
    have hki := (p2.nodes.2 x hxm)
    have hkn := hkl x hxm
    refine Wc_seq (Wc_ops (Wo_run (fun _ => by simp only [go_sem, seval, e6, hg6, Nd.cells, hkv]; rfl) ?_))
    show Wc T _ _ _
    refine Wc_range x.kids.length (fun j e h' d => d = some [] ∧ Kept h3 h' ∧ ((x.kids.drop j).findSome? fun k => exprE l J sc f k.toNat) = (x.kids.findSome? fun k => exprE l J sc f k.toNat)) (by decide) (by first | rfl | assumption) (by first | rfl | assumption) (by omega) (by decide) ⟨rfl, .refl _, by rw [List.drop_zero]⟩ ?_ ?_
    ·rintro j e h' d hj' ⟨rfl, hk', hfs⟩ hfr hi hn'
     obtain ⟨k, hkj⟩ : ∃ k, x.kids[j]? = some k := ⟨_, List.getElem?_eq_getElem hj'⟩
     obtain ⟨kb, kcp, hkvb, _, ⟨ko, kz, hkg⟩, hkc⟩ := (hki.keep hk').load hkj
     rw [Nat.zero_add] at hkc
     have hkr := hok.kids k (List.mem_of_getElem? hkj)
     obtain ⟨m, rfl⟩ : ∃ m : Nat, k = m := ⟨k.toNat, by omega⟩
     have hdr : x.kids.drop j = ((m : Nat) : Int) :: x.kids.drop (j + 1) := by
      obtain ⟨hl, ht⟩ := List.getElem?_eq_some_iff.1 hkj
      rw [List.drop_eq_getElem_cons hl, ht]
     rw [hdr, List.findSome?_cons] at hfs
     have e86 : e 86 = x.kv := by rw [hkv]; exact ((hfr 86 (by decide)).trans (by first | rfl | assumption | (symm; assumption)))
     have e0' : e 0 = ptr jb 0 := (by rw [hfr 0 (by decide)]; try simp only [go_sem, seval, e0] <;> first | rfl | assumption | (symm; assumption))
     have e2' : e 2 = v := (by rw [hfr 2 (by decide)]; try simp only [go_sem, seval, e2] <;> first | rfl | assumption | (symm; assumption))
     refine Wc_seq (Wc_ops (Wo_run (fun _ => by simp only [go_sem, seval, hi, e86, hkvb, idx_ok hj', hkg, hkc]; rfl) ?_))
     show Wc T _ _ _
     refine Wc_ops (Wo_pre 3 (fun _ => by simp only [go_sem, seval, e0', e2']; rfl) ?_)
     refine Wo_call ((ih m (by omega) (hj2.keep hk') (sc2.keep hk') (by omega)).mono ?_)
     rintro o h'' ⟨k'', rfl⟩
     simp only [Int.toNat_natCast] at hfs
     cases hex : exprE l J sc f m with
     | none =>
      rw [hex] at hfs
      show Wo T _ _ _
      refine Wo_nil ?_
      exact ⟨rfl, hk'.trans k'', hfs⟩
     | some r =>
      rw [hex] at hfs
      have hres : exprE l J sc (f + 1) n = some r := by rw [hE, hk]; exact hfs.symm
      exact ⟨rfl, (k2.trans hk').trans k'', by rw [hres]; rfl⟩
    ·rintro e h' d ⟨rfl, hk', hfs⟩ hfr hi
     rw [List.drop_length] at hfs
     refine ⟨rfl, [], rfl, k2.trans hk', ?_⟩
     have hres : exprE l J sc (f + 1) n = none := by rw [hE, hk]; exact hfs.symm
     rw [hres]; rfl
end Go.Idl
end

section
namespace Go.Idl
variable {T : Tbl}
def textAt (l : List Nd) (k : Int) : ByteArray := (l[k.toNat]?.map (·.text)).getD ⟨#[]⟩
def greensE (l : List Nd) (sc : List ByteArray) : List Int → List ByteArray → Option CE
 | [], _ => none
 | k :: ks, seen => if hasN sc (textAt l k) && decide (numOf seen (textAt l k) = 0) then greensE l sc ks (seen ++ [textAt l k]) else some (posAt l k, 80)
def mergeE (l : List Nd) (sc : List ByteArray) (first : Bool) (x : Nd) : Option CE :=
 if first && decide (x.kids.length ≤ 4) then greensE l sc x.kids [] else some (x.pos, 82)
theorem JRep.node {jb : Nat} {l : List Nd} {J : JSt} {h : Heap} {v sv fv mv : Value} {a b c : Nat} (p : JRep jb l J h v sv fv mv a b c) {n : Nat} {x : Nd} (hx : l[n]? = some x) : ∃ q cp o z, v = .slice (some ⟨q, 0, none⟩) l.length cp ∧ h.get q = some (.cells (flatN l) o z) ∧ h.cells q (n * 4) 4 = some x.cells := by
 obtain ⟨q, cp, o, z, h1, _, h2, h3⟩ := p.nodes.load4 hx
 exact ⟨q, cp, o, z, h1, h2, h3⟩
theorem kid_at {h : Heap} {kv : Value} {kids : List Int} (hk : intsAt h kv kids) {j : Nat} {k : Int} (hj : kids[j]? = some k) : ∃ b c o z, kv = .slice (some ⟨b, 0, none⟩) kids.length c ∧ h.get b = some (.cells (ints64 kids) o z) ∧ (ints64 kids)[j * 1]? = some (.int .i64 k) := by
 obtain ⟨b, c, h1, _, ⟨o, z, h2⟩, h3⟩ := hk.load hj
 rw [Nat.zero_add] at h3
 exact ⟨b, c, o, z, h1, h2, h3⟩
theorem textAt_at {l : List Nd} {m : Nat} {y : Nd} (hy : l[m]? = some y) : textAt l ((m : Nat) : Int) = y.text := by rw [textAt, Int.toNat_natCast, hy]; rfl
structure BFns (T : Tbl) : Prop where
 j : JFns T
 merge : T.fn 60 = some C60
 block : T.fn 47 = some C47
theorem merge_ok' (F : BFns T) {jb : Nat} {l : List Nd} {J : JSt} {sc : List ByteArray} (g : GoodT l) (hkl : ∀ x ∈ l, x.kids.length < 1000000) {n : Nat} {x : Nd} {first : Bool} {h : Heap} {v : Value} (hj : Jud jb l J h) (hsc : scopeAt h v sc) (hx : l[n]? = some x) :
 Wk T (.fn 60) [ptr jb 0, .int .i64 n, v, .bool first] h (fun o h' => Kept h h' ∧ o = outC (mergeE l sc first x)) := by
 have hn := (List.getElem?_eq_some_iff.1 hx).1
 have hxm := List.mem_of_getElem? hx
 have hok := g.ok n x hx
 obtain ⟨lv, sv, fv, mv, a, b, c, p⟩ := id hj
 obtain ⟨q, cp, o, z, hvb, hgb, hcell⟩ := p.node hx
 obtain ⟨f0, f1, f2, f3⟩ := flatN_at hx
 obtain ⟨ka, kc, hkv⟩ := (p.nodes.2 x hxm).len
 have hkn := hkl x hxm
 refine Wk_fn2 F.merge (by simp [C60]) ?_
 simp only [C60]
 refine Wc_seq (Wc_ops (Wo_run (fun _ => by simp only [go_sem, seval, p.get, hvb, idx_ok hn, hgb, f2]; rfl) ?_))
 show Wc T _ _ _
 have rest : ∀ (e' : Env), first = true → x.kids.length ≤ 4 → e' 0 = ptr jb 0 → e' 2 = v → e' 8 = x.kv → Wc T (.seq (.ops [⟨(some 29), .op (.mkmap (.one .str)), none⟩, ⟨(some 9), .op (.mov (.t 29)), none⟩])
  (.seq (.ops [⟨(some 30), .op (.mov (.t 8)), none⟩, ⟨(some 31), .op (.len .sl (.t 30)), none⟩, ⟨(some 32), .op (.mov (.c (.int .i64 0))), none⟩]) (.block 0 (.loop C60L0)))) ⟨e', h, some []⟩ (Fin2 C60 fun o h' => Kept h h' ∧ o = outC (mergeE l sc first x)) := by
  intro e' hf hle e0 e2 e8
  have hM : mergeE l sc first x = greensE l sc x.kids [] := by rw [mergeE, hf, decide_eq_true hle]; rfl
  refine Wc_seq (Wc_ops (Wo_new (v := .map (some h.next)) (B := nmap []) rfl fun h1 n1 => ?_))
  refine (Wo_run (fun _ => by simp only [go_sem, seval]; rfl) ?_)
  show Wc T _ _ _
  refine Wc_seq (Wc_ops (Wo_run (fun _ => by simp only [go_sem, seval, e8, hkv]; rfl) ?_))
  show Wc T _ _ _
  refine Wc_range x.kids.length (fun j e h' d => d = some [] ∧ Kept h h' ∧ h.next < h'.next ∧ ∃ seen, seen.length ≤ j ∧ h'.get h.next = some (nmap seen) ∧ greensE l sc (x.kids.drop j) seen = greensE l sc x.kids []) (by decide) (by first | rfl | assumption) (by first | rfl | assumption) (by omega) (by decide) ⟨rfl, n1.kept, by rw [n1.next]; exact Nat.lt_succ_self _, [], Nat.le_refl _, n1.get, by rw [List.drop_zero]⟩ ?_ ?_
  ·rintro j e h' d hj' ⟨rfl, hk', hlt, seen, hsl, hsg, hgr⟩ hfr hi hn'
   obtain ⟨k, hkj⟩ : ∃ k, x.kids[j]? = some k := ⟨_, List.getElem?_eq_getElem hj'⟩
   have p' := p.keep hk'
   have hj2 := hj.keep hk'
   obtain ⟨kb, kcp, ko, kz, hkvb, hkg, hkc⟩ := kid_at (p'.nodes.2 x hxm) hkj
   have hkr := hok.kids k (List.mem_of_getElem? hkj)
   obtain ⟨m, rfl⟩ : ∃ m : Nat, k = m := ⟨k.toNat, by omega⟩
   have hml : m < l.length := by omega
   obtain ⟨y, hy⟩ : ∃ y, l[m]? = some y := ⟨_, List.getElem?_eq_getElem hml⟩
   obtain ⟨q', cp', o', z', hvb', hgb', hcell'⟩ := p'.node hy
   obtain ⟨y0, y1, y2, y3⟩ := flatN_at hy
   have hdr : x.kids.drop j = ((m : Nat) : Int) :: x.kids.drop (j + 1) := by
    obtain ⟨hl, ht⟩ := List.getElem?_eq_some_iff.1 hkj
    rw [List.drop_eq_getElem_cons hl, ht]
   rw [hdr, greensE, textAt_at hy, posAt_at hy] at hgr
   have e30 : e 30 = x.kv := by rw [hkv]; exact ((hfr 30 (by decide)).trans (by first | rfl | assumption | (symm; assumption)))
   have e0' : e 0 = ptr jb 0 := (by rw [hfr 0 (by decide)]; try simp only [go_sem, seval, e0] <;> first | rfl | assumption | (symm; assumption))
   have e2' : e 2 = v := (by rw [hfr 2 (by decide)]; try simp only [go_sem, seval, e2] <;> first | rfl | assumption | (symm; assumption))
   have e9' : e 9 = .map (some h.next) := ((hfr 9 (by decide)).trans (by first | rfl | assumption | (symm; assumption)))
   have sc' := hsc.keep hk'
   refine Wc_seq (Wc_ops (Wo_run (fun _ => by simp only [go_sem, seval, hi, e30, hkvb, idx_ok hj', hkg, hkc]; rfl) ?_))
   show Wc T _ _ _
   refine Wc_ops (Wo_pre 10 (fun _ => by simp only [go_sem, seval, e0', e2', p'.get, hvb', idx_ok hml, hgb', y1]; rfl) ?_)
   refine Wo_call (Wk_pure (has_ok F.j.has (s := y.text) sc') ?_)
   cases hh : hasN sc y.text with
   | false =>
    refine (Wo_pre 12 (fun _ => by simp only [go_sem, seval]; rfl) ?_)
    rw [hh] at hgr
    refine Wo_must F.j hj2 hy (by first | rfl | assumption) (ok := false) (by first | rfl | assumption) (by first | rfl | assumption) rfl (fun hy2 => by cases hy2) (fun _ => ?_)
    exact ⟨rfl, hk', by rw [hM, ← hgr]; rfl⟩
   | true =>
    rw [hh, Bool.true_and] at hgr
    refine (Wo_pre 10 (fun _ => by simp only [go_sem, seval, e9', e0', p'.get, hvb', idx_ok hml, hgb', y1]; rfl) ?_)
    refine Wo_take (by simp only [upd, dstUpd, reduceIte, Nat.reduceEqDiff, gval_bool]; rfl) (Wo_call ((lay_ok F.j.lay (b := h.next) (l := seen) (s := y.text) hsg (by omega)).mono ?_))
    rintro o h2 ⟨rfl, rfl⟩
    by_cases hz : numOf seen y.text = 0
    ·rw [decide_eq_true hz, if_pos rfl] at hgr
     rw [if_pos hz, decide_eq_true hz]
     have hk2 : Kept h (h'.set h.next (nmap (seen ++ [y.text]))) := hk'.set (Nat.le_refl _) _
     refine (Wo_pre 2 (fun _ => by simp only [go_sem, seval]; rfl) ?_)
     refine Wo_must F.j (hj.keep hk2) hy (by first | rfl | assumption) (ok := true) (by first | rfl | assumption) (by first | rfl | assumption) rfl (fun _ => Wo_nil ?_) (fun hy2 => by cases hy2)
     exact ⟨rfl, hk2, hlt, _, by rw [List.length_append, List.length_singleton]; omega, set_get' _ _ _, hgr⟩
    ·rw [decide_eq_false hz] at hgr
     rw [if_neg hz, decide_eq_false hz]
     refine (Wo_pre 2 (fun _ => by simp only [go_sem, seval]; rfl) ?_)
     refine Wo_must F.j hj2 hy (by first | rfl | assumption) (ok := false) (by first | rfl | assumption) (by first | rfl | assumption) rfl (fun hy2 => by cases hy2) (fun _ => ?_)
     exact ⟨rfl, hk', by rw [hM, ← hgr]; rfl⟩
  ·rintro e h' d ⟨rfl, hk', hlt, seen, hsl, hsg, hgr⟩ hfr hi
   rw [List.drop_length, greensE] at hgr
   exact ⟨rfl, [], rfl, hk', by rw [hM, ← hgr]; rfl⟩
 have hb4 : (decide (((x.kids.length : Nat) : Int) ≤ 4)) = decide (x.kids.length ≤ 4) := by rw [decide_eq_decide]; omega
 cases first with
 | false =>
  refine Wc_seq (Wc_ops (Wo_pre 8 (fun _ => by simp only [go_sem, seval]; rfl) ?_))
  refine Wo_must F.j hj hx (by first | rfl | assumption) (ok := false) (by first | rfl | assumption) (by first | rfl | assumption) rfl nofun (fun _ => ?_)
  exact ⟨rfl, .refl _, by rw [mergeE]; rfl⟩
 | true =>
  refine Wc_seq (Wc_ops (Wo_pre 8 (fun _ => by simp only [go_sem, seval, hkv]; rfl) ?_))
  refine Wo_must F.j hj hx (by first | rfl | assumption) (ok := decide (x.kids.length ≤ 4)) (by simp only [ev, upd, dstUpd, reduceIte, Nat.reduceEqDiff]; rw [hb4]) (by first | rfl | assumption) rfl (fun hy => Wo_nil ?_) (fun hy => ?_)
  ·exact rest _ rfl (of_decide_eq_true hy) (by first | rfl | assumption) (by first | rfl | assumption) (by rw [hkv]; exact (by first | rfl | assumption))
  ·exact ⟨rfl, .refl _, by rw [mergeE, hy]; rfl⟩
end Go.Idl
end

section
namespace Go.Idl
variable {T : Tbl}
def kidE (l : List Nd) (J : JSt) (bl : Nat → List ByteArray → Bool → Option CE) (sc : List ByteArray) (wh : Bool) (c : Int) : Option CE := if kindAt l c = 4 then bl c.toNat sc wh else exprE l J sc l.length c.toNat
def stmtsE (l : List Nd) (J : JSt) (bl : Nat → List ByteArray → Bool → Option CE) : List Int → List ByteArray → Bool → Option CE
 | [], _, _ => none
 | k :: ks, sc, lf => match l[k.toNat]? with
  | none => none
  | some x =>
   if x.kind = 13 then (match mergeE l sc lf x with
    | some e => some e
    | none => stmtsE l J bl ks sc false)
   else if x.kind = 5 then (if hasN sc x.text then some (x.pos, 80) else match exprE l J sc l.length (x.kids.getD 0 0).toNat with
    | some e => some e
    | none => stmtsE l J bl ks (x.text :: sc) false)
   else match x.kids.findSome? (kidE l J bl sc (x.kind == 8)) with
    | some e => some e
    | none => stmtsE l J bl ks sc false
def blockE (l : List Nd) (J : JSt) : Nat → Nat → List ByteArray → Bool → Option CE
 | 0, _, _, _ => none
 | f + 1, n, sc, lp => match l[n]? with
  | none => none
  | some x => stmtsE l J (blockE l J f) x.kids sc lp
theorem exprs_len {ks : List Int} (h : shapeB 5 ks = true) : ks.length = 1 := (exprs_facts (n := 1) (ks := ks) h).1
theorem scope_ptr {h : Heap} : ∀ {l : List ByteArray} {v : Value}, scopeAt h v l → ∃ a, v = .pointer a
 | [], _, hv => ⟨none, hv⟩
 | _ :: _, _, ⟨b, p, hv, _⟩ => ⟨_, hv⟩
theorem block_ok' (F : BFns T) {jb : Nat} {l : List Nd} {J : JSt} (g : GoodT l) (hfl : J.fns.length = J.fn.length) (hlen : l.length < 1000000) (hkl : ∀ x ∈ l, x.kids.length < 1000000) (hfn : J.fn.length < 1000000) : ∀ (f n : Nat), n < f → ∀ {sc : List ByteArray} {lp : Bool} {h : Heap} {v : Value}, Jud jb l J h → scopeAt h v sc → n < l.length →
 Wk T (.fn 47) [ptr jb 0, .int .i64 n, v, .bool lp] h (fun o h' => Kept h h' ∧ o = outC (blockE l J f n sc lp)) := by
 intro f
 induction f with
 | zero => intro n hn; omega
 | succ f ih =>
  intro n hnf sc lp h v hj hsc hn
  obtain ⟨x, hx⟩ : ∃ x, l[n]? = some x := ⟨_, List.getElem?_eq_getElem hn⟩
  have hxm := List.mem_of_getElem? hx
  have hok := g.ok n x hx
  have hB : blockE l J (f + 1) n sc lp = stmtsE l J (blockE l J f) x.kids sc lp := by rw [blockE, hx]
  obtain ⟨lv, sv, fv, mv, a, b, c, p⟩ := id hj
  obtain ⟨q, cp, o, z, hvb, hgb, hcell⟩ := p.node hx
  obtain ⟨f0, f1, f2, f3⟩ := flatN_at hx
  obtain ⟨ka, kc, hkv⟩ := (p.nodes.2 x hxm).len
  have hkn := hkl x hxm
  refine Wk_fn2 F.block (by simp [C47]) ?_
  simp only [C47]
  refine Wc_seq (Wc_ops (Wo_run (fun _ => by simp only [go_sem, seval, p.get, hvb, idx_ok hn, hgb, f2, hkv]; rfl) ?_))
  show Wc T _ _ _
  refine Wc_range x.kids.length (fun j e h' d => d = some [] ∧ Kept h h' ∧ ∃ sc' v', e 2 = v' ∧ scopeAt h' v' sc' ∧ stmtsE l J (blockE l J f) (x.kids.drop j) sc' (lp && decide (j = 0)) = stmtsE l J (blockE l J f) x.kids sc lp) (by decide) (by first | rfl | assumption) (by first | rfl | assumption) (by omega) (by decide) ⟨rfl, .refl _, sc, v, (by first | rfl | assumption), hsc, by rw [List.drop_zero, decide_eq_true rfl, Bool.and_true]⟩ ?_ ?_
  ·rintro j e h' d hj' ⟨rfl, hk', sc', v', e2, hsc', hst⟩ hfr hi hn'
   obtain ⟨k, hkj⟩ : ∃ k, x.kids[j]? = some k := ⟨_, List.getElem?_eq_getElem hj'⟩
   have p' := p.keep hk'
   obtain ⟨kb, kcp, ko, kz, hkvb, hkg, hkc⟩ := kid_at (p'.nodes.2 x hxm) hkj
   have hkr := hok.kids k (List.mem_of_getElem? hkj)
   obtain ⟨m, rfl⟩ : ∃ m : Nat, k = m := ⟨k.toNat, by omega⟩
   have hml : m < l.length := by omega
   obtain ⟨y, hy⟩ : ∃ y, l[m]? = some y := ⟨_, List.getElem?_eq_getElem hml⟩
   have hym := List.mem_of_getElem? hy
   have hoky := g.ok m y hy
   obtain ⟨q', cp', o', z', hvb', hgb', hcell'⟩ := p'.node hy
   have hdr : x.kids.drop j = ((m : Nat) : Int) :: x.kids.drop (j + 1) := by
    obtain ⟨hl, ht⟩ := List.getElem?_eq_some_iff.1 hkj
    rw [List.drop_eq_getElem_cons hl, ht]
   rw [hdr, stmtsE, Int.toNat_natCast, hy] at hst
   simp only at hst
   have hjs : (lp && decide (j + 1 = 0)) = false := by simp
   have e20 : e 20 = x.kv := by rw [hkv]; exact ((hfr 20 (by decide)).trans (by first | rfl | assumption | (symm; assumption)))
   have e0 : e 0 = ptr jb 0 := ((hfr 0 (by decide)).trans (by first | rfl | assumption | (symm; assumption)))
   have e3 : e 3 = .bool lp := ((hfr 3 (by decide)).trans (by first | rfl | assumption | (symm; assumption)))
   refine Wc_seq (Wc_ops (Wo_run (fun _ => by simp only [go_sem, seval, hi, e20, hkvb, idx_ok hj', hkg, hkc]; rfl) ?_))
   show Wc T _ _ _
   refine Wc_seq (Wc_ops (Wo_pre 8 (fun _ => by simp only [go_sem, seval, e0, p'.get, hvb', idx_ok hml, hcell']; rfl) ?_))
   refine Wo_store_new (cs := y.cells) (h := h') (by first | rfl | assumption) (by first | rfl | assumption) rfl rfl fun h2 n2 => Wo_nil ?_
   show Wc T _ _ _
   have k2 := hk'.trans n2.kept
   have hg10 := n2.get
   have hj2 := hj.keep k2
   have p2 := p.keep k2
   have sc2 := hsc'.keep n2.kept
   obtain ⟨ya, yc, hyv⟩ := (p.nodes.2 y hym).len
   refine Wc_seq (Wc_ops (Wo_run (fun _ => by simp only [go_sem, seval, hg10, Nd.cells]; rfl) ?_))
   show Wc T _ _ _
   refine Wc_block ?_
   refine Wc_case (k := y.kind) (by first | rfl | assumption) (fun k13 => ?_) (fun k13 => ?_)
   ·rw [if_pos k13] at hst
    have fin : ∀ {e' : Env} {b1 : Bool}, b1 = (lp && decide (j = 0)) → e' 66 = ptr jb 0 → e' 67 = .int .i64 m → e' 68 = v' → e' 2 = v' → e' 73 = .bool b1 → Wo T [⟨(some 74), .call 60 [(.t 66), (.t 67), (.t 68), (.t 73)], none⟩] ⟨e', h2, some []⟩ (To (Tb 2 (Rnd 1 0 22 97 (.int .i64 ((j + 1 : Nat) : Int)) (fun e h' d => d = some [] ∧ Kept h h' ∧ ∃ sc' v', e 2 = v' ∧ scopeAt h' v' sc' ∧ stmtsE l J (blockE l J f) (x.kids.drop (j + 1)) sc' (lp && decide (j + 1 = 0)) = stmtsE l J (blockE l J f) x.kids sc lp) (Fin2 C47 fun o h' => Kept h h' ∧ o = outC (blockE l J (f + 1) n sc lp))))) := by
     intro e' b1 hb1 g66 g67 g68 g2 g73
     refine Wo_call ?_
     simp only [List.map_cons, List.map_nil, ev, g66, g67, g68, g73]
     refine (merge_ok' F g hkl (first := b1) hj2 sc2 hy).mono ?_
     rintro o h3 ⟨k3, rfl⟩
     rw [hb1]
     cases hm : mergeE l sc' (lp && decide (j = 0)) y with
     | none =>
      rw [hm] at hst
      exact Wo_nil ⟨rfl, k2.trans k3, sc', v', by simp only [dstUpd, upd, reduceIte, Nat.reduceEqDiff]; exact g2, sc2.keep k3, by rw [hjs]; exact hst⟩
     | some r =>
      rw [hm] at hst
      have hres : blockE l J (f + 1) n sc lp = some r := by rw [hB]; exact hst.symm
      exact ⟨rfl, k2.trans k3, by rw [hres]; rfl⟩
    cases lp with
    | false =>
     refine Wc_ops (Wo_pre 8 (fun _ => by simp only [go_sem, seval, e0, e2, e3]; rfl) ?_)
     exact fin (b1 := false) (by simp) (by first | rfl | assumption) (by first | rfl | assumption) (by first | rfl | assumption) (by simp only [go_sem, seval, e2] <;> first | rfl | assumption | (symm; assumption)) (by first | rfl | assumption)
    | true =>
     refine Wc_ops (Wo_pre 8 (fun _ => by simp only [go_sem, seval, e0, e2, e3]; rfl) ?_)
     refine fin (b1 := decide (j = 0)) (by simp) (by first | rfl | assumption) (by first | rfl | assumption) (by first | rfl | assumption) (by simp only [go_sem, seval, e2] <;> first | rfl | assumption | (symm; assumption)) ?_
     simp only [upd, reduceIte, Nat.reduceEqDiff, ev]
     have : (((j : Nat) : Int) == 0) = decide (j = 0) := by rw [Bool.beq_eq_decide_eq, decide_eq_decide]; omega
     rw [this]
   rw [if_neg k13] at hst
   refine Wc_case (k := y.kind) (by first | rfl | assumption) (fun k5 => ?_) (fun k5 => ?_)
   ·rw [if_pos k5] at hst
    have hsh := hoky.shape
    rw [k5] at hsh
    have hlen1 : (y.kids.map (kindAt l)).length = 1 := (exprs_len hsh)
    rw [List.length_map] at hlen1
    obtain ⟨k0, hk0⟩ : ∃ k0, y.kids[0]? = some k0 := ⟨_, List.getElem?_eq_getElem (by omega)⟩
    have hk0r := hoky.kids k0 (List.mem_of_getElem? hk0)
    obtain ⟨m0, rfl⟩ : ∃ m0 : Nat, k0 = m0 := ⟨k0.toNat, by omega⟩
    have hgd : y.kids.getD 0 0 = ((m0 : Nat) : Int) := by rw [List.getD_eq_getElem?_getD, hk0]; rfl
    rw [hgd, Int.toNat_natCast] at hst
    refine Wc_seq (Wc_ops (Wo_pre 4 (fun _ => by simp only [go_sem, seval, e0, e2, hg10, Nd.cells]; rfl) ?_))
    refine Wo_call (Wk_pure (has_ok F.j.has (s := y.text) sc2) ?_)
    refine (Wo_pre 2 (fun _ => by simp only [go_sem, seval]; rfl) ?_)
    refine Wo_must F.j hj2 hy (by simp only [go_sem, seval, e0] <;> first | rfl | assumption | (symm; assumption)) (ok := !hasN sc' y.text) (by first | rfl | assumption) (by first | rfl | assumption) rfl (fun hy2 => Wo_nil ?_) (fun hy2 => ?_)
    ·have hh : hasN sc' y.text = false := by simpa using hy2
     rw [hh] at hst
     simp only [Bool.false_eq_true, if_false] at hst
     show Wc T _ _ _
     obtain ⟨yb, ycp, yo, yz, hyvb, hyg, hyc⟩ := kid_at (p2.nodes.2 y hym) hk0
     have hyc0 : (ints64 y.kids)[0]? = some (.int .i64 ((m0 : Nat) : Int)) := hyc
     refine Wc_seq (Wc_ops (Wo_pre 6 (fun _ => by simp only [go_sem, seval, e0, e2, hg10, Nd.cells, hyvb, idx0 (k := .i64) (show 0 < y.kids.length by omega), hyg, hyc0]; rfl) ?_))
     refine Wo_call ((expr_ok F.j g hfl hlen hkl hfn l.length m0 (by omega) hj2 sc2 (by omega)).mono ?_)
     rintro o h3 ⟨k3, rfl⟩
     cases hex : exprE l J sc' l.length m0 with
     | some r =>
      rw [hex] at hst
      have hres : blockE l J (f + 1) n sc lp = some r := by rw [hB]; exact hst.symm
      exact ⟨rfl, k2.trans k3, by rw [hres]; rfl⟩
     | none =>
      rw [hex] at hst
      show Wo T _ _ _
      refine Wo_nil ?_
      show Wc T _ _ _
      have sc3 := sc2.keep k3
      have hg10' : h3.get h'.next = some (.cells y.cells true 0) := by rw [k3.get _ (by rw [n2.next]; omega)]; exact hg10
      obtain ⟨va, rfl⟩ := scope_ptr sc3
      refine Wc_ops (Wo_pre 3 (fun _ => by simp only [go_sem, seval, e2, hg10', Nd.cells]; rfl) ?_)
      refine Wo_op (v := .agg #[.pointer va, .string y.text]) (h' := h3) (by rfl) ?_
      refine Wo_box (cs := [.pointer va, .string y.text]) (by simp only [go_sem, seval, cellsOf] <;> first | rfl | assumption | (symm; assumption)) fun h4 n4 => ?_
      refine (Wo_run (fun _ => by simp only [go_sem, seval]; rfl) ?_)
      exact ⟨rfl, (k2.trans k3).trans n4.kept, y.text :: sc', ptr h3.next 0, (by first | rfl | assumption), ⟨h3.next, .pointer va, rfl, by rw [n4.next]; exact Nat.lt_succ_self _, n4.get, sc3.keep n4.kept⟩, by rw [hjs]; exact hst⟩
    ·have hh : hasN sc' y.text = true := by simpa using hy2
     rw [hh, if_pos rfl] at hst
     have hres : blockE l J (f + 1) n sc lp = some (y.pos, 80) := by rw [hB]; exact hst.symm
     exact ⟨rfl, k2, by rw [hres]; rfl⟩
   rw [if_neg k5] at hst
   refine Wc_seq (Wc_ops (Wo_run (fun _ => by simp only [go_sem, seval, hg10, Nd.cells, hyv]; rfl) ?_))
   show Wc T _ _ _
   refine Wc_range y.kids.length (fun i e h3 d => d = some [] ∧ Kept h2 h3 ∧ e 2 = v' ∧ (y.kids.drop i).findSome? (kidE l J (blockE l J f) sc' (y.kind == 8)) = y.kids.findSome? (kidE l J (blockE l J f) sc' (y.kind == 8))) (by decide) (by first | rfl | assumption) (by first | rfl | assumption) (by have := hkl y hym; omega) (by decide) ⟨rfl, .refl _, (by simp only [go_sem, seval, e2] <;> first | rfl | assumption | (symm; assumption)), by rw [List.drop_zero]⟩ ?_ ?_
   ·rintro i e3 h3 d hi' ⟨rfl, k3, e32, hfs⟩ hfr3 hii hnn
    obtain ⟨c1, hc1⟩ : ∃ k, y.kids[i]? = some k := ⟨_, List.getElem?_eq_getElem hi'⟩
    have p3 := p2.keep k3
    have hj3 := hj2.keep k3
    have sc3 := sc2.keep k3
    obtain ⟨yb, ycp, yo, yz, hyvb, hyg, hyc⟩ := kid_at (p3.nodes.2 y hym) hc1
    have hcr := hoky.kids c1 (List.mem_of_getElem? hc1)
    obtain ⟨m1, rfl⟩ : ∃ m : Nat, c1 = m := ⟨c1.toNat, by omega⟩
    have hm1 : m1 < l.length := by omega
    obtain ⟨w, hw⟩ : ∃ w, l[m1]? = some w := ⟨_, List.getElem?_eq_getElem hm1⟩
    obtain ⟨q3, cp3, o3, z3, hvb3, hgb3, hcell3⟩ := p3.node hw
    obtain ⟨w0, w1, w2, w3⟩ := flatN_at hw
    have hdr : y.kids.drop i = ((m1 : Nat) : Int) :: y.kids.drop (i + 1) := by
     obtain ⟨hl, ht⟩ := List.getElem?_eq_some_iff.1 hc1
     rw [List.drop_eq_getElem_cons hl, ht]
    have hka : kindAt l ((m1 : Nat) : Int) = w.kind := by rw [kindAt, Int.toNat_natCast, hw]; rfl
    rw [hdr, List.findSome?_cons, kidE, hka, Int.toNat_natCast] at hfs
    have g37 : e3 37 = y.kv := by rw [hyv, hfr3 37 (by decide)]; rfl
    have g0 : e3 0 = ptr jb 0 := by rw [hfr3 0 (by decide)]; exact e0
    have g10 : e3 10 = ptr h'.next 0 := by rw [hfr3 10 (by decide)]; rfl
    have hg103 : h3.get h'.next = some (.cells y.cells true 0) := by rw [k3.get _ (by rw [n2.next]; omega)]; exact hg10
    have bad : ∀ (r : CE) (s' : St), y.kids.findSome? (kidE l J (blockE l J f) sc' (y.kind == 8)) = some r → s'.d = some [] → Kept h s'.h → Fin2 C47 (fun o h' => Kept h h' ∧ o = outC (blockE l J (f + 1) n sc lp)) (.pan (wrongC r)) s' := fun r s' h1 h2 h3 => by
     rw [h1] at hst
     have hres : blockE l J (f + 1) n sc lp = some r := by rw [hB]; exact hst.symm
     exact ⟨h2, h3, by rw [hres]; rfl⟩
    refine Wc_seq (Wc_ops (Wo_run (fun _ => by simp only [go_sem, seval, hii, g37, hyvb, idx_ok hi', hyg, hyc]; rfl) ?_))
    show Wc T _ _ _
    refine Wc_seq (Wc_ops (Wo_run (fun _ => by simp only [go_sem, seval, g0, p3.get, hvb3, idx_ok hm1, hgb3, w0]; rfl) ?_))
    show Wc T _ _ _
    by_cases hk4 : w.kind = 4
    ·rw [if_pos hk4] at hfs
     refine Wc_cond true (congrArg Value.bool (beq_iff_eq.2 hk4)) (fun _ => ?_) nofun
     refine Wc_ops (Wo_pre 6 (fun _ => by simp only [go_sem, seval, g0, e32, g10, hg103, Nd.cells]; rfl) ?_)
     refine Wo_call ((ih m1 (by omega) (sc := sc') (lp := (y.kind == 8)) hj3 sc3 hm1).mono ?_)
     rintro o h4 ⟨k4, rfl⟩
     cases hbl : blockE l J f m1 sc' (y.kind == 8) with
     | none =>
      rw [hbl] at hfs
      exact Wo_nil ⟨rfl, k3.trans k4, (by simp only [go_sem, seval, e32] <;> first | rfl | assumption | (symm; assumption)), hfs⟩
     | some r =>
      rw [hbl] at hfs
      exact bad r _ hfs.symm rfl ((k2.trans k3).trans k4)
    ·rw [if_neg hk4] at hfs
     refine Wc_cond false (congrArg Value.bool (beq_eq_false_iff_ne.2 hk4)) nofun (fun _ => ?_)
     refine Wc_ops (Wo_pre 3 (fun _ => by simp only [go_sem, seval, g0, e32]; rfl) ?_)
     refine Wo_call ((expr_ok F.j g hfl hlen hkl hfn l.length m1 hm1 hj3 sc3 hm1).mono ?_)
     rintro o h4 ⟨k4, rfl⟩
     cases hbl : exprE l J sc' l.length m1 with
     | none =>
      rw [hbl] at hfs
      exact Wo_nil ⟨rfl, k3.trans k4, (by simp only [go_sem, seval, e32] <;> first | rfl | assumption | (symm; assumption)), hfs⟩
     | some r =>
      rw [hbl] at hfs
      exact bad r _ hfs.symm rfl ((k2.trans k3).trans k4)
   ·rintro e3 h3 d ⟨rfl, k3, e32, hfs⟩ hfr3 hii
    rw [List.drop_length] at hfs
    have hfs : y.kids.findSome? (kidE l J (blockE l J f) sc' (y.kind == 8)) = none := hfs.symm
    rw [hfs] at hst
    exact ⟨rfl, k2.trans k3, sc', v', (by simp only [go_sem, seval, e32] <;> first | rfl | assumption | (symm; assumption)), sc2.keep k3, by rw [hjs]; exact hst⟩
  ·rintro e h' d ⟨rfl, hk', sc', v', e2, hsc', hst⟩ hfr hi
   rw [List.drop_length, stmtsE] at hst
   have hres : blockE l J (f + 1) n sc lp = none := by rw [hB]; exact hst.symm
   exact ⟨rfl, [], rfl, hk', by rw [hres]; rfl⟩
end Go.Idl
end

section
namespace Go.Idl
variable {T : Tbl}
structure KeptC (h h' : Heap) : Prop where
 next : h.next ≤ h'.next
 get : ∀ b cs o z, b < h.next → h.get b = some (.cells cs o z) → h'.get b = some (.cells cs o z)
theorem KeptC.setMap {h : Heap} {m : Nat} {L M : List ByteArray} (hm : h.get m = some (nmap L)) : KeptC h (h.set m (nmap M)) := ⟨Nat.le_refl _, fun b cs o z hb hg => by
 rw [set_get_ne' _ _ (fun e => by subst e; rw [hm] at hg; cases hg)]; exact hg⟩
theorem intsAt.keepC {h h' : Heap} (k : KeptC h h') {v : Value} {l : List Int} (hv : intsAt h v l) : intsAt h' v l := by
 rcases hv with hv | ⟨b, c, h1, h2, h3⟩
 ·exact .inl hv
 ·exact .inr ⟨b, c, h1, Nat.lt_of_lt_of_le h2 k.next, h3.imp id fun ⟨o, z, hg⟩ => ⟨o, z, k.get _ _ _ _ h2 hg⟩⟩
theorem nodesAt.keepC {h h' : Heap} (k : KeptC h h') {v : Value} {l : List Nd} (hv : nodesAt h v l) : nodesAt h' v l := by
 refine ⟨?_, fun x hx => (hv.2 x hx).keepC k⟩
 rcases hv.1 with hv | ⟨b, c, h1, h2, h3⟩
 ·exact .inl hv
 ·exact .inr ⟨b, c, h1, Nat.lt_of_lt_of_le h2 k.next, h3.imp id fun ⟨o, z, hg⟩ => ⟨o, z, k.get _ _ _ _ h2 hg⟩⟩
theorem ownL.keepC {α : Type} {f : α → List Value} {w n0 : Nat} {h h' : Heap} {v : Value} {l : List α} (o : ownL f w n0 h v l) (k : KeptC h h') : ownL f w n0 h' v l := by
 rcases o with o | ⟨b, e1, e2, e3, e4⟩
 ·exact .inl o
 ·exact .inr ⟨b, e1, Nat.lt_of_lt_of_le e2 k.next, e3, k.get _ _ _ _ e2 e4⟩
theorem ownI.keepC {n0 : Nat} {h h' : Heap} {v : Value} {l : List Int} (o : ownI n0 h v l) (k : KeptC h h') : ownI n0 h' v l := by
 rcases o with o | ⟨b, e1, e2, e3, e4⟩
 ·exact .inl o
 ·exact .inr ⟨b, e1, Nat.lt_of_lt_of_le e2 k.next, e3, k.get _ _ _ _ e2 e4⟩
theorem strsAt.keepC {h h' : Heap} (k : KeptC h h') {v : Value} {l : List ByteArray} (hv : strsAt h v l) : strsAt h' v l := by
 refine ⟨?_, fun x hx => trivial⟩
 rcases hv.1 with hv | ⟨b, c, h1, h2, h3⟩
 ·exact .inl hv
 ·exact .inr ⟨b, c, h1, Nat.lt_of_lt_of_le h2 k.next, h3.imp id fun ⟨o, z, hg⟩ => ⟨o, z, k.get _ _ _ _ h2 hg⟩⟩
structure JFr (n0 jb : Nat) (h h' : Heap) : Prop where
 next : h.next ≤ h'.next
 old : ∀ b, b < h.next → b < n0 → h'.get b = h.get b
 one : ∀ b cs, b < h.next → h.get b = some (.cells cs true 1) → h'.get b = some (.cells cs true 1)
 zero : ∀ b cs, b < h.next → b ≠ jb → h.get b = some (.cells cs true 0) → h'.get b = some (.cells cs true 0)
theorem JFr.refl (n0 jb : Nat) (h : Heap) : JFr n0 jb h h := ⟨Nat.le_refl _, fun _ _ _ => rfl, fun _ _ _ hg => hg, fun _ _ _ _ hg => hg⟩
theorem JFr.trans {n0 jb : Nat} {a b c : Heap} (x : JFr n0 jb a b) (y : JFr n0 jb b c) : JFr n0 jb a c := ⟨Nat.le_trans x.next y.next, fun k hk hj => (y.old k (Nat.lt_of_lt_of_le hk x.next) hj).trans (x.old k hk hj), fun k cs hk hg => y.one k cs (Nat.lt_of_lt_of_le hk x.next) (x.one k cs hk hg), fun k cs hk hj hg => y.zero k cs (Nat.lt_of_lt_of_le hk x.next) hj (x.zero k cs hk hj hg)⟩
theorem Kept.jfr {a b : Heap} (x : Kept a b) (n0 jb : Nat) : JFr n0 jb a b := ⟨x.next, fun k hk _ => x.get k hk, fun k cs hk hg => by rw [x.get k hk]; exact hg, fun k cs hk _ hg => by rw [x.get k hk]; exact hg⟩
structure FnB (n0 : Nat) (h : Heap) (fb : Nat) (nm : ByteArray) (pr nd : Int) (vars : List ByteArray) : Prop where
 lt : fb < h.next
 lo : n0 ≤ fb
 rep : ∃ vv, h.get fb = some (.cells [.string nm, .int .i64 pr, vv, .int .i64 nd] true 0) ∧ ownL strC 1 n0 h vv vars
theorem FnB.add {h0 h h1 : Heap} {fb : Nat} {nm s : ByteArray} {pr nd : Int} {vars : List ByteArray} {vv : Value} (k : Kept h0 h) (lt : fb < h.next) (lo : h0.next ≤ fb) (hg : h.get fb = some (.cells [.string nm, .int .i64 pr, vv, .int .i64 nd] true 0)) (ho : ownL strC 1 h0.next h vv vars) (n1 : New1 h h1 (.cells [.string s] true 1)) (hl : vars.length < 1000000000) :
 ∃ v' h2, appendV 1 16 vv (.slice (some ⟨h.next, 0, none⟩) 1 1) h1 = some (v', h2) ∧ cellsOf v' = some [v'] ∧ h2.get fb = some (.cells [.string nm, .int .i64 pr, vv, .int .i64 nd] true 0) ∧
  Kept h0 (h2.set fb (.cells [.string nm, .int .i64 pr, v', .int .i64 nd] true 0)) ∧ FnB h0.next (h2.set fb (.cells [.string nm, .int .i64 pr, v', .int .i64 nd] true 0)) fb nm pr nd (vars ++ [s]) := by
 have ho1 := ho.kept n1.kept
 have hel : elemsOf h1 1 (.slice (some ⟨h.next, 0, none⟩) 1 1) = some ([s].length, [s].flatMap strC) := by
  simp only [elemsOf, Nat.one_ne_zero, if_false, Heap.cells, n1.get]; rfl
 have hn1 := n1.next
 have hkn := k.next
 obtain ⟨v', h2, ha, hb, ho2⟩ := ho1.append strC_len (bytes := 16) (by omega) hel (by simp only [List.length_singleton]; omega)
 have hg1 : h1.get fb = some (.cells [.string nm, .int .i64 pr, vv, .int .i64 nd] true 0) := by rw [n1.kept.get _ lt]; exact hg
 have hg2 : h2.get fb = some (.cells [.string nm, .int .i64 pr, vv, .int .i64 nd] true 0) := by rw [ho1.besideOf hb (by omega) hg1 (by decide)]; exact hg1
 have hn2 := hb.next
 refine ⟨v', h2, ha, ?_, hg2, ⟨by show h0.next ≤ h2.next; omega, fun b hb' => ?_⟩, ⟨by show fb < h2.next; omega, lo, v', set_get' _ _ _, ?_⟩⟩
 ·obtain ⟨a, c, e⟩ := ho2.len
  rw [e]; rfl
 ·rw [set_get_ne' _ _ (by omega), ho1.beside hb hb' (by omega), n1.kept.get _ (by omega), k.get _ hb']
 ·rcases ho2 with e | ⟨b, e1, e2, e3, e4⟩
  ·exact .inl e
  ·refine .inr ⟨b, e1, e2, e3, ?_⟩
   rw [set_get_ne' _ _ (fun e => by subst e; rw [hg2] at e4; simp at e4)]
   exact e4
def letsL (l : List Nd) : Nat → Nat → List ByteArray
 | 0, _ => []
 | f + 1, n => match l[n]? with
  | none => []
  | some x => (if x.kind = 5 then [x.text] else []) ++ x.kids.flatMap fun k => letsL l f k.toNat
theorem lets_ok (hT : T.fn 45 = some C45) {jb : Nat} {l : List Nd} {J : JSt} (g : GoodT l) (hlen : l.length < 1000000) (hkl : ∀ x ∈ l, x.kids.length < 1000000) {h0 : Heap} (hj : Jud jb l J h0) {fb : Nat} {nm : ByteArray} {pr nd : Int} : ∀ (f n : Nat), n < f → ∀ {h : Heap} {vars : List ByteArray}, Kept h0 h → FnB h0.next h fb nm pr nd vars → n < l.length → vars.length + (letsL l f n).length < 100000000 →
 Wk T (.fn 45) [ptr jb 0, .int .i64 n, ptr fb 0] h (fun o h' => Kept h0 h' ∧ o = .ret (tup []) ∧ FnB h0.next h' fb nm pr nd (vars ++ letsL l f n)) := by
 intro f
 induction f with
 | zero => intro n hn; omega
 | succ f ih =>
  intro n hnf h vars k hf hn hfew
  obtain ⟨x, hx⟩ : ∃ x, l[n]? = some x := ⟨_, List.getElem?_eq_getElem hn⟩
  have hxm := List.mem_of_getElem? hx
  have hok := g.ok n x hx
  have hkn := hkl x hxm
  have hL : letsL l (f + 1) n = (if x.kind = 5 then [x.text] else []) ++ x.kids.flatMap fun k => letsL l f k.toNat := by rw [letsL, hx]
  rw [hL] at hfew ⊢
  have hj1 := hj.keep k
  obtain ⟨lv, sv, fv, mv, a, b, c, p⟩ := id hj1
  obtain ⟨q, cp, o, z, hvb, hgb, hcell⟩ := p.node hx
  obtain ⟨f0, f1, f2, f3⟩ := flatN_at hx
  refine Wk_fn2 hT (by simp [C45]) ?_
  simp only [C45]
  refine Wc_seq (Wc.mono (Q := fun ex s' => match ex with
   | .normal => s'.d = some [] ∧ Kept h0 s'.h ∧ FnB h0.next s'.h fb nm pr nd (vars ++ (if x.kind = 5 then [x.text] else [])) ∧ s'.e 0 = ptr jb 0 ∧ s'.e 1 = .int .i64 n ∧ s'.e 2 = ptr fb 0
   | _ => False) ?_ ?_)
  ·refine Wc_seq (Wc_ops (Wo_run (fun _ => by simp only [go_sem, seval, p.get, hvb, idx_ok hn, hgb, f0]; rfl) ?_))
   show Wc T _ _ _
   by_cases k5 : x.kind = 5
   ·rw [if_pos k5]
    refine Wc_cond true (congrArg Value.bool (beq_iff_eq.2 k5)) (fun _ => ?_) nofun
    obtain ⟨lt, lo, vv, hgf, ho⟩ := hf
    rw [List.length_append] at hfew
    refine Wc_draw_still (by decide) ?_
    refine (Wo_pre 13 (fun _ => by simp only [go_sem, seval, hgf, p.get, hvb, idx_ok hn, hgb, f1]; rfl) ?_)
    refine Wo_new (v := .slice (some ⟨h.next, 0, none⟩) 1 1) (B := .cells [.string x.text] true 1) (by rfl) fun h1 n1 => ?_
    obtain ⟨v', h2, ha, hcv, hg2, hk2, hf2⟩ := FnB.add (s := x.text) k lt lo hgf ho n1 (by omega)
    refine Wo_op (v := v') (h' := h2) (by simp only [iop, ev, upd, dstUpd, reduceIte, Nat.reduceEqDiff]; exact ha) ?_
    refine (Wo_pre 2 (fun _ => by simp only [go_sem, seval]; rfl) ?_)
    refine Wo_op (iop_store_at (k := 2) (v := v') (by first | rfl | assumption) (by simp only [ev, upd, dstUpd, reduceIte, Nat.reduceEqDiff]; exact hcv) hg2 (by simp)) (Wo_nil ⟨rfl, ?_⟩)
    exact ⟨rfl, hk2, hf2, (by first | rfl | assumption), (by first | rfl | assumption), (by first | rfl | assumption)⟩
   ·rw [if_neg k5, List.append_nil]
    refine Wc_cond false (congrArg Value.bool (beq_eq_false_iff_ne.2 k5)) nofun (fun _ => Wc_skip ?_)
    exact ⟨rfl, k, hf, (by first | rfl | assumption), (by first | rfl | assumption), (by first | rfl | assumption)⟩
  ·intro ex s' hs
   cases ex with
   | brk i => exact hs.elim
   | ret => exact hs.elim
   | pan u => exact hs.elim
   | normal =>
    obtain ⟨e', h3, d'⟩ := s'
    obtain ⟨hd, k3, hf3, e0, e1, e2⟩ := hs
    simp only at hd k3 hf3 e0 e1 e2
    subst hd
    show Wc T _ _ _
    have hj3 := hj.keep k3
    obtain ⟨lv3, sv3, fv3, mv3, a3, b3, c3, p3⟩ := id hj3
    obtain ⟨q3, cp3, o3, z3, hvb3, hgb3, hcell3⟩ := p3.node hx
    obtain ⟨ka, kc, hkv⟩ := (p3.nodes.2 x hxm).len
    refine Wc_seq (Wc_ops (Wo_run (fun _ => by simp only [go_sem, seval, e0, e1, p3.get, hvb3, idx_ok hn, hgb3, f2, hkv]; rfl) ?_))
    show Wc T _ _ _
    refine Wc_range x.kids.length (fun j e h' d => d = some [] ∧ Kept h0 h' ∧ FnB h0.next h' fb nm pr nd (vars ++ (if x.kind = 5 then [x.text] else []) ++ (x.kids.take j).flatMap fun k => letsL l f k.toNat)) (by decide) (by first | rfl | assumption) (by first | rfl | assumption) (by omega) (by decide) ⟨rfl, k3, by rw [List.take_zero, List.flatMap_nil, List.append_nil]; exact hf3⟩ ?_ ?_
    ·rintro j e h' d hj' ⟨rfl, hk', hff⟩ hfr hi hn'
     obtain ⟨kk, hkj⟩ : ∃ k, x.kids[j]? = some k := ⟨_, List.getElem?_eq_getElem hj'⟩
     have p' := hj.keep hk'
     obtain ⟨lv4, sv4, fv4, mv4, a4, b4, c4, p4⟩ := id p'
     obtain ⟨kb, kcp, ko, kz, hkvb, hkg, hkc⟩ := kid_at (p4.nodes.2 x hxm) hkj
     have hkr := hok.kids kk (List.mem_of_getElem? hkj)
     obtain ⟨m, rfl⟩ : ∃ m : Nat, kk = m := ⟨kk.toNat, by omega⟩
     have htk : x.kids.take (j + 1) = x.kids.take j ++ [((m : Nat) : Int)] := by rw [List.take_add_one, hkj]; rfl
     have e41 : e 41 = x.kv := by rw [hkv]; exact ((hfr 41 (by decide)).trans (by first | rfl | assumption | (symm; assumption)))
     have e0' : e 0 = ptr jb 0 := (by rw [hfr 0 (by decide)]; try simp only [go_sem, seval, e0] <;> first | rfl | assumption | (symm; assumption))
     have e2' : e 2 = ptr fb 0 := (by rw [hfr 2 (by decide)]; try simp only [go_sem, seval, e2] <;> first | rfl | assumption | (symm; assumption))
     refine Wc_seq (Wc_ops (Wo_run (fun _ => by simp only [go_sem, seval, hi, e41, hkvb, idx_ok hj', hkg, hkc]; rfl) ?_))
     show Wc T _ _ _
     refine Wc_ops (Wo_pre 3 (fun _ => by simp only [go_sem, seval, e0', e2']; rfl) ?_)
     have hfm : (x.kids.flatMap fun k => letsL l f k.toNat) = ((x.kids.take j).flatMap fun k => letsL l f k.toNat) ++ (letsL l f m ++ ((x.kids.drop (j + 1)).flatMap fun k => letsL l f k.toNat)) := by
      conv => lhs; rw [← List.take_append_drop (j + 1) x.kids]
      rw [htk, List.flatMap_append, List.flatMap_append, List.flatMap_singleton, Int.toNat_natCast, List.append_assoc]
     rw [hfm] at hfew
     simp only [List.length_append] at hfew
     refine Wo_call ((ih m (by omega) hk' hff (by omega) (by simp only [List.length_append]; omega)).mono ?_)
     rintro o h'' ⟨k'', rfl, hf''⟩
     refine Wo_nil ⟨rfl, k'', ?_⟩
     rw [htk, List.flatMap_append, List.flatMap_singleton, Int.toNat_natCast, ← List.append_assoc]
     exact hf''
    ·rintro e h' d ⟨rfl, hk', hff⟩ hfr hi
     rw [List.take_length] at hff
     exact ⟨rfl, [], rfl, hk', rfl, by rw [← List.append_assoc]; exact hff⟩
end Go.Idl
end

section
namespace Go.Idl
variable {T : Tbl}
def parsE (l : List Nd) : List Int → List ByteArray → Option CE × List ByteArray
 | [], sc => (none, sc)
 | k :: ks, sc => if hasN sc (textAt l k) then (some (posAt l k, 80), sc) else parsE l ks (textAt l k :: sc)
def bodyE (l : List Nd) (J : JSt) (vars pr : Nat) (x : Nd) : Option CE :=
 if vars ≤ 100 then match parsE l (x.kids.take pr) [] with
  | (some e, _) => some e
  | (none, sc) => blockE l J l.length (x.kids.getD pr 0).toNat sc false
 else some (x.pos, 2)
theorem body_ok' (F : BFns T) (hT : T.fn 28 = some C28) {jb : Nat} {l : List Nd} {J : JSt} (g : GoodT l) (hfl : J.fns.length = J.fn.length) (hlen : l.length < 1000000) (hkl : ∀ x ∈ l, x.kids.length < 1000000) (hfn : J.fn.length < 1000000) {r : Fnr} {x : Nd} (hx : l[r.node]? = some x) (hpr : r.params + 1 = x.kids.length) {h : Heap} (hj : Jud jb l J h) (hv : strsAt h r.vv r.vars) :
 Wk T (.fn 28) [ptr jb 0, .agg r.cells.toArray] h (fun o h' => Kept h h' ∧ o = outC (bodyE l J r.vars.length r.params x)) := by
 have hn := (List.getElem?_eq_some_iff.1 hx).1
 have hxm := List.mem_of_getElem? hx
 have hok := g.ok _ x hx
 have hkn := hkl x hxm
 obtain ⟨va, vc, hvv⟩ := hv.len
 refine Wk_fn2 hT (by simp [C28]) ?_
 simp only [C28]
 refine Wc_seq (Wc_ops (Wo_box (cs := [.string r.name, .int .i64 r.params, .slice va r.vars.length vc, .int .i64 r.node]) (by simp only [ev, args0, List.getD_cons_succ, List.getD_cons_zero, Fnr.cells, hvv, cellsOf]) fun h1 n1 => Wo_nil ?_))
 show Wc T _ _ _
 have hg3 := n1.get
 have k1 := n1.kept
 have hj1 := hj.keep k1
 have hb4 : (decide (((r.vars.length : Nat) : Int) ≤ 100)) = decide (r.vars.length ≤ 100) := by rw [decide_eq_decide]; omega
 refine Wc_seq (Wc_ops (Wo_pre 7 (fun _ => by simp only [go_sem, seval, hg3]; rfl) ?_))
 refine Wo_must F.j hj1 hx (by first | rfl | assumption) (ok := decide (r.vars.length ≤ 100)) (by simp only [ev, upd, dstUpd, reduceIte, Nat.reduceEqDiff]; rw [hb4]) (by first | rfl | assumption) rfl (fun hy => Wo_nil ?_) (fun hy => ?_)
 case refine_2 =>
  have hres : bodyE l J r.vars.length r.params x = some (x.pos, 2) := by rw [bodyE, if_neg (of_decide_eq_false hy)]
  exact ⟨rfl, k1, by rw [hres]; rfl⟩
 have hy := of_decide_eq_true hy
 show Wc T _ _ _
 obtain ⟨lv, sv, fv, mv, a, b, c, p⟩ := id hj1
 obtain ⟨q, cp, o, z, hvb, hgb, hcell⟩ := p.node hx
 obtain ⟨f0, f1, f2, f3⟩ := flatN_at hx
 obtain ⟨k0, hk0⟩ : ∃ k, x.kids[0]? = some k := ⟨_, List.getElem?_eq_getElem (by omega)⟩
 obtain ⟨kb, kcp, ko, kz, hkvb, hkg, _⟩ := kid_at (p.nodes.2 x hxm) hk0
 obtain ⟨kcs, kpo, kzz, hkb, hkg', hkz⟩ := p.kz x hxm ⟨kb, 0, none⟩ _ _ hkvb
 rw [hkg] at hkg'
 simp only [Option.some.injEq, Blk.cells.injEq] at hkg'
 obtain ⟨rfl, rfl, rfl⟩ := hkg'
 refine Wc_seq (Wc_draw_still (by decide) ?_)
 refine (Wo_run (fun _ => by simp only [go_sem, seval, hg3, p.get, hvb, idx_ok hn, hgb, f2, hkvb]; rfl) ?_)
 refine ⟨rfl, ?_⟩
 show Wc T _ _ _
 refine Wc_seq (Wc_ops (Wo_run (fun _ => by simp only [go_sem, seval]; rfl) ?_))
 show Wc T _ _ _
 have hoks : okSz h1 kb 1 = true := by
  simp only [okSz, hkg]
  rcases hkz with rfl | rfl <;> rfl
 refine Wc_seq (Wc_seq (Wc_ops (Wo_pre 3 (fun _ => by simp only [go_sem, seval, hg3]; rfl) ?_)))
 refine Wo_op (v := subSl 1 x.kids.length kcp 0 r.params none (some ⟨kb, 0, none⟩)) (h' := h1) ?_ ?_
 ·simp only [iop, ev, upd, dstUpd, reduceIte, Nat.reduceEqDiff, bndO, Option.getD_none]
  rw [bnd_ok (Nat.zero_le _) (by omega)]
  simp only [okSzO, hoks, Option.isSome_none, Bool.false_and, Bool.not_true, Bool.or_self, Bool.false_eq_true, if_false]
 obtain ⟨kc2, hsub⟩ : ∃ c, subSl 1 x.kids.length kcp 0 r.params none (some ⟨kb, 0, none⟩) = .slice (some ⟨kb, 0, none⟩) r.params c := ⟨_, rfl⟩
 rw [hsub]
 refine (Wo_run (fun _ => by simp only [go_sem, seval]; rfl) ?_)
 show Wc T _ _ _
 refine Wc.mono (Q := fun ex s' => match ex with
  | .normal => s'.d = some [] ∧ Kept h1 s'.h ∧ s'.e 0 = ptr jb 0 ∧ s'.e 3 = ptr h.next 0 ∧ s'.e 4 = x.kv ∧ ∃ sc, parsE l (x.kids.take r.params) [] = (none, sc) ∧ scopeAt s'.h (s'.e 5) sc
  | .pan u => ∃ e sc, u = wrongC e ∧ parsE l (x.kids.take r.params) [] = (some e, sc) ∧ s'.d = some [] ∧ Kept h1 s'.h
  | _ => False) ?_ ?_
 ·refine Wc_range r.params (fun j e h' d => d = some [] ∧ Kept h1 h' ∧ ∃ sc, scopeAt h' (e 5) sc ∧ parsE l ((x.kids.take r.params).drop j) sc = parsE l (x.kids.take r.params) []) (by decide) (by first | rfl | assumption) (by first | rfl | assumption) (by omega) (by decide) ⟨rfl, .refl _, [], by simp only [upd, reduceIte, Nat.reduceEqDiff]; rfl, by rw [List.drop_zero]⟩ ?_ ?_
  ·rintro j e h' d hj' ⟨rfl, hk', sc, hsc, hps⟩ hfr hi hn'
   obtain ⟨kk, hkj⟩ : ∃ k, x.kids[j]? = some k := ⟨_, List.getElem?_eq_getElem (by omega)⟩
   have hj2 := hj1.keep hk'
   have p' := p.keep hk'
   obtain ⟨kb', kcp', ko', kz', hkvb', hkg2, hkc⟩ := kid_at (p'.nodes.2 x hxm) hkj
   rw [hkvb] at hkvb'
   obtain ⟨rfl, rfl⟩ : kb = kb' ∧ kcp = kcp' := by simpa using hkvb'
   have hkr := hok.kids kk (List.mem_of_getElem? hkj)
   obtain ⟨m, rfl⟩ : ∃ m : Nat, kk = m := ⟨kk.toNat, by omega⟩
   have hml : m < l.length := by omega
   obtain ⟨y, hy'⟩ : ∃ y, l[m]? = some y := ⟨_, List.getElem?_eq_getElem hml⟩
   obtain ⟨q', cp', o', z', hvb', hgb', hcell'⟩ := p'.node hy'
   obtain ⟨y0, y1, y2, y3⟩ := flatN_at hy'
   have hdr : (x.kids.take r.params).drop j = ((m : Nat) : Int) :: (x.kids.take r.params).drop (j + 1) := by
    have ht : (x.kids.take r.params)[j]? = some ((m : Nat) : Int) := by rw [List.getElem?_take, if_pos hj']; exact hkj
    obtain ⟨hl, ht⟩ := List.getElem?_eq_some_iff.1 ht
    rw [List.drop_eq_getElem_cons hl, ht]
   rw [hdr, parsE, textAt_at hy', posAt_at hy'] at hps
   have e28 : e 28 = .slice (some ⟨kb, 0, none⟩) r.params kc2 := ((hfr 28 (by decide)).trans (by first | rfl | assumption | (symm; assumption)))
   have e0 : e 0 = ptr jb 0 := ((hfr 0 (by decide)).trans (by first | rfl | assumption | (symm; assumption)))
   obtain ⟨sa, hsa⟩ := scope_ptr hsc
   refine Wc_seq (Wc_ops (Wo_run (fun _ => by simp only [go_sem, seval, hi, e28, idx_ok hj', hkg2, hkc]; rfl) ?_))
   show Wc T _ _ _
   refine Wc_seq (Wc_ops (Wo_pre 10 (fun _ => by simp only [go_sem, seval, e0, p'.get, hvb', idx_ok hml, hgb', y1]; rfl) ?_))
   refine Wo_call (Wk_pure (has_ok F.j.has (s := y.text) hsc) ?_)
   refine (Wo_pre 2 (fun _ => by simp only [go_sem, seval]; rfl) ?_)
   refine Wo_must F.j hj2 hy' (by simp only [go_sem, seval, e0] <;> first | rfl | assumption | (symm; assumption)) (ok := !hasN sc y.text) (by first | rfl | assumption) (by first | rfl | assumption) rfl (fun hy2 => Wo_nil ?_) (fun hy2 => ?_)
   ·have hh : hasN sc y.text = false := by simpa using hy2
    rw [hh] at hps
    simp only [Bool.false_eq_true, if_false] at hps
    show Wc T _ _ _
    refine Wc_ops (Wo_pre 9 (fun _ => by simp only [go_sem, seval, e0, hsa, p'.get, hvb', idx_ok hml, hgb', y1]; rfl) ?_)
    refine Wo_op (v := .agg #[.pointer sa, .string y.text]) (h' := h') (by rfl) ?_
    refine Wo_box (cs := [.pointer sa, .string y.text]) (by simp only [go_sem, seval, cellsOf] <;> first | rfl | assumption | (symm; assumption)) fun h4 n4 => ?_
    refine (Wo_run (fun _ => by simp only [go_sem, seval]; rfl) ?_)
    exact ⟨rfl, hk'.trans n4.kept, y.text :: sc, ⟨h'.next, .pointer sa, (by first | rfl | assumption), by rw [n4.next]; exact Nat.lt_succ_self _, n4.get, by rw [← hsa]; exact hsc.keep n4.kept⟩, hps⟩
   ·have hh : hasN sc y.text = true := by simpa using hy2
    rw [hh, if_pos rfl] at hps
    exact ⟨_, _, rfl, hps.symm, rfl, hk'⟩
  ·rintro e h' d ⟨rfl, hk', sc, hsc, hps⟩ hfr hi
   rw [List.drop_of_length_le (by rw [List.length_take]; omega), parsE] at hps
   refine ⟨rfl, hk', ?_, ?_, ?_, sc, hps.symm, by simp only [upd, reduceIte, Nat.reduceEqDiff]; exact hsc⟩
   ·simp only [upd, reduceIte, Nat.reduceEqDiff]; exact ((hfr 0 (by decide)).trans (by first | rfl | assumption | (symm; assumption)))
   ·simp only [upd, reduceIte, Nat.reduceEqDiff]; exact ((hfr 3 (by decide)).trans (by first | rfl | assumption | (symm; assumption)))
   ·simp only [upd, reduceIte, Nat.reduceEqDiff]; rw [hkvb]; exact ((hfr 4 (by decide)).trans (by first | rfl | assumption | (symm; assumption)))
 ·intro ex s' hs
  cases ex with
  | brk i => exact hs.elim
  | ret => exact hs.elim
  | pan u =>
   obtain ⟨e, sc, rfl, hps, hd, hk'⟩ := hs
   have hres : bodyE l J r.vars.length r.params x = some e := by rw [bodyE, if_pos hy, hps]
   exact ⟨hd, k1.trans hk', by rw [hres]; rfl⟩
  | normal =>
   obtain ⟨e', h3, d'⟩ := s'
   obtain ⟨hd, hk', e0, e3, e4, sc, hps, hsc⟩ := hs
   simp only at hd hk' e0 e3 e4 hsc
   subst hd
   have hj3 := hj1.keep hk'
   have p3 := p.keep hk'
   have hg33 : h3.get h.next = some (.cells [.string r.name, .int .i64 r.params, .slice va r.vars.length vc, .int .i64 r.node] true 0) := by rw [hk'.get _ (by rw [n1.next]; omega)]; exact hg3
   obtain ⟨kk, hkj⟩ : ∃ k, x.kids[r.params]? = some k := ⟨_, List.getElem?_eq_getElem (by omega)⟩
   obtain ⟨kb', kcp', ko', kz', hkvb', hkg2, hkc⟩ := kid_at (p3.nodes.2 x hxm) hkj
   have hkr := hok.kids kk (List.mem_of_getElem? hkj)
   obtain ⟨m, rfl⟩ : ∃ m : Nat, kk = m := ⟨kk.toNat, by omega⟩
   have hgd : x.kids.getD r.params 0 = ((m : Nat) : Int) := by rw [List.getD_eq_getElem?_getD, hkj]; rfl
   have hres : bodyE l J r.vars.length r.params x = blockE l J l.length m sc false := by rw [bodyE, if_pos hy, hps, hgd, Int.toNat_natCast]
   show Wc T _ _ _
   refine Wc_ops (Wo_pre 7 (fun _ => by simp only [go_sem, seval, e0, e3, e4, hg33, hkvb', idx_ok (show r.params < x.kids.length by omega), hkg2, hkc]; rfl) ?_)
   refine Wo_call ((block_ok' F g hfl hlen hkl hfn l.length m (by omega) (sc := sc) (lp := false) hj3 hsc (by omega)).mono ?_)
   rintro o h4 ⟨k4, rfl⟩
   rw [hres]
   have k04 := (k1.trans hk').trans k4
   cases blockE l J l.length m sc false with
   | none => exact Wo_nil ⟨rfl, [], rfl, k04, rfl⟩
   | some e => exact ⟨rfl, k04, rfl⟩
end Go.Idl
end

section
namespace Go.Idl
variable {T : Tbl}
theorem ownL.esz {α : Type} {f : α → List Value} {w n0 : Nat} {h h' : Heap} {v : Value} {l : List α} (o : ownL f w n0 h v l) (hn : h.next ≤ h'.next) (hg : ∀ b cs, b < h.next → h.get b = some (.cells cs true w) → h'.get b = some (.cells cs true w)) : ownL f w n0 h' v l := by
 rcases o with o | ⟨b, e1, e2, e3, e4⟩
 ·exact .inl o
 ·exact .inr ⟨b, e1, Nat.lt_of_lt_of_le e2 hn, e3, hg _ _ e2 e4⟩
theorem ownI.esz {n0 : Nat} {h h' : Heap} {v : Value} {l : List Int} (o : ownI n0 h v l) (hn : h.next ≤ h'.next) (hg : ∀ b cs, b < h.next → h.get b = some (.cells cs true 1) → h'.get b = some (.cells cs true 1)) : ownI n0 h' v l := by
 rcases o with o | ⟨b, e1, e2, e3, e4⟩
 ·exact .inl o
 ·exact .inr ⟨b, e1, Nat.lt_of_lt_of_le e2 hn, e3, hg _ _ e2 e4⟩
theorem base_low {n0 : Nat} {h h' : Heap} {v : Value} {l : List Nd} (p : ∃ h0, h0.next ≤ n0 ∧ nodesAt h0 v l ∧ (∀ x ∈ l, kzAt h0 x.kv) ∧ Kept h0 h) (hn : h.next ≤ h'.next) (hg : ∀ b, b < h.next → b < n0 → h'.get b = h.get b) : ∃ h0, h0.next ≤ n0 ∧ nodesAt h0 v l ∧ (∀ x ∈ l, kzAt h0 x.kv) ∧ Kept h0 h' := by
 obtain ⟨h0, h1, h2, h3, h4⟩ := p
 have := h4.next
 exact ⟨h0, h1, h2, h3, Nat.le_trans h4.next hn, fun b hb => by rw [hg b (by omega) (by omega), h4.get b hb]⟩
section
variable {jb : Nat} {l : List Nd} {J : JSt} {h h1 : Heap} {v sv fv mv : Value} {a b c : Nat}
theorem setMap_get {m x : Nat} {L M : List ByteArray} {bk : Blk} (hm : h.get m = some (nmap L)) (hx : h.get x = some bk) (hne : x ≠ m) : (h.set m (nmap M)).get x = some bk := by rw [set_get_ne' _ _ hne]; exact hx
theorem JRep.setc (p : JRep jb l J h v sv fv mv a b c) (L : List ByteArray) : JRep jb l { J with fn := L } (h.set c (nmap L)) v sv fv mv a b c := by
 have kc := KeptC.setMap (M := L) p.gc
 have ho : ∀ w x cs, x < h.next → h.get x = some (.cells cs true w) → (h.set c (nmap L)).get x = some (.cells cs true w) := fun w x cs hx hg => kc.get _ _ _ _ hx hg
 exact ⟨p.lt, kc.get _ _ _ _ p.lt p.get, base_low p.base (Nat.le_refl _) (fun x _ (hx : x < J.n0) => set_get_ne' _ _ (by have := p.ge; omega)), setMap_get p.gc p.ga p.ne.2.1, setMap_get p.gc p.gb p.ne.2.2, set_get' _ _ _, p.la, p.lb, p.lc,
  p.srt.esz (Nat.le_refl _) (ho 2), p.fns.esz (Nat.le_refl _) (ho 4), p.mg.esz (Nat.le_refl _) (ho 1), fun x hx => (p.vars x hx).esz (Nat.le_refl _) (ho 1), fun x hx => (p.fields x hx).esz (Nat.le_refl _) (ho 1), p.ne, p.ge, p.mgn⟩
theorem JFr.setMap {n0 m : Nat} {L M : List ByteArray} (hm : h.get m = some (nmap L)) (hge : n0 ≤ m) : JFr n0 jb h (h.set m (nmap M)) :=
 ⟨Nat.le_refl _, fun x _ hx => set_get_ne' _ _ (by omega), fun x cs hx hg => (KeptC.setMap (M := M) hm).get _ _ _ _ hx hg, fun x cs hx _ hg => (KeptC.setMap (M := M) hm).get _ _ _ _ hx hg⟩
theorem JRep.addFn (p : JRep jb l J h v sv fv mv a b c) {r : Fnr} (n1 : New1 h h1 (.cells r.cells true 4)) (hv : ownL strC 1 J.n0 h r.vv r.vars) (hl : J.fns.length < 1000000) :
 ∃ fv' h2, appendV 4 56 fv (.slice (some ⟨h.next, 0, none⟩) 1 1) h1 = some (fv', h2) ∧ cellsOf fv' = some [fv'] ∧ h2.get jb = some (.cells [v, sv, fv, .int .i64 J.main, mv, .map (some a), .map (some b), .map (some c)] true 0) ∧
  JRep jb l { J with fns := J.fns ++ [r] } (h2.set jb (.cells [v, sv, fv', .int .i64 J.main, mv, .map (some a), .map (some b), .map (some c)] true 0)) v sv fv' mv a b c ∧
  JFr J.n0 jb h (h2.set jb (.cells [v, sv, fv', .int .i64 J.main, mv, .map (some a), .map (some b), .map (some c)] true 0)) := by
 have p1 := p.keep n1.kept
 have hn1 := n1.next
 have hlt := p.lt
 have hge := p.ge
 have hel : elemsOf h1 4 (.slice (some ⟨h.next, 0, none⟩) 1 1) = some ([r].length, [r].flatMap Fnr.cells) := by
  simp only [elemsOf, Nat.one_ne_zero, if_false, Heap.cells, n1.get]; rfl
 obtain ⟨fv', h2, ha, hb, ho2⟩ := p1.fns.append fnr_len (bytes := 56) (by omega) hel (by simp only [List.length_singleton]; omega)
 have hn2 := hb.next
 have oth : ∀ x bk, x < h1.next → (∀ cs, bk ≠ .cells cs true 4) → h1.get x = some bk → h2.get x = some bk := fun x bk hx hne hg => by
  rw [hb.get x hx ?_]; exact hg
  intro q n c' hv
  rcases p1.fns with ⟨_, e⟩ | ⟨k, e1, _, e3, e4⟩
  ·rw [e] at hv; cases hv
  ·rw [e3] at hv
   cases hv
   rintro rfl
   rw [hg] at e4
   exact hne _ (Option.some.inj e4)
 have hgj : h2.get jb = some (.cells [v, sv, fv, .int .i64 J.main, mv, .map (some a), .map (some b), .map (some c)] true 0) := oth _ _ (by omega) (fun cs e => by cases e) p1.get
 have low : ∀ x, x < h.next → x < J.n0 → (h2.set jb (.cells [v, sv, fv', .int .i64 J.main, mv, .map (some a), .map (some b), .map (some c)] true 0)).get x = h.get x := fun x hx hx0 => by
  rw [set_get_ne' _ _ (by omega), p1.fns.beside hb hx0 (by omega), n1.kept.get _ hx]
 have e1 : ∀ w x cs, w ≠ 4 → w ≠ 0 → x < h.next → h.get x = some (.cells cs true w) → (h2.set jb (.cells [v, sv, fv', .int .i64 J.main, mv, .map (some a), .map (some b), .map (some c)] true 0)).get x = some (.cells cs true w) := fun w x cs hw hw0 hx hg => by
  have hg2 := oth x (.cells cs true w) (by omega) (fun cs' e => hw (by cases e; rfl)) (by rw [n1.kept.get _ hx]; exact hg)
  rw [set_get_ne' _ _ (fun e => by subst e; rw [hgj] at hg2; simp at hg2; exact hw0 hg2.2.symm)]
  exact hg2
 have e0 : ∀ x cs, x < h.next → x ≠ jb → h.get x = some (.cells cs true 0) → (h2.set jb (.cells [v, sv, fv', .int .i64 J.main, mv, .map (some a), .map (some b), .map (some c)] true 0)).get x = some (.cells cs true 0) := fun x cs hx hxj hg => by
  rw [set_get_ne' _ _ hxj]
  exact oth x (.cells cs true 0) (by omega) (fun cs' e => by cases e) (by rw [n1.kept.get _ hx]; exact hg)
 have em : ∀ x L, x < h.next → h.get x = some (nmap L) → (h2.set jb (.cells [v, sv, fv', .int .i64 J.main, mv, .map (some a), .map (some b), .map (some c)] true 0)).get x = some (nmap L) := fun x L hx hg => by
  have hg2 := oth x (nmap L) (by omega) (fun cs e => by cases e) (by rw [n1.kept.get _ hx]; exact hg)
  rw [set_get_ne' _ _ (fun e => by subst e; rw [hgj] at hg2; cases hg2)]
  exact hg2
 have hnx : h.next ≤ h2.next := by omega
 refine ⟨fv', h2, ha, ?_, hgj, ⟨by show jb < h2.next; omega, set_get' _ _ _, base_low p.base hnx low, em _ _ p.la p.ga, em _ _ p.lb p.gb, em _ _ p.lc p.gc, Nat.lt_of_lt_of_le p.la hnx, Nat.lt_of_lt_of_le p.lb hnx, Nat.lt_of_lt_of_le p.lc hnx,
  p.srt.esz hnx (fun x cs => e1 2 x cs (by decide) (by decide)), ?_, p.mg.esz hnx (fun x cs => e1 1 x cs (by decide) (by decide)), fun x hx => ?_, fun x hx => (p.fields x hx).esz hnx (fun x cs => e1 1 x cs (by decide) (by decide)), p.ne, p.ge, p.mgn⟩, ⟨hnx, low, fun x cs => e1 1 x cs (by decide) (by decide), e0⟩⟩
 ·obtain ⟨q, c', e⟩ := ho2.len
  rw [e]; rfl
 ·rcases ho2 with e | ⟨x, q1, q2, q3, q4⟩
  ·exact .inl e
  ·refine .inr ⟨x, q1, q2, q3, ?_⟩
   rw [set_get_ne' _ _ (fun e => by subst e; rw [hgj] at q4; simp at q4)]
   exact q4
 ·rcases List.mem_append.1 hx with hx | hx
  ·exact (p.vars x hx).esz hnx (fun x cs => e1 1 x cs (by decide) (by decide))
  ·rw [List.mem_singleton] at hx; subst hx
   exact hv.esz hnx (fun x cs => e1 1 x cs (by decide) (by decide))
theorem JRep.addSort (p : JRep jb l J h v sv fv mv a b c) {r : Srt} (n1 : New1 h h1 (.cells r.cells true 2)) (hv : ownL strC 1 J.n0 h r.fv r.fields) (hl : J.srt.length < 1000000) :
 ∃ sv' h2, appendV 2 40 sv (.slice (some ⟨h.next, 0, none⟩) 1 1) h1 = some (sv', h2) ∧ cellsOf sv' = some [sv'] ∧ h2.get jb = some (.cells [v, sv, fv, .int .i64 J.main, mv, .map (some a), .map (some b), .map (some c)] true 0) ∧
  JRep jb l { J with srt := J.srt ++ [r] } (h2.set jb (.cells [v, sv', fv, .int .i64 J.main, mv, .map (some a), .map (some b), .map (some c)] true 0)) v sv' fv mv a b c ∧
  JFr J.n0 jb h (h2.set jb (.cells [v, sv', fv, .int .i64 J.main, mv, .map (some a), .map (some b), .map (some c)] true 0)) := by
 have p1 := p.keep n1.kept
 have hn1 := n1.next
 have hlt := p.lt
 have hge := p.ge
 have hel : elemsOf h1 2 (.slice (some ⟨h.next, 0, none⟩) 1 1) = some ([r].length, [r].flatMap Srt.cells) := by
  simp only [elemsOf, Nat.one_ne_zero, if_false, Heap.cells, n1.get]; rfl
 obtain ⟨sv', h2, ha, hb, ho2⟩ := p1.srt.append srt_len (bytes := 40) (by omega) hel (by simp only [List.length_singleton]; omega)
 have hn2 := hb.next
 have oth : ∀ x bk, x < h1.next → (∀ cs, bk ≠ .cells cs true 2) → h1.get x = some bk → h2.get x = some bk := fun x bk hx hne hg => by
  rw [hb.get x hx ?_]; exact hg
  intro q n c' hv
  rcases p1.srt with ⟨_, e⟩ | ⟨k, e1, _, e3, e4⟩
  ·rw [e] at hv; cases hv
  ·rw [e3] at hv
   cases hv
   rintro rfl
   rw [hg] at e4
   exact hne _ (Option.some.inj e4)
 have hgj : h2.get jb = some (.cells [v, sv, fv, .int .i64 J.main, mv, .map (some a), .map (some b), .map (some c)] true 0) := oth _ _ (by omega) (fun cs e => by cases e) p1.get
 have low : ∀ x, x < h.next → x < J.n0 → (h2.set jb (.cells [v, sv', fv, .int .i64 J.main, mv, .map (some a), .map (some b), .map (some c)] true 0)).get x = h.get x := fun x hx hx0 => by
  rw [set_get_ne' _ _ (by omega), p1.srt.beside hb hx0 (by omega), n1.kept.get _ hx]
 have e1 : ∀ w x cs, w ≠ 2 → w ≠ 0 → x < h.next → h.get x = some (.cells cs true w) → (h2.set jb (.cells [v, sv', fv, .int .i64 J.main, mv, .map (some a), .map (some b), .map (some c)] true 0)).get x = some (.cells cs true w) := fun w x cs hw hw0 hx hg => by
  have hg2 := oth x (.cells cs true w) (by omega) (fun cs' e => hw (by cases e; rfl)) (by rw [n1.kept.get _ hx]; exact hg)
  rw [set_get_ne' _ _ (fun e => by subst e; rw [hgj] at hg2; simp at hg2; exact hw0 hg2.2.symm)]
  exact hg2
 have e0 : ∀ x cs, x < h.next → x ≠ jb → h.get x = some (.cells cs true 0) → (h2.set jb (.cells [v, sv', fv, .int .i64 J.main, mv, .map (some a), .map (some b), .map (some c)] true 0)).get x = some (.cells cs true 0) := fun x cs hx hxj hg => by
  rw [set_get_ne' _ _ hxj]
  exact oth x (.cells cs true 0) (by omega) (fun cs' e => by cases e) (by rw [n1.kept.get _ hx]; exact hg)
 have em : ∀ x L, x < h.next → h.get x = some (nmap L) → (h2.set jb (.cells [v, sv', fv, .int .i64 J.main, mv, .map (some a), .map (some b), .map (some c)] true 0)).get x = some (nmap L) := fun x L hx hg => by
  have hg2 := oth x (nmap L) (by omega) (fun cs e => by cases e) (by rw [n1.kept.get _ hx]; exact hg)
  rw [set_get_ne' _ _ (fun e => by subst e; rw [hgj] at hg2; cases hg2)]
  exact hg2
 have hnx : h.next ≤ h2.next := by omega
 refine ⟨sv', h2, ha, ?_, hgj, ⟨by show jb < h2.next; omega, set_get' _ _ _, base_low p.base hnx low, em _ _ p.la p.ga, em _ _ p.lb p.gb, em _ _ p.lc p.gc, Nat.lt_of_lt_of_le p.la hnx, Nat.lt_of_lt_of_le p.lb hnx, Nat.lt_of_lt_of_le p.lc hnx,
  ?_, p.fns.esz hnx (fun x cs => e1 4 x cs (by decide) (by decide)), p.mg.esz hnx (fun x cs => e1 1 x cs (by decide) (by decide)), fun x hx => (p.vars x hx).esz hnx (fun x cs => e1 1 x cs (by decide) (by decide)), fun x hx => ?_, p.ne, p.ge, p.mgn⟩, ⟨hnx, low, fun x cs => e1 1 x cs (by decide) (by decide), e0⟩⟩
 ·obtain ⟨q, c', e⟩ := ho2.len
  rw [e]; rfl
 ·rcases ho2 with e | ⟨x, q1, q2, q3, q4⟩
  ·exact .inl e
  ·refine .inr ⟨x, q1, q2, q3, ?_⟩
   rw [set_get_ne' _ _ (fun e => by subst e; rw [hgj] at q4; simp at q4)]
   exact q4
 ·rcases List.mem_append.1 hx with hx | hx
  ·exact (p.fields x hx).esz hnx (fun x cs => e1 1 x cs (by decide) (by decide))
  ·rw [List.mem_singleton] at hx; subst hx
   exact hv.esz hnx (fun x cs => e1 1 x cs (by decide) (by decide))
end
end Go.Idl
end

section
namespace Go.Idl
variable {T : Tbl}
def faceV (l : List Nd) (x : Nd) (n : Nat) : List ByteArray := (x.kids.take (x.kids.length - 1)).map (textAt l) ++ letsL l l.length n
structure CFns (T : Tbl) : Prop where
 b : BFns T
 lets : T.fn 45 = some C45
 face : T.fn 27 = some C27
 record : T.fn 26 = some C26
 body : T.fn 28 = some C28
theorem face_ok (F : CFns T) {jb : Nat} {l : List Nd} {J : JSt} (g : GoodT l) (hlen : l.length < 1000000) (hkl : ∀ x ∈ l, x.kids.length < 1000000) (hfl : J.fns.length < 100000) (hfn : J.fn.length < 100000) {n : Nat} {x : Nd} (hx : l[n]? = some x) (h3k : 0 < x.kids.length) (hfew : (faceV l x n).length < 10000000) {h : Heap} (hj : Jud jb l J h) :
 Wk T (.fn 27) [ptr jb 0, .int .i64 n] h (fun o h' => JFr J.n0 jb h h' ∧ if numOf J.fn x.text = 0 then o = .ret (tup []) ∧ ∃ vv, Jud jb l { J with fn := J.fn ++ [x.text], fns := J.fns ++ [⟨x.text, x.kids.length - 1, vv, faceV l x n, n⟩] } h' else o = .pan (wrongC (x.pos, 80))) := by
 have hn := (List.getElem?_eq_some_iff.1 hx).1
 have hxm := List.mem_of_getElem? hx
 have hok := g.ok _ x hx
 have hkn := hkl x hxm
 obtain ⟨lv, sv, fv, mv, a, b, c, p⟩ := id hj
 obtain ⟨q, cp, o, z, hvb, hgb, hcell⟩ := p.node hx
 obtain ⟨k0, hk0⟩ : ∃ k, x.kids[0]? = some k := ⟨_, List.getElem?_eq_getElem h3k⟩
 obtain ⟨kb, kcp, ko, kz, hkvb, _, _⟩ := kid_at (p.nodes.2 x hxm) hk0
 refine Wk_fn2 F.face (by simp [C27]) ?_
 simp only [C27]
 refine Wc_seq (Wc_ops (Wo_pre 8 (fun _ => by simp only [go_sem, seval, p.get, hvb, idx_ok hn, hcell]; rfl) ?_))
 refine Wo_store_new (cs := x.cells) (h := h) (by first | rfl | assumption) (by first | rfl | assumption) rfl rfl fun h2 n2 => Wo_nil ?_
 show Wc T _ _ _
 have k2 := n2.kept
 have p2 := p.keep k2
 have hj2 := hj.keep k2
 have hg4 := n2.get
 refine Wc_seq (Wc_draw_end 9 rfl (by decide) ?_)
 refine (Wo_pre 7 (fun _ => by simp only [go_sem, seval, p2.get, hg4, Nd.cells]; rfl) ?_)
 refine Wo_call ((lay_ok F.b.j.lay (b := c) (l := J.fn) (s := x.text) p2.gc (by omega)).mono ?_)
 rintro o h3 ⟨hh3, rfl⟩
 by_cases hz : numOf J.fn x.text = 0
 case neg =>
  rw [if_neg hz] at hh3
  subst hh3
  refine (Wo_run (fun _ => by simp only [go_sem, seval, decide_eq_false hz]; rfl) ?_)
  refine ⟨rfl, ?_⟩
  refine Wo_must F.b.j hj2 hx (by first | rfl | assumption) (ok := false) (by first | rfl | assumption) (by first | rfl | assumption) rfl nofun (fun _ e => ?_)
  exact ⟨rfl, k2.jfr _ _, by rw [if_neg hz]⟩
 rw [if_pos hz] at hh3
 have p3 := p2.setc (J.fn ++ [x.text])
 have jf3 : JFr J.n0 jb h (h2.set c (nmap (J.fn ++ [x.text]))) := (k2.jfr _ _).trans (JFr.setMap p2.gc p2.ge.2.2.2)
 have hg43 : (h2.set c (nmap (J.fn ++ [x.text]))).get h.next = some (.cells x.cells true 0) := (KeptC.setMap (M := J.fn ++ [x.text]) p2.gc).get _ _ _ _ (by rw [n2.next]; omega) hg4
 have hlt4 : h.next < (h2.set c (nmap (J.fn ++ [x.text]))).next := by show h.next < h2.next; rw [n2.next]; omega
 rw [← hh3] at p3 jf3 hg43 hlt4
 clear hh3
 have hj3 : Jud jb l { J with fn := J.fn ++ [x.text] } h3 := ⟨_, _, _, _, _, _, _, p3⟩
 refine (Wo_run (fun _ => by simp only [go_sem, seval, decide_eq_true hz]; rfl) ?_)
 refine ⟨rfl, ?_⟩
 refine Wo_must F.b.j hj3 hx (by first | rfl | assumption) (ok := true) (by first | rfl | assumption) (by first | rfl | assumption) rfl (fun _ => Wo_nil ?_) nofun
 show Wc T _ _ _
 have hw : IntKind.i64.wrap (((x.kids.length : Nat) : Int) - 1) = ((x.kids.length - 1 : Nat) : Int) := by rw [wrap64] <;> omega
 refine Wc_seq (Wc_ops (Wo_pre 7 (fun _ => by simp only [go_sem, seval, hg43, Nd.cells, hkvb, hw]; rfl) ?_))
 refine Wo_op (v := .agg #[.string x.text, .int .i64 ((x.kids.length - 1 : Nat) : Int), .slice none 0 0, .int .i64 n]) (h' := h3) (by rfl) ?_
 refine (Wo_pre 1 (fun _ => by simp only [go_sem, seval]; rfl) ?_)
 refine Wo_store_new (cs := [.string x.text, .int .i64 ((x.kids.length - 1 : Nat) : Int), .slice none 0 0, .int .i64 n]) (h := h3) (by first | rfl | assumption) (by first | rfl | assumption) rfl rfl fun h4 n4 => Wo_nil ?_
 show Wc T _ _ _
 have hb4 : FnB h3.next h4 h3.next x.text ((x.kids.length - 1 : Nat) : Int) n [] := ⟨by rw [n4.next]; exact Nat.lt_succ_self _, Nat.le_refl _, .slice none 0 0, n4.get, .inl ⟨rfl, rfl⟩⟩
 have hg44 : h4.get h.next = some (.cells x.cells true 0) := by rw [n4.kept.get _ hlt4]; exact hg43
 obtain ⟨kcs, kpo, kzz, hkb, hkg', hkz⟩ := (p3.keep n4.kept).kz x hxm ⟨kb, 0, none⟩ _ _ hkvb
 have hoks : okSz h4 kb 1 = true := by
  simp only [okSz, hkg']
  rcases hkz with rfl | rfl <;> rfl
 refine Wc_seq (Wc_seq (Wc_ops (Wo_pre 4 (fun _ => by simp only [go_sem, seval, hg44, Nd.cells, hkvb, n4.get]; rfl) ?_)))
 refine Wo_op (v := subSl 1 x.kids.length kcp 0 (x.kids.length - 1) none (some ⟨kb, 0, none⟩)) (h' := h4) ?_ ?_
 ·simp only [iop, ev, upd, dstUpd, reduceIte, Nat.reduceEqDiff, bndO, Option.getD_none]
  rw [bnd_ok (Nat.zero_le _) (by omega)]
  simp only [okSzO, hoks, Option.isSome_none, Bool.false_and, Bool.not_true, Bool.or_self, Bool.false_eq_true, if_false]
 obtain ⟨kc2, hsub⟩ : ∃ c, subSl 1 x.kids.length kcp 0 (x.kids.length - 1) none (some ⟨kb, 0, none⟩) = .slice (some ⟨kb, 0, none⟩) (x.kids.length - 1) c := ⟨_, rfl⟩
 rw [hsub]
 refine (Wo_run (fun _ => by simp only [go_sem, seval]; rfl) ?_)
 show Wc T _ _ _
 refine Wc.mono (Q := fun ex s' => match ex with
  | .normal => s'.d = some [] ∧ Kept h3 s'.h ∧ s'.e 0 = ptr jb 0 ∧ s'.e 1 = .int .i64 n ∧ s'.e 5 = ptr h3.next 0 ∧ FnB h3.next s'.h h3.next x.text ((x.kids.length - 1 : Nat) : Int) n ((x.kids.take (x.kids.length - 1)).map (textAt l))
  | _ => False) ?_ ?_
 ·refine Wc_range (x.kids.length - 1) (fun j e h' d => d = some [] ∧ Kept h3 h' ∧ FnB h3.next h' h3.next x.text ((x.kids.length - 1 : Nat) : Int) n ((x.kids.take j).map (textAt l))) (by decide) (by first | rfl | assumption) (by first | rfl | assumption) (by omega) (by decide) ⟨rfl, n4.kept, hb4⟩ ?_ ?_
  ·rintro j e h' d hj' ⟨rfl, hk', hf⟩ hfr hi hn'
   obtain ⟨kk, hkj⟩ : ∃ k, x.kids[j]? = some k := ⟨_, List.getElem?_eq_getElem (by omega)⟩
   have p' := p3.keep hk'
   obtain ⟨kb', kcp', ko', kz', hkvb', hkg2, hkc⟩ := kid_at (p'.nodes.2 x hxm) hkj
   rw [hkvb] at hkvb'
   obtain ⟨rfl, rfl⟩ : kb = kb' ∧ kcp = kcp' := by simpa using hkvb'
   have hkr := hok.kids kk (List.mem_of_getElem? hkj)
   obtain ⟨m, rfl⟩ : ∃ m : Nat, kk = m := ⟨kk.toNat, by omega⟩
   have hml : m < l.length := by omega
   obtain ⟨y, hy'⟩ : ∃ y, l[m]? = some y := ⟨_, List.getElem?_eq_getElem hml⟩
   obtain ⟨q', cp', o', z', hvb', hgb', hcell'⟩ := p'.node hy'
   obtain ⟨y0, y1, y2, y3⟩ := flatN_at hy'
   have htk : x.kids.take (j + 1) = x.kids.take j ++ [((m : Nat) : Int)] := by rw [List.take_add_one, hkj]; rfl
   have e37 : e 37 = .slice (some ⟨kb, 0, none⟩) (x.kids.length - 1) kc2 := ((hfr 37 (by decide)).trans (by first | rfl | assumption | (symm; assumption)))
   have e0 : e 0 = ptr jb 0 := ((hfr 0 (by decide)).trans (by first | rfl | assumption | (symm; assumption)))
   have e5 : e 5 = ptr h3.next 0 := ((hfr 5 (by decide)).trans (by first | rfl | assumption | (symm; assumption)))
   obtain ⟨lt, lo, vv, hgf, ho⟩ := hf
   refine Wc_seq (Wc_ops (Wo_run (fun _ => by simp only [go_sem, seval, hi, e37, idx_ok hj', hkg2, hkc]; rfl) ?_))
   show Wc T _ _ _
   refine Wc_draw_still (by decide) ?_
   refine (Wo_pre 10 (fun _ => by simp only [go_sem, seval, e5, hgf, e0, p'.get, hvb', idx_ok hml, hgb', y1]; rfl) ?_)
   refine Wo_new (v := .slice (some ⟨h'.next, 0, none⟩) 1 1) (B := .cells [.string y.text] true 1) (by rfl) fun h5 n5 => ?_
   obtain ⟨v', h6, ha, hcv, hg2, hk2, hf2⟩ := FnB.add (s := y.text) hk' lt lo hgf ho n5 (by simp only [List.length_map, List.length_take]; omega)
   refine Wo_op (v := v') (h' := h6) (by simp only [iop, ev, upd, dstUpd, reduceIte, Nat.reduceEqDiff]; exact ha) ?_
   refine (Wo_pre 1 (fun _ => by simp only [go_sem, seval, e5]; rfl) ?_)
   refine Wo_op (iop_store_at (k := 2) (v := v') (by first | rfl | assumption) (by simp only [ev, upd, dstUpd, reduceIte, Nat.reduceEqDiff]; exact hcv) hg2 (by simp)) (Wo_nil ⟨rfl, ?_⟩)
   exact ⟨rfl, hk2, by rw [htk, List.map_append, List.map_singleton, textAt_at hy']; exact hf2⟩
  ·rintro e h' d ⟨rfl, hk', hf⟩ hfr hi
   refine ⟨rfl, hk', ?_, ?_, ?_, hf⟩
   ·simp only [upd, reduceIte, Nat.reduceEqDiff]; exact ((hfr 0 (by decide)).trans (by first | rfl | assumption | (symm; assumption)))
   ·simp only [upd, reduceIte, Nat.reduceEqDiff]; exact ((hfr 1 (by decide)).trans (by first | rfl | assumption | (symm; assumption)))
   ·simp only [upd, reduceIte, Nat.reduceEqDiff]; exact ((hfr 5 (by decide)).trans (by first | rfl | assumption | (symm; assumption)))
 ·intro ex s' hs
  cases ex with
  | brk i => exact hs.elim
  | ret => exact hs.elim
  | pan u => exact hs.elim
  | normal =>
   obtain ⟨e', h5, d'⟩ := s'
   obtain ⟨hd, hk5, e0, e1, e5, hf5⟩ := hs
   simp only at hd hk5 e0 e1 e5 hf5
   subst hd
   show Wc T _ _ _
   refine Wc_seq (Wc_ops (Wo_pre 2 (fun _ => by simp only [go_sem, seval, e0, e1]; rfl) ?_))
   rw [faceV, List.length_append] at hfew
   refine Wo_call ?_
   simp only [List.map_cons, List.map_nil, ev, upd, dstUpd, reduceIte, Nat.reduceEqDiff, e0, e1, e5]
   refine (lets_ok F.lets g hlen hkl hj3 l.length n hn hk5 hf5 hn (by omega)).mono ?_
   rintro o h6 ⟨k6, rfl, hf6⟩
   show Wo T _ _ _
   refine Wo_nil ?_
   show Wc T _ _ _
   obtain ⟨lt, lo, vv, hgf, ho⟩ := hf6
   have p6 := p3.keep k6
   have jf6 := jf3.trans (k6.jfr J.n0 jb)
   have hn3 : J.n0 ≤ h3.next := by have := p3.ge; have := p3.lt; simp only at *; omega
   have ho6 : ownL strC 1 J.n0 h6 vv (faceV l x n) := ho.mono hn3
   refine Wc_draw_still (by decide) ?_
   have hcc : h6.cells h3.next 0 4 = some [.string x.text, .int .i64 ((x.kids.length - 1 : Nat) : Int), vv, .int .i64 n] := cells_all hgf rfl
   refine (Wo_pre 7 (fun _ => by simp only [go_sem, seval, e0, e5, p6.get, hcc]; rfl) ?_)
   refine Wo_new (v := .slice (some ⟨h6.next, 0, none⟩) 1 1) (B := .cells (Fnr.cells ⟨x.text, x.kids.length - 1, vv, faceV l x n, n⟩) true 4) (by rfl) fun h7 n7 => ?_
   obtain ⟨fv', h8, ha, hcv, hg8, p8, jf8⟩ := p6.addFn (r := ⟨x.text, x.kids.length - 1, vv, faceV l x n, n⟩) n7 ho6 (by simp only; omega)
   refine Wo_op (v := fv') (h' := h8) (by simp only [iop, ev, upd, dstUpd, reduceIte, Nat.reduceEqDiff]; exact ha) ?_
   refine (Wo_pre 3 (fun _ => by simp only [go_sem, seval]; rfl) ?_)
   refine Wo_op (iop_store_at (k := 2) (v := fv') (by first | rfl | assumption) (by simp only [ev, upd, dstUpd, reduceIte, Nat.reduceEqDiff]; exact hcv) hg8 (by simp)) (Wo_nil ⟨rfl, ?_⟩)
   exact ⟨rfl, [], rfl, jf6.trans jf8, by rw [if_pos hz]; exact ⟨rfl, vv, _, _, _, _, _, _, _, p8⟩⟩
end Go.Idl
end

section
namespace Go.Idl
variable {T : Tbl}
def fieldsE (l : List Nd) : List Int → List ByteArray → Option CE × List ByteArray
 | [], fl => (none, fl)
 | k :: ks, fl => if numOf fl (textAt l k) = 0 then fieldsE l ks (fl ++ [textAt l k]) else (some (posAt l k, 80), fl)
structure KM (a b c : Nat) (h h' : Heap) : Prop where
 next : h.next ≤ h'.next
 get : ∀ x, x < h.next → x ≠ a → x ≠ b → x ≠ c → h'.get x = h.get x
theorem KM.refl (a b c : Nat) (h : Heap) : KM a b c h h := ⟨Nat.le_refl _, fun _ _ _ _ _ => rfl⟩
theorem KM.kept {a b c : Nat} {h h1 h2 : Heap} (x : KM a b c h h1) (k : Kept h1 h2) : KM a b c h h2 := ⟨Nat.le_trans x.next k.next, fun y hy h1 h2 h3 => by rw [k.get _ (Nat.lt_of_lt_of_le hy x.next), x.get y hy h1 h2 h3]⟩
section
variable {jb : Nat} {l : List Nd} {J : JSt} {h h' : Heap} {v sv fv mv : Value} {a b c : Nat}
theorem JRep.ncell (p : JRep jb l J h v sv fv mv a b c) {x : Nat} {cs : List Value} {o : Bool} {z : Nat} (hg : h.get x = some (.cells cs o z)) : x ≠ a ∧ x ≠ b ∧ x ≠ c :=
 ⟨fun e => (by subst e; rw [p.ga] at hg; cases hg), fun e => (by subst e; rw [p.gb] at hg; cases hg), fun e => (by subst e; rw [p.gc] at hg; cases hg)⟩
theorem JRep.maps (p : JRep jb l J h v sv fv mv a b c) (k : KM a b c h h') {L1 L2 L3 : List ByteArray} (g1 : h'.get a = some (nmap L1)) (g2 : h'.get b = some (nmap L2)) (g3 : h'.get c = some (nmap L3)) : JRep jb l { J with sn := L1, fl := L2, fn := L3 } h' v sv fv mv a b c := by
 have ho : ∀ w x cs, x < h.next → h.get x = some (.cells cs true w) → h'.get x = some (.cells cs true w) := fun w x cs hx hg => by
  obtain ⟨q1, q2, q3⟩ := p.ncell hg
  rw [k.get x hx q1 q2 q3]; exact hg
 exact ⟨Nat.lt_of_lt_of_le p.lt k.next, ho _ _ _ p.lt p.get, base_low p.base k.next (fun x hx (hx0 : x < J.n0) => k.get x hx (by have := p.ge; omega) (by have := p.ge; omega) (by have := p.ge; omega)), g1, g2, g3, Nat.lt_of_lt_of_le p.la k.next, Nat.lt_of_lt_of_le p.lb k.next, Nat.lt_of_lt_of_le p.lc k.next,
  p.srt.esz k.next (ho 2), p.fns.esz k.next (ho 4), p.mg.esz k.next (ho 1), fun x hx => (p.vars x hx).esz k.next (ho 1), fun x hx => (p.fields x hx).esz k.next (ho 1), p.ne, p.ge, p.mgn⟩
theorem JRep.jfr (p : JRep jb l J h v sv fv mv a b c) (k : KM a b c h h') : JFr J.n0 jb h h' := by
 refine ⟨k.next, fun x hx hx0 => k.get x hx (by have := p.ge; omega) (by have := p.ge; omega) (by have := p.ge; omega), fun x cs hx hg => ?_, fun x cs hx _ hg => ?_⟩
 ·obtain ⟨q1, q2, q3⟩ := p.ncell hg
  rw [k.get x hx q1 q2 q3]; exact hg
 ·obtain ⟨q1, q2, q3⟩ := p.ncell hg
  rw [k.get x hx q1 q2 q3]; exact hg
end
theorem record_ok (F : CFns T) {jb : Nat} {l : List Nd} {J : JSt} (g : GoodT l) (hlen : l.length < 1000000) (hkl : ∀ x ∈ l, x.kids.length < 1000000) (hfl : J.srt.length < 100000) (hsn : J.sn.length < 100000) (hff : J.fl.length < 1000000) {n : Nat} {x : Nd} (hx : l[n]? = some x) {h : Heap} (hj : Jud jb l J h) :
 Wk T (.fn 26) [ptr jb 0, .int .i64 n] h (fun o h' => JFr J.n0 jb h h' ∧ if numOf J.sn x.text = 0 then (if x.kids.length ≤ 100 then match fieldsE l x.kids J.fl with
  | (some e, _) => o = .pan (wrongC e)
  | (none, fl) => o = .ret (tup []) ∧ ∃ vv, Jud jb l { J with sn := J.sn ++ [x.text], fl := fl, srt := J.srt ++ [⟨x.text, vv, x.kids.map (textAt l)⟩] } h'
  else o = .pan (wrongC (x.pos, 2))) else o = .pan (wrongC (x.pos, 80))) := by
 have hn := (List.getElem?_eq_some_iff.1 hx).1
 have hxm := List.mem_of_getElem? hx
 have hok := g.ok _ x hx
 have hkn := hkl x hxm
 obtain ⟨lv, sv, fv, mv, a, b, c, p⟩ := id hj
 obtain ⟨q, cp, o, z, hvb, hgb, hcell⟩ := p.node hx
 obtain ⟨ka, kac, hkv⟩ := (p.nodes.2 x hxm).len
 refine Wk_fn2 F.record (by simp [C26]) ?_
 simp only [C26]
 refine Wc_seq (Wc_ops (Wo_pre 8 (fun _ => by simp only [go_sem, seval, p.get, hvb, idx_ok hn, hcell]; rfl) ?_))
 refine Wo_store_new (cs := x.cells) (h := h) (by first | rfl | assumption) (by first | rfl | assumption) rfl rfl fun h2 n2 => Wo_nil ?_
 show Wc T _ _ _
 have k2 := n2.kept
 have p2 := p.keep k2
 have hj2 := hj.keep k2
 have hg4 := n2.get
 refine Wc_seq (Wc_draw_end 9 rfl (by decide) ?_)
 refine (Wo_pre 7 (fun _ => by simp only [go_sem, seval, p2.get, hg4, Nd.cells]; rfl) ?_)
 refine Wo_call ((lay_ok F.b.j.lay (b := a) (l := J.sn) (s := x.text) p2.ga (by omega)).mono ?_)
 rintro o h3 ⟨hh3, rfl⟩
 by_cases hz : numOf J.sn x.text = 0
 case neg =>
  rw [if_neg hz] at hh3
  subst hh3
  refine (Wo_run (fun _ => by simp only [go_sem, seval, decide_eq_false hz]; rfl) ?_)
  refine ⟨rfl, ?_⟩
  refine Wo_must F.b.j hj2 hx (by first | rfl | assumption) (ok := false) (by first | rfl | assumption) (by first | rfl | assumption) rfl nofun (fun _ e => ?_)
  exact ⟨rfl, k2.jfr _ _, by rw [if_neg hz]⟩
 rw [if_pos hz] at hh3
 have km3 : KM a b c h2 h3 := ⟨by rw [hh3]; exact Nat.le_refl _, fun y hy h1 h2' h3' => by rw [hh3, set_get_ne' _ _ h1]⟩
 have ga3 : h3.get a = some (nmap (J.sn ++ [x.text])) := by rw [hh3]; exact set_get' _ _ _
 have gb3 : h3.get b = some (nmap J.fl) := by rw [hh3]; exact setMap_get p2.ga p2.gb p2.ne.1.symm
 have gc3 : h3.get c = some (nmap J.fn) := by rw [hh3]; exact setMap_get p2.ga p2.gc p2.ne.2.1.symm
 have p3 := p2.maps km3 ga3 gb3 gc3
 have hj3 : Jud jb l { J with sn := J.sn ++ [x.text], fl := J.fl, fn := J.fn } h3 := ⟨_, _, _, _, _, _, _, p3⟩
 have jfr : ∀ h', KM a b c h2 h' → JFr J.n0 jb h h' := fun h' k => (k2.jfr _ _).trans (p2.jfr k)
 have old4 : ∀ h', KM a b c h2 h' → h'.get h.next = some (.cells x.cells true 0) := fun h' k => by
  obtain ⟨q1, q2, q3⟩ := p2.ncell hg4
  rw [k.get _ (by rw [n2.next]; omega) q1 q2 q3]; exact hg4
 refine (Wo_run (fun _ => by simp only [go_sem, seval, decide_eq_true hz]; rfl) ?_)
 refine ⟨rfl, ?_⟩
 refine Wo_must F.b.j hj3 hx (by first | rfl | assumption) (ok := true) (by first | rfl | assumption) (by first | rfl | assumption) rfl (fun _ => Wo_nil ?_) nofun
 show Wc T _ _ _
 have hb4 : (decide (((x.kids.length : Nat) : Int) ≤ 100)) = decide (x.kids.length ≤ 100) := by rw [decide_eq_decide]; omega
 refine Wc_seq (Wc_ops (Wo_pre 6 (fun _ => by simp only [go_sem, seval, old4 _ km3, Nd.cells, hkv]; rfl) ?_))
 refine Wo_must F.b.j hj3 hx (by first | rfl | assumption) (ok := decide (x.kids.length ≤ 100)) (by simp only [ev, upd, dstUpd, reduceIte, Nat.reduceEqDiff]; rw [hb4]) (by first | rfl | assumption) rfl (fun hy => Wo_nil ?_) (fun hy => ?_)
 case refine_2 => exact ⟨rfl, jfr _ km3, by rw [if_pos hz, if_neg (of_decide_eq_false hy)]⟩
 have hy := of_decide_eq_true hy
 show Wc T _ _ _
 refine Wc_seq (Wc_ops (Wo_pre 2 (fun _ => by simp only [go_sem, seval, old4 _ km3, Nd.cells]; rfl) ?_))
 refine Wo_op (v := .agg #[.string x.text, .slice none 0 0]) (h' := h3) (by rfl) ?_
 refine (Wo_pre 1 (fun _ => by simp only [go_sem, seval]; rfl) ?_)
 refine Wo_store_new (cs := [.string x.text, .slice none 0 0]) (h := h3) (by first | rfl | assumption) (by first | rfl | assumption) rfl rfl fun h4 n4 => Wo_nil ?_
 show Wc T _ _ _
 have km4 := km3.kept n4.kept
 refine Wc_seq (Wc_seq (Wc_ops (Wo_run (fun _ => by simp only [go_sem, seval, old4 _ km4, Nd.cells, hkv]; rfl) ?_)))
 show Wc T _ _ _
 have hla := p3.la
 have hlb := p3.lb
 have hlc := p3.lc
 have hn4 := n4.next
 have hk3n := km3.next
 have hJ0 : J.n0 ≤ h3.next := by have := p3.ge; have := p3.lt; simp only at *; omega
 refine Wc.mono (Q := fun ex s' => match ex with
  | .normal => s'.d = some [] ∧ KM a b c h2 s'.h ∧ s'.e 0 = ptr jb 0 ∧ s'.e 5 = ptr h3.next 0 ∧ ∃ fl, fieldsE l x.kids J.fl = (none, fl) ∧ s'.h.get a = some (nmap (J.sn ++ [x.text])) ∧ s'.h.get b = some (nmap fl) ∧ s'.h.get c = some (nmap J.fn) ∧ ∃ vv, h3.next < s'.h.next ∧ s'.h.get h3.next = some (.cells [.string x.text, vv] true 0) ∧ ownL strC 1 h3.next s'.h vv (x.kids.map (textAt l))
  | .pan u => ∃ e fl, u = wrongC e ∧ fieldsE l x.kids J.fl = (some e, fl) ∧ s'.d = some [] ∧ KM a b c h2 s'.h
  | _ => False) ?_ ?_
 ·refine Wc_range x.kids.length (fun j e h' d => d = some [] ∧ KM a b c h2 h' ∧ ∃ fl, fl.length ≤ J.fl.length + j ∧ fieldsE l (x.kids.drop j) fl = fieldsE l x.kids J.fl ∧ h'.get a = some (nmap (J.sn ++ [x.text])) ∧ h'.get b = some (nmap fl) ∧ h'.get c = some (nmap J.fn) ∧ ∃ vv, h3.next < h'.next ∧ h'.get h3.next = some (.cells [.string x.text, vv] true 0) ∧ ownL strC 1 h3.next h' vv ((x.kids.take j).map (textAt l))) (by decide) (by first | rfl | assumption) (by first | rfl | assumption) (by omega) (by decide)
   ⟨rfl, km4, J.fl, by omega, by rw [List.drop_zero], by rw [n4.kept.get _ hla]; exact ga3, by rw [n4.kept.get _ hlb]; exact gb3, by rw [n4.kept.get _ hlc]; exact gc3, .slice none 0 0, (by show h3.next < h4.next; omega), n4.get, .inl ⟨rfl, rfl⟩⟩ ?_ ?_
  ·rintro j e h' d hj' ⟨rfl, km, fl, hfl1, hfe, ga', gb', gc', vv, hlt', hgs, ho⟩ hfr hi hn'
   obtain ⟨kk, hkj⟩ : ∃ k, x.kids[j]? = some k := ⟨_, List.getElem?_eq_getElem hj'⟩
   have p' := p2.maps km ga' gb' gc'
   have hjj : Jud jb l { J with sn := J.sn ++ [x.text], fl := fl, fn := J.fn } h' := ⟨_, _, _, _, _, _, _, p'⟩
   obtain ⟨kb, kcp, ko, kz, hkvb, hkg, hkc⟩ := kid_at (p'.nodes.2 x hxm) hkj
   have hkr := hok.kids kk (List.mem_of_getElem? hkj)
   obtain ⟨m, rfl⟩ : ∃ m : Nat, kk = m := ⟨kk.toNat, by omega⟩
   have hml : m < l.length := by omega
   obtain ⟨y, hy'⟩ : ∃ y, l[m]? = some y := ⟨_, List.getElem?_eq_getElem hml⟩
   obtain ⟨q', cp', o', z', hvb', hgb', hcell'⟩ := p'.node hy'
   obtain ⟨y0, y1, y2, y3⟩ := flatN_at hy'
   have hdr : x.kids.drop j = ((m : Nat) : Int) :: x.kids.drop (j + 1) := by
    obtain ⟨hl, ht⟩ := List.getElem?_eq_some_iff.1 hkj
    rw [List.drop_eq_getElem_cons hl, ht]
   have htk : x.kids.take (j + 1) = x.kids.take j ++ [((m : Nat) : Int)] := by rw [List.take_add_one, hkj]; rfl
   rw [hdr, fieldsE, textAt_at hy', posAt_at hy'] at hfe
   have e36 : e 36 = x.kv := by rw [hkv]; exact ((hfr 36 (by decide)).trans (by first | rfl | assumption | (symm; assumption)))
   have e0 : e 0 = ptr jb 0 := ((hfr 0 (by decide)).trans (by first | rfl | assumption | (symm; assumption)))
   have e5 : e 5 = ptr h3.next 0 := ((hfr 5 (by decide)).trans (by first | rfl | assumption | (symm; assumption)))
   refine Wc_seq (Wc_ops (Wo_run (fun _ => by simp only [go_sem, seval, hi, e36, hkvb, idx_ok hj', hkg, hkc]; rfl) ?_))
   show Wc T _ _ _
   refine Wc_seq (Wc_draw_end 15 rfl (by decide) ?_)
   refine (Wo_pre 13 (fun _ => by simp only [go_sem, seval, e0, p'.get, hvb', idx_ok hml, hgb', y1]; rfl) ?_)
   refine Wo_call ((lay_ok F.b.j.lay (b := b) (l := fl) (s := y.text) gb' (by omega)).mono ?_)
   rintro o h5 ⟨hh5, rfl⟩
   by_cases hz2 : numOf fl y.text = 0
   case neg =>
    rw [if_neg hz2] at hh5 hfe
    subst hh5
    refine (Wo_run (fun _ => by simp only [go_sem, seval, decide_eq_false hz2]; rfl) ?_)
    refine ⟨rfl, ?_⟩
    refine Wo_must F.b.j hjj hy' (by simp only [go_sem, seval, e0] <;> first | rfl | assumption | (symm; assumption)) (ok := false) (by first | rfl | assumption) (by first | rfl | assumption) rfl nofun (fun _ e => ?_)
    exact ⟨_, _, rfl, hfe.symm, rfl, km⟩
   rw [if_pos hz2] at hh5 hfe
   have km5 : KM a b c h2 h5 := ⟨by rw [hh5]; exact km.next, fun w hw h1 h2' h3' => by rw [hh5, set_get_ne' _ _ h2']; exact km.get w hw h1 h2' h3'⟩
   have ga5 : h5.get a = some (nmap (J.sn ++ [x.text])) := by rw [hh5]; exact setMap_get gb' ga' p2.ne.1
   have gb5 : h5.get b = some (nmap (fl ++ [y.text])) := by rw [hh5]; exact set_get' _ _ _
   have gc5 : h5.get c = some (nmap J.fn) := by rw [hh5]; exact setMap_get gb' gc' p2.ne.2.2.symm
   have p5 := p2.maps km5 ga5 gb5 gc5
   have kc5 : KeptC h' h5 := by rw [hh5]; exact KeptC.setMap gb'
   have hn5 : h5.next = h'.next := by rw [hh5]; rfl
   have hgs5 := kc5.get _ _ _ _ hlt' hgs
   have ho5 := ho.keepC kc5
   refine (Wo_run (fun _ => by simp only [go_sem, seval, decide_eq_true hz2]; rfl) ?_)
   refine ⟨rfl, ?_⟩
   refine Wo_must F.b.j ⟨_, _, _, _, _, _, _, p5⟩ hy' (by simp only [go_sem, seval, e0] <;> first | rfl | assumption | (symm; assumption)) (ok := true) (by first | rfl | assumption) (by first | rfl | assumption) rfl (fun _ => Wo_nil ?_) nofun
   show Wc T _ _ _
   obtain ⟨q5, cp5, o5, z5, hvb5, hgb5, hcell5⟩ := p5.node hy'
   refine Wc_draw_still (by decide) ?_
   refine (Wo_pre 10 (fun _ => by simp only [go_sem, seval, e5, hgs5, e0, p5.get, hvb5, idx_ok hml, hgb5, y1]; rfl) ?_)
   refine Wo_new (v := .slice (some ⟨h5.next, 0, none⟩) 1 1) (B := .cells [.string y.text] true 1) (by rfl) fun h6 n6 => ?_
   have hn6 := n6.next
   have hel : elemsOf h6 1 (.slice (some ⟨h5.next, 0, none⟩) 1 1) = some ([y.text].length, [y.text].flatMap strC) := by
    simp only [elemsOf, Nat.one_ne_zero, if_false, Heap.cells, n6.get]; rfl
   have ho6 := ho5.kept n6.kept
   obtain ⟨vv', h7, ha, hb, ho7⟩ := ho6.append strC_len (bytes := 16) (by omega) hel (by simp only [List.length_singleton, List.length_map, List.length_take]; omega)
   have hn7 := hb.next
   have hgs6 : h6.get h3.next = some (.cells [.string x.text, vv] true 0) := by rw [n6.kept.get _ (by omega)]; exact hgs5
   have hgs7 : h7.get h3.next = some (.cells [.string x.text, vv] true 0) := by rw [ho6.besideOf hb (by omega) hgs6 (by decide)]; exact hgs6
   have hcv : cellsOf vv' = some [vv'] := by
    obtain ⟨q, c', e⟩ := ho7.len
    rw [e]; rfl
   refine Wo_op (v := vv') (h' := h7) (by simp only [iop, ev, upd, dstUpd, reduceIte, Nat.reduceEqDiff]; exact ha) ?_
   refine (Wo_pre 1 (fun _ => by simp only [go_sem, seval, e5]; rfl) ?_)
   refine Wo_op (iop_store_at (k := 1) (v := vv') (by first | rfl | assumption) (by simp only [ev, upd, dstUpd, reduceIte, Nat.reduceEqDiff]; exact hcv) hgs7 (by simp)) (Wo_nil ⟨rfl, ?_⟩)
   have lowB : ∀ w, w < h3.next → (h7.set h3.next (.cells [.string x.text, vv'] true 0)).get w = h5.get w := fun w hw => by
    rw [set_get_ne' _ _ (by omega), ho6.beside hb hw (by omega), n6.kept.get _ (by omega)]
   have hnx : h2.next ≤ h3.next := km3.next
   refine ⟨rfl, ⟨by show h2.next ≤ h7.next; have := km.next; omega, fun w hw h1 h2' h3' => (lowB w (by omega)).trans (km5.get w hw h1 h2' h3')⟩, fl ++ [y.text], by rw [List.length_append, List.length_singleton]; omega, hfe, ?_, ?_, ?_, vv', ?_, set_get' _ _ _, ?_⟩
   ·exact (lowB _ hla).trans ga5
   ·exact (lowB _ hlb).trans gb5
   ·exact (lowB _ hlc).trans gc5
   ·show h3.next < h7.next; omega
   ·rw [htk, List.map_append, List.map_singleton, textAt_at hy']
    rcases ho7 with e | ⟨w, q1, q2, q3, q4⟩
    ·exact .inl e
    ·exact .inr ⟨w, q1, q2, q3, (set_get_ne' _ _ (fun e => by subst e; rw [hgs7] at q4; simp at q4)).trans q4⟩
  ·rintro e h' d ⟨rfl, km, fl, hfl1, hfe, ga', gb', gc', vv, hlt', hgs, ho⟩ hfr hi
   rw [List.drop_length, fieldsE] at hfe
   rw [List.take_length] at ho
   refine ⟨rfl, km, ?_, ?_, fl, hfe.symm, ga', gb', gc', vv, hlt', hgs, ho⟩
   ·simp only [upd, reduceIte, Nat.reduceEqDiff]; exact ((hfr 0 (by decide)).trans (by first | rfl | assumption | (symm; assumption)))
   ·simp only [upd, reduceIte, Nat.reduceEqDiff]; exact ((hfr 5 (by decide)).trans (by first | rfl | assumption | (symm; assumption)))
 ·intro ex s' hs
  cases ex with
  | brk i => exact hs.elim
  | ret => exact hs.elim
  | pan u =>
   obtain ⟨e, fl, rfl, hfe, hd, km⟩ := hs
   exact ⟨hd, jfr _ km, by rw [if_pos hz, if_pos hy, hfe]⟩
  | normal =>
   obtain ⟨e', h5, d'⟩ := s'
   obtain ⟨hd, km, e0, e5, fl, hfe, ga', gb', gc', vv, hlt', hgs, ho⟩ := hs
   simp only at hd km e0 e5 ga' gb' gc' hlt' hgs ho
   subst hd
   show Wc T _ _ _
   have p5 := p2.maps km ga' gb' gc'
   have ho5 : ownL strC 1 J.n0 h5 vv (x.kids.map (textAt l)) := ho.mono hJ0
   have hcc : h5.cells h3.next 0 2 = some [.string x.text, vv] := cells_all hgs rfl
   have hvv : cellsOf vv = some [vv] := by
    obtain ⟨q, c', e⟩ := ho.len
    rw [e]; rfl
   refine Wc_draw_still (by decide) ?_
   refine (Wo_pre 7 (fun _ => by simp only [go_sem, seval, e0, e5, p5.get, hcc]; rfl) ?_)
   refine Wo_new (v := .slice (some ⟨h5.next, 0, none⟩) 1 1) (B := .cells (Srt.cells ⟨x.text, vv, x.kids.map (textAt l)⟩) true 2) (by rfl) fun h7 n7 => ?_
   obtain ⟨sv', h8, ha, hcv, hg8, p8, jf8⟩ := p5.addSort (r := ⟨x.text, vv, x.kids.map (textAt l)⟩) n7 ho5 (by simp only; omega)
   refine Wo_op (v := sv') (h' := h8) (by simp only [iop, ev, upd, dstUpd, reduceIte, Nat.reduceEqDiff]; exact ha) ?_
   refine (Wo_pre 3 (fun _ => by simp only [go_sem, seval]; rfl) ?_)
   refine Wo_op (iop_store_at (k := 1) (v := sv') (by first | rfl | assumption) (by simp only [ev, upd, dstUpd, reduceIte, Nat.reduceEqDiff]; exact hcv) hg8 (by simp)) (Wo_nil ⟨rfl, ?_⟩)
   exact ⟨rfl, [], rfl, (jfr _ km).trans jf8, by rw [if_pos hz, if_pos hy, hfe]; exact ⟨rfl, vv, _, _, _, _, _, _, _, p8⟩⟩
end Go.Idl
end

section
namespace Go.Idl
variable {T : Tbl}
section
variable {jb : Nat} {l : List Nd} {J : JSt} {h h' : Heap} {v sv fv mv mv' : Value} {a b c : Nat}
theorem JRep.mgs (p : JRep jb l J h v sv fv mv a b c) (hn : h.next ≤ h'.next) (hk : ∀ x, x < h.next → x ≠ jb → h'.get x = h.get x) {m : Int} {L : List Int} (hg : h'.get jb = some (.cells [v, sv, fv, .int .i64 m, mv', .map (some a), .map (some b), .map (some c)] true 0)) (ho : ownI J.n0 h' mv' L) (hnil : L = [] → mv' = .slice none 0 0) :
 JRep jb l { J with main := m, mg := L } h' v sv fv mv' a b c := by
 have hge := p.ge
 have e1 : ∀ w x cs, w ≠ 0 → x < h.next → h.get x = some (.cells cs true w) → h'.get x = some (.cells cs true w) := fun w x cs hw hx hgx => by
  rw [hk x hx (fun e => by subst e; rw [p.get] at hgx; simp at hgx; exact hw hgx.2.symm)]; exact hgx
 have em : ∀ x M, x < h.next → h.get x = some (nmap M) → h'.get x = some (nmap M) := fun x M hx hgx => by
  rw [hk x hx (fun e => by subst e; rw [p.get] at hgx; cases hgx)]; exact hgx
 exact ⟨Nat.lt_of_lt_of_le p.lt hn, hg, base_low p.base hn (fun x hx (hx0 : x < J.n0) => hk x hx (by omega)), em _ _ p.la p.ga, em _ _ p.lb p.gb, em _ _ p.lc p.gc, Nat.lt_of_lt_of_le p.la hn, Nat.lt_of_lt_of_le p.lb hn, Nat.lt_of_lt_of_le p.lc hn,
  p.srt.esz hn (fun x cs => e1 2 x cs (by decide)), p.fns.esz hn (fun x cs => e1 4 x cs (by decide)), ho, fun x hx => (p.vars x hx).esz hn (fun x cs => e1 1 x cs (by decide)), fun x hx => (p.fields x hx).esz hn (fun x cs => e1 1 x cs (by decide)), p.ne, p.ge, hnil⟩
end
def mgOf (l : List Nd) (told : List Int) : List Int := told.filter fun k => kindAt l k == 13
theorem mgOf_add (l : List Nd) (told : List Int) (n : Nat) : mgOf l (told ++ [(n : Int)]) = if kindAt l n = 13 then mgOf l told ++ [(n : Int)] else mgOf l told := by
 rw [mgOf, List.filter_append]
 by_cases h : kindAt l (n : Int) = 13
 ·rw [if_pos h]; simp [h, mgOf]
 ·rw [if_neg h]; simp [h, mgOf]
theorem merges_loop (F : ChkFns T) (W1 : T.fn 48 = some C48) {jb : Nat} {l : List Nd} {J : JSt} (g : GoodT l) (hN : l.length ≤ 50000) (hK : ∀ x ∈ l, x.kids.length ≤ 100000) (hS : ∀ x ∈ l, x.text.size < 4611686018427387904)
 {H : Heap} {E : Env} {cb bb : Nat} {v sv fv mv : Value} {a b c : Nat} (p : JRep jb l J H v sv fv mv a b c) (hmg : J.mg = []) (hcb : H.get cb = some (.cells [v] true 0)) (hbb : H.get bb = some (.cells [ptr jb 0] true 0)) (lcb : cb < H.next) (lbb : bb < H.next) (hcj : cb ≠ jb) (hbj : bb ≠ jb)
 (E1 : E 1 = ptr bb 0) (E132 : E 132 = .func (.func 48) #[] #[ptr cb 0]) {Q : Ex → St → Prop}
 (hq : ∀ (told : List Int) Z, (∀ k : Nat, k < l.length → told.count (k : Int) = 1) → (∀ k ∈ told, ∃ n : Nat, k = (n : Int) ∧ n < l.length) → Jud jb l { J with mg := mgOf l told } Z → JFr J.n0 jb H Z → Z.get H.next = some .dfr → J.n0 ≤ H.next → Q .normal ⟨E, Z, some [.mark H.next]⟩) :
 Wc T (.rangeF (.t 132) [133, 134] C15A4 C15B4) ⟨E, H, some []⟩ Q := by
 have hlt := p.lt
 have hge := p.ge
 obtain ⟨va, vc, hvl⟩ := p.nodes.len
 refine Wc_rangeF (g := 48) (vs := [.func (.yield (H.next + 1)) #[] #[], ptr cb 0]) (by simp only [ev, E132, target]; rfl) ?_
 generalize hL0 : LoopB.mk .ready none E [133, 134] C15A4 C15B4 = L0
 generalize hHL : (H.new .dfr).new (.loop L0) = HL
 have HLn : HL.next = H.next + 2 := by rw [← hHL]; rfl
 have HL0 : ∀ b, b < H.next → HL.get b = H.get b := fun b hb => by
  rw [← hHL, new_get_ne' _ _ (by show b ≠ (H.next + 1); omega), new_get_ne' _ _ (by omega)]
 have HLd : HL.get H.next = some .dfr := by
  rw [← hHL, new_get_ne' _ _ (by show H.next ≠ (H.next + 1); omega)]; exact new_get' _ _
 have HLl : HL.get (H.next + 1) = some (.loop L0) := by rw [← hHL]; exact new_get' _ _
 have hL0st : L0.st = .ready := by rw [← hL0]
 have hL0p : L0.pend = none := by rw [← hL0]
 have rep : ∀ (told : List Int) (h' : Heap) (mv' : Value), (∀ b, b < H.next → b ≠ jb → h'.get b = H.get b) → HL.next ≤ h'.next → h'.get jb = some (.cells [v, sv, fv, .int .i64 J.main, mv', .map (some a), .map (some b), .map (some c)] true 0) → ownI HL.next h' mv' (mgOf l told) → (mgOf l told = [] → mv' = .slice none 0 0) → JRep jb l { J with main := J.main, mg := mgOf l told } h' v sv fv mv' a b c := fun told h' mv' i1 i2 i3 i4 i7 =>
  p.mgs (hnil := i7) (by omega) i1 i3 (by
   rcases i4 with e | ⟨x, q1, q2, q3, q4⟩
   ·exact .inl e
   ·exact .inr ⟨x, by omega, q2, q3, q4⟩)
 refine (walk_ok F W1 (lp := H.next + 1) (cb := cb) (v := v) (l := l) (h := HL) (I := fun told h' => (∀ b, b < H.next → b ≠ jb → h'.get b = H.get b) ∧ HL.next ≤ h'.next ∧ h'.get H.next = some .dfr ∧ h'.get (H.next + 1) = some (.loop L0) ∧ ∃ mv', h'.get jb = some (.cells [v, sv, fv, .int .i64 J.main, mv', .map (some a), .map (some b), .map (some c)] true 0) ∧ ownI HL.next h' mv' (mgOf l told) ∧ (mgOf l told = [] → mv' = .slice none 0 0) ∧ (told.length + untold l told ≤ l.length ∧ ∀ k ∈ told, ∃ n : Nat, k = (n : Int) ∧ n < l.length)) g hN hK hS ?_ ?_ ?_ ?_).mono ?_
 ·rintro told h' ⟨i1, i2, i3, i4, mv', i5, i6, i7, i8⟩
  exact ⟨(rep told h' mv' i1 i2 i5 i6 i7).nodes, by rw [i1 _ lcb hcj]; exact hcb⟩
 ·rintro told h1 h2 ⟨i1, i2, i3, i4, mv', i5, i6, i7, i8⟩ lo
  refine ⟨fun x hx hxj => by rw [lo.get x (by omega)]; exact i1 x hx hxj, Nat.le_trans i2 lo.next, by rw [lo.get _ (by omega)]; exact i3, by rw [lo.get _ (by omega)]; exact i4, mv', by rw [lo.get _ (by omega)]; exact i5, i6.esz lo.next lo.one, i7, i8⟩
 ·-- a round
  rintro told n d A0 ⟨i1, i2, i3, i4, mv', i5, i6, i7, i8⟩ ha hnl hnew
  refine Wk_yld i4 (by rw [← hL0]; rfl) ?_
  have hasg : L0.asg = C15A4 := by rw [← hL0]
  have hbody : L0.body = C15B4 := by rw [← hL0]
  have hLe : L0.e = E := by rw [← hL0]
  have hLps : L0.ps = [133, 134] := by rw [← hL0]
  rw [hasg, hLe, hLps]
  have hset : setPs E [133, 134] [.int .i64 (n : Int), .int .i64 d] = upd (upd E 133 (.int .i64 n)) 134 (.int .i64 d) := rfl
  rw [hset, C15A4]
  refine Wc_ops (Wo_run (fun _ => by simp only [go_sem, seval]; rfl) ?_)
  refine ⟨rfl, L0, i4, hL0st, ?_⟩
  generalize hB : ({ L0 with st := .busy } : LoopB) = LB
  rw [hbody, C15B4]
  have hBr : ({ LB with st := .ready, pend := none } : LoopB) = L0 := by
   rw [← hB, ← hL0]
  have j1 : ∀ x, x < H.next → x ≠ jb → (A0.set (H.next + 1) (.loop LB)).get x = H.get x := fun x hx hxj => by
   rw [set_get_ne' _ _ (by omega)]; exact i1 x hx hxj
  have j5 : (A0.set (H.next + 1) (.loop LB)).get jb = some (.cells [v, sv, fv, .int .i64 J.main, mv', .map (some a), .map (some b), .map (some c)] true 0) := by
   rw [set_get_ne' _ _ (by omega)]; exact i5
  have j6 : ownI HL.next (A0.set (H.next + 1) (.loop LB)) mv' (mgOf l told) := by
   rcases i6 with e | ⟨x, q1, q2, q3, q4⟩
   ·exact .inl e
   ·exact .inr ⟨x, q1, q2, q3, by rw [set_get_ne' _ _ (by omega)]; exact q4⟩
  have j4 : (A0.set (H.next + 1) (.loop LB)).get (H.next + 1) = some (.loop LB) := set_get' _ _ _
  have j3 : (A0.set (H.next + 1) (.loop LB)).get H.next = some .dfr := by rw [set_get_ne' _ _ (by omega)]; exact i3
  have jo : ∀ x, x ≠ H.next + 1 → (A0.set (H.next + 1) (.loop LB)).get x = A0.get x := fun x hx => set_get_ne' _ _ hx
  have jn : (A0.set (H.next + 1) (.loop LB)).next = A0.next := rfl
  generalize A0.set (H.next + 1) (.loop LB) = A at j1 j3 j4 j5 j6 jo jn ⊢
  have pA := rep told A mv' j1 (by omega) j5 j6 i7
  have hul := untold_lt hnl hnew
  have htl : (told ++ [(n : Int)]).length = told.length + 1 := by simp
  have i9 : ∀ k ∈ told ++ [(n : Int)], ∃ n : Nat, k = n ∧ n < l.length := fun k hk => by
   rcases List.mem_append.1 hk with hk | hk
   ·exact i8.2 k hk
   ·exact ⟨n, List.mem_singleton.1 hk, hnl⟩
  replace i8 := i8.1
  have hbbA : A.get bb = some (.cells [ptr jb 0] true 0) := by rw [j1 _ lbb hbj]; exact hbb
  obtain ⟨x, hx⟩ : ∃ x, l[n]? = some x := ⟨_, List.getElem?_eq_getElem hnl⟩
  obtain ⟨q, cp, o, z, hvb, hgb, hcell⟩ := pA.node hx
  obtain ⟨f0, f1, f2, f3⟩ := flatN_at hx
  have hka : kindAt l ((n : Nat) : Int) = x.kind := by rw [kindAt, Int.toNat_natCast, hx]; rfl
  have pj : ptr jb 0 = .pointer (some ⟨jb, 0, none⟩) := rfl
  rw [pj] at hbbA
  refine Wc_block (Wc_seq (Wc_ops (Wo_run (fun _ => by simp only [go_sem, seval, E1, hbbA, j5, hvb, idx_ok hnl, hgb, f0]; rfl) ?_)))
  show Wc T _ _ _
  by_cases k13 : x.kind = 13
  case neg =>
   refine Wc_cond false (congrArg Value.bool (beq_eq_false_iff_ne.2 k13)) nofun (fun _ => Wc_skip ?_)
   refine ⟨LB, j4, ?_⟩
   simp only
   rw [hBr]
   have hm : mgOf l (told ++ [(n : Int)]) = mgOf l told := by rw [mgOf_add, hka, if_neg k13]
   refine ⟨by trivial, ⟨fun y hy hyj => by rw [set_get_ne' _ _ (by omega)]; exact j1 y hy hyj, by show HL.next ≤ A.next; omega, by rw [set_get_ne' _ _ (by omega)]; exact j3, set_get' _ _ _, mv', by rw [set_get_ne' _ _ (by omega)]; exact j5, ?_, by rw [hm]; exact i7, by omega, i9⟩, by show A0.next ≤ A.next; omega, fun y hy1 hy2 _ => by rw [set_get_ne' _ _ (by omega), jo _ (by omega)]⟩
   rw [hm]
   rcases j6 with e | ⟨y, q1, q2, q3, q4⟩
   ·exact .inl e
   ·exact .inr ⟨y, q1, q2, q3, by rw [set_get_ne' _ _ (by omega)]; exact q4⟩
  refine Wc_cond true (congrArg Value.bool (beq_iff_eq.2 k13)) (fun _ => ?_) nofun
  have hL0' : ∀ e : Env, e 1 = ptr bb 0 → locOp (.load none (.t 1)) e = .cells bb 0 1 := fun e he => by simp only [locOp, ev, he, ptr]
  have cbb : A.cell bb 0 = some (ptr jb 0) := by simp only [Heap.cell, hbbA]; rfl
  have c5 : A.cell jb 4 = some mv' := by simp only [Heap.cell, j5]; rfl
  refine Wc_draw ?_
  refine Wd_R rfl (v := ptr jb 0) (h' := A) (by simp only [iop, ev, upd, Nat.reduceEqDiff, reduceIte, E1, ptr, cbb]; rfl) (by intro p hp; cases hp) ?_
  refine Wd_R rfl (v := ptr jb 0) (h' := A) (by simp only [iop, ev, upd, dstUpd, Nat.reduceEqDiff, reduceIte, E1, ptr, cbb]; rfl) (by intro p hp; cases hp) ?_
  refine Wd_P rfl (v := ptr jb 0) (h' := A) (by simp only [iop, ev, upd, dstUpd, Nat.reduceEqDiff, reduceIte, ptr]) ?_
  refine Wd_P rfl (v := ptr jb 1) (h' := A) (by simp only [iop, ev, upd, dstUpd, Nat.reduceEqDiff, reduceIte, ptr]) ?_
  refine Wd_P rfl (v := ptr jb 4) (h' := A) (by simp only [iop, ev, upd, dstUpd, Nat.reduceEqDiff, reduceIte, ptr]) ?_
  refine Wd_R rfl (v := mv') (h' := A) (by simp only [iop, ev, upd, dstUpd, Nat.reduceEqDiff, reduceIte, ptr, c5]; rfl) (by intro p hp; cases hp) ?_
  refine Wd_P rfl (v := .int .i64 n) (h' := A) (by simp only [iop, ev, upd, dstUpd, Nat.reduceEqDiff, reduceIte]) ?_
  refine Wd_A rfl (v := .slice (some ⟨A.next, 0, none⟩) 1 1) (h' := A.new (.cells (ints64 [(n : Int)]) true 1)) (by rfl) ?_
  have n1 := New1.of_new A (.cells (ints64 [(n : Int)]) true 1)
  generalize A.new (.cells (ints64 [(n : Int)]) true 1) = A1 at n1 ⊢
  have hn1 := n1.next
  have o1 : ownI HL.next A1 mv' (mgOf l told) := j6.keep n1.kept.next fun y _ hy => n1.kept.get y hy
  have hel : elemsOf A1 1 (.slice (some ⟨A.next, 0, none⟩) 1 1) = some ([(n : Int)].length, ints64 [(n : Int)]) := intsAt.elems (l := [(n : Int)]) (.inr ⟨A.next, 1, rfl, by omega, .inr ⟨true, 1, n1.get⟩⟩)
  have hmgl : (mgOf l told).length ≤ told.length := List.length_filter_le _ _
  obtain ⟨mw, A2, happ, hbs, ho2, _⟩ := append_own o1 (by omega) hel (by simp only [List.length_singleton]; omega)
  have hn2 := hbs.next
  have low2 : ∀ y, y < HL.next → A2.get y = A.get y := fun y hy => by
   rw [hbs.get y (by omega) ?_, n1.kept.get _ (by omega)]
   intro q m c hv
   rcases o1 with ⟨_, e⟩ | ⟨k, e1, _, e3, _⟩
   ·rw [e] at hv; cases hv
   ·rw [e3] at hv; cases hv
    simp only; omega
  refine Wd_E rfl (v := mw) (h' := A2) (by simp only [iop, ev, upd, dstUpd, Nat.reduceEqDiff, reduceIte]; exact happ) ?_ ?_
  ·intro p hp
   simp only [List.mem_cons, List.not_mem_nil, or_false] at hp
   rcases hp with rfl | rfl | rfl | rfl
   ·exact .inl (show (7 : Nat) ∈ [7, 6, 5, 4, 3, 2, 1] by decide)
   ·exact .inl (show (5 : Nat) ∈ [7, 6, 5, 4, 3, 2, 1] by decide)
   ·exact .inl (show (1 : Nat) ∈ [7, 6, 5, 4, 3, 2, 1] by decide)
   ·refine .inr ?_
    rw [hL0' _ (by simp only [upd, dstUpd, Nat.reduceEqDiff, reduceIte]; exact E1)]
    simp only [sameAt, Heap.cells, low2 bb (by omega), n1.kept.get bb (by omega)]
  refine Wd_P rfl (v := ptr jb 0) (h' := A2) (by simp only [iop, ev, upd, dstUpd, Nat.reduceEqDiff, reduceIte, ptr]) ?_
  refine Wd_P rfl (v := ptr jb 1) (h' := A2) (by simp only [iop, ev, upd, dstUpd, Nat.reduceEqDiff, reduceIte, ptr]) ?_
  refine Wd_P rfl (v := ptr jb 4) (h' := A2) (by simp only [iop, ev, upd, dstUpd, Nat.reduceEqDiff, reduceIte, ptr]) ?_
  have hg2 : A2.get jb = some (.cells [v, sv, fv, .int .i64 J.main, mv', .map (some a), .map (some b), .map (some c)] true 0) := by rw [low2 _ (by omega)]; exact j5
  have hcw : cellsOf mw = some [mw] := by
   obtain ⟨q, c', e⟩ := ho2.ints.len
   rw [e]; rfl
  refine Wd_E rfl (iop_store_at (k := 4) (v := mw) (by first | rfl | assumption) (by simp only [ev, upd, dstUpd, reduceIte, Nat.reduceEqDiff]; exact hcw) hg2 (by simp)) ?_ ?_
  ·intro p hp
   simp only [List.mem_cons, List.not_mem_nil, or_false] at hp
   rcases hp with rfl | rfl | rfl | rfl
   ·exact .inl (show (7 : Nat) ∈ [8, 7, 6, 5, 4, 3, 2, 1, 0, 11, 10, 9] by decide)
   ·exact .inl (show (5 : Nat) ∈ [8, 7, 6, 5, 4, 3, 2, 1, 0, 11, 10, 9] by decide)
   ·exact .inl (show (1 : Nat) ∈ [8, 7, 6, 5, 4, 3, 2, 1, 0, 11, 10, 9] by decide)
   ·exact .inl (show (0 : Nat) ∈ [8, 7, 6, 5, 4, 3, 2, 1, 0, 11, 10, 9] by decide)
  refine Wd_nil ?_
  have hset2 : ([v, sv, fv, .int .i64 J.main, mv', .map (some a), .map (some b), .map (some c)] : List Value).set 4 mw = [v, sv, fv, .int .i64 J.main, mw, .map (some a), .map (some b), .map (some c)] := rfl
  rw [hset2]
  have hm : mgOf l (told ++ [(n : Int)]) = mgOf l told ++ [(n : Int)] := by rw [mgOf_add, hka, if_pos k13]
  refine ⟨LB, by rw [set_get_ne' _ _ (by omega), low2 _ (by omega)]; exact j4, ?_⟩
  simp only
  rw [hBr]
  refine ⟨by trivial, ⟨fun y hy hyj => by rw [set_get_ne' _ _ (by omega), set_get_ne' _ _ hyj, low2 _ (by omega)]; exact j1 y hy hyj, by show HL.next ≤ A2.next; omega, by rw [set_get_ne' _ _ (by omega), set_get_ne' _ _ (by omega), low2 _ (by omega)]; exact j3, set_get' _ _ _, mw, by rw [set_get_ne' _ _ (by omega)]; exact set_get' _ _ _, ?_, by rw [hm]; intro h; simp at h, by omega, i9⟩, by show A0.next ≤ A2.next; omega, fun y hy1 hy2 hno => ?_⟩
  ·rw [hm]
   rcases ho2 with e | ⟨y, q1, q2, q3, q4⟩
   ·exact .inl e
   ·exact .inr ⟨y, q1, q2, q3, by rw [set_get_ne' _ _ (by omega), set_get_ne' _ _ (by omega)]; exact q4⟩
  ·have hA0 : A.get y = A0.get y := jo _ (by omega)
   rw [set_get_ne' _ _ (by omega), set_get_ne' _ _ (by omega), hbs.get y (by omega) ?_, n1.kept.get _ (by omega), hA0]
   intro q m c hv
   rcases j6 with ⟨_, e⟩ | ⟨k, e1, _, e3, e4⟩
   ·rw [e] at hv; cases hv
   ·rw [e3] at hv; cases hv
    rintro rfl
    rw [hA0] at e4
    exact hno _ e4
 ·exact ⟨fun b hb _ => HL0 b hb, Nat.le_refl _, HLd, HLl, mv, by rw [HL0 _ hlt]; exact p.get, .inl ⟨rfl, p.mgn hmg⟩, fun _ => p.mgn hmg, (by
   have := List.countP_le_length (p := fun p : Nat => !decide ((p : Int) ∈ ([] : List Int))) (l := List.range l.length)
   rw [List.length_range] at this
   show 0 + untold l [] ≤ l.length
   rw [Nat.zero_add]; exact this), fun k hk => (by cases hk)⟩
 rintro o hE ⟨⟨r, rfl⟩, told, ⟨i1, i2, i3, i4, mv', i5, i6, i7, i8⟩, hall⟩
 refine ⟨L0, i4, by rw [hL0st]; decide, ?_⟩
 have z1 : ∀ x, x ≠ H.next + 1 → (hE.set (H.next + 1) (.loop { L0 with st := .gone })).get x = hE.get x := fun x hx => set_get_ne' _ _ hx
 have zn : (hE.set (H.next + 1) (.loop { L0 with st := .gone })).next = hE.next := rfl
 generalize hE.set (H.next + 1) (.loop { L0 with st := .gone }) = Z at z1 zn ⊢
 rw [hL0p]
 have pZ := rep told Z mv' (fun b hb hbj => by rw [z1 _ (by omega)]; exact i1 b hb hbj) (by omega) (by rw [z1 _ (by omega)]; exact i5) (by
  rcases i6 with e | ⟨y, q1, q2, q3, q4⟩
  ·exact .inl e
  ·exact .inr ⟨y, q1, by omega, q3, by rw [z1 _ (by omega)]; exact q4⟩) i7
 refine hq told Z hall i8.2 ⟨_, _, _, _, _, _, _, pZ⟩ ⟨by omega, fun x hx hx0 => by rw [z1 _ (by omega), i1 _ hx (by omega)], fun x cs hx hg => ?_, fun x cs hx hxj hg => by rw [z1 _ (by omega), i1 _ hx hxj]; exact hg⟩ (by rw [z1 _ (by omega)]; exact i3) (by omega)
 rw [z1 _ (by omega), i1 _ hx (fun e => by subst e; rw [p.get] at hg; simp at hg)]
 exact hg
end Go.Idl
end

section
namespace Go.Idl
def JSt.er (J : JSt) : JSt := { J with n0 := 0, srt := J.srt.map fun s => { s with fv := undef }, fns := J.fns.map fun r => { r with vv := undef } }
structure JEq (J K : JSt) : Prop where
 fn : J.fn = K.fn
 fl : J.fl = K.fl
 sn : J.sn = K.sn
 par : ∀ k, parN J k = parN K k
theorem JEq.er (J : JSt) : JEq J.er J := ⟨rfl, rfl, rfl, fun k => by
 simp only [parN, JSt.er, List.getElem?_map]
 cases J.fns[k]? <;> rfl⟩
theorem kindE_eq {J K : JSt} (h : JEq J K) (sc : List ByteArray) (x : Nd) : kindE J sc x = kindE K sc x := by
 simp only [kindE, h.fn, h.fl, h.sn, h.par]
theorem exprE_eq {J K : JSt} (h : JEq J K) (l : List Nd) (sc : List ByteArray) : ∀ f n, exprE l J sc f n = exprE l K sc f n
 | 0, _ => rfl
 | f + 1, n => by
  rw [exprE, exprE]
  cases l[n]? with
  | none => rfl
  | some x =>
   simp only [kindE_eq h]
   have : (fun k : Int => exprE l J sc f k.toNat) = fun k => exprE l K sc f k.toNat := funext fun k => exprE_eq h l sc f _
   rw [this]
theorem stmtsE_eq {J K : JSt} (h : JEq J K) (l : List Nd) (bl : Nat → List ByteArray → Bool → Option CE) : ∀ ks sc lf, stmtsE l J bl ks sc lf = stmtsE l K bl ks sc lf
 | [], _, _ => rfl
 | k :: ks, sc, lf => by
  have hk : ∀ wh, kidE l J bl sc wh = kidE l K bl sc wh := fun wh => funext fun c => by simp only [kidE, exprE_eq h]
  simp only [stmtsE, exprE_eq h, hk, stmtsE_eq h l bl ks]
theorem blockE_eq {J K : JSt} (h : JEq J K) (l : List Nd) : ∀ f, blockE l J f = blockE l K f
 | 0 => rfl
 | f + 1 => by
  funext n sc lp
  simp only [blockE, blockE_eq h l f, stmtsE_eq h]
theorem bodyE_eq {J K : JSt} (h : JEq J K) (l : List Nd) (a b : Nat) (x : Nd) : bodyE l J a b x = bodyE l K a b x := by
 simp only [bodyE, blockE_eq h]
def recordS (l : List Nd) (k : Int) (J : JSt) : Except CE JSt := match l[k.toNat]? with
 | none => .ok J
 | some x => if numOf J.sn x.text = 0 then (if x.kids.length ≤ 100 then match fieldsE l x.kids J.fl with
  | (some e, _) => .error e
  | (none, fl) => .ok { J with sn := J.sn ++ [x.text], fl := fl, srt := J.srt ++ [⟨x.text, undef, x.kids.map (textAt l)⟩] }
  else .error (x.pos, 2)) else .error (x.pos, 80)
def faceS (l : List Nd) (k : Int) (J : JSt) : Except CE JSt := match l[k.toNat]? with
 | none => .ok J
 | some x => if numOf J.fn x.text = 0 then .ok { J with fn := J.fn ++ [x.text], fns := J.fns ++ [⟨x.text, x.kids.length - 1, undef, faceV l x k.toNat, k.toNat⟩] } else .error (x.pos, 80)
def foldS (f : Int → JSt → Except CE JSt) : List Int → JSt → Except CE JSt
 | [], J => .ok J
 | k :: ks, J => match f k J with
  | .error e => .error e
  | .ok J' => foldS f ks J'
def rowE (l : List Nd) (J : JSt) (r : Fnr) : Option CE := match l[r.node]? with
 | none => none
 | some x => bodyE l J r.vars.length r.params x
def mainB : ByteArray := ⟨#[109, 97, 105, 110]⟩
def rootKids (l : List Nd) : List Int := (l[l.length - 1]?.map (·.kids)).getD []
def J0 : JSt := ⟨0, [], [], [], [], [], 0, []⟩
def allS (l : List Nd) : Except CE JSt :=
 let recs := (rootKids l).filter fun k => kindAt l k == 2
 let fns := (rootKids l).filter fun k => !(kindAt l k == 2)
 if recs.length ≤ 100 ∧ fns.length ≤ 200 then
  match foldS (recordS l) recs J0 with
  | .error e => .error e
  | .ok J1 => match foldS (faceS l) fns J1 with
   | .error e => .error e
   | .ok J2 =>
    if 0 < numOf J2.fn mainB ∧ parN J2 (numOf J2.fn mainB - 1) = 0 then
     match J2.fns.findSome? (rowE l J2) with
     | some e => .error e
     | none => .ok { J2 with main := ((numOf J2.fn mainB : Nat) : Int) - 1 }
    else .error (0, 83)
 else .error (0, 2)
end Go.Idl
end

section
namespace Go.Idl
variable {T : Tbl}
theorem letsL_fuel {l : List Nd} (g : GoodT l) : ∀ (f n : Nat), n < f → letsL l f n = letsL l (n + 1) n := by
 intro f
 induction f using Nat.strongRecOn with
 | ind f ih =>
  intro n hn
  cases f with
  | zero => omega
  | succ f =>
   rw [letsL, letsL]
   cases hx : l[n]? with
   | none => rfl
   | some x =>
    simp only
    congr 1
    rw [List.flatMap, List.flatMap]
    congr 1
    refine List.map_congr_left fun k hk => ?_
    have := (g.ok n x hx).kids k hk
    by_cases hnf : n = f
    ·subst hnf; rfl
    ·rw [ih f (by omega) k.toNat (by omega), ih n (by omega) k.toNat (by omega)]
def letC (l : List Nd) (n : Nat) : Nat := (letsL l (n + 1) n).length
theorem letC_eq {l : List Nd} (g : GoodT l) {n : Nat} {x : Nd} (hx : l[n]? = some x) : letC l n = (if x.kind = 5 then 1 else 0) + (x.kids.map fun k => letC l k.toNat).sum := by
 have : letC l n = ((if x.kind = 5 then [x.text] else []) ++ x.kids.flatMap fun k => letsL l n k.toNat).length := by rw [letC, letsL, hx]
 rw [this, List.length_append, List.length_flatMap]
 have h1 : (if x.kind = 5 then [x.text] else ([] : List ByteArray)).length = if x.kind = 5 then 1 else 0 := by split <;> simp
 have h2 : (x.kids.map fun k => (letsL l n k.toNat).length) = x.kids.map fun k => letC l k.toNat := List.map_congr_left fun k hk => by
  have := (g.ok n x hx).kids k hk
  rw [letC, letsL_fuel g n k.toNat (by omega)]
 rw [h2, h1]
theorem letC_bal {l : List Nd} (g : GoodT l) : ∀ (m : Nat) (told todo : List Int), untold l told ≤ m → Bal l told todo → (∀ k ∈ todo, ∃ n : Nat, k = n ∧ n < l.length) → (todo.map fun k => letC l k.toNat).sum ≤ untold l told := by
 intro m
 induction m with
 | zero =>
  intro told todo hm hB hr
  rcases List.eq_nil_or_concat todo with rfl | ⟨L, p, rfl⟩
  ·exact Nat.zero_le _
  ·rw [List.concat_eq_append] at hr hB
   obtain ⟨n, hpn, hnl⟩ := hr p (by simp)
   rw [hpn] at hB
   have := untold_lt hnl (bal_new hB hnl)
   omega
 | succ m ih =>
  intro told todo hm hB hr
  rcases List.eq_nil_or_concat todo with rfl | ⟨L, p, rfl⟩
  ·exact Nat.zero_le _
  ·rw [List.concat_eq_append] at hr hB ⊢
   obtain ⟨n, hpn, hnl⟩ := hr p (by simp)
   subst hpn
   have hlt := untold_lt hnl (bal_new hB hnl)
   obtain ⟨x, hx⟩ : ∃ x, l[n]? = some x := ⟨_, List.getElem?_eq_getElem hnl⟩
   have hkn : kidsAtN l n = x.kids := by rw [kidsAtN, hx]; rfl
   have hB2 := bal_step hB hnl
   rw [hkn] at hB2
   have h2 := ih _ _ (by omega) hB2 (fun k hk => by
    rcases List.mem_append.1 hk with hk | hk
    ·exact hr k (List.mem_append_left _ hk)
    ·have := (g.ok n x hx).kids k (List.mem_reverse.1 hk)
     exact ⟨k.toNat, by omega, by omega⟩)
   rw [List.map_append, List.sum_append, List.map_reverse, List.sum_reverse] at h2
   have h3 := letC_eq g hx
   rw [List.map_append, List.sum_append, List.map_singleton, List.sum_singleton, Int.toNat_natCast]
   split at h3 <;> omega
theorem le_sum_map {α : Type} {f : α → Nat} : ∀ {L : List α} {x : α}, x ∈ L → f x ≤ (L.map f).sum
 | y :: L, x, h => by
  rw [List.map_cons, List.sum_cons]
  rcases List.mem_cons.1 h with rfl | h
  ·omega
  ·have := le_sum_map (f := f) h
   omega
theorem untold_nil (l : List Nd) : untold l [] ≤ l.length := by
 have := List.countP_le_length (p := fun p : Nat => !decide ((p : Int) ∈ ([] : List Int))) (l := List.range l.length)
 rw [List.length_range] at this
 exact this
theorem letC_le {l : List Nd} (g : GoodT l) {k : Int} (hk : k ∈ rootKids l) : (letsL l l.length k.toNat).length ≤ 50000 := by
 have hne := g.ne
 obtain ⟨x, hx⟩ : ∃ x, l[l.length - 1]? = some x := ⟨_, List.getElem?_eq_getElem (by omega)⟩
 have hrk : rootKids l = x.kids := by rw [rootKids, hx]; rfl
 rw [hrk] at hk
 have hroot := letC_bal g _ [] [((l.length : Nat) : Int) - 1] (Nat.le_refl _) (bal_start g) (fun k hk => by
  rw [List.mem_singleton] at hk
  exact ⟨l.length - 1, by omega, by omega⟩)
 have hn1 : (((l.length : Nat) : Int) - 1).toNat = l.length - 1 := by omega
 rw [List.map_singleton, List.sum_singleton, hn1, letC_eq g hx] at hroot
 have h1 := le_sum_map (f := fun k : Int => letC l k.toNat) hk
 have h2 := (g.ok _ x hx).kids k hk
 have h3 := untold_nil l
 have h4 := g.len
 rw [letsL_fuel g _ _ (by omega)]
 simp only [letC] at h1 hroot ⊢
 omega
theorem root_kid {l : List Nd} (g : GoodT l) {k : Int} (hk : k ∈ rootKids l) : ∃ (n : Nat) (x : Nd), k = n ∧ n < l.length ∧ l[n]? = some x ∧ (x.kind = 2 ∨ x.kind = 3) ∧ (x.kind = 3 → 0 < x.kids.length) := by
 have hne := g.ne
 obtain ⟨r, hr⟩ : ∃ r, l[l.length - 1]? = some r := ⟨_, List.getElem?_eq_getElem (by omega)⟩
 have hrk : rootKids l = r.kids := by rw [rootKids, hr]; rfl
 rw [hrk] at hk
 have ok := g.ok _ r hr
 have hkd := ok.kids k hk
 have h1 : r.kind = 1 := (g.last _ _ hr).2 (by omega)
 have hs := ok.shape
 rw [h1, shapeB, if_pos rfl, List.all_map, List.all_eq_true] at hs
 have hk2 := hs k hk
 obtain ⟨x, hx⟩ : ∃ x, l[k.toNat]? = some x := ⟨_, List.getElem?_eq_getElem (by omega)⟩
 have hka : kindAt l k = x.kind := by rw [kindAt, hx]; rfl
 simp only [Function.comp, hka, Bool.or_eq_true, beq_iff_eq] at hk2
 refine ⟨k.toNat, x, by omega, by omega, hx, hk2, fun h3 => ?_⟩
 have hs2 := (g.ok _ x hx).shape
 rw [h3, shapeB, if_neg (by decide), if_neg (by decide), if_pos rfl, Bool.and_eq_true, Bool.and_eq_true] at hs2
 have := of_decide_eq_true hs2.1.1
 rwa [List.length_map] at this
theorem fieldsE_len (l : List Nd) : ∀ (ks : List Int) {fl fl' : List ByteArray}, fieldsE l ks fl = (none, fl') → fl'.length = fl.length + ks.length
 | [], fl, fl', h => by cases h; rfl
 | k :: ks, fl, fl', h => by
  rw [fieldsE] at h
  split at h
  ·have := fieldsE_len l ks h
   rw [List.length_append, List.length_singleton] at this
   rw [List.length_cons]; omega
  ·cases h
def mainQ (J : JSt) : Prop := 0 < numOf J.fn mainB ∧ parN J (numOf J.fn mainB - 1) = 0
instance (J : JSt) : Decidable (mainQ J) := by unfold mainQ; exact inferInstance
structure RowOk (l : List Nd) (r : Fnr) : Prop where
 ex : ∃ x, l[r.node]? = some x ∧ r.params + 1 = x.kids.length
end Go.Idl
end

section
namespace Go.Idl
variable {T : Tbl}
theorem ownI.jfr {n0 jb m : Nat} {h h' : Heap} {v : Value} {l : List Int} (o : ownI m h v l) (k : JFr n0 jb h h') : ownI m h' v l := o.esz k.next k.one
theorem foldS_cons {f : Int → JSt → Except CE JSt} {k : Int} {ks : List Int} {J J' : JSt} (h : f k J = .ok J') : foldS f (k :: ks) J = foldS f ks J' := by rw [foldS, h]
theorem foldS_err {f : Int → JSt → Except CE JSt} {k : Int} {ks : List Int} {J : JSt} {e : CE} (h : f k J = .error e) : foldS f (k :: ks) J = .error e := by rw [foldS, h]
theorem recs_loop (F : CFns T) {jb bb m : Nat} {l : List Nd} {J : JSt} (g : GoodT l) (hK : ∀ x ∈ l, x.kids.length ≤ 100000) {h : Heap} {e : Env} {v : Value} {rk : List Int} (hj : Jud jb l J h) (hbb : h.get bb = some (.cells [ptr jb 0] true 0)) (lbb : bb < h.next) (hbj : bb ≠ jb) (hrk : ownI m h v rk) (hkk : ∀ k ∈ rk, ∃ n : Nat, k = n ∧ n < l.length) (hlen : rk.length ≤ 100) (hJ : J.srt = [] ∧ J.sn = [] ∧ J.fl = [])
 (e1 : e 1 = ptr bb 0) (e59 : e 59 = v) (e60 : e 60 = .int .i64 rk.length) (e61 : e 61 = .int .i64 0) {Q : Ex → St → Prop}
 (q1 : ∀ e' h' J', e' 1 = e 1 → e' 3 = e 3 → foldS (recordS l) rk J.er = .ok J'.er → J'.n0 = J.n0 → J'.fn = J.fn → J'.fns = J.fns → J'.mg = J.mg → Jud jb l J' h' → JFr J.n0 jb h h' → Q .normal ⟨e', h', some []⟩)
 (q2 : ∀ e' h' er, foldS (recordS l) rk J.er = .error er → JFr J.n0 jb h h' → Q (.pan (wrongC er)) ⟨e', h', some []⟩) :
 Wc T (.block 2 (.loop C15L1)) ⟨e, h, some []⟩ Q := by
 have hgl := g.len
 simp only [C15L1]
 refine Wc_range rk.length (fun j e' h' d => d = some [] ∧ JFr J.n0 jb h h' ∧ ∃ J', Jud jb l J' h' ∧ foldS (recordS l) (rk.drop j) J'.er = foldS (recordS l) rk J.er ∧ J'.n0 = J.n0 ∧ J'.fn = J.fn ∧ J'.fns = J.fns ∧ J'.mg = J.mg ∧ J'.srt.length ≤ j ∧ J'.sn.length ≤ j ∧ J'.fl.length ≤ 100 * j) (by decide) e61 e60 (by omega) (by decide) ⟨rfl, .refl _ _ _, J, hj, by rw [List.drop_zero], rfl, rfl, rfl, rfl, by rw [hJ.1]; exact Nat.zero_le _, by rw [hJ.2.1]; exact Nat.zero_le _, by rw [hJ.2.2]; exact Nat.zero_le _⟩ ?_ ?_
 ·rintro j e' h' d hj' ⟨rfl, fr, J', hj1, hfo, i1, i2, i3, i4, i5, i6, i7⟩ hfr hi hn'
  obtain ⟨kk, hkj⟩ : ∃ k, rk[j]? = some k := ⟨_, List.getElem?_eq_getElem hj'⟩
  have hrk' := (hrk.jfr fr).ints
  obtain ⟨kb, kcp, ko, kz, hkvb, hkg, hkc⟩ := kid_at hrk' hkj
  obtain ⟨n, rfl, hnl⟩ := hkk kk (List.mem_of_getElem? hkj)
  obtain ⟨x, hx⟩ : ∃ x, l[n]? = some x := ⟨_, List.getElem?_eq_getElem hnl⟩
  have hdr : rk.drop j = ((n : Nat) : Int) :: rk.drop (j + 1) := by
   obtain ⟨hl, ht⟩ := List.getElem?_eq_some_iff.1 hkj
   rw [List.drop_eq_getElem_cons hl, ht]
  rw [hdr] at hfo
  have f59 : e' 59 = .slice (some ⟨kb, 0, none⟩) rk.length kcp := by rw [← hkvb, ← e59]; exact ((hfr 59 (by decide)).trans (by first | rfl | assumption | (symm; assumption)))
  have f1 : e' 1 = ptr bb 0 := (by rw [hfr 1 (by decide)]; try simp only [go_sem, seval, e1] <;> first | rfl | assumption | (symm; assumption))
  have hbb' := fr.zero _ _ lbb hbj hbb
  refine Wc_seq (Wc_ops (Wo_run (fun _ => by simp only [go_sem, seval, hi, f59, idx_ok hj', hkg, hkc]; rfl) ?_))
  show Wc T _ _ _
  refine Wc_ops (Wo_pre 2 (fun _ => by simp only [go_sem, seval, f1, hbb']; rfl) ?_)
  refine Wo_call ?_
  simp only [List.map_cons, List.map_nil, ev, upd, dstUpd, reduceIte, Nat.reduceEqDiff]
  refine (record_ok F g (by omega) (fun x hx => by have := hK x hx; omega) (by omega) (by omega) (by omega) hx hj1).mono ?_
  rintro o h2 ⟨fr2, ho⟩
  have fr3 : JFr J.n0 jb h h2 := fr.trans (i1 ▸ fr2)
  have hrs : ∀ r, recordS l ((n : Nat) : Int) J'.er = r → recordS l ((n : Nat) : Int) J'.er = r := fun r h => h
  have hrS : recordS l ((n : Nat) : Int) J'.er = (if numOf J'.sn x.text = 0 then (if x.kids.length ≤ 100 then match fieldsE l x.kids J'.fl with
   | (some e, _) => .error e
   | (none, fl) => .ok { J'.er with sn := J'.sn ++ [x.text], fl := fl, srt := J'.er.srt ++ [⟨x.text, undef, x.kids.map (textAt l)⟩] }
   else .error (x.pos, 2)) else .error (x.pos, 80)) := by
   rw [recordS, Int.toNat_natCast, hx]; rfl
  split at ho
  case isFalse hz =>
   subst ho
   rw [if_neg hz] at hrS
   rw [foldS_err hrS] at hfo
   exact q2 _ _ _ hfo.symm fr3
  case isTrue hz =>
   rw [if_pos hz] at hrS
   split at ho
   case isFalse hk =>
    subst ho
    rw [if_neg hk] at hrS
    rw [foldS_err hrS] at hfo
    exact q2 _ _ _ hfo.symm fr3
   case isTrue hk =>
    rw [if_pos hk] at hrS
    split at ho
    case h_1 er fl hfe =>
     subst ho
     rw [hfe] at hrS
     rw [foldS_err hrS] at hfo
     exact q2 _ _ _ hfo.symm fr3
    case h_2 fl hfe =>
     obtain ⟨rfl, vv, hj2⟩ := ho
     rw [hfe] at hrS
     rw [foldS_cons hrS] at hfo
     have hfl := fieldsE_len l _ hfe
     refine Wo_nil ⟨rfl, fr3, _, hj2, ?_, i1, i2, i3, i4, ?_, ?_, ?_⟩
     ·rw [← hfo]
      simp only [JSt.er, List.map_append, List.map_cons, List.map_nil]
     ·simp only [List.length_append, List.length_singleton]; omega
     ·simp only [List.length_append, List.length_singleton]; omega
     ·simp only; omega
 ·rintro e' h' d ⟨rfl, fr, J', hj1, hfo, i1, i2, i3, i4, i5, i6, i7⟩ hfr hi
  rw [List.drop_length, foldS] at hfo
  refine q1 _ _ J' ?_ ?_ hfo.symm i1 i2 i3 i4 hj1 fr
  ·simp only [upd, reduceIte, Nat.reduceEqDiff]; exact ((hfr 1 (by decide)).trans (by first | rfl | assumption | (symm; assumption)))
  ·simp only [upd, reduceIte, Nat.reduceEqDiff]; exact ((hfr 3 (by decide)).trans (by first | rfl | assumption | (symm; assumption)))
theorem faces_loop (F : CFns T) {jb bb m : Nat} {l : List Nd} {J : JSt} (g : GoodT l) (hK : ∀ x ∈ l, x.kids.length ≤ 100000) {h : Heap} {e : Env} {v : Value} {rk : List Int} (hj : Jud jb l J h) (hbb : h.get bb = some (.cells [ptr jb 0] true 0)) (lbb : bb < h.next) (hbj : bb ≠ jb) (hrk : ownI m h v rk) (hkk : ∀ k ∈ rk, k ∈ rootKids l ∧ kindAt l k ≠ 2) (hlen : rk.length ≤ 200) (hJ : J.fns = [] ∧ J.fn = [])
 (e1 : e 1 = ptr bb 0) (e69 : e 69 = v) (e70 : e 70 = .int .i64 rk.length) (e71 : e 71 = .int .i64 0) {Q : Ex → St → Prop}
 (q1 : ∀ e' h' J', e' 1 = e 1 → foldS (faceS l) rk J.er = .ok J'.er → J'.n0 = J.n0 → J'.mg = J.mg → J'.fns.length = J'.fn.length → J'.fn.length ≤ 200 → (∀ r ∈ J'.fns, RowOk l r) → Jud jb l J' h' → JFr J.n0 jb h h' → Q .normal ⟨e', h', some []⟩)
 (q2 : ∀ e' h' er, foldS (faceS l) rk J.er = .error er → JFr J.n0 jb h h' → Q (.pan (wrongC er)) ⟨e', h', some []⟩) :
 Wc T (.block 4 (.loop C15L2)) ⟨e, h, some []⟩ Q := by
 have hgl := g.len
 simp only [C15L2]
 refine Wc_range rk.length (fun j e' h' d => d = some [] ∧ JFr J.n0 jb h h' ∧ ∃ J', Jud jb l J' h' ∧ foldS (faceS l) (rk.drop j) J'.er = foldS (faceS l) rk J.er ∧ J'.n0 = J.n0 ∧ J'.mg = J.mg ∧ J'.fns.length = j ∧ J'.fn.length = j ∧ ∀ r ∈ J'.fns, RowOk l r) (by decide) e71 e70 (by omega) (by decide) ⟨rfl, .refl _ _ _, J, hj, by rw [List.drop_zero], rfl, rfl, by rw [hJ.1]; rfl, by rw [hJ.2]; rfl, by rw [hJ.1]; intro r hr; cases hr⟩ ?_ ?_
 ·rintro j e' h' d hj' ⟨rfl, fr, J', hj1, hfo, i1, i4, i5, i6, i7⟩ hfr hi hn'
  obtain ⟨kk, hkj⟩ : ∃ k, rk[j]? = some k := ⟨_, List.getElem?_eq_getElem hj'⟩
  have hrk' := (hrk.jfr fr).ints
  obtain ⟨kb, kcp, ko, kz, hkvb, hkg, hkc⟩ := kid_at hrk' hkj
  obtain ⟨hkr, hk2⟩ := hkk kk (List.mem_of_getElem? hkj)
  obtain ⟨n, x, rfl, hnl, hx, hkd, hk3⟩ := root_kid g hkr
  have hka : kindAt l ((n : Nat) : Int) = x.kind := by rw [kindAt, Int.toNat_natCast, hx]; rfl
  have h3k : 0 < x.kids.length := hk3 (by rw [hka] at hk2; omega)
  have hKx := hK x (List.mem_of_getElem? hx)
  have hfew : (faceV l x n).length < 10000000 := by
   have := letC_le g hkr
   rw [Int.toNat_natCast] at this
   rw [faceV, List.length_append, List.length_map, List.length_take]
   omega
  have hdr : rk.drop j = ((n : Nat) : Int) :: rk.drop (j + 1) := by
   obtain ⟨hl, ht⟩ := List.getElem?_eq_some_iff.1 hkj
   rw [List.drop_eq_getElem_cons hl, ht]
  rw [hdr] at hfo
  have f69 : e' 69 = .slice (some ⟨kb, 0, none⟩) rk.length kcp := by rw [← hkvb, ← e69]; exact ((hfr 69 (by decide)).trans (by first | rfl | assumption | (symm; assumption)))
  have f1 : e' 1 = ptr bb 0 := (by rw [hfr 1 (by decide)]; try simp only [go_sem, seval, e1] <;> first | rfl | assumption | (symm; assumption))
  have hbb' := fr.zero _ _ lbb hbj hbb
  refine Wc_seq (Wc_ops (Wo_run (fun _ => by simp only [go_sem, seval, hi, f69, idx_ok hj', hkg, hkc]; rfl) ?_))
  show Wc T _ _ _
  refine Wc_ops (Wo_pre 2 (fun _ => by simp only [go_sem, seval, f1, hbb']; rfl) ?_)
  refine Wo_call ?_
  simp only [List.map_cons, List.map_nil, ev, upd, dstUpd, reduceIte, Nat.reduceEqDiff]
  refine (face_ok F g (by omega) (fun x hx => by have := hK x hx; omega) (by omega) (by omega) hx h3k hfew hj1).mono ?_
  rintro o h2 ⟨fr2, ho⟩
  have fr3 : JFr J.n0 jb h h2 := fr.trans (i1 ▸ fr2)
  have hrS : faceS l ((n : Nat) : Int) J'.er = (if numOf J'.fn x.text = 0 then .ok { J'.er with fn := J'.fn ++ [x.text], fns := J'.er.fns ++ [⟨x.text, x.kids.length - 1, undef, faceV l x n, n⟩] } else .error (x.pos, 80)) := by
   rw [faceS, Int.toNat_natCast, hx]; rfl
  split at ho
  case isFalse hz =>
   subst ho
   rw [if_neg hz] at hrS
   rw [foldS_err hrS] at hfo
   exact q2 _ _ _ hfo.symm fr3
  case isTrue hz =>
   rw [if_pos hz] at hrS
   obtain ⟨rfl, vv, hj2⟩ := ho
   rw [foldS_cons hrS] at hfo
   refine Wo_nil ⟨rfl, fr3, _, hj2, ?_, i1, i4, ?_, ?_, ?_⟩
   ·rw [← hfo]
    simp only [JSt.er, List.map_append, List.map_cons, List.map_nil]
   ·simp only [List.length_append, List.length_singleton]; omega
   ·simp only [List.length_append, List.length_singleton]; omega
   ·intro r hr
    rcases List.mem_append.1 hr with hr | hr
    ·exact i7 r hr
    ·rw [List.mem_singleton] at hr; subst hr
     exact ⟨x, hx, by show x.kids.length - 1 + 1 = x.kids.length; omega⟩
 ·rintro e' h' d ⟨rfl, fr, J', hj1, hfo, i1, i4, i5, i6, i7⟩ hfr hi
  rw [List.drop_length, foldS] at hfo
  refine q1 _ _ J' ?_ hfo.symm i1 i4 (by omega) (by omega) i7 hj1 fr
  simp only [upd, reduceIte, Nat.reduceEqDiff]; exact ((hfr 1 (by decide)).trans (by first | rfl | assumption | (symm; assumption)))
theorem bodies_loop (F : CFns T) {jb bb : Nat} {l : List Nd} {J : JSt} (g : GoodT l) (hK : ∀ x ∈ l, x.kids.length ≤ 100000) {h : Heap} {e : Env} {v sv fv mv : Value} {a b c : Nat} (p : JRep jb l J h v sv fv mv a b c) (hbb : h.get bb = some (.cells [ptr jb 0] true 0)) (lbb : bb < h.next) (hfl : J.fns.length = J.fn.length) (hfn : J.fn.length ≤ 200) (hrow : ∀ r ∈ J.fns, RowOk l r)
 (e1 : e 1 = ptr bb 0) (e118 : e 118 = fv) (e119 : e 119 = .int .i64 J.fns.length) (e120 : e 120 = .int .i64 0) {Q : Ex → St → Prop}
 (q1 : ∀ e' h', e' 1 = e 1 → J.fns.findSome? (rowE l J) = none → Kept h h' → Q .normal ⟨e', h', some []⟩)
 (q2 : ∀ e' h' er, J.fns.findSome? (rowE l J) = some er → Kept h h' → Q (.pan (wrongC er)) ⟨e', h', some []⟩) :
 Wc T (.block 6 (.loop C15L3)) ⟨e, h, some []⟩ Q := by
 have hgl := g.len
 simp only [C15L3]
 refine Wc_range J.fns.length (fun j e' h' d => d = some [] ∧ Kept h h' ∧ (J.fns.drop j).findSome? (rowE l J) = J.fns.findSome? (rowE l J)) (by decide) e120 e119 (by omega) (by decide) ⟨rfl, .refl _, by rw [List.drop_zero]⟩ ?_ ?_
 ·rintro j e' h' d hj' ⟨rfl, k, hfo⟩ hfr hi hn'
  obtain ⟨r, hr⟩ : ∃ r, J.fns[j]? = some r := ⟨_, List.getElem?_eq_getElem hj'⟩
  have hrm := List.mem_of_getElem? hr
  obtain ⟨x, hx, hpr⟩ := (hrow r hrm).ex
  have p' := p.keep k
  obtain ⟨fb, fc, hfv, _, hlt, hfg, hcc⟩ := p'.fns.load fnr_len hr
  have hdr : J.fns.drop j = r :: J.fns.drop (j + 1) := by
   obtain ⟨hl, ht⟩ := List.getElem?_eq_some_iff.1 hr
   rw [List.drop_eq_getElem_cons hl, ht]
  rw [hdr, List.findSome?_cons] at hfo
  have f118 : e' 118 = .slice (some ⟨fb, 0, none⟩) J.fns.length fc := by rw [← hfv, ← e118]; exact ((hfr 118 (by decide)).trans (by first | rfl | assumption | (symm; assumption)))
  have f1 : e' 1 = ptr bb 0 := (by rw [hfr 1 (by decide)]; try simp only [go_sem, seval, e1] <;> first | rfl | assumption | (symm; assumption))
  refine Wc_seq (Wc_ops (Wo_pre 3 (fun _ => by simp only [go_sem, seval, hi, f118, idx_ok hj', hcc]; rfl) ?_))
  refine Wo_store_new (cs := r.cells) (h := h') (by first | rfl | assumption) (by first | rfl | assumption) rfl rfl fun h2 n2 => Wo_nil ?_
  show Wc T _ _ _
  have k2 := k.trans n2.kept
  have hbb' : h2.get bb = some (.cells [ptr jb 0] true 0) := by rw [k2.get _ lbb]; exact hbb
  have hg11 := n2.get
  have hc11 : h2.cells h'.next 0 4 = some r.cells := cells_all hg11 rfl
  refine Wc_ops (Wo_pre 2 (fun _ => by simp only [go_sem, seval, f1, hbb', hc11]; rfl) ?_)
  refine Wo_call ?_
  simp only [List.map_cons, List.map_nil, ev, upd, dstUpd, reduceIte, Nat.reduceEqDiff]
  refine (body_ok' F.b F.body g hfl (by omega) (fun x hx => by have := hK x hx; omega) (by omega) hx hpr ⟨_, _, _, _, _, _, _, p.keep k2⟩ (((p.keep k2).vars r hrm).strs)).mono ?_
  rintro o h3 ⟨k3, rfl⟩
  have k13 := k2.trans k3
  have hre : rowE l J r = bodyE l J r.vars.length r.params x := by rw [rowE, hx]
  rw [← hre]
  cases hb : rowE l J r with
  | none =>
   rw [hb] at hfo
   exact Wo_nil ⟨rfl, k13, hfo⟩
  | some er =>
   rw [hb] at hfo
   exact q2 _ _ _ hfo.symm k13
 ·rintro e' h' d ⟨rfl, k, hfo⟩ hfr hi
  rw [List.drop_length, List.findSome?_nil] at hfo
  refine q1 _ _ ?_ hfo.symm k
  simp only [upd, reduceIte, Nat.reduceEqDiff]; exact ((hfr 1 (by decide)).trans (by first | rfl | assumption | (symm; assumption)))
structure TwoL (m : Nat) (h : Heap) (v w : Value) (k n : List Int) : Prop where
 fst : ownI m h v k
 snd : ownI m h w n
 ne : ∀ p a c q b d, v = .slice (some p) a c → w = .slice (some q) b d → p.block ≠ q.block
theorem TwoL.swap {m : Nat} {h : Heap} {v w : Value} {k n : List Int} (t : TwoL m h v w k n) : TwoL m h w v n k := ⟨t.snd, t.fst, fun p a c q b d h1 h2 => (t.ne q b d p a c h2 h1).symm⟩
theorem TwoL.add {m : Nat} {h h1 : Heap} {v w : Value} {k n : List Int} (t : TwoL m h v w k n) (hm : m ≤ h.next) {x : Int} (n1 : New1 h h1 (.cells (ints64 [x]) true 1)) (hl : k.length < 9999999) :
 ∃ v' h2, appendV 1 8 v (.slice (some ⟨h.next, 0, none⟩) 1 1) h1 = some (v', h2) ∧ h.next ≤ h2.next ∧ (∀ b, b < m → h2.get b = h.get b) ∧ TwoL m h2 v' w (k ++ [x]) n := by
 have hn1 := n1.next
 have o1 : ownI m h1 v k := t.fst.keep n1.kept.next fun y _ hy => n1.kept.get y hy
 have o2 : ownI m h1 w n := t.snd.keep n1.kept.next fun y _ hy => n1.kept.get y hy
 have hel : elemsOf h1 1 (.slice (some ⟨h.next, 0, none⟩) 1 1) = some ([x].length, ints64 [x]) := intsAt.elems (l := [x]) (.inr ⟨h.next, 1, rfl, by omega, .inr ⟨true, 1, n1.get⟩⟩)
 obtain ⟨v', h2, ha, hb, ho, hw⟩ := append_own o1 (by omega) hel (by simp only [List.length_singleton]; omega)
 have hn2 := hb.next
 have low : ∀ b, b < m → h2.get b = h.get b := fun b hbm => by
  rw [hb.get b (by omega) ?_, n1.kept.get b (by omega)]
  intro p a c hv
  rcases o1 with ⟨_, e⟩ | ⟨z, q1, _, q3, _⟩
  ·rw [e] at hv; cases hv
  ·rw [q3] at hv; cases hv; simp only; omega
 refine ⟨v', h2, ha, by omega, low, ho, ?_, ?_⟩
 ·rcases o2 with e | ⟨b, q1, q2, q3, q4⟩
  ·exact .inl e
  ·refine .inr ⟨b, q1, by omega, q3, ?_⟩
   rw [hb.get b q2 ?_]; exact q4
   intro p a c hv
   exact t.ne p a c _ _ _ hv q3
 ·intro p a c q b d hv hq
  rcases hw p a c hv with e | e
  ·rw [e] at hv; exact t.ne p a c q b d hv hq
  ·rcases t.snd with ⟨_, e2⟩ | ⟨z, q1, q2, q3, _⟩
   ·rw [e2] at hq; cases hq
   ·rw [q3] at hq; cases hq; simp only; omega
theorem split_loop {jb bb : Nat} {l : List Nd} {J : JSt} (g : GoodT l) (hK : ∀ x ∈ l, x.kids.length ≤ 100000) {h : Heap} {e : Env} {v : Value} {x : Nd} (hx : l[l.length - 1]? = some x) (hj : Jud jb l J h) (hbb : h.get bb = some (.cells [ptr jb 0] true 0)) (lbb : bb < h.next)
 (e1 : e 1 = ptr bb 0) (e2 : e 2 = .slice none 0 0) (e3 : e 3 = .slice none 0 0) (e25 : e 25 = x.kv) (e26 : e 26 = .int .i64 x.kids.length) (e27 : e 27 = .int .i64 0) {Q : Ex → St → Prop}
 (q1 : ∀ e' h', e' 1 = e 1 → TwoL h.next h' (e' 2) (e' 3) ((rootKids l).filter fun k => kindAt l k == 2) ((rootKids l).filter fun k => !(kindAt l k == 2)) → Kept h h' → Q .normal ⟨e', h', some []⟩) :
 Wc T (.block 0 (.loop C15L0)) ⟨e, h, some []⟩ Q := by
 have hgl := g.len
 have hxm := List.mem_of_getElem? hx
 have hok := g.ok _ x hx
 have hKx := hK x hxm
 have hrk : rootKids l = x.kids := by rw [rootKids, hx]; rfl
 rw [hrk] at q1
 simp only [C15L0]
 refine Wc_range x.kids.length (fun j e' h' d => d = some [] ∧ Kept h h' ∧ TwoL h.next h' (e' 2) (e' 3) ((x.kids.take j).filter fun k => kindAt l k == 2) ((x.kids.take j).filter fun k => !(kindAt l k == 2))) (by decide) e27 e26 (by omega) (by decide) ⟨rfl, .refl _, by simp only [e2, e3]; exact ⟨.inl ⟨rfl, rfl⟩, .inl ⟨rfl, rfl⟩, fun p a c q b d h => by cases h⟩⟩ ?_ ?_
 ·rintro j e' h' d hj' ⟨rfl, k, tw⟩ hfr hi hn'
  obtain ⟨kk, hkj⟩ : ∃ k, x.kids[j]? = some k := ⟨_, List.getElem?_eq_getElem hj'⟩
  obtain ⟨lv, sv, fv, mv, a, b, c, p⟩ := hj.keep k
  obtain ⟨kb, kcp, ko, kz, hkvb, hkg, hkc⟩ := kid_at (p.nodes.2 x hxm) hkj
  have hkr := hok.kids kk (List.mem_of_getElem? hkj)
  obtain ⟨n, rfl⟩ : ∃ m : Nat, kk = m := ⟨kk.toNat, by omega⟩
  have hnl : n < l.length := by omega
  obtain ⟨y, hy⟩ : ∃ y, l[n]? = some y := ⟨_, List.getElem?_eq_getElem hnl⟩
  obtain ⟨q, cp, o, z, hvb, hgb, hcell⟩ := p.node hy
  obtain ⟨f0, f1', f2, f3⟩ := flatN_at hy
  have hka : kindAt l ((n : Nat) : Int) = y.kind := by rw [kindAt, Int.toNat_natCast, hy]; rfl
  have htk : x.kids.take (j + 1) = x.kids.take j ++ [((n : Nat) : Int)] := by rw [List.take_add_one, hkj]; rfl
  have f25 : e' 25 = .slice (some ⟨kb, 0, none⟩) x.kids.length kcp := by rw [← hkvb, ← e25]; exact ((hfr 25 (by decide)).trans (by first | rfl | assumption | (symm; assumption)))
  have f1 : e' 1 = ptr bb 0 := (by rw [hfr 1 (by decide)]; try simp only [go_sem, seval, e1] <;> first | rfl | assumption | (symm; assumption))
  have hbb' : h'.get bb = some (.cells [ptr jb 0] true 0) := by rw [k.get _ lbb]; exact hbb
  have hlen1 : ((x.kids.take j).filter fun k => kindAt l k == 2).length ≤ j := by
   have := List.length_filter_le (fun k => kindAt l k == 2) (x.kids.take j)
   rw [List.length_take] at this; omega
  have hlen2 : ((x.kids.take j).filter fun k => !(kindAt l k == 2)).length ≤ j := by
   have := List.length_filter_le (fun k => !(kindAt l k == 2)) (x.kids.take j)
   rw [List.length_take] at this; omega
  refine Wc_seq (Wc_ops (Wo_run (fun _ => by simp only [go_sem, seval, hi, f25, idx_ok hj', hkg, hkc]; rfl) ?_))
  show Wc T _ _ _
  refine Wc_seq (Wc_ops (Wo_run (fun _ => by simp only [go_sem, seval, f1, hbb', p.get, hvb, idx_ok hnl, hgb, f0]; rfl) ?_))
  show Wc T _ _ _
  by_cases k2 : y.kind = 2
  ·refine Wc_cond true (congrArg Value.bool (beq_iff_eq.2 k2)) (fun _ => ?_) nofun
   refine Wc_ops (Wo_pre 2 (fun _ => by simp only [go_sem, seval]; rfl) ?_)
   refine Wo_new (v := .slice (some ⟨h'.next, 0, none⟩) 1 1) (B := .cells (ints64 [((n : Nat) : Int)]) true 1) (by rfl) fun h1 n1 => ?_
   obtain ⟨v', h2, ha, hn2, low, tw2⟩ := tw.add k.next n1 (by omega)
   refine Wo_op (v := v') (h' := h2) (by simp only [iop, ev, upd, dstUpd, reduceIte, Nat.reduceEqDiff]; exact ha) ?_
   refine (Wo_run (fun _ => by simp only [go_sem, seval]; rfl) ?_)
   refine ⟨rfl, ⟨Nat.le_trans k.next hn2, fun b hb => by rw [low b hb, k.get b hb]⟩, ?_⟩
   rw [htk, List.filter_append, List.filter_append]
   simp only [List.filter_cons, hka, k2, List.filter_nil, BEq.rfl, Bool.not_true, Bool.false_eq_true, if_true, if_false, List.append_nil, upd, dstUpd, reduceIte, Nat.reduceEqDiff]
   exact tw2
  ·refine Wc_cond false (congrArg Value.bool (beq_eq_false_iff_ne.2 k2)) nofun (fun _ => ?_)
   refine Wc_ops (Wo_pre 2 (fun _ => by simp only [go_sem, seval]; rfl) ?_)
   refine Wo_new (v := .slice (some ⟨h'.next, 0, none⟩) 1 1) (B := .cells (ints64 [((n : Nat) : Int)]) true 1) (by rfl) fun h1 n1 => ?_
   obtain ⟨v', h2, ha, hn2, low, tw2⟩ := tw.swap.add k.next n1 (by omega)
   refine Wo_op (v := v') (h' := h2) (by simp only [iop, ev, upd, dstUpd, reduceIte, Nat.reduceEqDiff]; exact ha) ?_
   refine (Wo_run (fun _ => by simp only [go_sem, seval]; rfl) ?_)
   refine ⟨rfl, ⟨Nat.le_trans k.next hn2, fun b hb => by rw [low b hb, k.get b hb]⟩, ?_⟩
   have hk2 : (y.kind == 2) = false := beq_eq_false_iff_ne.2 k2
   rw [htk, List.filter_append, List.filter_append]
   simp only [List.filter_cons, hka, hk2, List.filter_nil, Bool.not_false, Bool.false_eq_true, if_true, if_false, List.append_nil, upd, dstUpd, reduceIte, Nat.reduceEqDiff]
   exact tw2.swap
 ·rintro e' h' d ⟨rfl, k, tw⟩ hfr hi
  rw [List.take_length] at tw
  refine q1 _ _ ?_ ?_ k
  ·simp only [upd, reduceIte, Nat.reduceEqDiff]; exact ((hfr 1 (by decide)).trans (by first | rfl | assumption | (symm; assumption)))
  ·simp only [upd, reduceIte, Nat.reduceEqDiff]; exact tw
end Go.Idl
end
