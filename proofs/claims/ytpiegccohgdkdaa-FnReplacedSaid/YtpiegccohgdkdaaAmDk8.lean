/- The programs of some functions. No condition. -/
import Derived.Test.YtpiegccohgdkdaaProg
import Derived.Test.YtpiegccohgdkdaaAmFuns
import Derived.Test.YtpiegccohgdkdaaAmDk7
set_option linter.all false
set_option linter.unusedSimpArgs false
set_option linter.unusedVariables false
set_option linter.deprecated false
/-! KsI -/
open Go Go.AM
namespace FrA
open Go.AM.L
set_option maxRecDepth 100000
def k13 : KF Go.Proofs.Try.f13 := ⟨
 .seq (R [o 2 (.box (.t 0)), o 3 (.box (.t 1)), o 4 (.mv (.c (.b false)))]) (.seq (R [o 5 (.mv (n 1048576))]) (.seq (R [o 16 (.load true 3 (.t 2)), m 17 5, o 18 (.call (.f 40) [.t
    16, .t 17]), m 5 18]) (.seq (.seq (R [m 19 5, o 20 (.bin .lss (.t 19) (n 0))]) (.cond (.t 20) (.seq (R [o 4 (.mv (.c (.b true)))]) .ret) .skip)) (.seq (R [o 21 (.load true 4 (.t
    3)), m 22 5, o 23 (.call (.f 54) [.t 21, .t 22]), m 5 23]) (.seq (.seq (R [m 24 5, o 25 (.bin .lss (.t 24) (n 0))]) (.cond (.t 25) (.seq (R [o 4 (.mv (.c (.b true)))]) .ret)
    .skip)) (.seq (D [o 27 (.load true 3 (.t 2)), o 28 (.call0 (.f 41) [.t 27]), o 29 (.load true 4 (.t 3)), o 30 (.call0 (.f 55) [.t 29]), o 31 (.calln (.f 47) [.t 28, .t 30]), m
    26 31, o 32 (.ext (.t 26) 0), o 33 (.ext (.t 26) 1), o 6 (.mk4 (.alloc [.nils, .nils, .nils])), x (.store 3 (.t 6) (.t 32)), m 7 33] [[], [0], [], [2, 1], [1, 3, 3], [4], [5],
    [5], [], [8, 6, 4, 0, 1, 2, 3, 4, 5, 6, 8], [7, 9, 0, 1, 2, 3, 4, 5, 6, 7, 8, 9]]) (.seq (R [o 34 (.load true 3 (.t 2)), o 35 (.call (.f 41) [.t 34]), o 8 (.alloc [.nils, .nils,
    .nils]), x (.store 3 (.t 8) (.t 35))]) (.seq (D [o 37 (.load true 3 (.t 8)), o 38 (.load true 4 (.t 3)), o 39 (.call0 (.f 55) [.t 38]), o 40 (.calln (.f 46) [.t 37, .t 39]), m
    36 40, o 41 (.ext (.t 36) 0), o 42 (.ext (.t 36) 1), o 9 (.mk4 (.alloc [.nils, .nils, .nils])), x (.store 3 (.t 9) (.t 41)), m 10 42] [[], [], [1], [0, 2, 2], [3], [4], [4], [],
    [7, 5, 3, 0, 1, 2, 3, 4, 5, 7], [6, 8, 0, 1, 2, 3, 4, 5, 6, 7, 8]]) (.seq (.seq (R [o 43 (.load true 3 (.t 9)), o 44 (.load true 3 (.t 6)), o 45 (.call (.f 42) [.t 43, .t 44]),
    o 46 (.un .not (.t 45)), m 47 46, q 48 47 false (.mv (.t 10)), q 49 47 false (.mv (.t 7)), q 50 47 false (.bin .neq (.t 48) (.t 49)), o 51 (.pick (.t 47) (.c (.b true)) (.t
    50))]) (.cond (.t 51) (.seq (R [o 4 (.mv (.c (.b false)))]) .ret) .skip)) (.seq (.seq (D [o 52 (.load true 3 (.t 8)), o 53 (.load true 3 (.t 2)), o 54 (.call0 (.f 41) [.t 53]),
    o 55 (.callv (.f 42) [.t 52, .t 54]), o 56 (.un .not (.t 55))] [[], [], [1], [0, 2, 2], [3]]) (.cond (.t 56) (.seq (R [o 4 (.mv (.c (.b false)))]) .ret) .skip)) (.seq (R [o 11
    (.mv (n 1))]) (.seq (R [o 57 (.load true 3 (.t 8)), m 58 11, o 59 (.call (.f 52) [.t 57, .t 58]), m 11 59]) (.seq (.seq (R [m 60 11, o 61 (.bin .lss (.t 60) (n 0)), m 62 61, q
    63 62 false (.load true 3 (.t 9)), q 64 62 false (.load true 3 (.t 6)), q 65 62 false (.call (.f 42) [.t 63, .t 64]), q 66 62 false (.un .not (.t 65)), o 67 (.pick (.t 62) (.c
    (.b true)) (.t 66)), m 68 67, q 69 68 false (.mv (.t 10)), q 70 68 false (.mv (.t 7)), q 71 68 false (.bin .neq (.t 69) (.t 70)), o 72 (.pick (.t 68) (.c (.b true)) (.t 71))])
    (.cond (.t 72) (.seq (R [o 4 (.mv (.c (.b false)))]) .ret) .skip)) (.seq (R [o 12 (.mv (n 1))]) (.seq (R [o 73 (.load true 3 (.t 9)), m 74 12, o 75 (.call (.f 52) [.t 73, .t
    74]), m 12 75]) (.seq (R [o 13 (.mv (n 1))]) (.seq (R [o 76 (.load true 3 (.t 9)), m 77 13, o 78 (.call (.f 53) [.t 76, .t 77]), m 13 78]) (.seq (.seq (R [m 79 13, o 80 (.bin
    .lss (.t 79) (n 0))]) (.cond (.t 80) (.seq (R [o 4 (.mv (.c (.b false)))]) .ret) .skip)) (.seq (.seq (R [m 81 13, m 82 12, o 83 (.bin .neq (.t 81) (.t 82))]) (.cond (.t 83)
    (.seq (R [o 4 (.mv (.c (.b false)))]) .ret) .skip)) (.seq (D [o 85 (.load true 3 (.t 2)), o 86 (.call0 (.f 41) [.t 85]), o 87 (.load true 4 (.t 3)), o 88 (.call0 (.f 55) [.t
    87]), o 89 (.calln (.f 46) [.t 86, .t 88]), m 84 89, o 90 (.ext (.t 84) 0), o 91 (.ext (.t 84) 1), o 14 (.mk4 (.alloc [.nils, .nils, .nils])), x (.store 3 (.t 14) (.t 90)), m 15
    91] [[], [0], [], [2, 1], [1, 3, 3], [4], [5], [5], [], [8, 6, 4, 0, 1, 2, 3, 4, 5, 6, 8], [7, 9, 0, 1, 2, 3, 4, 5, 6, 7, 8, 9]]) (.seq (.seq (R [o 92 (.load true 3 (.t 14)), o
    93 (.load true 3 (.t 6)), o 94 (.call (.f 42) [.t 92, .t 93]), o 95 (.un .not (.t 94)), m 96 95, q 97 96 false (.mv (.t 15)), q 98 96 false (.mv (.t 7)), q 99 96 false (.bin
    .neq (.t 97) (.t 98)), o 100 (.pick (.t 96) (.c (.b true)) (.t 99))]) (.cond (.t 100) (.seq (R [o 4 (.mv (.c (.b false)))]) .ret) .skip)) (.seq (R [o 13 (.mv (n 1))]) (.seq (R
    [o 101 (.load true 3 (.t 9)), m 102 13, o 103 (.call (.f 53) [.t 101, .t 102]), m 13 103]) (.seq (.seq (R [m 104 13, o 105 (.bin .lss (.t 104) (n 0))]) (.cond (.t 105) (.seq (R
    [o 4 (.mv (.c (.b false)))]) .ret) .skip)) (.seq (.seq (R [m 106 13, m 107 12, o 108 (.bin .neq (.t 106) (.t 107))]) (.cond (.t 108) (.seq (R [o 4 (.mv (.c (.b false)))]) .ret)
    .skip)) (.seq (R [o 4 (.mv (.c (.b true)))]) .ret)))))))))))))))))))))))))),
  by kernel_rfl⟩
def k14 : KF Go.Proofs.Try.f14 := ⟨
 .seq (R [o 3 (.box (.t 0)), o 6 (.mv (.c (.b false)))]) (.seq (.seq (R [m 19 1, o 20 (.len false (.t 19)), o 21 (.bin .gtr (.t 20) (n 1048576))]) (.cond (.t 21) (.seq (R [o 6 (.mv
    (.c (.b true)))]) .ret) .skip)) (.seq (R [o 7 (.mv (n 1048576))]) (.seq (R [o 22 (.load true 3 (.t 3)), m 23 7, o 24 (.call (.f 40) [.t 22, .t 23]), m 7 24]) (.seq (.seq (R [m
    25 7, o 26 (.bin .lss (.t 25) (n 0))]) (.cond (.t 26) (.seq (R [o 6 (.mv (.c (.b true)))]) .ret) .skip)) (.seq (R [o 28 (.load true 3 (.t 3)), o 29 (.call (.f 41) [.t 28]), m 30
    1, o 31 (.call (.f 57) [.t 30]), m 32 2, o 33 (.call (.f 56) [.t 29, .t 31, .t 32]), m 27 33, o 34 (.ext (.t 27) 0), o 35 (.ext (.t 27) 1), o 8 (.alloc [.nils, .nils, .nils]), x
    (.store 3 (.t 8) (.t 34)), m 9 35]) (.seq (R [o 36 (.load true 3 (.t 3)), o 37 (.call (.f 41) [.t 36]), o 10 (.alloc [.nils, .nils, .nils]), x (.store 3 (.t 10) (.t 37))]) (.seq
    (R [m 38 1, o 39 (.call (.f 57) [.t 38]), m 11 39]) (.seq (R [o 41 (.load true 3 (.t 10)), m 42 11, m 43 2, o 44 (.call (.f 37) [.t 41, .t 42, .t 43]), m 40 44, o 45 (.ext (.t
    40) 0), o 46 (.ext (.t 40) 1), o 12 (.alloc [.nils, .nils, .nils]), x (.store 3 (.t 12) (.t 45)), m 13 46]) (.seq (.seq (R [o 47 (.load true 3 (.t 12)), o 48 (.load true 3 (.t
    8)), o 49 (.call (.f 42) [.t 47, .t 48]), o 50 (.un .not (.t 49)), m 51 50, q 52 51 false (.mv (.t 13)), q 53 51 false (.mv (.t 9)), q 54 51 false (.eqt .bool true (.t 52) (.t
    53)), o 55 (.pick (.t 51) (.c (.b true)) (.t 54))]) (.cond (.t 55) (.seq (R [o 6 (.mv (.c (.b false)))]) .ret) .skip)) (.seq (.seq (D [o 56 (.load true 3 (.t 10)), o 57 (.load
    true 3 (.t 3)), o 58 (.call0 (.f 41) [.t 57]), o 59 (.callv (.f 42) [.t 56, .t 58]), o 60 (.un .not (.t 59))] [[], [], [1], [0, 2, 2], [3]]) (.cond (.t 60) (.seq (R [o 6 (.mv
    (.c (.b false)))]) .ret) .skip)) (.seq (.seq (R [m 61 11, m 62 1, o 63 (.call (.f 57) [.t 62]), o 64 (.call (.f 58) [.t 61, .t 63]), o 65 (.un .not (.t 64))]) (.cond (.t 65)
    (.seq (R [o 6 (.mv (.c (.b false)))]) .ret) .skip)) (.seq (R [o 14 (.mv (n 1))]) (.seq (R [o 66 (.load true 3 (.t 10)), m 67 14, o 68 (.call (.f 52) [.t 66, .t 67]), m 14 68])
    (.seq (R [m 69 11, m 70 14, o 71 (.call (.f 59) [.t 69, .t 70]), m 14 71]) (.seq (.seq (R [m 72 14, o 73 (.bin .lss (.t 72) (n 0)), m 74 73, q 75 74 false (.load true 3 (.t
    12)), q 76 74 false (.load true 3 (.t 8)), q 77 74 false (.call (.f 42) [.t 75, .t 76]), q 78 74 false (.un .not (.t 77)), o 79 (.pick (.t 74) (.c (.b true)) (.t 78)), m 80 79,
    q 81 80 false (.mv (.t 13)), q 82 80 false (.mv (.t 9)), q 83 80 false (.eqt .bool true (.t 81) (.t 82)), o 84 (.pick (.t 80) (.c (.b true)) (.t 83))]) (.cond (.t 84) (.seq (R
    [o 6 (.mv (.c (.b false)))]) .ret) .skip)) (.seq (R [o 15 (.mv (n 1))]) (.seq (R [o 85 (.load true 3 (.t 12)), m 86 15, o 87 (.call (.f 52) [.t 85, .t 86]), m 15 87]) (.seq (R
    [o 16 (.mv (n 1))]) (.seq (R [o 88 (.load true 3 (.t 12)), m 89 16, o 90 (.call (.f 53) [.t 88, .t 89]), m 16 90]) (.seq (.seq (R [m 91 16, o 92 (.bin .lss (.t 91) (n 0))])
    (.cond (.t 92) (.seq (R [o 6 (.mv (.c (.b false)))]) .ret) .skip)) (.seq (.seq (R [m 93 16, m 94 15, o 95 (.bin .neq (.t 93) (.t 94))]) (.cond (.t 95) (.seq (R [o 6 (.mv (.c (.b
    false)))]) .ret) .skip)) (.seq (R [o 97 (.load true 3 (.t 3)), o 98 (.call (.f 41) [.t 97]), m 99 1, o 100 (.call (.f 57) [.t 99]), m 101 2, o 102 (.call (.f 37) [.t 98, .t 100,
    .t 101]), m 96 102, o 103 (.ext (.t 96) 0), o 104 (.ext (.t 96) 1), o 17 (.alloc [.nils, .nils, .nils]), x (.store 3 (.t 17) (.t 103)), m 18 104]) (.seq (.seq (R [o 105 (.load
    true 3 (.t 17)), o 106 (.load true 3 (.t 8)), o 107 (.call (.f 42) [.t 105, .t 106]), o 108 (.un .not (.t 107)), m 109 108, q 110 109 false (.mv (.t 18)), q 111 109 false (.mv
    (.t 9)), q 112 109 false (.eqt .bool true (.t 110) (.t 111)), o 113 (.pick (.t 109) (.c (.b true)) (.t 112))]) (.cond (.t 113) (.seq (R [o 6 (.mv (.c (.b false)))]) .ret)
    .skip)) (.seq (R [o 16 (.mv (n 1))]) (.seq (R [o 114 (.load true 3 (.t 12)), m 115 16, o 116 (.call (.f 53) [.t 114, .t 115]), m 16 116]) (.seq (.seq (R [m 117 16, o 118 (.bin
    .lss (.t 117) (n 0))]) (.cond (.t 118) (.seq (R [o 6 (.mv (.c (.b false)))]) .ret) .skip)) (.seq (.seq (R [m 119 16, m 120 15, o 121 (.bin .neq (.t 119) (.t 120))]) (.cond (.t
    121) (.seq (R [o 6 (.mv (.c (.b false)))]) .ret) .skip)) (.seq (R [o 6 (.mv (.c (.b true)))]) .ret)))))))))))))))))))))))))))),
  by kernel_rfl⟩
def k15 : KF Go.Proofs.Try.f15 := ⟨
 .seq (R [o 3 (.box (.t 0)), o 6 (.mv (.c (.b false)))]) (.seq (.seq (R [m 18 1, o 19 (.len true (.t 18)), o 20 (.bin .gtr (.t 19) (n 1048576))]) (.cond (.t 20) (.seq (R [o 6 (.mv
    (.c (.b true)))]) .ret) .skip)) (.seq (.seq (R [m 21 2, o 22 (.len true (.t 21)), o 23 (.bin .gtr (.t 22) (n 1048576))]) (.cond (.t 23) (.seq (R [o 6 (.mv (.c (.b true)))])
    .ret) .skip)) (.seq (R [o 7 (.mv (n 1048576))]) (.seq (R [o 24 (.load true 3 (.t 3)), m 25 7, o 26 (.call (.f 40) [.t 24, .t 25]), m 7 26]) (.seq (.seq (R [m 27 7, o 28 (.bin
    .lss (.t 27) (n 0))]) (.cond (.t 28) (.seq (R [o 6 (.mv (.c (.b true)))]) .ret) .skip)) (.seq (R [o 30 (.load true 3 (.t 3)), o 31 (.call (.f 41) [.t 30]), m 32 1, m 33 2, o 34
    (.call (.f 50) [.t 31, .t 32, .t 33]), m 29 34, o 35 (.ext (.t 29) 0), o 36 (.ext (.t 29) 1), o 8 (.alloc [.nils, .nils, .nils]), x (.store 3 (.t 8) (.t 35)), m 9 36]) (.seq (R
    [o 37 (.load true 3 (.t 3)), o 38 (.call (.f 41) [.t 37]), o 10 (.alloc [.nils, .nils, .nils]), x (.store 3 (.t 10) (.t 38))]) (.seq (R [o 40 (.load true 3 (.t 10)), m 41 1, m
    42 2, o 43 (.call (.f 49) [.t 40, .t 41, .t 42]), m 39 43, o 44 (.ext (.t 39) 0), o 45 (.ext (.t 39) 1), o 11 (.alloc [.nils, .nils, .nils]), x (.store 3 (.t 11) (.t 44)), m 12
    45]) (.seq (.seq (R [o 46 (.load true 3 (.t 11)), o 47 (.load true 3 (.t 8)), o 48 (.call (.f 42) [.t 46, .t 47]), o 49 (.un .not (.t 48)), m 50 49, q 51 50 false (.mv (.t 12)),
    q 52 50 false (.mv (.t 9)), q 53 50 false (.bin .neq (.t 51) (.t 52)), o 54 (.pick (.t 50) (.c (.b true)) (.t 53))]) (.cond (.t 54) (.seq (R [o 6 (.mv (.c (.b false)))]) .ret)
    .skip)) (.seq (.seq (D [o 55 (.load true 3 (.t 10)), o 56 (.load true 3 (.t 3)), o 57 (.call0 (.f 41) [.t 56]), o 58 (.callv (.f 42) [.t 55, .t 57]), o 59 (.un .not (.t 58))]
    [[], [], [1], [0, 2, 2], [3]]) (.cond (.t 59) (.seq (R [o 6 (.mv (.c (.b false)))]) .ret) .skip)) (.seq (R [o 13 (.mv (n 1))]) (.seq (R [o 60 (.load true 3 (.t 10)), m 61 13, o
    62 (.call (.f 52) [.t 60, .t 61]), m 13 62]) (.seq (.seq (R [m 63 13, o 64 (.bin .lss (.t 63) (n 0)), m 65 64, q 66 65 false (.load true 3 (.t 11)), q 67 65 false (.load true 3
    (.t 8)), q 68 65 false (.call (.f 42) [.t 66, .t 67]), q 69 65 false (.un .not (.t 68)), o 70 (.pick (.t 65) (.c (.b true)) (.t 69)), m 71 70, q 72 71 false (.mv (.t 12)), q 73
    71 false (.mv (.t 9)), q 74 71 false (.bin .neq (.t 72) (.t 73)), o 75 (.pick (.t 71) (.c (.b true)) (.t 74))]) (.cond (.t 75) (.seq (R [o 6 (.mv (.c (.b false)))]) .ret)
    .skip)) (.seq (R [o 14 (.mv (n 1))]) (.seq (R [o 76 (.load true 3 (.t 11)), m 77 14, o 78 (.call (.f 52) [.t 76, .t 77]), m 14 78]) (.seq (R [o 15 (.mv (n 1))]) (.seq (R [o 79
    (.load true 3 (.t 11)), m 80 15, o 81 (.call (.f 53) [.t 79, .t 80]), m 15 81]) (.seq (.seq (R [m 82 15, o 83 (.bin .lss (.t 82) (n 0))]) (.cond (.t 83) (.seq (R [o 6 (.mv (.c
    (.b false)))]) .ret) .skip)) (.seq (.seq (R [m 84 15, m 85 14, o 86 (.bin .neq (.t 84) (.t 85))]) (.cond (.t 86) (.seq (R [o 6 (.mv (.c (.b false)))]) .ret) .skip)) (.seq (R [o
    88 (.load true 3 (.t 3)), o 89 (.call (.f 41) [.t 88]), m 90 1, m 91 2, o 92 (.call (.f 49) [.t 89, .t 90, .t 91]), m 87 92, o 93 (.ext (.t 87) 0), o 94 (.ext (.t 87) 1), o 16
    (.alloc [.nils, .nils, .nils]), x (.store 3 (.t 16) (.t 93)), m 17 94]) (.seq (.seq (R [o 95 (.load true 3 (.t 16)), o 96 (.load true 3 (.t 8)), o 97 (.call (.f 42) [.t 95, .t
    96]), o 98 (.un .not (.t 97)), m 99 98, q 100 99 false (.mv (.t 17)), q 101 99 false (.mv (.t 9)), q 102 99 false (.bin .neq (.t 100) (.t 101)), o 103 (.pick (.t 99) (.c (.b
    true)) (.t 102))]) (.cond (.t 103) (.seq (R [o 6 (.mv (.c (.b false)))]) .ret) .skip)) (.seq (R [o 15 (.mv (n 1))]) (.seq (R [o 104 (.load true 3 (.t 11)), m 105 15, o 106
    (.call (.f 53) [.t 104, .t 105]), m 15 106]) (.seq (.seq (R [m 107 15, o 108 (.bin .lss (.t 107) (n 0))]) (.cond (.t 108) (.seq (R [o 6 (.mv (.c (.b false)))]) .ret) .skip))
    (.seq (.seq (R [m 109 15, m 110 14, o 111 (.bin .neq (.t 109) (.t 110))]) (.cond (.t 111) (.seq (R [o 6 (.mv (.c (.b false)))]) .ret) .skip)) (.seq (R [o 6 (.mv (.c (.b
    true)))]) .ret)))))))))))))))))))))))))),
  by kernel_rfl⟩
def k49 : KF Go.Proofs.Try.f49 := ⟨
 .seq (R [o 3 (.box (.t 0)), o 6 (.alloc [.nils, .nils, .nils]), o 7 (.mv (n 0))]) (.seq (.seq (R [o 17 (.load true 3 (.t 3)), o 18 (.call (.f 35) [.t 17]), o 19 (.un .not (.t
    18))]) (.cond (.t 19) (.seq (R [o 20 (.build [.nils, .nils, .nils] []), x (.store 3 (.t 6) (.t 20)), o 7 (.mv (n 1))]) .ret) .skip)) (.seq (R [m 21 1, o 22 (.bin .add (.t 21)
    (.c (.s [46, 110, 101, 119]))), m 8 22]) (.seq (R [m 23 8, m 24 2, o 25 (.build [.i .i64 0, .s [], .s [], .s []] [(0, 1, n 1), (1, 1, .t 23), (3, 1, .t 24)]), m 26 8, m 27 1, o
    28 (.build [.i .i64 0, .s [], .s [], .s []] [(0, 1, n 2), (1, 1, .t 26), (2, 1, .t 27)]), o 29 (.bslice 4 2 [.i .i64 0, .s [], .s [], .s []] [(0, .t 25), (1, .t 28)]), m 9 29])
    (.seq (.seq (R [o 31 (.load true 3 (.t 3)), m 32 8, o 33 (.call (.f 96) [.t 31, .t 32]), m 30 33, o 34 (.ext (.t 30) 0), o 35 (.ext (.t 30) 1), m 10 34, m 11 35]) (.seq (R [m 36
    11]) (.cond (.t 36) (R [m 37 9, m 38 8, o 39 (.build [.i .i64 0, .s [], .s [], .s []] [(0, 1, n 3), (1, 1, .t 38)]), o 40 (.bslice 4 1 [.i .i64 0, .s [], .s [], .s []] [(0, .t
    39)]), o 41 (.call (.f 102) [.t 37, n 0, .t 40]), m 9 41]) .skip))) (.seq (R [o 42 (.load true 3 (.t 3)), o 43 (.call (.f 103) [.t 42]), o 12 (.alloc [.nils, .nils, .nils]), x
    (.store 3 (.t 12) (.t 43))]) (.seq (.seq (R [m 44 9, o 45 (.len false (.t 44)), o 46 (.mv (n 0))]) (.block 0 (.loop (.seq (R [o 47 (.bin .lss (.t 46) (.t 45))]) (.seq (.cond (.t
    47) .skip (.exit 0)) (.seq (.block 1 (.seq (R [o 48 (.idx 4 (.t 44) (.t 46)), o 49 (.load true 4 (.t 48)), o 14 (.alloc [.i .i64 0, .s [], .s [], .s []]), x (.store 4 (.t 14)
    (.t 49))]) (.seq (R [o 51 (.load true 3 (.t 12)), o 52 (.load true 4 (.t 14)), o 53 (.call (.f 99) [.t 51, .t 52]), m 50 53, o 54 (.ext (.t 50) 0), o 55 (.ext (.t 50) 1), o 15
    (.alloc [.nils, .nils, .nils]), x (.store 3 (.t 15) (.t 54)), m 16 55]) (.seq (.seq (R [m 56 16, o 57 (.bin .neq (.t 56) (n 0))]) (.cond (.t 57) (.seq (R [o 58 (.load true 3 (.t
    3)), o 59 (.call (.f 103) [.t 58]), m 60 16, x (.store 3 (.t 6) (.t 59)), m 7 60]) .ret) .skip)) (R [o 61 (.load true 3 (.t 15)), x (.store 3 (.t 12) (.t 61))]))))) (R [o 62
    (.bin .add (.t 46) (n 1)), m 46 62]))))))) (.seq (R [o 63 (.load true 3 (.t 12)), x (.store 3 (.t 6) (.t 63)), o 7 (.mv (n 0))]) .ret))))))),
  by kernel_rfl⟩
def k50 : KF Go.Proofs.Try.f50 := ⟨
 .seq (R [o 3 (.box (.t 0)), o 6 (.alloc [.nils, .nils, .nils]), o 7 (.mv (n 0))]) (.seq (.seq (R [o 11 (.load true 3 (.t 3)), o 12 (.call (.f 36) [.t 11]), o 13 (.un .not (.t
    12))]) (.cond (.t 13) (.seq (R [o 14 (.build [.nils, .nils, .nils] []), x (.store 3 (.t 6) (.t 14)), o 7 (.mv (n 1))]) .ret) .skip)) (.seq (R [o 15 (.load true 3 (.t 3)), o 8
    (.alloc [.nils, .nils, .nils]), x (.store 3 (.t 8) (.t 15))]) (.seq (R [o 9 (.mv (n 0))]) (.seq (R [m 16 1, o 17 (.bin .add (.t 16) (.c (.s [46, 110, 101, 119]))), m 10 17])
    (.seq (.seq (R [o 18 (.fld 0 (.t 3)), o 19 (.load false 1 (.t 18)), m 20 10, o 21 (.call (.f 95) [.t 19, .t 20]), o 22 (.bin .geq (.t 21) (n 0))]) (.cond (.t 22) (R [o 24 (.load
    true 3 (.t 8)), m 25 10, o 26 (.build [.i .i64 0, .s [], .s [], .s []] [(0, 1, n 3), (1, 1, .t 25)]), o 27 (.call (.f 100) [.t 24, .t 26]), m 23 27, o 28 (.ext (.t 23) 0), o 29
    (.ext (.t 23) 1), x (.store 3 (.t 8) (.t 28)), m 9 29]) .skip)) (.seq (.seq (R [m 30 9, o 31 (.bin .eql (.t 30) (n 0))]) (.cond (.t 31) (R [o 33 (.load true 3 (.t 8)), m 34 10,
    m 35 2, o 36 (.build [.i .i64 0, .s [], .s [], .s []] [(0, 1, n 1), (1, 1, .t 34), (3, 1, .t 35)]), o 37 (.call (.f 100) [.t 33, .t 36]), m 32 37, o 38 (.ext (.t 32) 0), o 39
    (.ext (.t 32) 1), x (.store 3 (.t 8) (.t 38)), m 9 39]) .skip)) (.seq (.seq (R [m 40 9, o 41 (.bin .eql (.t 40) (n 0))]) (.cond (.t 41) (R [o 43 (.load true 3 (.t 8)), m 44 10,
    m 45 1, o 46 (.build [.i .i64 0, .s [], .s [], .s []] [(0, 1, n 2), (1, 1, .t 44), (2, 1, .t 45)]), o 47 (.call (.f 100) [.t 43, .t 46]), m 42 47, o 48 (.ext (.t 42) 0), o 49
    (.ext (.t 42) 1), x (.store 3 (.t 8) (.t 48)), m 9 49]) .skip)) (.seq (.seq (R [m 50 9, o 51 (.bin .neq (.t 50) (n 0))]) (.cond (.t 51) (.seq (R [o 52 (.load true 3 (.t 3)), o
    53 (.call (.f 104) [.t 52]), m 54 9, x (.store 3 (.t 6) (.t 53)), m 7 54]) .ret) .skip)) (.seq (R [o 55 (.load true 3 (.t 8)), o 56 (.call (.f 104) [.t 55]), x (.store 3 (.t 6)
    (.t 56)), o 7 (.mv (n 0))]) .ret))))))))),
  by kernel_rfl⟩
def k56 : KF Go.Proofs.Try.f56 := ⟨
 .seq (R [o 3 (.box (.t 0)), o 6 (.alloc [.nils, .nils, .nils]), o 7 (.mv (.c (.b false)))]) (.seq (.seq (R [o 12 (.load true 3 (.t 3)), o 13 (.call (.f 36) [.t 12]), o 14 (.un .not
    (.t 13)), m 15 14, q 16 15 false (.mv (.t 2)), q 17 15 false (.bin .lss (.t 16) (n 0)), o 18 (.pick (.t 15) (.c (.b true)) (.t 17))]) (.cond (.t 18) (.seq (R [o 19 (.build
    [.nils, .nils, .nils] []), x (.store 3 (.t 6) (.t 19)), o 7 (.mv (.c (.b false)))]) .ret) .skip)) (.seq (.seq (R [o 8 (.mv (n 0))]) (.block 0 (.loop (.seq (.seq (R [m 20 8, m 21
    1, o 22 (.len false (.t 21)), o 23 (.bin .lss (.t 20) (.t 22))]) (.cond (.t 23) .skip (.exit 0))) (.seq (.block 1 (.seq (D [m 26 1, m 27 8, o 28 (.idx 1 (.t 26) (.t 27)), o 29
    (.load false 1 (.t 28)), o 30 (.fld 2 (.t 3)), o 31 (.load false 1 (.t 30)), o 32 (.len false (.t 31)), o 33 (.bin .sub (.t 32) (n 1)), o 34 (.call0 (.f 109) [.t 29, n 0, .t
    33]), o 35 (.un .not (.t 34)), m 36 35, q 37 36 false (.mv (.t 8)), q 38 36 false (.bin .gtr (.t 37) (n 0)), q 39 36 false (.mv (.t 38)), q 40 39 true (.mv (.t 1)), q 41 39 true
    (.mv (.t 8)), q 42 39 true (.idx 1 (.t 40) (.t 41)), q 43 39 true (.load false 1 (.t 42)), q 44 39 true (.mv (.t 1)), q 45 39 true (.mv (.t 8)), q 46 39 true (.bin .sub (.t 45)
    (n 1)), q 47 39 true (.idx 1 (.t 44) (.t 46)), q 48 39 true (.load false 1 (.t 47)), q 49 39 true (.bin .leq (.t 43) (.t 48)), q 50 36 false (.pick (.t 39) (.t 49) (.c (.b
    false))), o 51 (.pick (.t 36) (.c (.b true)) (.t 50))] [[], [], [0, 1], [2], [], [4], [5], [6], [3, 7], [8], [9, 8], [10], [11, 10], [12, 10, 10], [13], [13], [14, 15, 13], [16,
    13], [13], [13], [19, 13], [18, 20, 13], [21, 13], [17, 22, 13], [13, 23, 10], [10, 24]]) (.cond (.t 51) (.seq (R [o 52 (.build [.nils, .nils, .nils] []), x (.store 3 (.t 6) (.t
    52)), o 7 (.mv (.c (.b false)))]) .ret) .skip))) (R [m 24 8, o 25 (.bin .add (.t 24) (n 1)), m 8 25])))))) (.seq (R [o 53 (.bslice 2 0 [.s [], .s []] []), o 54 (.fld 1 (.t 3)),
    o 55 (.load false 1 (.t 54)), o 56 (.app 2 32 [.s [], .s []] (.t 53) (.t 55)), m 9 56, G]) (.seq (.seq (R [o 10 (.mv (n 0))]) (.block 2 (.loop (.seq (.seq (R [m 57 10, m 58 1, o
    59 (.len false (.t 58)), o 60 (.bin .lss (.t 57) (.t 59)), G]) (.cond (.t 60) .skip (.exit 2))) (.seq (.block 3 (.seq (D [o 63 (.fld 2 (.t 3)), o 64 (.load false 1 (.t 63)), m
    65 1, m 66 10, o 67 (.idx 1 (.t 65) (.t 66)), o 68 (.load false 1 (.t 67)), o 69 (.idx 4 (.t 64) (.t 68)), o 70 (.load true 4 (.t 69)), o 11 (.mk4 (.alloc [.i .i64 0, .s [], .s
    [], .s []])), x (.store 4 (.t 11) (.t 70))] [[], [0], [], [], [2, 3], [4], [1, 5], [6], [], [8, 7, 0, 1, 2, 3, 4, 5, 6, 7, 8]]) (.seq (.seq (R [m 71 10, m 72 1, o 73 (.len false
    (.t 72)), o 74 (.bin .sub (.t 73) (n 1)), o 75 (.bin .eql (.t 71) (.t 74)), m 76 75, q 77 76 true (.fld 0 (.t 11)), q 78 76 true (.load false 1 (.t 77)), q 79 76 true (.bin .eql
    (.t 78) (n 1)), o 80 (.pick (.t 76) (.t 79) (.c (.b false))), m 81 80, q 82 81 true (.fld 3 (.t 11)), q 83 81 true (.load false 1 (.t 82)), q 84 81 true (.len true (.t 83)), q
    85 81 true (.mv (.t 2)), q 86 81 true (.bin .gtr (.t 84) (.t 85)), o 87 (.pick (.t 81) (.t 86) (.c (.b false)))]) (.cond (.t 87) (R [o 88 (.fld 3 (.t 11)), o 89 (.load false 1
    (.t 88)), m 90 2, o 91 (.sls (.t 89) none (some (.t 90))), o 92 (.fld 3 (.t 11)), x (.store 1 (.t 92) (.t 91))]) .skip)) (R [m 94 9, o 95 (.load true 4 (.t 11)), o 96 (.call (.f
    83) [.t 94, .t 95]), m 93 96, o 97 (.ext (.t 93) 0), o 98 (.ext (.t 93) 1), m 9 97])))) (R [m 61 10, o 62 (.bin .add (.t 61) (n 1)), m 10 62])))))) (.seq (.seq (R [m 99 9, o 100
    (.call (.f 82) [.t 99]), o 101 (.un .not (.t 100))]) (.cond (.t 101) (.seq (R [o 102 (.build [.nils, .nils, .nils] []), x (.store 3 (.t 6) (.t 102)), o 7 (.mv (.c (.b false)))])
    .ret) .skip)) (.seq (R [m 103 9, o 104 (.bslice 2 0 [.s [], .s []] []), m 105 9, o 106 (.app 2 32 [.s [], .s []] (.t 104) (.t 105)), o 107 (.build [.nils, .nils, .nils] [(0, 1,
    .t 103), (1, 1, .t 106)]), x (.store 3 (.t 6) (.t 107)), o 7 (.mv (.c (.b true)))]) .ret)))))),
  by kernel_rfl⟩
def k57 : KF Go.Proofs.Try.f57 := ⟨
 .seq (R [o 2 (.mv (.c .nils))]) (.seq (R [m 5 0, o 6 (.len false (.t 5)), o 7 (.mks 1 8 [.i .i64 0] (.t 6) (.t 6)), m 3 7]) (.seq (.seq (R [o 4 (.mv (n 0))]) (.block 0 (.loop (.seq
    (.seq (R [m 8 4, m 9 0, o 10 (.len false (.t 9)), o 11 (.bin .lss (.t 8) (.t 10))]) (.cond (.t 11) .skip (.exit 0))) (.seq (.block 1 (R [m 14 3, m 15 4, m 16 0, m 17 4, o 18
    (.idx 1 (.t 16) (.t 17)), o 19 (.load false 1 (.t 18)), o 20 (.idx 1 (.t 14) (.t 15)), x (.store 1 (.t 20) (.t 19))])) (R [m 12 4, o 13 (.bin .add (.t 12) (n 1)), m 4 13]))))))
    (.seq (R [m 21 3, m 2 21]) .ret))),
  by kernel_rfl⟩
def k58 : KF Go.Proofs.Try.f58 := ⟨
 .seq (R [o 4 (.mv (.c (.b false)))]) (.seq (.seq (R [m 6 0, o 7 (.len false (.t 6)), m 8 1, o 9 (.len false (.t 8)), o 10 (.bin .neq (.t 7) (.t 9))]) (.cond (.t 10) (.seq (R [o 4
    (.mv (.c (.b false)))]) .ret) .skip)) (.seq (.seq (R [o 5 (.mv (n 0))]) (.block 0 (.loop (.seq (.seq (R [m 11 5, m 12 0, o 13 (.len false (.t 12)), o 14 (.bin .lss (.t 11) (.t
    13))]) (.cond (.t 14) .skip (.exit 0))) (.seq (.block 1 (.seq (D [m 17 0, m 18 5, o 19 (.idx 1 (.t 17) (.t 18)), o 20 (.load false 1 (.t 19)), m 21 1, m 22 5, o 23 (.idx 1 (.t
    21) (.t 22)), o 24 (.load false 1 (.t 23)), o 25 (.bin .neq (.t 20) (.t 24))] [[], [], [0, 1], [2], [], [], [4, 5], [6], [3, 7]]) (.cond (.t 25) (.seq (R [o 4 (.mv (.c (.b
    false)))]) .ret) .skip))) (R [m 15 5, o 16 (.bin .add (.t 15) (n 1)), m 5 16])))))) (.seq (R [o 4 (.mv (.c (.b true)))]) .ret))),
  by kernel_rfl⟩
def k59 : KF Go.Proofs.Try.f59 := ⟨
 .seq (R [o 4 (.mv (n 0))]) (.seq (.seq (R [o 5 (.mv (n 0))]) (.block 0 (.loop (.seq (.seq (R [m 6 5, m 7 0, o 8 (.len false (.t 7)), o 9 (.bin .lss (.t 6) (.t 8))]) (.cond (.t 9)
    .skip (.exit 0))) (.seq (.block 1 (.seq (R [m 12 0, m 13 5, m 14 1, o 15 (.idx 1 (.t 12) (.t 13)), x (.store 1 (.t 15) (.t 14))]) (R [m 16 1, o 17 (.bin .add (.t 16) (n 1)), m 1
    17]))) (R [m 10 5, o 11 (.bin .add (.t 10) (n 1)), m 5 11])))))) (.seq (R [m 18 1, m 4 18]) .ret)),
  by kernel_rfl⟩
def k102 : KF Go.Proofs.Try.f102 := ⟨
 .seq (R [o 6 (.mv (.c .nils))]) (.seq (R [m 10 0, m 11 1, o 12 (.slc 4 (.t 10) (some (.t 11)) none none)]) (.seq (R [m 13 2, o 14 (.len false (.t 13)), m 7 14]) (.seq (.seq (R [m
    15 7, o 16 (.bin .eql (.t 15) (n 0))]) (.cond (.t 16) (.seq (R [m 17 0, m 6 17]) .ret) .skip)) (.seq (R [m 18 0, o 19 (.len false (.t 18)), m 8 19]) (.seq (.seq (R [m 20 1, m 21
    8, o 22 (.bin .eql (.t 20) (.t 21))]) (.cond (.t 22) (.seq (R [m 23 0, m 24 2, o 25 (.app 4 56 [.i .i64 0, .s [], .s [], .s []] (.t 23) (.t 24)), m 6 25]) .ret) .skip)) (.seq
    (.seq (R [m 26 8, m 27 7, o 28 (.bin .add (.t 26) (.t 27)), m 29 0, o 30 (.cap (.t 29)), o 31 (.bin .gtr (.t 28) (.t 30))]) (.cond (.t 31) (.seq (R [m 32 0, m 33 1, o 34 (.slc 4
    (.t 32) none (some (.t 33)) none), m 35 8, m 36 7, o 37 (.bin .add (.t 35) (.t 36)), m 38 1, o 39 (.bin .sub (.t 37) (.t 38)), o 40 (.appz 4 56 [.i .i64 0, .s [], .s [], .s []]
    (.t 34) (.t 39)), m 9 40]) (.seq (R [m 41 9, m 42 1, o 43 (.slc 4 (.t 41) (some (.t 42)) none none), m 44 2, o 45 (.cpy 4 (.t 43) (.t 44))]) (.seq (D [m 46 9, m 47 1, m 48 7, o
    49 (.bin .add (.t 47) (.t 48)), o 50 (.slc 4 (.t 46) (some (.t 49)) none none), m 51 0, m 52 1, o 53 (.slc 4 (.t 51) (some (.t 52)) none none), o 54 (.cpy 4 (.t 50) (.t 53))]
    [[], [], [], [1, 2], [0, 3], [], [], [5, 6], [4, 7]]) (.seq (R [m 55 9, m 6 55]) .ret)))) .skip)) (.seq (R [m 56 0, m 57 8, m 58 7, o 59 (.bin .add (.t 57) (.t 58)), o 60 (.slc
    4 (.t 56) none (some (.t 59)) none), m 0 60]) (.seq (.seq (R [m 61 2, m 62 0, m 63 1, m 64 7, o 65 (.bin .add (.t 63) (.t 64)), o 66 (.slc 4 (.t 62) (some (.t 65)) none none), o
    67 (.call (.f 129) [.t 61, .t 66]), o 68 (.un .not (.t 67))]) (.cond (.t 68) (.seq (D [m 69 0, m 70 1, m 71 7, o 72 (.bin .add (.t 70) (.t 71)), o 73 (.slc 4 (.t 69) (some (.t
    72)) none none), m 74 0, m 75 1, o 76 (.slc 4 (.t 74) (some (.t 75)) none none), o 77 (.cpy 4 (.t 73) (.t 76))] [[], [], [], [1, 2], [0, 3], [], [], [5, 6], [4, 7]]) (.seq (R [m
    78 0, m 79 1, o 80 (.slc 4 (.t 78) (some (.t 79)) none none), m 81 2, o 82 (.cpy 4 (.t 80) (.t 81))]) (.seq (R [m 83 0, m 6 83]) .ret))) .skip)) (.seq (R [m 84 0, m 85 8, o 86
    (.slc 4 (.t 84) (some (.t 85)) none none), m 87 2, o 88 (.cpy 4 (.t 86) (.t 87))]) (.seq (R [m 89 0, m 90 1, o 91 (.slc 4 (.t 89) (some (.t 90)) none none), m 92 7, o 93 (.call
    (.f 130) [.t 91, .t 92])]) (.seq (R [m 94 0, m 6 94]) .ret))))))))))),
  by kernel_rfl⟩
end FrA

/-! DkZ -/
open Go Go.AM
namespace FrA
open Go.Proofs
set_option maxRecDepth 100000
set_option linter.unusedSimpArgs false
theorem doO_len (live : List File) (ops : List Dop) (op : Dop) : (doO live ops op).length ≤ ops.length + 1 := by
  unfold doO; split <;> simp
theorem doL_len (live : List File) (ops : List Dop) (op : Dop) : (doL live ops op).length ≤ live.length + 1 := by
  unfold doL; split
  · exact act_len live op
  · omega
theorem h13 (live safe : List File) (ops : List Dop) (op : Dop) (hL : LgD live safe ops) (ha : Lg op.2.1.length) (hb : Lg op.2.2.1.length) (hd : Lg op.2.2.2.length) : HT 13 [disk live safe ops, .agg (opC op)] [] (.b true) true [] := by
  refine holds_of (c := Try.f13.body.getD .skip) (k := k13.1) (ts := [4]) HOk mixedT hintT Try.func13 (by kernel_rfl) (by kernel_rfl) (by kernel_rfl) k13.2 (by kernel_rfl) (le_of 2 _ (by kernel_rfl)) ?_
  have ec : opC op = [.i .i64 op.1, .s op.2.1, .s op.2.2.1, .s op.2.2.2] := rfl
  have d40 := h40 live safe ops 1048576 (by omega) hL.n1 hL.n2 hL.n3 hL.b1 hL.b2 hL.b3
  by_cases hs : szd live safe ops ≤ 1048576
  · obtain ⟨B1, B2, B3⟩ := bds hs
    have d54 := h54 op (1048576 - szd live safe ops) (by omega) ha hb hd
    rw [lefts_yes hs] at d40
    have c1 : ¬ ((1048576 - szd live safe ops : Nat) : Int) < 0 := by omega
    by_cases hs2 : szo op ≤ 1048576 - szd live safe ops
    · have d41 := h41o live safe ops B1.1 B2.1 B3.1
      have d41v := h41 live safe ops B1.1 B2.1 B3.1
      have d42 := h42 live safe ops B1.1 B2.1 B3.1
      have d55 := h55 op
      have hb1 := B1.1
      have hb2 := B2.1
      have hb3 := B3.1
      have hod : op.2.2.2.length ≤ 1000000000 := by unfold szo at hs2; omega
      have d52 := h52 live safe ops 1 none none none True True True (by omega) (by omega)
      rw [lefts_yes hs2] at d54
      have c2 : ¬ ((1048576 - szd live safe ops - szo op : Nat) : Int) < 0 := by omega
      rw [ec] at d54 d55 ⊢
      cases hdk : diskB live safe ops
      · have d47 := h47_no live safe ops op B1 B2 B3 hdk
        have d46 := h46_no live safe ops op B1 B2 B3 hdk
        have s42 := h42n
        have s52 := h52n 1
        have s53 := h53n 1
        rw [ec] at d47 d46
        unfold disk at d40 d41 d41v d42 d46 d47 ⊢
        unfold nilA at s42 s52 s53 d46 d47
        have f0 : ((1 : Int) != 1) = false := rfl
        have f1 : ¬ ((1 + 2 * live.length + 2 * safe.length + 4 * ops.length : Nat) : Int) < 0 := by omega
        have f2 : ¬ ((1 : Nat) : Int) < 0 := by omega
        have f3 : (((1 : Nat) : Int) != ((1 : Nat) : Int)) = false := by simp
        simp -dsimp only [k13, go_sem, ↓reduceIte, Nat.reduceEqDiff, Int.reduceLE, Int.reduceLT, Int.reduceNeg, Int.reduceEq, Nat.reduceMul, Nat.reduceAdd, Nat.reduceLeDiff, reduceCtorEq]
        refine Call_val (own := true) (d40) (by simp [ExpOk, AV.pure]) (.inl rfl) ?_
        simp -dsimp only [c1, go_sem, ↓reduceIte, Nat.reduceEqDiff, Int.reduceLE, Int.reduceLT, Int.reduceNeg, Int.reduceEq, Nat.reduceMul, Nat.reduceAdd, Nat.reduceLeDiff, reduceCtorEq]
        refine Call_val (own := true) (d54) (by simp [ExpOk, AV.pure]) (.inl rfl) ?_
        simp -dsimp only [c2, go_sem, ↓reduceIte, Nat.reduceEqDiff, Int.reduceLE, Int.reduceLT, Int.reduceNeg, Int.reduceEq, Nat.reduceMul, Nat.reduceAdd, Nat.reduceLeDiff, reduceCtorEq]
        refine Call0_val false d41v (by simp [AV.free, AV.pure]) (.inr (by simp [AV.rooted, AV.ref1])) ?_
        simp -dsimp only [go_sem, ↓reduceIte, Nat.reduceEqDiff, Int.reduceLE, Int.reduceLT, Int.reduceNeg, Int.reduceEq, Nat.reduceMul, Nat.reduceAdd, Nat.reduceLeDiff, reduceCtorEq]
        refine Call0_val true (d55) (by simp [AV.free, AV.pure]) (.inl rfl) ?_
        simp -dsimp only [go_sem, ↓reduceIte, Nat.reduceEqDiff, Int.reduceLE, Int.reduceLT, Int.reduceNeg, Int.reduceEq, Nat.reduceMul, Nat.reduceAdd, Nat.reduceLeDiff, reduceCtorEq]
        refine Calln_val true d47 (by simp [ExpOk, AV.pure]) (.inl rfl) ?_
        simp -dsimp only [go_sem, ↓reduceIte, Nat.reduceEqDiff, Int.reduceLE, Int.reduceLT, Int.reduceNeg, Int.reduceEq, Nat.reduceMul, Nat.reduceAdd, Nat.reduceLeDiff, reduceCtorEq]
        intro v0
        refine Call_news (own := true) (d41) (by simp [ExpOk, AV.pure, cur, hup_at, List.idxOf?_cons, List.idxOf?_nil, obM, fl_len, ol_len, fl_pure, ol_pure, mkF_len, mkO_len, objs_l, objs_r, objs_p]) (by simp [obF, obO, fl_pure, ol_pure]) (.inl rfl) (by simp [obF, obO]) ?_
        simp -dsimp only [copyA, impA, impL, Option.getD_some, Nat.sub_self, Nat.sub_zero, obF, obO, go_sem, ↓reduceIte, Nat.reduceEqDiff, Int.reduceLE, Int.reduceLT, Int.reduceNeg, Int.reduceEq, Nat.reduceMul, Nat.reduceAdd, Nat.reduceLeDiff, reduceCtorEq]
        refine Call0_val true (d55) (by simp [AV.free, AV.pure]) (.inl rfl) ?_
        simp -dsimp only [go_sem, ↓reduceIte, Nat.reduceEqDiff, Int.reduceLE, Int.reduceLT, Int.reduceNeg, Int.reduceEq, Nat.reduceMul, Nat.reduceAdd, Nat.reduceLeDiff, reduceCtorEq]
        refine Calln_val (v := .tup [.agg [.nils, .nils, .nils], i64 1]) true (by simpa [expL, expA, cur, hup_at, List.idxOf?_cons, List.idxOf?_nil, obM, subF, subO, subFm, subOm, fl_len, ol_len, mkF_len, mkO_len, objs_l, objs_r, objs_p] using d46) (by simp [ExpOk, AV.pure, cur, hup_at, List.idxOf?_cons, List.idxOf?_nil, obM, fl_len, ol_len, fl_pure, ol_pure, mkF_len, mkO_len, objs_l, objs_r, objs_p]) (.inl rfl) ?_
        simp -dsimp only [go_sem, ↓reduceIte, Nat.reduceEqDiff, Int.reduceLE, Int.reduceLT, Int.reduceNeg, Int.reduceEq, Nat.reduceMul, Nat.reduceAdd, Nat.reduceLeDiff, reduceCtorEq]
        intro v1
        refine Call_val (own := true) (s42) (by simp [ExpOk, AV.pure]) (.inl rfl) ?_
        simp -dsimp only [f0, go_sem, ↓reduceIte, Nat.reduceEqDiff, Int.reduceLE, Int.reduceLT, Int.reduceNeg, Int.reduceEq, Nat.reduceMul, Nat.reduceAdd, Nat.reduceLeDiff, reduceCtorEq]
        refine Call0_val false d41v (by simp [AV.free, AV.pure]) (.inr (by simp [AV.rooted, AV.ref1])) ?_
        simp -dsimp only [go_sem, ↓reduceIte, Nat.reduceEqDiff, Int.reduceLE, Int.reduceLT, Int.reduceNeg, Int.reduceEq, Nat.reduceMul, Nat.reduceAdd, Nat.reduceLeDiff, reduceCtorEq]
        refine Callv_val (v := .b true) true (by simpa [expL, expA, cur, hup_at, List.idxOf?_cons, List.idxOf?_nil, obM, subF, subO, subFm, subOm, fl_len, ol_len, mkF_len, mkO_len, objs_l, objs_r, objs_p] using d42) (by simp [ExpOk, AV.pure, cur, hup_at, List.idxOf?_cons, List.idxOf?_nil, obM, fl_len, ol_len, fl_pure, ol_pure, mkF_len, mkO_len, objs_l, objs_r, objs_p]) (.inl rfl) ?_
        simp -dsimp only [go_sem, ↓reduceIte, Nat.reduceEqDiff, Int.reduceLE, Int.reduceLT, Int.reduceNeg, Int.reduceEq, Nat.reduceMul, Nat.reduceAdd, Nat.reduceLeDiff, reduceCtorEq]
        refine Call_many (own := true) (v := i64 (1 + 2 * live.length + 2 * safe.length + 4 * ops.length : Nat)) [.r 35 0, .r 35 1, .r 35 2] [{ ver := 4, es := fl live, esz := 2 }, { ver := 4, es := fl safe, esz := 2 }, { ver := 4, es := ol ops, esz := 4 }] [obM 2 (fl (mkF 1 live.length)) True, obM 2 (fl (mkF (1 + 2 * live.length) safe.length)) True, obM 4 (ol (mkO (1 + 2 * live.length + 2 * safe.length) ops.length)) True] (by simp [hup_at, objs_l, objs_r, objs_p, obM]) (by simp) (by simpa [expL, expA, cur, hup_at, List.idxOf?_cons, List.idxOf?_nil, obM, subF, subO, subFm, subOm, fl_len, ol_len, mkF_len, mkO_len, objs_l, objs_r, objs_p] using d52) rfl (by simp [ExpOk, AV.pure, cur, hup_at, List.idxOf?_cons, List.idxOf?_nil, obM, fl_len, ol_len, fl_pure, ol_pure, mkF_len, mkO_len, objs_l, objs_r, objs_p]) (by simp [obM, fl_pure, ol_pure]) (by simp [obM, fl_pure, ol_pure]) (.inl rfl) (by simp [obM]) ?_
        simp -dsimp only [obM, f1, go_sem, ↓reduceIte, Nat.reduceEqDiff, Int.reduceLE, Int.reduceLT, Int.reduceNeg, Int.reduceEq, Nat.reduceMul, Nat.reduceAdd, Nat.reduceLeDiff, reduceCtorEq]
        refine Call_val (own := true) (s42) (by simp [ExpOk, AV.pure]) (.inl rfl) ?_
        simp -dsimp only [f0, go_sem, ↓reduceIte, Nat.reduceEqDiff, Int.reduceLE, Int.reduceLT, Int.reduceNeg, Int.reduceEq, Nat.reduceMul, Nat.reduceAdd, Nat.reduceLeDiff, reduceCtorEq]
        refine Call_val (own := true) (s52) (by simp [ExpOk, AV.pure]) (.inl rfl) ?_
        simp -dsimp only [go_sem, ↓reduceIte, Nat.reduceEqDiff, Int.reduceLE, Int.reduceLT, Int.reduceNeg, Int.reduceEq, Nat.reduceMul, Nat.reduceAdd, Nat.reduceLeDiff, reduceCtorEq]
        refine Call_val (own := true) (s53) (by simp [ExpOk, AV.pure]) (.inl rfl) ?_
        simp -dsimp only [f2, f3, go_sem, ↓reduceIte, Nat.reduceEqDiff, Int.reduceLE, Int.reduceLT, Int.reduceNeg, Int.reduceEq, Nat.reduceMul, Nat.reduceAdd, Nat.reduceLeDiff, reduceCtorEq]
        refine Call0_val false d41v (by simp [AV.free, AV.pure]) (.inr (by simp [AV.rooted, AV.ref1])) ?_
        simp -dsimp only [go_sem, ↓reduceIte, Nat.reduceEqDiff, Int.reduceLE, Int.reduceLT, Int.reduceNeg, Int.reduceEq, Nat.reduceMul, Nat.reduceAdd, Nat.reduceLeDiff, reduceCtorEq]
        refine Call0_val true (d55) (by simp [AV.free, AV.pure]) (.inl rfl) ?_
        simp -dsimp only [go_sem, ↓reduceIte, Nat.reduceEqDiff, Int.reduceLE, Int.reduceLT, Int.reduceNeg, Int.reduceEq, Nat.reduceMul, Nat.reduceAdd, Nat.reduceLeDiff, reduceCtorEq]
        refine Calln_val (v := .tup [.agg [.nils, .nils, .nils], i64 1]) true (by simpa [expL, expA, cur, hup_at, List.idxOf?_cons, List.idxOf?_nil, obM, subF, subO, subFm, subOm, fl_len, ol_len, mkF_len, mkO_len, objs_l, objs_r, objs_p] using d46) (by simp [ExpOk, AV.pure, cur, hup_at, List.idxOf?_cons, List.idxOf?_nil, obM, fl_len, ol_len, fl_pure, ol_pure, mkF_len, mkO_len, objs_l, objs_r, objs_p]) (.inl rfl) ?_
        simp -dsimp only [go_sem, ↓reduceIte, Nat.reduceEqDiff, Int.reduceLE, Int.reduceLT, Int.reduceNeg, Int.reduceEq, Nat.reduceMul, Nat.reduceAdd, Nat.reduceLeDiff, reduceCtorEq]
        intro v2
        refine Call_val (own := true) (s42) (by simp [ExpOk, AV.pure]) (.inl rfl) ?_
        simp -dsimp only [f0, go_sem, ↓reduceIte, Nat.reduceEqDiff, Int.reduceLE, Int.reduceLT, Int.reduceNeg, Int.reduceEq, Nat.reduceMul, Nat.reduceAdd, Nat.reduceLeDiff, reduceCtorEq]
        refine Call_val (own := true) (s53) (by simp [ExpOk, AV.pure]) (.inl rfl) ?_
        simp -dsimp only [f2, f3, go_sem, ↓reduceIte, Nat.reduceEqDiff, Int.reduceLE, Int.reduceLT, Int.reduceNeg, Int.reduceEq, Nat.reduceMul, Nat.reduceAdd, Nat.reduceLeDiff, reduceCtorEq]
        exact Fin_val (by simp [resV, upd_at, retA]) (by simp [resV, upd_at, ResOk])
      · have d47 := h47 live safe ops op B1 B2 B3 hod hdk
        have d46 := h46 live safe ops op B1 B2 B3 hod hdk
        obtain ⟨q1, q2, q3⟩ := diskB_ok hdk
        have hl1 := doL_len live ops op
        have hl2 := doO_len live ops op
        have hl0 := q1.1
        obtain ⟨L', hL'⟩ : ∃ l, l = doL live ops op := ⟨_, rfl⟩
        obtain ⟨O', hO'⟩ : ∃ l, l = doO live ops op := ⟨_, rfl⟩
        obtain ⟨c, hc⟩ : ∃ c, c = doC live ops op := ⟨_, rfl⟩
        unfold doV at d47
        unfold doR doOb at d46
        rw [← hL', ← hO', ← hc] at d46 d47
        rw [← hL'] at hl1
        rw [← hO'] at hl2
        have s42 := h42 L' safe O' (by omega) hb2 (by omega)
        have s52 := h52 L' safe O' 1 none none none True True True (by omega) (by omega)
        have s53 := h53 1 L'.length safe.length O'.length (by omega) (by omega)
        rw [ec] at d47 d46
        unfold disk at d40 d41 d41v d42 d46 d47 s42 s53 ⊢
        simp -dsimp only [k13, go_sem, ↓reduceIte, Nat.reduceEqDiff, Int.reduceLE, Int.reduceLT, Int.reduceNeg, Int.reduceEq, Nat.reduceMul, Nat.reduceAdd, Nat.reduceLeDiff, reduceCtorEq]
        refine Call_val (own := true) (d40) (by simp [ExpOk, AV.pure]) (.inl rfl) ?_
        simp -dsimp only [c1, go_sem, ↓reduceIte, Nat.reduceEqDiff, Int.reduceLE, Int.reduceLT, Int.reduceNeg, Int.reduceEq, Nat.reduceMul, Nat.reduceAdd, Nat.reduceLeDiff, reduceCtorEq]
        refine Call_val (own := true) (d54) (by simp [ExpOk, AV.pure]) (.inl rfl) ?_
        simp -dsimp only [c2, go_sem, ↓reduceIte, Nat.reduceEqDiff, Int.reduceLE, Int.reduceLT, Int.reduceNeg, Int.reduceEq, Nat.reduceMul, Nat.reduceAdd, Nat.reduceLeDiff, reduceCtorEq]
        refine Call0_val false d41v (by simp [AV.free, AV.pure]) (.inr (by simp [AV.rooted, AV.ref1])) ?_
        simp -dsimp only [go_sem, ↓reduceIte, Nat.reduceEqDiff, Int.reduceLE, Int.reduceLT, Int.reduceNeg, Int.reduceEq, Nat.reduceMul, Nat.reduceAdd, Nat.reduceLeDiff, reduceCtorEq]
        refine Call0_val true (d55) (by simp [AV.free, AV.pure]) (.inl rfl) ?_
        simp -dsimp only [go_sem, ↓reduceIte, Nat.reduceEqDiff, Int.reduceLE, Int.reduceLT, Int.reduceNeg, Int.reduceEq, Nat.reduceMul, Nat.reduceAdd, Nat.reduceLeDiff, reduceCtorEq]
        refine Calln_val false d47 (by simp [ExpOk, AV.pure]) (.inr (by simp [AV.rooted, AV.ref1])) ?_
        simp -dsimp only [go_sem, ↓reduceIte, Nat.reduceEqDiff, Int.reduceLE, Int.reduceLT, Int.reduceNeg, Int.reduceEq, Nat.reduceMul, Nat.reduceAdd, Nat.reduceLeDiff, reduceCtorEq]
        intro v0
        refine Call_news (own := true) (d41) (by simp [ExpOk, AV.pure, cur, hup_at, List.idxOf?_cons, List.idxOf?_nil, obM, fl_len, ol_len, fl_pure, ol_pure, mkF_len, mkO_len, objs_l, objs_r, objs_p]) (by simp [obF, obO, fl_pure, ol_pure]) (.inl rfl) (by simp [obF, obO]) ?_
        simp -dsimp only [copyA, impA, impL, Option.getD_some, Nat.sub_self, Nat.sub_zero, obF, obO, go_sem, ↓reduceIte, Nat.reduceEqDiff, Int.reduceLE, Int.reduceLT, Int.reduceNeg, Int.reduceEq, Nat.reduceMul, Nat.reduceAdd, Nat.reduceLeDiff, reduceCtorEq]
        refine Call0_val true (d55) (by simp [AV.free, AV.pure]) (.inl rfl) ?_
        simp -dsimp only [go_sem, ↓reduceIte, Nat.reduceEqDiff, Int.reduceLE, Int.reduceLT, Int.reduceNeg, Int.reduceEq, Nat.reduceMul, Nat.reduceAdd, Nat.reduceLeDiff, reduceCtorEq]
        refine Calln_of true (by simpa [expL, expA, cur, hup_at, List.idxOf?_cons, List.idxOf?_nil, obM, subF, subO, subFm, subOm, fl_len, ol_len, mkF_len, mkO_len, objs_l, objs_r, objs_p] using d46) (by simp [ExpOk, AV.pure, cur, hup_at, List.idxOf?_cons, List.idxOf?_nil, obM, fl_len, ol_len, fl_pure, ol_pure, mkF_len, mkO_len, objs_l, objs_r, objs_p]) (by simp [obF, obO, fl_pure, ol_pure]) (by simp [obF, obO]) (.inl rfl) (by intro j hj; simp [hup_at, newObs, objs_r, objs_l]) fun ν => ?_
        have f0 : (c != c) = false := by simp
        have f1 : ¬ ((1 + 2 * live.length + 2 * safe.length + 4 * ops.length : Nat) : Int) < 0 := by omega
        have f2 : ¬ ((1 + 2 * L'.length + 2 * safe.length + 4 * O'.length : Nat) : Int) < 0 := by omega
        have f3 : (((1 + 2 * L'.length + 2 * safe.length + 4 * O'.length : Nat) : Int) != ((1 + 2 * L'.length + 2 * safe.length + 4 * O'.length : Nat) : Int)) = false := by simp
        simp -dsimp only [copyA, impA, impL, Option.getD_some, Nat.sub_self, Nat.sub_zero, obF, obO, go_sem, ↓reduceIte, Nat.reduceEqDiff, Int.reduceLE, Int.reduceLT, Int.reduceNeg, Int.reduceEq, Nat.reduceMul, Nat.reduceAdd, Nat.reduceLeDiff, reduceCtorEq]
        intro v1
        refine Call_val (own := true) (v := .b true) (by simpa [expL, expA, cur, hup_at, List.idxOf?_cons, List.idxOf?_nil, obM, subF, subO, subFm, subOm, fl_len, ol_len, mkF_len, mkO_len, objs_l, objs_r, objs_p] using s42) (by simp [ExpOk, AV.pure, cur, hup_at, List.idxOf?_cons, List.idxOf?_nil, obM, fl_len, ol_len, fl_pure, ol_pure, mkF_len, mkO_len, objs_l, objs_r, objs_p]) (.inl rfl) ?_
        simp -dsimp only [f0, go_sem, ↓reduceIte, Nat.reduceEqDiff, Int.reduceLE, Int.reduceLT, Int.reduceNeg, Int.reduceEq, Nat.reduceMul, Nat.reduceAdd, Nat.reduceLeDiff, reduceCtorEq]
        refine Call0_val false d41v (by simp [AV.free, AV.pure]) (.inr (by simp [AV.rooted, AV.ref1])) ?_
        simp -dsimp only [go_sem, ↓reduceIte, Nat.reduceEqDiff, Int.reduceLE, Int.reduceLT, Int.reduceNeg, Int.reduceEq, Nat.reduceMul, Nat.reduceAdd, Nat.reduceLeDiff, reduceCtorEq]
        refine Callv_val (v := .b true) true (by simpa [expL, expA, cur, hup_at, List.idxOf?_cons, List.idxOf?_nil, obM, subF, subO, subFm, subOm, fl_len, ol_len, mkF_len, mkO_len, objs_l, objs_r, objs_p] using d42) (by simp [ExpOk, AV.pure, cur, hup_at, List.idxOf?_cons, List.idxOf?_nil, obM, fl_len, ol_len, fl_pure, ol_pure, mkF_len, mkO_len, objs_l, objs_r, objs_p]) (.inl rfl) ?_
        simp -dsimp only [go_sem, ↓reduceIte, Nat.reduceEqDiff, Int.reduceLE, Int.reduceLT, Int.reduceNeg, Int.reduceEq, Nat.reduceMul, Nat.reduceAdd, Nat.reduceLeDiff, reduceCtorEq]
        refine Call_many (own := true) (v := i64 (1 + 2 * live.length + 2 * safe.length + 4 * ops.length : Nat)) [.r 35 0, .r 35 1, .r 35 2] [{ ver := 4, es := fl live, esz := 2 }, { ver := 4, es := fl safe, esz := 2 }, { ver := 4, es := ol ops, esz := 4 }] [obM 2 (fl (mkF 1 live.length)) True, obM 2 (fl (mkF (1 + 2 * live.length) safe.length)) True, obM 4 (ol (mkO (1 + 2 * live.length + 2 * safe.length) ops.length)) True] (by simp [hup_at, objs_l, objs_r, objs_p, obM]) (by simp) (by simpa [expL, expA, cur, hup_at, List.idxOf?_cons, List.idxOf?_nil, obM, subF, subO, subFm, subOm, fl_len, ol_len, mkF_len, mkO_len, objs_l, objs_r, objs_p] using d52) rfl (by simp [ExpOk, AV.pure, cur, hup_at, List.idxOf?_cons, List.idxOf?_nil, obM, fl_len, ol_len, fl_pure, ol_pure, mkF_len, mkO_len, objs_l, objs_r, objs_p]) (by simp [obM, fl_pure, ol_pure]) (by simp [obM, fl_pure, ol_pure]) (.inl rfl) (by simp [obM]) ?_
        simp -dsimp only [obM, f1, go_sem, ↓reduceIte, Nat.reduceEqDiff, Int.reduceLE, Int.reduceLT, Int.reduceNeg, Int.reduceEq, Nat.reduceMul, Nat.reduceAdd, Nat.reduceLeDiff, reduceCtorEq]
        refine Call_val (own := true) (v := .b true) (by simpa [expL, expA, cur, hup_at, List.idxOf?_cons, List.idxOf?_nil, obM, subF, subO, subFm, subOm, fl_len, ol_len, mkF_len, mkO_len, objs_l, objs_r, objs_p] using s42) (by simp [ExpOk, AV.pure, cur, hup_at, List.idxOf?_cons, List.idxOf?_nil, obM, fl_len, ol_len, fl_pure, ol_pure, mkF_len, mkO_len, objs_l, objs_r, objs_p]) (.inl rfl) ?_
        simp -dsimp only [f0, go_sem, ↓reduceIte, Nat.reduceEqDiff, Int.reduceLE, Int.reduceLT, Int.reduceNeg, Int.reduceEq, Nat.reduceMul, Nat.reduceAdd, Nat.reduceLeDiff, reduceCtorEq]
        refine Call_many (own := true) (v := i64 (1 + 2 * L'.length + 2 * safe.length + 4 * O'.length : Nat)) [.r 40 0, .r 40 1, .r 40 2] [{ ver := ν, es := fl L', esz := 2 }, { ver := ν, es := fl safe, esz := 2 }, { ver := ν, es := ol O', esz := 4 }] [obM 2 (fl (mkF 1 L'.length)) True, obM 2 (fl (mkF (1 + 2 * L'.length) safe.length)) True, obM 4 (ol (mkO (1 + 2 * L'.length + 2 * safe.length) O'.length)) True] (by simp [hup_at, objs_l, objs_r, objs_p, obM]) (by simp) (by simpa [expL, expA, cur, hup_at, List.idxOf?_cons, List.idxOf?_nil, obM, subF, subO, subFm, subOm, fl_len, ol_len, mkF_len, mkO_len, objs_l, objs_r, objs_p] using s52) rfl (by simp [ExpOk, AV.pure, cur, hup_at, List.idxOf?_cons, List.idxOf?_nil, obM, fl_len, ol_len, fl_pure, ol_pure, mkF_len, mkO_len, objs_l, objs_r, objs_p]) (by simp [obM, fl_pure, ol_pure]) (by simp [obM, fl_pure, ol_pure]) (.inl rfl) (by simp [obM]) ?_
        simp -dsimp only [obM, go_sem, ↓reduceIte, Nat.reduceEqDiff, Int.reduceLE, Int.reduceLT, Int.reduceNeg, Int.reduceEq, Nat.reduceMul, Nat.reduceAdd, Nat.reduceLeDiff, reduceCtorEq]
        refine Call_val (own := true) (v := i64 (1 + 2 * L'.length + 2 * safe.length + 4 * O'.length : Nat)) (by simpa [expL, expA, cur, hup_at, List.idxOf?_cons, List.idxOf?_nil, obM, subF, subO, subFm, subOm, fl_len, ol_len, mkF_len, mkO_len, objs_l, objs_r, objs_p] using s53) (by simp [ExpOk, AV.pure, cur, hup_at, List.idxOf?_cons, List.idxOf?_nil, obM, fl_len, ol_len, fl_pure, ol_pure, mkF_len, mkO_len, objs_l, objs_r, objs_p]) (.inl rfl) ?_
        simp -dsimp only [f2, f3, go_sem, ↓reduceIte, Nat.reduceEqDiff, Int.reduceLE, Int.reduceLT, Int.reduceNeg, Int.reduceEq, Nat.reduceMul, Nat.reduceAdd, Nat.reduceLeDiff, reduceCtorEq]
        refine Call0_val false d41v (by simp [AV.free, AV.pure]) (.inr (by simp [AV.rooted, AV.ref1])) ?_
        simp -dsimp only [go_sem, ↓reduceIte, Nat.reduceEqDiff, Int.reduceLE, Int.reduceLT, Int.reduceNeg, Int.reduceEq, Nat.reduceMul, Nat.reduceAdd, Nat.reduceLeDiff, reduceCtorEq]
        refine Call0_val true (d55) (by simp [AV.free, AV.pure]) (.inl rfl) ?_
        simp -dsimp only [go_sem, ↓reduceIte, Nat.reduceEqDiff, Int.reduceLE, Int.reduceLT, Int.reduceNeg, Int.reduceEq, Nat.reduceMul, Nat.reduceAdd, Nat.reduceLeDiff, reduceCtorEq]
        refine Calln_of true (by simpa [expL, expA, cur, hup_at, List.idxOf?_cons, List.idxOf?_nil, obM, subF, subO, subFm, subOm, fl_len, ol_len, mkF_len, mkO_len, objs_l, objs_r, objs_p] using d46) (by simp [ExpOk, AV.pure, cur, hup_at, List.idxOf?_cons, List.idxOf?_nil, obM, fl_len, ol_len, fl_pure, ol_pure, mkF_len, mkO_len, objs_l, objs_r, objs_p]) (by simp [obF, obO, fl_pure, ol_pure]) (by simp [obF, obO]) (.inl rfl) (by intro j hj; simp [hup_at, newObs, objs_r, objs_l]) fun ν => ?_
        simp -dsimp only [copyA, impA, impL, Option.getD_some, Nat.sub_self, Nat.sub_zero, obF, obO, go_sem, ↓reduceIte, Nat.reduceEqDiff, Int.reduceLE, Int.reduceLT, Int.reduceNeg, Int.reduceEq, Nat.reduceMul, Nat.reduceAdd, Nat.reduceLeDiff, reduceCtorEq]
        intro v2
        refine Call_val (own := true) (v := .b true) (by simpa [expL, expA, cur, hup_at, List.idxOf?_cons, List.idxOf?_nil, obM, subF, subO, subFm, subOm, fl_len, ol_len, mkF_len, mkO_len, objs_l, objs_r, objs_p] using s42) (by simp [ExpOk, AV.pure, cur, hup_at, List.idxOf?_cons, List.idxOf?_nil, obM, fl_len, ol_len, fl_pure, ol_pure, mkF_len, mkO_len, objs_l, objs_r, objs_p]) (.inl rfl) ?_
        simp -dsimp only [f0, go_sem, ↓reduceIte, Nat.reduceEqDiff, Int.reduceLE, Int.reduceLT, Int.reduceNeg, Int.reduceEq, Nat.reduceMul, Nat.reduceAdd, Nat.reduceLeDiff, reduceCtorEq]
        refine Call_val (own := true) (v := i64 (1 + 2 * L'.length + 2 * safe.length + 4 * O'.length : Nat)) (by simpa [expL, expA, cur, hup_at, List.idxOf?_cons, List.idxOf?_nil, obM, subF, subO, subFm, subOm, fl_len, ol_len, mkF_len, mkO_len, objs_l, objs_r, objs_p] using s53) (by simp [ExpOk, AV.pure, cur, hup_at, List.idxOf?_cons, List.idxOf?_nil, obM, fl_len, ol_len, fl_pure, ol_pure, mkF_len, mkO_len, objs_l, objs_r, objs_p]) (.inl rfl) ?_
        simp -dsimp only [f2, f3, go_sem, ↓reduceIte, Nat.reduceEqDiff, Int.reduceLE, Int.reduceLT, Int.reduceNeg, Int.reduceEq, Nat.reduceMul, Nat.reduceAdd, Nat.reduceLeDiff, reduceCtorEq]
        exact Fin_val (by simp [resV, upd_at, retA]) (by simp [resV, upd_at, ResOk])
    · rw [lefts_no hs2] at d54
      rw [ec] at d54 ⊢
      unfold disk at d40 ⊢
      simp -dsimp only [k13, go_sem, ↓reduceIte, Nat.reduceEqDiff, Int.reduceLE, Int.reduceLT, Int.reduceNeg, Int.reduceEq, Nat.reduceMul, Nat.reduceAdd, Nat.reduceLeDiff, reduceCtorEq]
      refine Call_val (own := true) (d40) (by simp [ExpOk, AV.pure]) (.inl rfl) ?_
      simp -dsimp only [c1, go_sem, ↓reduceIte, Nat.reduceEqDiff, Int.reduceLE, Int.reduceLT, Int.reduceNeg, Int.reduceEq, Nat.reduceMul, Nat.reduceAdd, Nat.reduceLeDiff, reduceCtorEq]
      refine Call_val (own := true) (d54) (by simp [ExpOk, AV.pure]) (.inl rfl) ?_
      simp -dsimp only [neg1, go_sem, ↓reduceIte, Nat.reduceEqDiff, Int.reduceLE, Int.reduceLT, Int.reduceNeg, Int.reduceEq, Nat.reduceMul, Nat.reduceAdd, Nat.reduceLeDiff, reduceCtorEq]
      exact Fin_val (by simp [resV, upd_at, retA]) (by simp [resV, upd_at, ResOk])
  · unfold disk at d40 ⊢
    rw [lefts_no hs] at d40
    rw [ec]
    simp -dsimp only [k13, go_sem, ↓reduceIte, Nat.reduceEqDiff, Int.reduceLE, Int.reduceLT, Int.reduceNeg, Int.reduceEq, Nat.reduceMul, Nat.reduceAdd, Nat.reduceLeDiff, reduceCtorEq]
    refine Call_val (own := true) (d40) (by simp [ExpOk, AV.pure]) (.inl rfl) ?_
    simp -dsimp only [neg1, go_sem, ↓reduceIte, Nat.reduceEqDiff, Int.reduceLE, Int.reduceLT, Int.reduceNeg, Int.reduceEq, Nat.reduceMul, Nat.reduceAdd, Nat.reduceLeDiff, reduceCtorEq]
    exact Fin_val (by simp [resV, upd_at, retA]) (by simp [resV, upd_at, ResOk])
end FrA

