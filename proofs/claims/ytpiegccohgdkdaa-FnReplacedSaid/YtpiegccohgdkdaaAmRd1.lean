/- The programs of some functions. No condition. -/
import Derived.Test.YtpiegccohgdkdaaProg
import Derived.Test.YtpiegccohgdkdaaAmFuns
import Derived.Test.YtpiegccohgdkdaaAmSeat
import Derived.Test.YtpiegccohgdkdaaAmDk1
import Derived.Test.YtpiegccohgdkdaaAmDk3
set_option linter.all false
set_option linter.unusedSimpArgs false
set_option linter.unusedVariables false
set_option linter.deprecated false
/-! KsJ -/
open Go Go.AM
namespace FrA
open Go.AM.L
set_option maxRecDepth 100000
def k10 : KF Go.Proofs.Try.f10 := ⟨
 .seq (R [o 2 (.mv (.c (.b false)))]) (.seq (.seq (R [m 15 0, o 16 (.call (.f 23) [.t 15])]) (.cond (.t 16) (.seq (R [o 2 (.mv (.c (.b true)))]) .ret) .skip)) (.seq (R [m 18 0, o 19
    (.call (.f 45) [.t 18]), m 17 19, o 20 (.ext (.t 17) 0), o 21 (.ext (.t 17) 1), o 3 (.alloc [.nils, .nils, .nils]), o 4 (.alloc [.i .i64 0, .s [], .s [], .s []]), x (.store 3
    (.t 3) (.t 20)), x (.store 4 (.t 4) (.t 21))]) (.seq (R [o 23 (.load true 3 (.t 3)), o 24 (.load true 4 (.t 4)), o 25 (.call (.f 46) [.t 23, .t 24]), m 22 25, o 26 (.ext (.t 22)
    0), o 27 (.ext (.t 22) 1), o 5 (.alloc [.nils, .nils, .nils]), x (.store 3 (.t 5) (.t 26)), m 6 27]) (.seq (R [o 29 (.load true 3 (.t 3)), o 30 (.load true 4 (.t 4)), o 31
    (.call (.f 47) [.t 29, .t 30]), m 28 31, o 32 (.ext (.t 28) 0), o 33 (.ext (.t 28) 1), o 7 (.alloc [.nils, .nils, .nils]), x (.store 3 (.t 7) (.t 32)), m 8 33]) (.seq (.seq (R
    [m 34 6, m 35 8, o 36 (.bin .neq (.t 34) (.t 35)), m 37 36, q 38 37 false (.load true 3 (.t 3)), q 39 37 false (.call (.f 36) [.t 38]), q 40 37 false (.un .not (.t 39)), o 41
    (.pick (.t 37) (.c (.b true)) (.t 40))]) (.cond (.t 41) (.seq (R [m 42 6, m 43 8, o 44 (.bin .eql (.t 42) (.t 43)), m 2 44]) .ret) .skip)) (.seq (.seq (R [m 45 6, o 46 (.bin
    .neq (.t 45) (n 0))]) (.cond (.t 46) (.seq (R [o 47 (.fld 0 (.t 5)), o 48 (.load false 1 (.t 47)), o 49 (.fld 0 (.t 3)), o 50 (.load false 1 (.t 49)), o 51 (.call (.f 39) [.t
    48, .t 50]), m 52 51, q 53 52 true (.fld 1 (.t 5)), q 54 52 true (.load false 1 (.t 53)), q 55 52 true (.fld 1 (.t 3)), q 56 52 true (.load false 1 (.t 55)), q 57 52 true (.call
    (.f 39) [.t 54, .t 56]), o 58 (.pick (.t 52) (.t 57) (.c (.b false))), m 59 58, q 60 59 true (.fld 2 (.t 5)), q 61 59 true (.load false 1 (.t 60)), q 62 59 true (.len false (.t
    61)), q 63 59 true (.fld 2 (.t 3)), q 64 59 true (.load false 1 (.t 63)), q 65 59 true (.len false (.t 64)), q 66 59 true (.bin .eql (.t 62) (.t 65)), o 67 (.pick (.t 59) (.t
    66) (.c (.b false))), m 2 67]) .ret) .skip)) (.seq (R [o 69 (.load true 3 (.t 5)), o 70 (.fld 1 (.t 4)), o 71 (.load false 1 (.t 70)), o 72 (.call (.f 44) [.t 69, .t 71]), m 68
    72, o 73 (.ext (.t 68) 0), o 74 (.ext (.t 68) 1), m 9 73, m 10 74]) (.seq (R [o 76 (.load true 3 (.t 3)), o 77 (.fld 1 (.t 4)), o 78 (.load false 1 (.t 77)), o 79 (.call (.f 44)
    [.t 76, .t 78]), m 75 79, o 80 (.ext (.t 75) 0), o 81 (.ext (.t 75) 1), m 11 80, m 12 81]) (.seq (.seq (R [o 82 (.fld 0 (.t 4)), o 83 (.load false 1 (.t 82))]) (.block 0 (.seq
    (R [o 85 (.bin .eql (.t 83) (n 1)), m 84 85]) (.cond (.t 84) (.seq (R [m 86 10, o 87 (.un .not (.t 86)), m 88 87, q 89 88 false (.mv (.t 9)), q 90 88 false (.mv (.t 11)), q 91
    88 false (.fld 3 (.t 4)), q 92 88 false (.load false 1 (.t 91)), q 93 88 false (.bin .add (.t 90) (.t 92)), q 94 88 false (.bin .neq (.t 89) (.t 93)), o 95 (.pick (.t 88) (.c
    (.b true)) (.t 94))]) (.cond (.t 95) (.seq (R [o 2 (.mv (.c (.b false)))]) .ret) .skip)) (.seq (R [o 97 (.bin .eql (.t 83) (n 2)), m 96 97]) (.cond (.t 96) (.seq (R [o 99 (.load
    true 3 (.t 5)), o 100 (.fld 2 (.t 4)), o 101 (.load false 1 (.t 100)), o 102 (.call (.f 44) [.t 99, .t 101]), m 98 102, o 103 (.ext (.t 98) 0), o 104 (.ext (.t 98) 1), m 13 103,
    m 14 104]) (.seq (R [m 105 14, o 106 (.un .not (.t 105)), m 107 106, q 108 107 false (.mv (.t 13)), q 109 107 false (.mv (.t 11)), q 110 107 false (.bin .neq (.t 108) (.t 109)),
    o 111 (.pick (.t 107) (.c (.b true)) (.t 110)), m 112 111, q 113 112 false (.mv (.t 10)), q 114 112 false (.fld 2 (.t 4)), q 115 112 false (.load false 1 (.t 114)), q 116 112
    false (.fld 1 (.t 4)), q 117 112 false (.load false 1 (.t 116)), q 118 112 false (.bin .eql (.t 115) (.t 117)), q 119 112 false (.eqt .bool true (.t 113) (.t 118)), o 120 (.pick
    (.t 112) (.c (.b true)) (.t 119))]) (.cond (.t 120) (.seq (R [o 2 (.mv (.c (.b false)))]) .ret) .skip))) (.seq (R [o 122 (.bin .eql (.t 83) (n 3)), m 121 122]) (.cond (.t 121)
    (.seq (R [m 123 10]) (.cond (.t 123) (.seq (R [o 2 (.mv (.c (.b false)))]) .ret) .skip)) .skip)))))))) (.seq (R [o 124 (.load true 3 (.t 5)), o 125 (.call (.f 35) [.t 124]), m
    126 125, q 127 126 true (.fld 1 (.t 5)), q 128 126 true (.load false 1 (.t 127)), q 129 126 true (.fld 1 (.t 3)), q 130 126 true (.load false 1 (.t 129)), q 131 126 true (.call
    (.f 39) [.t 128, .t 130]), o 132 (.pick (.t 126) (.t 131) (.c (.b false))), m 133 132, q 134 133 true (.fld 2 (.t 5)), q 135 133 true (.load false 1 (.t 134)), q 136 133 true
    (.len false (.t 135)), q 137 133 true (.fld 2 (.t 3)), q 138 133 true (.load false 1 (.t 137)), q 139 133 true (.len false (.t 138)), q 140 133 true (.bin .add (.t 139) (n 1)),
    q 141 133 true (.bin .eql (.t 136) (.t 140)), o 142 (.pick (.t 133) (.t 141) (.c (.b false))), m 2 142]) .ret)))))))))),
  by kernel_rfl⟩
def k11 : KF Go.Proofs.Try.f11 := ⟨
 .seq (R [o 2 (.mv (.c (.b false)))]) (.seq (.seq (R [m 22 0, o 23 (.call (.f 23) [.t 22])]) (.cond (.t 23) (.seq (R [o 2 (.mv (.c (.b true)))]) .ret) .skip)) (.seq (R [m 25 0, o 26
    (.call (.f 48) [.t 25]), m 24 26, o 27 (.ext (.t 24) 0), o 28 (.ext (.t 24) 1), o 29 (.ext (.t 24) 2), o 3 (.alloc [.nils, .nils, .nils]), x (.store 3 (.t 3) (.t 27)), m 4 28, m
    5 29]) (.seq (R [o 30 (.load true 3 (.t 3)), o 31 (.call (.f 38) [.t 30]), x (.store 3 (.t 3) (.t 31))]) (.seq (R [o 33 (.load true 3 (.t 3)), m 34 4, m 35 5, o 36 (.call (.f
    49) [.t 33, .t 34, .t 35]), m 32 36, o 37 (.ext (.t 32) 0), o 38 (.ext (.t 32) 1), o 6 (.alloc [.nils, .nils, .nils]), x (.store 3 (.t 6) (.t 37)), m 7 38]) (.seq (R [o 40
    (.load true 3 (.t 3)), m 41 4, m 42 5, o 43 (.call (.f 50) [.t 40, .t 41, .t 42]), m 39 43, o 44 (.ext (.t 39) 0), o 45 (.ext (.t 39) 1), o 8 (.alloc [.nils, .nils, .nils]), x
    (.store 3 (.t 8) (.t 44)), m 9 45]) (.seq (.seq (R [m 46 7, m 47 9, o 48 (.bin .neq (.t 46) (.t 47)), m 49 48, q 50 49 false (.mv (.t 7)), q 51 49 false (.bin .neq (.t 50) (n
    0)), o 52 (.pick (.t 49) (.c (.b true)) (.t 51))]) (.cond (.t 52) (.seq (R [m 53 7, m 54 9, o 55 (.bin .eql (.t 53) (.t 54)), m 2 55]) .ret) .skip)) (.seq (.seq (R [o 57 (.load
    true 3 (.t 3)), m 58 4, o 59 (.bin .add (.t 58) (.c (.s [46, 110, 101, 119]))), o 60 (.call (.f 44) [.t 57, .t 59]), m 56 60, o 61 (.ext (.t 56) 0), o 62 (.ext (.t 56) 1), m 10
    61, m 11 62]) (.seq (R [m 63 11]) (.cond (.t 63) (.seq (R [o 2 (.mv (.c (.b true)))]) .ret) .skip))) (.seq (R [o 65 (.load true 3 (.t 3)), m 66 4, o 67 (.call (.f 44) [.t 65, .t
    66]), m 64 67, o 68 (.ext (.t 64) 0), o 69 (.ext (.t 64) 1), m 12 68, m 13 69]) (.seq (R [o 70 (.bslice 1 0 [.i .i64 0] []), m 14 70]) (.seq (.seq (R [o 15 (.mv (n 0))]) (.block
    0 (.loop (.seq (.seq (R [m 71 15, o 72 (.fld 2 (.t 6)), o 73 (.load false 1 (.t 72)), o 74 (.len false (.t 73)), o 75 (.bin .lss (.t 71) (.t 74))]) (.cond (.t 75) .skip (.exit
    0))) (.seq (.block 1 (.seq (R [m 78 0, o 79 (.len false (.t 78)), o 80 (.bin .gtr (.t 79) (n 0)), m 81 80, q 82 81 true (.mv (.t 0)), q 83 81 true (.mv (.t 15)), q 84 81 true
    (.mv (.t 0)), q 85 81 true (.len false (.t 84)), q 86 81 true (.bin .rem (.t 83) (.t 85)), q 87 81 true (.idx 1 (.t 82) (.t 86)), q 88 81 true (.load false 1 (.t 87)), q 89 81
    true (.mv (.t 15)), q 90 81 true (.bin .rem (.t 89) (n 8)), q 91 81 true (.conv (.int .u64) (.t 90)), q 92 81 true (.bin .shr (.t 88) (.t 91)), q 93 81 true (.bin .rem (.t 92)
    (.c (.i .u8 2))), q 94 81 true (.bin .eql (.t 93) (.c (.i .u8 1))), o 95 (.pick (.t 81) (.t 94) (.c (.b false)))]) (.cond (.t 95) (R [m 96 14, m 97 15, o 98 (.bslice 1 1 [.i
    .i64 0] [(0, .t 97)]), o 99 (.app 1 8 [.i .i64 0] (.t 96) (.t 98)), m 14 99]) .skip))) (R [m 76 15, o 77 (.bin .add (.t 76) (n 1)), m 15 77])))))) (.seq (R [o 101 (.load true 3
    (.t 6)), m 102 14, m 103 0, o 104 (.len false (.t 103)), o 105 (.bin .rem (.t 104) (n 4)), o 106 (.call (.f 37) [.t 101, .t 102, .t 105]), m 100 106, o 107 (.ext (.t 100) 0), o
    108 (.ext (.t 100) 1), o 16 (.alloc [.nils, .nils, .nils]), x (.store 3 (.t 16) (.t 107)), m 17 108]) (.seq (R [o 110 (.load true 3 (.t 16)), m 111 4, o 112 (.call (.f 44) [.t
    110, .t 111]), m 109 112, o 113 (.ext (.t 109) 0), o 114 (.ext (.t 109) 1), m 18 113, m 19 114]) (.seq (R [o 116 (.load true 3 (.t 6)), m 117 4, o 118 (.call (.f 44) [.t 116, .t
    117]), m 115 118, o 119 (.ext (.t 115) 0), o 120 (.ext (.t 115) 1), m 20 119, m 21 120]) (.seq (R [m 121 17, m 122 121, q 123 122 true (.mv (.t 21)), o 124 (.pick (.t 122) (.t
    123) (.c (.b false))), m 125 124, q 126 125 true (.mv (.t 20)), q 127 125 true (.mv (.t 5)), q 128 125 true (.bin .eql (.t 126) (.t 127)), o 129 (.pick (.t 125) (.t 128) (.c (.b
    false))), m 130 129, q 131 130 true (.mv (.t 19)), q 132 130 true (.mv (.t 13)), q 133 130 true (.eqt .bool false (.t 131) (.t 132)), q 134 130 true (.mv (.t 133)), q 135 134
    true (.mv (.t 18)), q 136 134 true (.mv (.t 12)), q 137 134 true (.bin .eql (.t 135) (.t 136)), q 138 130 true (.pick (.t 134) (.t 137) (.c (.b false))), q 139 130 true (.mv (.t
    138)), q 140 139 false (.mv (.t 19)), q 141 139 false (.mv (.t 140)), q 142 141 true (.mv (.t 18)), q 143 141 true (.mv (.t 5)), q 144 141 true (.bin .eql (.t 142) (.t 143)), q
    145 139 false (.pick (.t 141) (.t 144) (.c (.b false))), q 146 130 true (.pick (.t 139) (.c (.b true)) (.t 145)), o 147 (.pick (.t 130) (.t 146) (.c (.b false))), m 2 147])
    .ret)))))))))))))),
  by kernel_rfl⟩
def k23 : KF Go.Proofs.Try.f23 := ⟨
 .seq (R [o 2 (.mv (.c (.b false)))]) (.seq (R [m 3 0, o 4 (.len false (.t 3)), o 5 (.bin .gtr (.t 4) (n 1048576)), m 2 5]) .ret),
  by kernel_rfl⟩
def k45 : KF Go.Proofs.Try.f45 := ⟨
 .seq (R [o 2 (.alloc [.nils, .nils, .nils]), o 3 (.alloc [.i .i64 0, .s [], .s [], .s []])]) (.seq (R [m 10 0, o 11 (.call (.f 64) [.t 10]), m 4 11]) (.seq (R [m 12 4, o 13 (.call
    (.f 77) [.t 12]), o 5 (.alloc [.nils, .nils, .nils]), x (.store 3 (.t 5) (.t 13))]) (.seq (R [m 14 4, o 15 (.call (.f 97) [.t 14]), o 6 (.alloc [.i .i64 0, .s [], .s [], .s
    []]), x (.store 4 (.t 6) (.t 15))]) (.seq (.seq (R [m 16 4, o 17 (.call (.f 65) [.t 16, n 20])]) (.block 0 (.seq (R [o 19 (.bin .eql (.t 17) (n 0)), m 18 19]) (.cond (.t 18) (R
    [m 20 4, o 21 (.call (.f 98) [.t 20, n 1, n 3]), o 22 (.fld 0 (.t 6)), x (.store 1 (.t 22) (.t 21))]) (.seq (R [o 24 (.bin .eql (.t 17) (n 1)), m 23 24]) (.cond (.t 23) (R [o 25
    (.fld 1 (.t 6)), x (.store 1 (.t 25) (.c (.s [])))]) (.seq (R [o 27 (.bin .eql (.t 17) (n 2)), m 26 27]) (.cond (.t 26) (R [o 28 (.fld 2 (.t 6)), x (.store 1 (.t 28) (.c (.s
    [120])))]) (.seq (R [o 30 (.bin .eql (.t 17) (n 3)), m 29 30]) (.cond (.t 29) (.seq (R [o 7 (.mv (n 0))]) (.block 1 (.loop (.seq (.seq (D [m 31 7, o 32 (.bin .lss (.t 31) (n
    200)), m 33 32, q 34 33 true (.fld 2 (.t 5)), q 35 33 true (.ldl 0 false 1 (.t 34)), q 36 33 true (.len false (.t 35)), q 37 33 true (.mv (.t 4)), q 38 33 true (.callh (.f 65)
    [.t 37, n 2]), q 39 33 true (.bin .add (n 199) (.t 38)), q 40 33 true (.bin .lss (.t 36) (.t 39)), o 41 (.pick (.t 33) (.t 40) (.c (.b false)))] [[], [0], [1], [2], [3, 2], [4,
    2], [2], [6, 2, 2], [7, 2], [5, 8, 2], [2, 9]]) (.cond (.t 41) .skip (.exit 1))) (.seq (.block 2 (.seq (R [o 45 (.load true 3 (.t 5)), o 46 (.build [.i .i64 0, .s [], .s [], .s
    []] [(0, 1, n 1), (1, 1, .c (.s [98]))]), o 47 (.call (.f 47) [.t 45, .t 46]), m 44 47, o 48 (.ext (.t 44) 0), o 49 (.ext (.t 44) 1), o 8 (.alloc [.nils, .nils, .nils]), x
    (.store 3 (.t 8) (.t 48)), m 9 49]) (.seq (R [m 50 9, o 51 (.bin .eql (.t 50) (n 0))]) (.cond (.t 51) (R [o 52 (.load true 3 (.t 8)), x (.store 3 (.t 5) (.t 52))]) .skip)))) (R
    [m 42 7, o 43 (.bin .add (.t 42) (n 1)), m 7 43])))))) .skip)))))))))) (.seq (D [o 53 (.ldl 4 true 3 (.t 5)), o 54 (.ldl 4 true 4 (.t 6)), x (.stl 4 3 (.t 2) (.t 53)), x (.stl 4
    4 (.t 3) (.t 54))] [[], [], [0, 0], [1, 2, 0, 1, 2]]) .ret))))),
  by kernel_rfl⟩
def k48 : KF Go.Proofs.Try.f48 := ⟨
 .seq (R [o 2 (.alloc [.nils, .nils, .nils]), o 3 (.mv (.c (.s []))), o 4 (.mv (.c (.s [])))]) (.seq (R [m 8 0, o 9 (.call (.f 64) [.t 8]), m 5 9]) (.seq (R [m 10 5, o 11 (.call (.f
    77) [.t 10]), o 6 (.alloc [.nils, .nils, .nils]), x (.store 3 (.t 6) (.t 11))]) (.seq (R [o 12 (.bslice 1 4 [.s []] [(0, .c (.s [98, 97, 115, 101])), (1, .c (.s [108, 111,
    103])), (2, .c (.s [98, 97, 115, 101])), (3, .c (.s []))]), m 13 5, o 14 (.call (.f 65) [.t 13, n 4]), o 15 (.idx 1 (.t 12) (.t 14)), o 16 (.load false 1 (.t 15)), m 7 16])
    (.seq (.seq (R [m 17 5, o 18 (.call (.f 101) [.t 17, n 12])]) (.cond (.t 18) (R [m 19 5, o 20 (.call (.f 65) [.t 19, n 4]), o 21 (.bin .add (n 95) (.t 20)), o 22 (.mks 1 1 [.i
    .u8 0] (.t 21) (.t 21)), o 23 (.conv .b2s (.t 22)), m 7 23]) .skip)) (.seq (D [o 24 (.ldl 0 true 3 (.t 6)), m 25 7, m 26 5, o 27 (.callh (.f 66) [.t 26]), x (.store 3 (.t 2) (.t
    24)), m 3 25, m 4 27] [[], [], [], [2], [0, 3, 0], [1, 4, 0, 1, 4], [3, 5, 0, 1, 2, 3, 4, 5]]) .ret))))),
  by kernel_rfl⟩
def k64 : KF Go.Proofs.Try.f64 := ⟨
 .seq (R [o 2 (.mv (.c .nilp))]) (.seq (R [m 3 0, o 4 (.build [.nils, .i .i64 0] [(0, 1, .t 3)]), o 5 (.box (.t 4)), m 2 5]) .ret),
  by kernel_rfl⟩
def k65 : KF Go.Proofs.Try.f65 := ⟨
 .seq (R [o 4 (.mv (n 0))]) (.seq (.seq (R [m 6 1, o 7 (.bin .leq (.t 6) (n 1))]) (.cond (.t 7) (.seq (R [o 4 (.mv (n 0))]) .ret) .skip)) (.seq (.seq (R [m 8 1, o 9 (.bin .leq (.t
    8) (n 256))]) (.cond (.t 9) (.seq (R [m 10 0, o 11 (.call (.f 111) [.t 10]), m 12 1, o 13 (.bin .rem (.t 11) (.t 12)), m 4 13]) .ret) .skip)) (.seq (R [m 14 0, o 15 (.call (.f
    111) [.t 14]), o 16 (.bin .mul (.t 15) (n 256)), m 5 16]) (.seq (R [m 17 5, m 18 0, o 19 (.call (.f 111) [.t 18]), o 20 (.bin .add (.t 17) (.t 19)), m 5 20]) (.seq (R [m 21 5, m
    22 1, o 23 (.bin .rem (.t 21) (.t 22)), m 4 23]) .ret))))),
  by kernel_rfl⟩
def k66 : KF Go.Proofs.Try.f66 := ⟨
 .seq (R [o 2 (.mv (.c (.s [])))]) (.seq (R [o 3 (.bslice 1 5 [.s []] [(0, .c (.s [])), (1, .c (.s [97])), (2, .c (.s [120, 10])), (3, .c (.s [97, 98, 99])), (4, .c (.s [0]))]), m 4
    0, o 5 (.call (.f 65) [.t 4, n 5]), o 6 (.idx 1 (.t 3) (.t 5)), o 7 (.load false 1 (.t 6)), m 2 7]) .ret),
  by kernel_rfl⟩
def k77 : KF Go.Proofs.Try.f77 := ⟨
 .seq (R [o 2 (.alloc [.nils, .nils, .nils])]) (.seq (R [o 7 (.build [.nils, .nils, .nils] []), o 3 (.alloc [.nils, .nils, .nils]), x (.store 3 (.t 3) (.t 7))]) (.seq (.seq (R [m 8
    0, o 9 (.call (.f 116) [.t 8, n 3, n 10]), m 4 9]) (.block 0 (.loop (.seq (.seq (R [m 10 4, o 11 (.bin .gtr (.t 10) (n 0)), G]) (.cond (.t 11) .skip (.exit 0))) (.seq (.block 1
    (.seq (.seq (R [m 14 0, o 15 (.call (.f 101) [.t 14, n 5])]) (.cond (.t 15) (.seq (R [o 16 (.load true 3 (.t 3)), o 17 (.call (.f 51) [.t 16]), x (.store 3 (.t 3) (.t 17)), G])
    (.exit 1)) .skip)) (.seq (D [o 19 (.ldl 0 true 3 (.t 3)), m 20 0, o 21 (.callh (.f 97) [.t 20]), o 22 (.calln (.f 47) [.t 19, .t 21]), m 18 22, o 23 (.ext (.t 18) 0), o 24 (.ext
    (.t 18) 1), o 5 (.mk4 (.alloc [.nils, .nils, .nils])), x (.store 3 (.t 5) (.t 23)), m 6 24] [[], [], [1], [0, 2, 2], [3], [4], [4], [], [7, 5, 3, 0, 1, 2, 3, 4, 5, 7], [6, 8, 0,
    1, 2, 3, 4, 5, 6, 7, 8]]) (.seq (R [m 25 6, o 26 (.bin .eql (.t 25) (n 0))]) (.cond (.t 26) (R [o 27 (.load true 3 (.t 5)), x (.store 3 (.t 3) (.t 27)), G]) .skip))))) (R [m 12
    4, o 13 (.bin .sub (.t 12) (n 1)), m 4 13])))))) (.seq (.seq (R [m 28 0, o 29 (.call (.f 65) [.t 28, n 40])]) (.block 2 (.seq (R [o 31 (.bin .eql (.t 29) (n 0)), m 30 31])
    (.cond (.t 30) (R [o 32 (.fld 0 (.t 3)), o 33 (.load false 1 (.t 32)), o 34 (.build [.s [], .s []] [(0, 1, .c (.s [122, 122]))]), o 35 (.bslice 2 1 [.s [], .s []] [(0, .t 34)]),
    o 36 (.app 2 32 [.s [], .s []] (.t 33) (.t 35)), o 37 (.fld 0 (.t 3)), x (.store 1 (.t 37) (.t 36))]) (.seq (R [o 39 (.bin .eql (.t 29) (n 1)), m 38 39]) (.cond (.t 38) (.seq (R
    [o 40 (.fld 2 (.t 3)), o 41 (.load false 1 (.t 40)), o 42 (.len false (.t 41)), o 43 (.bin .gtr (.t 42) (n 0))]) (.cond (.t 43) (R [o 44 (.fld 2 (.t 3)), o 45 (.load false 1 (.t
    44)), o 46 (.slc 4 (.t 45) (some (n 1)) none none), o 47 (.fld 2 (.t 3)), x (.store 1 (.t 47) (.t 46))]) .skip)) (.seq (R [o 49 (.bin .eql (.t 29) (n 2)), m 48 49]) (.cond (.t
    48) (.seq (R [m 50 0, o 51 (.call (.f 65) [.t 50, n 9]), o 52 (.bin .sub (n 200000) (.t 51)), o 53 (.mks 1 1 [.i .u8 0] (.t 52) (.t 52)), o 54 (.conv .b2s (.t 53)), o 55 (.build
    [.s [], .s []] [(0, 1, .c (.s [98, 105, 103])), (1, 1, .t 54)]), o 56 (.bslice 2 1 [.s [], .s []] [(0, .t 55)]), o 57 (.build [.nils, .nils, .nils] [(0, 1, .t 56)]), x (.store 3
    (.t 3) (.t 57))]) (R [o 58 (.fld 0 (.t 3)), o 59 (.load false 1 (.t 58)), o 60 (.fld 1 (.t 3)), x (.store 1 (.t 60) (.t 59))])) .skip)))))))) (.seq (R [o 61 (.load true 3 (.t
    3)), x (.store 3 (.t 2) (.t 61))]) .ret)))),
  by kernel_rfl⟩
def k97 : KF Go.Proofs.Try.f97 := ⟨
 .seq (R [o 2 (.alloc [.i .i64 0, .s [], .s [], .s []])]) (.seq (R [o 4 (.bslice 1 4 [.s []] [(0, .c (.s [108, 111, 103])), (1, .c (.s [98, 97, 115, 101])), (2, .c (.s [98, 97, 115,
    101, 46, 110, 101, 119])), (3, .c (.s [98]))]), m 5 0, o 6 (.call (.f 65) [.t 5, n 4]), o 7 (.idx 1 (.t 4) (.t 6)), o 8 (.load false 1 (.t 7)), m 3 8]) (.seq (.seq (R [m 9 0, o
    10 (.call (.f 65) [.t 9, n 5])]) (.block 0 (.seq (R [o 12 (.bin .eql (.t 10) (n 0)), m 11 12]) (.cond (.t 11) (.seq (R [m 13 3, o 14 (.bslice 1 3 [.s []] [(0, .c (.s [108, 111,
    103])), (1, .c (.s [98, 97, 115, 101])), (2, .c (.s [99]))]), m 15 0, o 16 (.call (.f 65) [.t 15, n 3]), o 17 (.idx 1 (.t 14) (.t 16)), o 18 (.load false 1 (.t 17)), o 19
    (.build [.i .i64 0, .s [], .s [], .s []] [(0, 1, n 2), (1, 1, .t 13), (2, 1, .t 18)]), x (.store 4 (.t 2) (.t 19))]) .ret) (.seq (R [o 21 (.bin .eql (.t 10) (n 1)), m 20 21])
    (.cond (.t 20) (.seq (R [m 22 3, o 23 (.build [.i .i64 0, .s [], .s [], .s []] [(0, 1, n 3), (1, 1, .t 22)]), x (.store 4 (.t 2) (.t 23))]) .ret) .skip)))))) (.seq (R [m 24 3, m
    25 0, o 26 (.call (.f 66) [.t 25]), o 27 (.build [.i .i64 0, .s [], .s [], .s []] [(0, 1, n 1), (1, 1, .t 24), (3, 1, .t 26)]), x (.store 4 (.t 2) (.t 27))]) .ret))),
  by kernel_rfl⟩
def k98 : KF Go.Proofs.Try.f98 := ⟨
 .seq (R [o 6 (.mv (n 0))]) (.seq (.seq (R [m 7 0, o 8 (.call (.f 101) [.t 7, n 24])]) (.cond (.t 8) (.seq (R [m 9 1, o 10 (.bin .sub (.t 9) (n 1)), m 11 2, o 12 (.bin .add (.t 11)
    (n 1)), o 13 (.bslice 1 4 [.i .i64 0] [(0, .t 10), (1, .t 12), (2, n (-9223372036854775808)), (3, n 9223372036854775807)]), m 14 0, o 15 (.call (.f 65) [.t 14, n 4]), o 16 (.idx
    1 (.t 13) (.t 15)), o 17 (.load false 1 (.t 16)), m 6 17]) .ret) .skip)) (.seq (R [m 18 0, m 19 1, m 20 2, o 21 (.call (.f 128) [.t 18, .t 19, .t 20]), m 6 21]) .ret)),
  by kernel_rfl⟩
def k101 : KF Go.Proofs.Try.f101 := ⟨
 .seq (R [o 4 (.mv (.c (.b false)))]) (.seq (R [m 5 0, m 6 1, o 7 (.call (.f 65) [.t 5, .t 6]), m 8 1, o 9 (.bin .sub (.t 8) (n 1)), o 10 (.bin .eql (.t 7) (.t 9)), m 4 10]) .ret),
  by kernel_rfl⟩
def k111 : KF Go.Proofs.Try.f111 := ⟨
 .seq (R [o 2 (.mv (n 0))]) (.seq (.seq (D [m 3 0, o 4 (.nilck (.t 3)), o 5 (.fld 1 (.t 4)), o 6 (.load false 1 (.t 5)), m 7 0, o 8 (.nilck (.t 7)), o 9 (.fld 0 (.t 8)), o 10 (.load
    false 1 (.t 9)), o 11 (.len false (.t 10)), o 12 (.bin .geq (.t 6) (.t 11))] [[], [0], [1], [2], [], [4], [5], [6], [7], [3, 8]]) (.cond (.t 12) (.seq (R [o 2 (.mv (n 0))])
    .ret) .skip)) (.seq (R [m 13 0, o 14 (.nilck (.t 13)), o 15 (.fld 1 (.t 14)), o 16 (.load false 1 (.t 15)), o 17 (.bin .add (.t 16) (n 1)), o 18 (.nilck (.t 13)), o 19 (.fld 1
    (.t 18)), x (.store 1 (.t 19) (.t 17))]) (.seq (D [m 20 0, o 21 (.nilck (.t 20)), o 22 (.fld 0 (.t 21)), o 23 (.load false 1 (.t 22)), m 24 0, o 25 (.nilck (.t 24)), o 26 (.fld
    1 (.t 25)), o 27 (.load false 1 (.t 26)), o 28 (.bin .sub (.t 27) (n 1)), o 29 (.idx 1 (.t 23) (.t 28)), o 30 (.load false 1 (.t 29)), o 31 (.conv (.int .i64) (.t 30)), m 2 31]
    [[], [0], [1], [2], [], [4], [5], [6], [7], [3, 8], [9], [10], [11, 0, 1, 2, 3, 4, 5, 6, 7, 8, 9, 10, 11]]) .ret))),
  by kernel_rfl⟩
def k116 : KF Go.Proofs.Try.f116 := ⟨
 .seq (R [o 6 (.mv (n 0))]) (.seq (R [m 8 0, o 9 (.nilck (.t 8)), o 10 (.fld 0 (.t 9)), o 11 (.load false 1 (.t 10)), o 12 (.len false (.t 11)), m 13 1, o 14 (.bin .quo (.t 12) (.t
    13)), o 15 (.bin .add (n 1) (.t 14)), m 7 15]) (.seq (.seq (R [m 16 7, m 17 2, o 18 (.bin .gtr (.t 16) (.t 17))]) (.cond (.t 18) (R [m 19 2, m 7 19]) .skip)) (.seq (R [m 20 0, m
    21 7, o 22 (.call (.f 65) [.t 20, .t 21]), o 23 (.bin .add (n 1) (.t 22)), m 6 23]) .ret))),
  by kernel_rfl⟩
def k128 : KF Go.Proofs.Try.f128 := ⟨
 .seq (R [o 6 (.mv (n 0))]) (.seq (.seq (R [m 7 0, o 8 (.call (.f 65) [.t 7, n 8])]) (.block 0 (.seq (R [o 10 (.bin .eql (.t 8) (n 0)), m 9 10]) (.cond (.t 9) (.seq (R [m 11 1, m 6
    11]) .ret) (.seq (R [o 13 (.bin .eql (.t 8) (n 1)), m 12 13]) (.cond (.t 12) (.seq (R [m 14 2, m 6 14]) .ret) .skip)))))) (.seq (.seq (R [m 15 2, m 16 1, o 17 (.bin .lss (.t 15)
    (.t 16))]) (.cond (.t 17) (.seq (R [m 18 1, m 6 18]) .ret) .skip)) (.seq (R [m 19 1, m 20 0, o 21 (.call (.f 140) [.t 20]), o 22 (.bin .shr (.t 21) (.c (.i .u64 1))), m 23 2, m
    24 1, o 25 (.bin .sub (.t 23) (.t 24)), o 26 (.bin .add (.t 25) (n 1)), o 27 (.conv (.int .u64) (.t 26)), o 28 (.bin .rem (.t 22) (.t 27)), o 29 (.conv (.int .i64) (.t 28)), o
    30 (.bin .add (.t 19) (.t 29)), m 6 30]) .ret))),
  by kernel_rfl⟩
def k140 : KF Go.Proofs.Try.f140 := ⟨
 .seq (R [o 2 (.mv (.c (.i .u64 0)))]) (.seq (R [o 3 (.mv (.c (.i .u64 0)))]) (.seq (.seq (R [o 4 (.mv (n 0))]) (.block 0 (.loop (.seq (.seq (R [m 5 4, o 6 (.bin .lss (.t 5) (n
    8))]) (.cond (.t 6) .skip (.exit 0))) (.seq (.block 1 (R [m 9 3, o 10 (.bin .shl (.t 9) (.c (.i .u64 8))), m 11 0, o 12 (.call (.f 111) [.t 11]), o 13 (.conv (.int .u64) (.t
    12)), o 14 (.bin .or (.t 10) (.t 13)), m 3 14])) (R [m 7 4, o 8 (.bin .add (.t 7) (n 1)), m 4 8])))))) (.seq (R [m 15 3, m 2 15]) .ret))),
  by kernel_rfl⟩
end FrA

/-! RdA -/
open Go Go.AM
namespace FrA
open Go.Proofs
set_option maxRecDepth 100000
set_option linter.unusedSimpArgs false
def bts (l : List UInt8) : List (List AV) := l.map fun b => [.i .u8 b.toNat]
theorem bts_len (l : List UInt8) : (bts l).length = l.length := by simp [bts]
theorem bts_get {l : List UInt8} {i : Nat} (h : i < l.length) : (bts l)[i]? = some [.i .u8 (l.getD i 0).toNat] := by
  simp [bts, List.getElem?_eq_getElem h]
/-- A reader of the code: where it stands. -/
def rdO (code : List UInt8) (p : Nat) : Ob := { ver := 0, es := [[.dat 1 (bts code), i64 p]], esz := 2, own := False, fixed := true }
theorem rd_pure (code : List UInt8) (p : Nat) : AM.Pure (rdO code p).es := by
  intro e he c hc
  simp only [rdO, List.mem_cons, List.not_mem_nil, or_false] at he; subst he
  simp only [List.mem_cons, List.not_mem_nil, or_false] at hc
  rcases hc with rfl | rfl <;> rfl
def nx (code : List UInt8) (p : Nat) : Nat × Nat := if p < code.length then ((code.getD p 0).toNat, p + 1) else (0, p)
theorem nx_lt (code : List UInt8) (p : Nat) : (nx code p).1 < 256 := by
  unfold nx; split
  · exact UInt8.toNat_lt _
  · show (0 : Nat) < 256; omega
theorem nx_le {code : List UInt8} {p : Nat} (h : p ≤ code.length) : (nx code p).2 ≤ code.length := by unfold nx; split <;> simp <;> omega
theorem rd_fin {code : List UInt8} {p p' : Nat} {g : Slots} {h : Heap} {r : AV} {ts : List Nat} (q : Prop) (hq : ¬ q) (hh : h (.p 0) = some { rdO code p' with own := q }) (h1 : retA h [] 1 (resV g ts) = r) (h2 : ResOk h [] false (resV g ts)) : FinB ts [rdO code p] r false [rdO code p'] g h := by
  refine Fin_obs h1 h2 rfl fun k ob hk => ?_
  cases k with
  | zero => simp at hk; subst hk; exact ⟨rd_pure _ _, q, .inr (by simp [rdO, hq]), hh, rfl⟩
  | succ k => simp at hk
/-- The reader, wherever it lies. -/
def rdV (code : List UInt8) (p v : Nat) (fx : Bool) : Ob := { ver := v, es := [[.dat 1 (bts code), i64 p]], esz := 2, own := False, fixed := fx }
theorem rdV_pure (code : List UInt8) (p v : Nat) (fx : Bool) : AM.Pure (rdV code p v fx).es := rd_pure code p
theorem expL_free' {h : Heap} {os : List Rid} : ∀ {l : List AV}, (∀ a ∈ l, a.free = true) → expL h os l = l
  | [], _ => by simp [expL]
  | a :: r, hl => by rw [expL, expA_free2 (hl a List.mem_cons_self), expL_free' fun b hb => hl b (List.mem_cons_of_mem _ hb)]
section
variable {C : Con} {s : Stk} {g : Slots} {h : Heap} {c : Nat} {r m : List KOp} {d : Option Nat}
theorem exp_rd {h : Heap} {o : Rid} {b : Ob} {v : Nat} {vals : List AV} (ho : h o = some b) (hb : b.ver = v) (hv : ∀ a ∈ vals, a.free = true ∧ a.rooted = false) : expL h [o] ((.ptr o v 0 0 :: vals) ++ []) = .ptr (.p 0) 0 0 0 :: vals := by
  rw [List.append_nil, expL, expL_free' fun a ha => (hv a ha).1]
  have : cur h o v = some b := by unfold cur; rw [ho]; simp [hb]
  simp [expA, this, List.idxOf?_cons]
theorem ok_rd {h : Heap} {o : Rid} {b : Ob} {v : Nat} {vals : List AV} (ho : h o = some b) (hb : b.ver = v) (hv : ∀ a ∈ vals, a.free = true ∧ a.rooted = false) : ∀ a ∈ (.ptr o v 0 0 :: vals) ++ [], ExpOk h [o] a := by
  have hc : cur h o v = some b := by unfold cur; rw [ho]; simp [hb]
  intro a ha
  rw [List.append_nil] at ha
  rcases List.mem_cons.1 ha with rfl | ha
  · simp [ExpOk, hc, List.idxOf?_cons]
  · exact ExpOk_free (hv a ha).1
theorem root_rd {o : Rid} {v : Nat} {vals : List AV} (hv : ∀ a ∈ vals, a.free = true ∧ a.rooted = false) : ∀ a ∈ (.ptr o v 0 0 :: vals) ++ [], a.rooted = false := by
  intro a ha
  rw [List.append_nil] at ha
  rcases List.mem_cons.1 ha with rfl | ha
  · rfl
  · exact (hv a ha).2
/-- A call of a reader's method. -/
theorem Call_rd {f : Nat} {code : List UInt8} {p p' v : Nat} {fx : Bool} {o : Rid} {vals : List AV} {ret : AV} (ho : h o = some (rdV code p v fx)) (hC : C.det f (.ptr (.p 0) 0 0 0 :: vals) [rdO code p] ret false [rdO code p']) (hv : ∀ a ∈ vals, a.free = true ∧ a.rooted = false)
    (hq : RunD C r m s (updO g d ret) (hup h o (rdV code p' v fx)) c) (hi : ∀ t n c, impA t n c ret = ret := by intros; first | rfl | (simp [impA, impL]; done)) : CallK C (.fn f []) (.ptr o v 0 0 :: vals) d r m s g h c :=
  Call_one (own := false) o (rdV code p v fx) (rdO code p') ho (by rw [exp_rd (v := v) ho rfl hv]; exact hC) (ok_rd ho rfl hv) (rdV_pure _ _ _ _) (rd_pure _ _) (.inr (root_rd hv)) (fun e => by cases e) hq hi
theorem Callh_rd {f : Nat} {code : List UInt8} {p p' v : Nat} {fx : Bool} {o : Rid} {vals : List AV} {ret : AV} (hol : o.isL = false) (ho : h o = some (rdV code p v fx)) (hC : C.det f (.ptr (.p 0) 0 0 0 :: vals) [rdO code p] ret false [rdO code p']) (hv : ∀ a ∈ vals, a.free = true ∧ a.rooted = false)
    (hq : RunD C r m s (updO g d ret) (hup h o (rdV code p' v fx)) c) (hi : ∀ t n c, impA t n c ret = ret := by intros; first | rfl | (simp [impA, impL]; done)) : CallKh C (.fn f []) (.ptr o v 0 0 :: vals) d r m s g h c :=
  Callh_one (own := false) o (rdV code p v fx) (rdO code p') hol ho (by rw [exp_rd (v := v) ho rfl hv]; exact hC) (fun a ha => ⟨ok_rd ho rfl hv a ha, by
    rw [List.append_nil] at ha
    rcases List.mem_cons.1 ha with rfl | ha
    · exact .inr (by simp)
    · exact .inl (hv a ha).1⟩) (rdV_pure _ _ _ _) (rd_pure _ _) (.inr (root_rd hv)) (fun e => by cases e) hq hi
/-- The same, its answer not told. -/
theorem Call_rds {f : Nat} {code : List UInt8} {p v : Nat} {fx : Bool} {o : Rid} {vals : List AV} {Φ : AV → Nat → Prop} (ho : h o = some (rdV code p v fx)) (hC : C f (.ptr (.p 0) 0 0 0 :: vals) [rdO code p] false (fun ret o' => ∃ p', p' ≤ code.length ∧ o' = [rdO code p'] ∧ Φ ret p')) (hv : ∀ a ∈ vals, a.free = true ∧ a.rooted = false)
    (hq : ∀ ret p', p' ≤ code.length → Φ ret p' → (∀ t n c, impA t n c ret = ret) ∧ RunD C r m s (updO g d ret) (hup h o (rdV code p' v fx)) c) : CallK C (.fn f []) (.ptr o v 0 0 :: vals) d r m s g h c :=
  Call_ones (own := false) (Φ := fun ret o' => ∃ p', p' ≤ code.length ∧ o' = [rdO code p'] ∧ Φ ret p') o (rdV code p v fx) ho (by rw [exp_rd (v := v) ho rfl hv]; exact hC) (ok_rd ho rfl hv) (rdV_pure _ _ _ _) (.inr (root_rd hv)) fun ret o' ⟨p', h1, h2, h3⟩ => by
    obtain ⟨q1, q2⟩ := hq ret p' h1 h3
    exact ⟨rdO code p', h2, rd_pure _ _, (fun e => by cases e), q1, q2⟩
end
def blw (code : List UInt8) (p n : Nat) : Nat × Nat := if n ≤ 1 then (0, p) else ((nx code p).1 % n, (nx code p).2)
theorem blw_lt (code : List UInt8) (p n : Nat) (h : 0 < n) : (blw code p n).1 < n := by
  unfold blw; split
  · exact h
  · exact Nat.mod_lt _ h
theorem blw_le {code : List UInt8} {p : Nat} (n : Nat) (h : p ≤ code.length) : (blw code p n).2 ≤ code.length := by
  unfold blw; split
  · exact h
  · exact nx_le h
theorem rd_obj (code : List UInt8) (p : Nat) : objs [rdO code p] (.p 0) = some (rdV code p 0 true) := rfl
theorem h23 (code : List UInt8) : HT 23 [.dat 1 (bts code)] [] (.b (decide ((code.length : Int) > 1048576))) true [] := by
  refine holds_of (c := Try.f23.body.getD .skip) (k := k23.1) (ts := [2]) HOk mixedT hintT Try.func23 (by kernel_rfl) (by kernel_rfl) (by kernel_rfl) k23.2 (by kernel_rfl) (le_of 1 _ (by kernel_rfl)) ?_
  simp -dsimp only [k23, bts_len, go_sem, ↓reduceIte, Nat.reduceEqDiff, Int.reduceLE, Int.reduceLT, Int.reduceNeg, Int.reduceEq, Nat.reduceMul, Nat.reduceAdd, Nat.reduceLeDiff, reduceCtorEq]
  refine Fin_val ?_ ?_
  · simp [resV, upd_at, retA]
  · simp [resV, upd_at, ResOk]
theorem h64 (code : List UInt8) : HT 64 [.dat 1 (bts code)] [] (.ptr (.p 0) 1 0 0) false [{ rdO code 0 with ver := 1 }] := by
  refine holds_of (c := Try.f64.body.getD .skip) (k := k64.1) (ts := [2]) HOk mixedT hintT Try.func64 (by kernel_rfl) (by kernel_rfl) (by kernel_rfl) k64.2 (by kernel_rfl) (le_of 1 _ (by kernel_rfl)) ?_
  simp -dsimp only [k64, bts_len, go_sem, ↓reduceIte, Nat.reduceEqDiff, Int.reduceLE, Int.reduceLT, Int.reduceNeg, Int.reduceEq, Nat.reduceMul, Nat.reduceAdd, Nat.reduceLeDiff, reduceCtorEq]
  refine Fin_one (obs := []) (.l 5) { ver := 1, es := [[.dat 1 (bts code), i64 0]], esz := 2, own := False, fixed := true } { rdO code 0 with ver := 1 } rfl (by simp [hup_at]) rfl (.inl (by simp [rdO])) (rd_pure code 0) (fun k x hk => by simp at hk) ?_ ?_
  · simp [resV, upd_at, retA, cur, hup_at, List.idxOf?_cons]
  · simp [resV, upd_at, ResOk, cur, hup_at]
theorem h111 (code : List UInt8) (p : Nat) (hp : p ≤ code.length) (hc : code.length ≤ 1048576) : HT 111 [.ptr (.p 0) 0 0 0] [rdO code p] (i64 (nx code p).1) false [rdO code (nx code p).2] := by
  refine holds_of (c := Try.f111.body.getD .skip) (k := k111.1) (ts := [2]) HOk mixedT hintT Try.func111 (by kernel_rfl) (by kernel_rfl) (by kernel_rfl) k111.2 (by kernel_rfl) (le_of 1 _ (by kernel_rfl)) ?_
  by_cases hlt : p < code.length
  · have c1 : ¬ (p : Int) ≥ (code.length : Int) := by omega
    have w1 : IntKind.i64.wrap ((p : Int) + 1) = ((p + 1 : Nat) : Int) := by rw [wr (by omega) (by omega)]; rfl
    have w2 : IntKind.i64.wrap (((p + 1 : Nat) : Int) - 1) = (p : Int) := by rw [wr (by omega) (by omega)]; omega
    have w3 : IntKind.i64.wrap ((code.getD p 0).toNat : Int) = ((code.getD p 0).toNat : Int) := wr (by omega) (by have := UInt8.toNat_lt (code.getD p 0); omega)
    have hg := bts_get hlt
    have hn : nx code p = ((code.getD p 0).toNat, p + 1) := by unfold nx; rw [if_pos hlt]
    unfold rdO
    simp -dsimp only [k111, c1, w1, w2, w3, hg, bts_len, objs_p, go_sem, ↓reduceIte, Nat.reduceEqDiff, Int.reduceLE, Int.reduceLT, Int.reduceNeg, Int.reduceEq, Nat.reduceMul, Nat.reduceAdd, Nat.reduceLeDiff, reduceCtorEq]
    refine rd_fin False (fun h => h) ?_ ?_ ?_
    · rw [hn]; simp [hup_at, rdO]
    · simp [resV, upd_at, retA, hn]
    · simp [resV, upd_at, ResOk]
  · have c1 : (p : Int) ≥ (code.length : Int) := by omega
    have hn : nx code p = (0, p) := by unfold nx; rw [if_neg hlt]
    unfold rdO
    simp -dsimp only [k111, c1, bts_len, objs_p, go_sem, ↓reduceIte, Nat.reduceEqDiff, Int.reduceLE, Int.reduceLT, Int.reduceNeg, Int.reduceEq, Nat.reduceMul, Nat.reduceAdd, Nat.reduceLeDiff, reduceCtorEq]
    refine rd_fin False (fun h => h) ?_ ?_ ?_
    · rw [hn]; rfl
    · simp [resV, upd_at, retA, hn]
    · simp [resV, upd_at, ResOk]
theorem h65 (code : List UInt8) (p n : Nat) (hp : p ≤ code.length) (hc : code.length ≤ 1048576) (hn : n ≤ 256) : HT 65 [.ptr (.p 0) 0 0 0, i64 n] [rdO code p] (i64 (blw code p n).1) false [rdO code (blw code p n).2] := by
  refine holds_of (c := Try.f65.body.getD .skip) (k := k65.1) (ts := [4]) HOk mixedT hintT Try.func65 (by kernel_rfl) (by kernel_rfl) (by kernel_rfl) k65.2 (by kernel_rfl) (le_of 2 _ (by kernel_rfl)) ?_
  by_cases h2 : n ≤ 1
  · have c1 : (n : Int) ≤ 1 := by omega
    have hb : blw code p n = (0, p) := by unfold blw; rw [if_pos h2]
    simp -dsimp only [k65, c1, go_sem, ↓reduceIte, Nat.reduceEqDiff, Int.reduceLE, Int.reduceLT, Int.reduceNeg, Int.reduceEq, Nat.reduceMul, Nat.reduceAdd, Nat.reduceLeDiff, reduceCtorEq]
    refine rd_fin False (fun h => h) ?_ ?_ ?_
    · rw [hb]; rfl
    · simp [resV, upd_at, retA, hb]
    · simp [resV, upd_at, ResOk]
  · have c1 : ¬ (n : Int) ≤ 1 := by omega
    have c2 : (n : Int) ≤ 256 := by omega
    have hb : blw code p n = ((nx code p).1 % n, (nx code p).2) := by unfold blw; rw [if_neg h2]
    simp -dsimp only [k65, c1, c2, go_sem, ↓reduceIte, Nat.reduceEqDiff, Int.reduceLE, Int.reduceLT, Int.reduceNeg, Int.reduceEq, Nat.reduceMul, Nat.reduceAdd, Nat.reduceLeDiff, reduceCtorEq]
    refine Call_rd (rd_obj code p) (h111 code p hp hc) (fun a ha => by cases ha) ?_
    have t1 : ((nx code p).1 : Int).tmod (n : Int) = (((nx code p).1 % n : Nat) : Int) := by rw [Int.tmod_eq_emod_of_nonneg (by omega)]; rfl
    simp -dsimp only [t1, go_sem, ↓reduceIte, Nat.reduceEqDiff, Int.reduceLE, Int.reduceLT, Int.reduceNeg, Int.reduceEq, Nat.reduceMul, Nat.reduceAdd, Nat.reduceLeDiff, reduceCtorEq]
    refine VK_p (by omega) ?_
    simp -dsimp only [go_sem, ↓reduceIte, Nat.reduceEqDiff, Int.reduceLE, Int.reduceLT, Int.reduceNeg, Int.reduceEq, Nat.reduceMul, Nat.reduceAdd, Nat.reduceLeDiff, reduceCtorEq]
    refine rd_fin False (fun h => h) ?_ ?_ ?_
    · rw [hb]; simp [hup_at, rdO, rdV]
    · simp [resV, upd_at, retA, hb]
    · simp [resV, upd_at, ResOk]
def onc (code : List UInt8) (p n : Nat) : Bool := decide (((blw code p n).1 : Int) = ((n - 1 : Nat) : Int))
theorem h101 (code : List UInt8) (p n : Nat) (hp : p ≤ code.length) (hc : code.length ≤ 1048576) (hn : n ≤ 256) (h0 : 0 < n) : HT 101 [.ptr (.p 0) 0 0 0, i64 n] [rdO code p] (.b (onc code p n)) false [rdO code (blw code p n).2] := by
  refine holds_of (c := Try.f101.body.getD .skip) (k := k101.1) (ts := [4]) HOk mixedT hintT Try.func101 (by kernel_rfl) (by kernel_rfl) (by kernel_rfl) k101.2 (by kernel_rfl) (le_of 2 _ (by kernel_rfl)) ?_
  have w1 : IntKind.i64.wrap ((n : Int) - 1) = ((n - 1 : Nat) : Int) := by rw [wr (by omega) (by omega)]; omega
  have e1 : (((blw code p n).1 : Int) == ((n - 1 : Nat) : Int)) = onc code p n := by unfold onc; rfl
  simp -dsimp only [k101, go_sem, ↓reduceIte, Nat.reduceEqDiff, Int.reduceLE, Int.reduceLT, Int.reduceNeg, Int.reduceEq, Nat.reduceMul, Nat.reduceAdd, Nat.reduceLeDiff, reduceCtorEq]
  refine Call_rd (rd_obj code p) (h65 code p n hp hc hn) (fun a ha => by simp at ha; subst ha; exact ⟨rfl, rfl⟩) ?_
  simp -dsimp only [w1, e1, go_sem, ↓reduceIte, Nat.reduceEqDiff, Int.reduceLE, Int.reduceLT, Int.reduceNeg, Int.reduceEq, Nat.reduceMul, Nat.reduceAdd, Nat.reduceLeDiff, reduceCtorEq]
  refine rd_fin False (fun h => h) ?_ ?_ ?_
  · simp [hup_at, rdO, rdV]
  · simp [resV, upd_at, retA]
  · simp [resV, upd_at, ResOk]
def txs5 : List (List UInt8) := [[], [97], [120, 10], [97, 98, 99], [0]]
def txF (code : List UInt8) (p : Nat) : List UInt8 := txs5.getD (blw code p 5).1 []
theorem row_get {l : List (List UInt8)} {i : Nat} (h : i < l.length) : (l.map fun s => [AV.s s])[i]? = some [.s (l.getD i [])] := by simp [List.getElem?_eq_getElem h]
theorem h66 (code : List UInt8) (p : Nat) (hp : p ≤ code.length) (hc : code.length ≤ 1048576) : HT 66 [.ptr (.p 0) 0 0 0] [rdO code p] (.s (txF code p)) false [rdO code (blw code p 5).2] := by
  refine holds_of (c := Try.f66.body.getD .skip) (k := k66.1) (ts := [2]) HOk mixedT hintT Try.func66 (by kernel_rfl) (by kernel_rfl) (by kernel_rfl) k66.2 (by kernel_rfl) (le_of 1 _ (by kernel_rfl)) ?_
  have hl := blw_lt code p 5 (by omega)
  have hg := row_get (l := txs5) (i := (blw code p 5).1) hl
  simp only [txs5, List.map_cons, List.map_nil] at hg
  have hf : txs5.getD (blw code p 5).1 [] = txF code p := rfl
  unfold txs5 at hf
  rw [hf] at hg
  have h5 := h65 code p 5 hp hc (by omega)
  have c1 : ((blw code p 5).1 : Int) < 5 := by omega
  simp -dsimp only [k66, chunk, go_sem, ↓reduceIte, Nat.reduceEqDiff, Int.reduceLE, Int.reduceLT, Int.reduceNeg, Int.reduceEq, Nat.reduceMul, Nat.reduceAdd, Nat.reduceLeDiff, reduceCtorEq]
  refine Call_rd (by simp [hup_at]; exact rd_obj code p) h5 (fun a ha => by simp at ha; subst ha; exact ⟨rfl, rfl⟩) ?_
  simp -dsimp only [hg, c1, go_sem, ↓reduceIte, Nat.reduceEqDiff, Int.reduceLE, Int.reduceLT, Int.reduceNeg, Int.reduceEq, Nat.reduceMul, Nat.reduceAdd, Nat.reduceLeDiff, reduceCtorEq]
  refine VK_p (by omega) ?_
  simp -dsimp only [hg, c1, go_sem, ↓reduceIte, Nat.reduceEqDiff, Int.reduceLE, Int.reduceLT, Int.reduceNeg, Int.reduceEq, Nat.reduceMul, Nat.reduceAdd, Nat.reduceLeDiff, reduceCtorEq]
  refine rd_fin False (fun h => h) ?_ ?_ ?_
  · simp [hup_at, rdO, rdV]
  · simp [resV, upd_at, retA]
  · simp [resV, upd_at, ResOk]
def szN (code : List UInt8) (per most : Nat) : Nat := if 1 + code.length / per > most then most else 1 + code.length / per
def siz (code : List UInt8) (p per most : Nat) : Nat := 1 + (blw code p (szN code per most)).1
theorem h116 (code : List UInt8) (p per most : Nat) (hp : p ≤ code.length) (hc : code.length ≤ 1048576) (h1 : 0 < per) (h3 : per ≤ 1000) (h2 : most ≤ 256) : HT 116 [.ptr (.p 0) 0 0 0, i64 per, i64 most] [rdO code p] (i64 (siz code p per most)) false [rdO code (blw code p (szN code per most)).2] := by
  refine holds_of (c := Try.f116.body.getD .skip) (k := k116.1) (ts := [6]) HOk mixedT hintT Try.func116 (by kernel_rfl) (by kernel_rfl) (by kernel_rfl) k116.2 (by kernel_rfl) (le_of 3 _ (by kernel_rfl)) ?_
  have hd : code.length / per ≤ code.length := Nat.div_le_self _ _
  have t1 : (code.length : Int).tdiv (per : Int) = ((code.length / per : Nat) : Int) := by rw [Int.tdiv_eq_ediv_of_nonneg (by omega)]; rfl
  have hq : ∃ q, q = code.length / per := ⟨_, rfl⟩
  obtain ⟨q, hq⟩ := hq
  rw [← hq] at hd t1
  have w0 : IntKind.i64.wrap (q : Int) = (q : Int) := wr (by omega) (by omega)
  have w1 : IntKind.i64.wrap (1 + (q : Int)) = ((1 + q : Nat) : Int) := by rw [wr (by omega) (by omega)]; omega
  have hz : ∀ z : Nat, z ≤ 256 → IntKind.i64.wrap (1 + ((blw code p z).1 : Int)) = ((1 + (blw code p z).1 : Nat) : Int) := fun z hz => by
    have : (blw code p z).1 ≤ 256 := by
      by_cases h0 : 0 < z
      · have := blw_lt code p z h0; omega
      · unfold blw; rw [if_pos (by omega)]; omega
    rw [wr (by omega) (by omega)]; omega
  unfold rdO
  simp -dsimp only [k116, bts_len, objs_p, t1, w0, w1, go_sem, ↓reduceIte, Nat.reduceEqDiff, Int.reduceLE, Int.reduceLT, Int.reduceNeg, Int.reduceEq, Nat.reduceMul, Nat.reduceAdd, Nat.reduceLeDiff, reduceCtorEq]
  refine VK_p (by omega) ?_
  by_cases hb : 1 + q > most
  · have c1 : ((1 + q : Nat) : Int) > (most : Int) := by omega
    have hs : szN code per most = most := by unfold szN; rw [← hq, if_pos hb]
    simp -dsimp only [t1, c1, w1, w0, go_sem, ↓reduceIte, Nat.reduceEqDiff, Int.reduceLE, Int.reduceLT, Int.reduceNeg, Int.reduceEq, Nat.reduceMul, Nat.reduceAdd, Nat.reduceLeDiff, reduceCtorEq]
    refine Call_rd (rd_obj code p) (h65 code p most hp hc h2) (fun a ha => by simp at ha; subst ha; exact ⟨rfl, rfl⟩) ?_
    simp -dsimp only [hz most h2, go_sem, ↓reduceIte, Nat.reduceEqDiff, Int.reduceLE, Int.reduceLT, Int.reduceNeg, Int.reduceEq, Nat.reduceMul, Nat.reduceAdd, Nat.reduceLeDiff, reduceCtorEq]
    refine rd_fin False (fun h => h) ?_ ?_ ?_
    · rw [hs]; simp [hup_at, rdO, rdV]
    · simp [resV, upd_at, retA, siz, hs]
    · simp [resV, upd_at, ResOk]
  · have c1 : ¬ ((1 + q : Nat) : Int) > (most : Int) := by omega
    have hs : szN code per most = 1 + q := by unfold szN; rw [← hq, if_neg hb]
    simp -dsimp only [t1, c1, w1, w0, go_sem, ↓reduceIte, Nat.reduceEqDiff, Int.reduceLE, Int.reduceLT, Int.reduceNeg, Int.reduceEq, Nat.reduceMul, Nat.reduceAdd, Nat.reduceLeDiff, reduceCtorEq]
    refine Call_rd (rd_obj code p) (h65 code p (1 + q) hp hc (by omega)) (fun a ha => by simp at ha; subst ha; exact ⟨rfl, rfl⟩) ?_
    simp -dsimp only [hz (1 + q) (by omega), go_sem, ↓reduceIte, Nat.reduceEqDiff, Int.reduceLE, Int.reduceLT, Int.reduceNeg, Int.reduceEq, Nat.reduceMul, Nat.reduceAdd, Nat.reduceLeDiff, reduceCtorEq]
    refine rd_fin False (fun h => h) ?_ ?_ ?_
    · rw [hs]; simp [hup_at, rdO, rdV]
    · simp [resV, upd_at, retA, siz, hs]
    · simp [resV, upd_at, ResOk]
end FrA

/-! RdB -/
open Go Go.AM
namespace FrA
open Go.Proofs
set_option maxRecDepth 100000
set_option linter.unusedSimpArgs false
theorem rd_finC {code : List UInt8} {p p' : Nat} {cs : List RS} {g : Slots} {h : Heap} {r : AV} {pr : Prop} {l : List AV} (hh : h (.p 0) = some (rdV code p' 0 true)) (h0 : resM h g cs = some (pr, l)) (hp : pr) (h1 : retA h [] 1 (resOne l) = r) (h2 : ResOk h [] false (resOne l)) :
    FinC cs [rdO code p] false (fun r' o' => r' = r ∧ o' = [rdO code p']) .ret g h 0 :=
  finC_obs (obs := [rdO code p]) h0 hp rfl (fun k ob hk => by
    cases k with
    | zero => simp at hk; subst hk; exact ⟨rd_pure _ _, False, .inr (by simp [rdO]), hh, rfl⟩
    | succ k => simp at hk) h1 h2
def nms4 : List (List UInt8) := [[108, 111, 103], [98, 97, 115, 101], [98, 97, 115, 101, 46, 110, 101, 119], [98]]
def tos3 : List (List UInt8) := [[108, 111, 103], [98, 97, 115, 101], [99]]
def dopN (code : List UInt8) (p : Nat) : List UInt8 := nms4.getD (blw code p 4).1 []
def dopT (code : List UInt8) (p : Nat) : List UInt8 := tos3.getD (blw code p 3).1 []
def dopF (code : List UInt8) (p : Nat) : Dop × Nat :=
  let p1 := (blw code p 4).2
  let p2 := (blw code p1 5).2
  if (blw code p1 5).1 = 0 then ((2, dopN code p, dopT code p2, []), (blw code p2 3).2)
  else if (blw code p1 5).1 = 1 then ((3, dopN code p, [], []), p2)
  else ((1, dopN code p, [], txF code p2), (blw code p2 5).2)
theorem dopF_le {code : List UInt8} {p : Nat} (h : p ≤ code.length) : (dopF code p).2 ≤ code.length := by
  unfold dopF
  simp only
  split
  · exact blw_le _ (blw_le _ (blw_le _ h))
  · split
    · exact blw_le _ (blw_le _ h)
    · exact blw_le _ (blw_le _ (blw_le _ h))
theorem txF_len (code : List UInt8) (p : Nat) : (txF code p).length ≤ 3 := by
  have hl := blw_lt code p 5 (by omega)
  unfold txF
  rcases (by omega : (blw code p 5).1 = 0 ∨ (blw code p 5).1 = 1 ∨ (blw code p 5).1 = 2 ∨ (blw code p 5).1 = 3 ∨ (blw code p 5).1 = 4) with h | h | h | h | h <;> rw [h] <;> decide
theorem dopF_d (code : List UInt8) (p : Nat) : (dopF code p).1.2.2.2.length ≤ 3 := by
  unfold dopF
  simp only
  split
  · simp
  · split
    · simp
    · exact txF_len _ _
theorem h97 (code : List UInt8) (p : Nat) (hp : p ≤ code.length) (hc : code.length ≤ 1048576) : HT 97 [.ptr (.p 0) 0 0 0] [rdO code p] (.agg (opC (dopF code p).1)) false [rdO code (dopF code p).2] := by
  refine holdsc_of (c := Try.f97.body.getD .skip) (k := k97.1) (cs := [(2, some (true, 4))]) HOk mixedT hintT Try.func97 (by kernel_rfl) (by kernel_rfl) (by kernel_rfl) k97.2 (by kernel_rfl) (le_of 1 _ (by kernel_rfl)) ?_
  have hl := blw_lt code p 4 (by omega)
  have hg := row_get (l := nms4) (i := (blw code p 4).1) hl
  simp only [nms4, List.map_cons, List.map_nil] at hg
  have hf : nms4.getD (blw code p 4).1 [] = dopN code p := rfl
  unfold nms4 at hf
  rw [hf] at hg
  have hp1 := blw_le 4 hp
  have h5 := h65 code p 4 hp hc (by omega)
  have hF : dopF code p = (if (blw code (blw code p 4).2 5).1 = 0 then ((2, dopN code p, dopT code (blw code (blw code p 4).2 5).2, []), (blw code (blw code (blw code p 4).2 5).2 3).2)
    else if (blw code (blw code p 4).2 5).1 = 1 then ((3, dopN code p, [], []), (blw code (blw code p 4).2 5).2) else ((1, dopN code p, [], txF code (blw code (blw code p 4).2 5).2), (blw code (blw code (blw code p 4).2 5).2 5).2)) := rfl
  simp -dsimp only [k97, chunk, go_sem, ↓reduceIte, Nat.reduceEqDiff, Int.reduceLE, Int.reduceLT, Int.reduceNeg, Int.reduceEq, Nat.reduceMul, Nat.reduceAdd, Nat.reduceLeDiff, reduceCtorEq]
  refine Call_rd (by simp [hup_at]; exact rd_obj code p) h5 (fun a ha => by simp at ha; subst ha; exact ⟨rfl, rfl⟩) ?_
  generalize (blw code p 4).1 = m at hl hg
  generalize (blw code p 4).2 = p1 at hp1 hF
  simp -dsimp only [hg, go_sem, ↓reduceIte, Nat.reduceEqDiff, Int.reduceLE, Int.reduceLT, Int.reduceNeg, Int.reduceEq, Nat.reduceMul, Nat.reduceAdd, Nat.reduceLeDiff, reduceCtorEq]
  refine VK_p (by omega) ?_
  simp -dsimp only [hg, go_sem, ↓reduceIte, Nat.reduceEqDiff, Int.reduceLE, Int.reduceLT, Int.reduceNeg, Int.reduceEq, Nat.reduceMul, Nat.reduceAdd, Nat.reduceLeDiff, reduceCtorEq]
  have hp2 := blw_le 5 hp1
  have h55 := h65 code p1 5 hp1 hc (by omega)
  have h66' := fun q hq => h66 code q hq hc
  refine Call_rd (by simp [hup_at]; rfl) h55 (fun a ha => by simp at ha; subst ha; exact ⟨rfl, rfl⟩) ?_
  have hl5 := blw_lt code p1 5 (by omega)
  generalize (blw code p1 5).1 = s at hl5 hF
  generalize (blw code p1 5).2 = p2 at hp2 hF
  by_cases s0 : s = 0
  · have e0 : ((s : Int) == 0) = true := by simp [s0]
    rw [if_pos s0] at hF
    have hl3 := blw_lt code p2 3 (by omega)
    have hg3 := row_get (l := tos3) (i := (blw code p2 3).1) hl3
    simp only [tos3, List.map_cons, List.map_nil] at hg3
    have hf3 : tos3.getD (blw code p2 3).1 [] = dopT code p2 := rfl
    unfold tos3 at hf3
    rw [hf3] at hg3
    simp -dsimp only [e0, chunk, go_sem, ↓reduceIte, Nat.reduceEqDiff, Int.reduceLE, Int.reduceLT, Int.reduceNeg, Int.reduceEq, Nat.reduceMul, Nat.reduceAdd, Nat.reduceLeDiff, reduceCtorEq]
    refine Call_rd (by simp [hup_at]; rfl) (h65 code p2 3 hp2 hc (by omega)) (fun a ha => by simp at ha; subst ha; exact ⟨rfl, rfl⟩) ?_
    simp -dsimp only [hg3, go_sem, ↓reduceIte, Nat.reduceEqDiff, Int.reduceLE, Int.reduceLT, Int.reduceNeg, Int.reduceEq, Nat.reduceMul, Nat.reduceAdd, Nat.reduceLeDiff, reduceCtorEq]
    refine VK_p (by omega) ?_
    simp -dsimp only [hg3, go_sem, ↓reduceIte, Nat.reduceEqDiff, Int.reduceLE, Int.reduceLT, Int.reduceNeg, Int.reduceEq, Nat.reduceMul, Nat.reduceAdd, Nat.reduceLeDiff, reduceCtorEq]
    rw [hF]
    refine rd_finC (l := [.agg [.i .i64 2, .s (dopN code p), .s (dopT code p2), .s []]]) (by simp [hup_at]) (by simp [resM, resE, upd_at, loadF, cur, hup_at, yes]) trivial ?_ ?_
    · simp [resOne, retA, retL, opC]
    · simp [resOne, ResOk, ResL]
  have e0 : ((s : Int) == 0) = false := by simp; omega
  rw [if_neg s0] at hF
  by_cases s1 : s = 1
  · have e1 : ((s : Int) == 1) = true := by simp [s1]
    rw [if_pos s1] at hF
    simp -dsimp only [e0, e1, go_sem, ↓reduceIte, Nat.reduceEqDiff, Int.reduceLE, Int.reduceLT, Int.reduceNeg, Int.reduceEq, Nat.reduceMul, Nat.reduceAdd, Nat.reduceLeDiff, reduceCtorEq]
    rw [hF]
    refine rd_finC (l := [.agg [.i .i64 3, .s (dopN code p), .s [], .s []]]) (by simp [hup_at]) (by simp [resM, resE, upd_at, loadF, cur, hup_at, yes]) trivial ?_ ?_
    · simp [resOne, retA, retL, opC]
    · simp [resOne, ResOk, ResL]
  have e1 : ((s : Int) == 1) = false := by simp; omega
  rw [if_neg s1] at hF
  simp -dsimp only [e0, e1, go_sem, ↓reduceIte, Nat.reduceEqDiff, Int.reduceLE, Int.reduceLT, Int.reduceNeg, Int.reduceEq, Nat.reduceMul, Nat.reduceAdd, Nat.reduceLeDiff, reduceCtorEq]
  refine Call_rd (by simp [hup_at]; rfl) (h66' p2 hp2) (fun a ha => by cases ha) ?_
  simp -dsimp only [go_sem, ↓reduceIte, Nat.reduceEqDiff, Int.reduceLE, Int.reduceLT, Int.reduceNeg, Int.reduceEq, Nat.reduceMul, Nat.reduceAdd, Nat.reduceLeDiff, reduceCtorEq]
  rw [hF]
  refine rd_finC (l := [.agg [.i .i64 1, .s (dopN code p), .s [], .s (txF code p2)]]) (by simp [hup_at]) (by simp [resM, resE, upd_at, loadF, cur, hup_at, yes]) trivial ?_ ?_
  · simp [resOne, retA, retL, opC]
  · simp [resOne, ResOk, ResL]
end FrA

/-! LeA -/
namespace Go.AM
section
variable {w : World} {κ : Cfg} {h : Heap} {clk : Nat}
theorem VR.le {x y : AV} (hle : Le x y) : ∀ {v : Value}, VR w κ h clk x v → VR w κ h clk y v := by
  induction hle with
  | refl x => exact fun h => h
  | nils z =>
    intro v h
    cases h with
    | ro _ _ hr => cases hr; exact .ro _ _ (.dat0 _ _ _)
  | agg cs ds hl h ih =>
    intro v hv
    cases hv with
    | ro _ _ hr => cases hr
    | agg _ vs hl2 hr =>
      refine .agg _ _ (by rw [← hl]; exact hl2) fun j y hy => ?_
      have hj : j < cs.length := by rw [hl]; exact (List.getElem?_eq_some_iff.1 hy).1
      exact ih j _ y (List.getElem?_eq_getElem hj) hy (hr j _ (List.getElem?_eq_getElem hj))
  | tup cs ds hl h ih =>
    intro v hv
    cases hv with
    | ro _ _ hr => cases hr
    | tup _ vs hl2 hr =>
      refine .tup _ _ (by rw [← hl]; exact hl2) fun j y hy => ?_
      have hj : j < cs.length := by rw [hl]; exact (List.getElem?_eq_some_iff.1 hy).1
      exact ih j _ y (List.getElem?_eq_getElem hj) hy (hr j _ (List.getElem?_eq_getElem hj))
end
theorem Holds.args {P : Program} {fid : Nat} {cs bs : List AV} {obs : List Ob} {own : Bool} {Φ : AV → List Ob → Prop} (h : Holds P fid bs obs own Φ) (hl : cs.length = bs.length) (hle : ∀ (j : Nat) x y, cs[j]? = some x → bs[j]? = some y → Le x y) : Holds P fid cs obs own Φ :=
  ⟨h.1, fun w κ vs P0 H hP hs hv => h.2 w κ vs P0 H hP (by rw [hs, hl]) fun j y hy => by
    have hj : j < cs.length := by rw [hl]; exact (List.getElem?_eq_some_iff.1 hy).1
    exact (hv j _ (List.getElem?_eq_getElem hj)).le (hle j _ y (List.getElem?_eq_getElem hj) hy)⟩
theorem Holds.arg1 {P : Program} {fid : Nat} {a b : AV} {r : List AV} {obs : List Ob} {own : Bool} {Φ : AV → List Ob → Prop} (h : Holds P fid (b :: r) obs own Φ) (hle : Le a b) : Holds P fid (a :: r) obs own Φ :=
  h.args rfl fun j x y hx hy => by
    cases j with
    | zero => simp at hx hy; subst hx; subst hy; exact hle
    | succ j => simp at hx hy; rw [hx] at hy; cases hy; exact .refl _
/-- A row in a cell, under the name of its own. -/
def RowAt (h : Heap) (k z : Nat) (es : List (List AV)) (a : AV) : Prop :=
  (a = .nils ∧ es = []) ∨ ∃ u cap q, a = .sl (.r 1000 k) u 0 es.length cap ∧ h (.r 1000 k) = some { ver := u, es := es, esz := z, own := q }
theorem RowAt.mono {h h' : Heap} {k z : Nat} {es : List (List AV)} {a : AV} (r : RowAt h k z es a) (e : h' (.r 1000 k) = h (.r 1000 k)) : RowAt h' k z es a := by
  rcases r with r | ⟨u, cap, q, h1, h2⟩
  · exact .inl r
  · exact .inr ⟨u, cap, q, h1, by rw [e]; exact h2⟩
/-- A row gets the name of its own. -/
theorem gh_row {g : Slots} {h : Heap} {c : Nat} {o n : Rid} {ob bn : Ob} {row : List AV} (j k len : Nat) (cap : Option Nat) (ho : h o = some ob) (hes : ob.es = [row]) (hcell : row[j]? = some (.sl n bn.ver 0 len cap)) (hn : h n = some bn) (hno : n ≠ o) (hk : n ≠ .r 1000 k) (ho2 : o ≠ .r 1000 k) :
    ∃ h', Gh g h c g h' (c + 1) ∧ h' o = some { ob with es := [row.set j (.sl (.r 1000 k) c 0 len cap)] } ∧ h' (.r 1000 k) = some { bn with ver := c } ∧ ∀ u, u ≠ o → u ≠ .r 1000 k → u ≠ n → h' u = h u := by
  refine ⟨_, .trans (.drop g h c (.r 1000 k) rfl) (.ren g (hdel h (.r 1000 k)) c o n (.r 1000 k) ob bn row 0 j 0 len cap ?_ (by rw [hes]; rfl) hcell ?_ hno ?_), ?_, ?_, ?_⟩
  · rw [hdel_at, if_neg ho2]; exact ho
  · rw [hdel_at, if_neg hk]; exact hn
  · rw [hdel_at, if_pos rfl]
  · rw [hup_at, if_pos rfl, hes]; rfl
  · rw [hup_at, if_neg (fun e => ho2 e.symm), hup_at, if_pos rfl]
  · intro u h1 h2 h3
    rw [hup_at, if_neg h1, hup_at, if_neg h2, hdel_at, if_neg h3, hdel_at, if_neg h2]
/-- Objects that nobody needs. -/
theorem gh_drops {g : Slots} {c : Nat} : ∀ (l : List Rid) (h : Heap), (∀ u ∈ l, u.isP = false) → ∃ h', Gh g h c g h' c ∧ (∀ u ∈ l, h' u = none) ∧ ∀ u, u ∉ l → h' u = h u
  | [], h, _ => ⟨h, .refl _ _ _, fun u hu => (by cases hu), fun _ _ => rfl⟩
  | o :: l, h, hl => by
    obtain ⟨h', g1, q1, q2⟩ := gh_drops l (hdel h o) fun u hu => hl u (List.mem_cons_of_mem _ hu)
    refine ⟨h', .trans (.drop g h c o (hl o List.mem_cons_self)) g1, fun u hu => ?_, fun u hu => ?_⟩
    · by_cases hm : u ∈ l
      · exact q1 u hm
      · rw [q2 u hm, hdel_at]
        rcases List.mem_cons.1 hu with rfl | h3
        · rw [if_pos rfl]
        · exact absurd h3 hm
    · simp only [List.mem_cons, not_or] at hu
      rw [q2 u hu.2, hdel_at, if_neg hu.1]
section
variable {C : Con} {s : Stk} {g : Slots} {h : Heap} {c : Nat} {r m : List KOp}
theorem Gh_drops (l : List Rid) (hl : ∀ u ∈ l, u.isP = false) (hq : ∀ h', (∀ u ∈ l, h' u = none) → (∀ u, u ∉ l → h' u = h u) → RunD C r m s g h' c) : GhK C r m s g h c := by
  obtain ⟨h', g1, q1, q2⟩ := gh_drops (g := g) (c := c) l h hl
  exact Gh_of g1 (hq h' q1 q2)
end
end Go.AM

