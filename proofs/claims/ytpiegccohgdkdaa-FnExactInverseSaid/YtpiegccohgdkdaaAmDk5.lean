/- The programs of some functions. No condition. -/
import Derived.Test.YtpiegccohgdkdaaProg
import Derived.Test.YtpiegccohgdkdaaAmFuns
set_option linter.all false
set_option linter.unusedSimpArgs false
set_option linter.unusedVariables false
set_option linter.deprecated false
/-! KsG -/
open Go Go.AM
namespace FrA
open Go.AM.L
set_option maxRecDepth 100000
def k9 : KF Go.Proofs.Try.f9 := ⟨
 .seq (R [o 2 (.box (.t 0)), o 4 (.mv (.c (.b false)))]) (.seq (.seq (R [m 11 1, o 12 (.len true (.t 11)), o 13 (.bin .gtr (.t 12) (n 1048576))]) (.cond (.t 13) (.seq (R [o 4 (.mv
    (.c (.b true)))]) .ret) .skip)) (.seq (R [o 5 (.mv (n 1048576))]) (.seq (R [o 14 (.load true 3 (.t 2)), m 15 5, o 16 (.call (.f 40) [.t 14, .t 15]), m 5 16]) (.seq (.seq (R [m
    17 5, o 18 (.bin .lss (.t 17) (n 0))]) (.cond (.t 18) (.seq (R [o 4 (.mv (.c (.b true)))]) .ret) .skip)) (.seq (R [o 20 (.load true 3 (.t 2)), o 21 (.call (.f 41) [.t 20]), m 22
    1, o 23 (.call (.f 43) [.t 21, .t 22]), m 19 23, o 24 (.ext (.t 19) 0), o 25 (.ext (.t 19) 1), m 6 24, m 7 25]) (.seq (R [o 26 (.load true 3 (.t 2)), o 27 (.call (.f 41) [.t
    26]), o 8 (.alloc [.nils, .nils, .nils]), x (.store 3 (.t 8) (.t 27))]) (.seq (R [o 29 (.load true 3 (.t 8)), m 30 1, o 31 (.call (.f 44) [.t 29, .t 30]), m 28 31, o 32 (.ext
    (.t 28) 0), o 33 (.ext (.t 28) 1), m 9 32, m 10 33]) (.seq (.seq (R [m 34 9, m 35 6, o 36 (.bin .neq (.t 34) (.t 35)), m 37 36, q 38 37 false (.mv (.t 10)), q 39 37 false (.mv
    (.t 7)), q 40 37 false (.eqt .bool true (.t 38) (.t 39)), o 41 (.pick (.t 37) (.c (.b true)) (.t 40))]) (.cond (.t 41) (.seq (R [o 4 (.mv (.c (.b false)))]) .ret) .skip)) (.seq
    (.seq (D [o 42 (.load true 3 (.t 8)), o 43 (.load true 3 (.t 2)), o 44 (.call0 (.f 41) [.t 43]), o 45 (.callv (.f 42) [.t 42, .t 44]), o 46 (.un .not (.t 45))] [[], [], [1], [0,
    2, 2], [3]]) (.cond (.t 46) (.seq (R [o 4 (.mv (.c (.b false)))]) .ret) .skip)) (.seq (R [o 4 (.mv (.c (.b true)))]) .ret)))))))))),
  by kernel_rfl⟩
def k43 : KF Go.Proofs.Try.f43 := ⟨
 .seq (R [o 2 (.box (.t 0)), o 4 (.mv (.c (.s []))), o 5 (.mv (.c (.b false)))]) (.seq (.seq (R [o 7 (.load true 3 (.t 2)), o 8 (.call (.f 36) [.t 7]), o 9 (.un .not (.t 8))])
    (.cond (.t 9) (.seq (R [o 4 (.mv (.c (.s []))), o 5 (.mv (.c (.b false)))]) .ret) .skip)) (.seq (R [o 10 (.fld 0 (.t 2)), o 11 (.load false 1 (.t 10)), m 12 1, o 13 (.call (.f
    95) [.t 11, .t 12]), m 6 13]) (.seq (.seq (R [m 14 6, o 15 (.bin .lss (.t 14) (n 0))]) (.cond (.t 15) (.seq (R [o 4 (.mv (.c (.s []))), o 5 (.mv (.c (.b false)))]) .ret) .skip))
    (.seq (R [o 16 (.fld 0 (.t 2)), o 17 (.load false 1 (.t 16)), m 18 6, o 19 (.idx 2 (.t 17) (.t 18)), o 20 (.fld 1 (.t 19)), o 21 (.load false 1 (.t 20)), m 4 21, o 5 (.mv (.c
    (.b true)))]) .ret)))),
  by kernel_rfl⟩
def k44 : KF Go.Proofs.Try.f44 := ⟨
 .seq (R [o 2 (.box (.t 0)), o 4 (.mv (.c (.s []))), o 5 (.mv (.c (.b false)))]) (.seq (.seq (R [o 6 (.load true 3 (.t 2)), o 7 (.call (.f 35) [.t 6]), o 8 (.un .not (.t 7))])
    (.cond (.t 8) (.seq (R [o 4 (.mv (.c (.s []))), o 5 (.mv (.c (.b false)))]) .ret) .skip)) (.seq (R [o 9 (.load true 3 (.t 2)), m 10 1, o 11 (.call (.f 96) [.t 9, .t 10]), o 12
    (.ext (.t 11) 0), o 13 (.ext (.t 11) 1), m 4 12, m 5 13]) .ret)),
  by kernel_rfl⟩
def k96 : KF Go.Proofs.Try.f96 := ⟨
 .seq (R [o 2 (.box (.t 0)), o 4 (.mv (.c (.s []))), o 5 (.mv (.c (.b false)))]) (.seq (R [o 9 (.fld 0 (.t 2)), o 10 (.load false 1 (.t 9)), m 11 1, o 12 (.call (.f 118) [.t 10, .t
    11]), m 8 12, o 13 (.ext (.t 8) 0), o 14 (.ext (.t 8) 1), m 6 13, m 7 14]) (.seq (.seq (R [m 15 7, o 16 (.un .not (.t 15))]) (.cond (.t 16) (.seq (R [o 4 (.mv (.c (.s []))), o 5
    (.mv (.c (.b false)))]) .ret) .skip)) (.seq (R [o 17 (.fld 0 (.t 2)), o 18 (.load false 1 (.t 17)), m 19 6, o 20 (.idx 2 (.t 18) (.t 19)), o 21 (.fld 1 (.t 20)), o 22 (.load
    false 1 (.t 21)), m 4 22, o 5 (.mv (.c (.b true)))]) .ret))),
  by kernel_rfl⟩
def k7 : KF Go.Proofs.Try.f7 := ⟨
 .seq (R [o 2 (.mv (.c (.b false)))]) (.seq (.seq (R [m 11 0, o 12 (.call (.f 23) [.t 11])]) (.cond (.t 12) (.seq (R [o 2 (.mv (.c (.b true)))]) .ret) .skip)) (.seq (R [m 13 0, o 14
    (.call (.f 34) [.t 13]), o 3 (.alloc [.nils, .nils, .nils]), x (.store 3 (.t 3) (.t 14))]) (.seq (.seq (D [o 15 (.load true 3 (.t 3)), o 16 (.call0 (.f 35) [.t 15]), o 17 (.load
    true 3 (.t 3)), o 18 (.call0 (.f 36) [.t 17]), o 19 (.eqt .bool true (.t 16) (.t 18))] [[], [0], [], [2, 1], [1, 3]]) (.cond (.t 19) (.seq (R [o 2 (.mv (.c (.b false)))]) .ret)
    .skip)) (.seq (R [o 20 (.bslice 1 0 [.i .i64 0] []), m 4 20]) (.seq (.seq (R [o 5 (.mv (n 0))]) (.block 0 (.loop (.seq (.seq (R [m 21 5, o 22 (.fld 2 (.t 3)), o 23 (.load false
    1 (.t 22)), o 24 (.len false (.t 23)), o 25 (.bin .lss (.t 21) (.t 24))]) (.cond (.t 25) .skip (.exit 0))) (.seq (.block 1 (R [m 28 4, m 29 5, o 30 (.bslice 1 1 [.i .i64 0] [(0,
    .t 29)]), o 31 (.app 1 8 [.i .i64 0] (.t 28) (.t 30)), m 4 31])) (R [m 26 5, o 27 (.bin .add (.t 26) (n 1)), m 5 27])))))) (.seq (R [o 33 (.load true 3 (.t 3)), m 34 4, o 35
    (.call (.f 37) [.t 33, .t 34, n 1099511627776]), m 32 35, o 36 (.ext (.t 32) 0), o 37 (.ext (.t 32) 1), o 6 (.alloc [.nils, .nils, .nils]), x (.store 3 (.t 6) (.t 36)), m 7 37])
    (.seq (R [o 39 (.load true 3 (.t 3)), o 40 (.call (.f 37) [.t 39, .c .nils, n 0]), m 38 40, o 41 (.ext (.t 38) 0), o 42 (.ext (.t 38) 1), o 8 (.alloc [.nils, .nils, .nils]), x
    (.store 3 (.t 8) (.t 41)), m 9 42]) (.seq (.seq (R [m 43 7, o 44 (.load true 3 (.t 3)), o 45 (.call (.f 35) [.t 44]), o 46 (.eqt .bool true (.t 43) (.t 45)), m 47 46, q 48 47
    false (.mv (.t 9)), q 49 47 false (.mv (.t 7)), q 50 47 false (.eqt .bool true (.t 48) (.t 49)), o 51 (.pick (.t 47) (.c (.b true)) (.t 50))]) (.cond (.t 51) (.seq (R [o 2 (.mv
    (.c (.b false)))]) .ret) .skip)) (.seq (.seq (R [m 52 7, o 53 (.un .not (.t 52))]) (.cond (.t 53) (.seq (R [o 54 (.fld 0 (.t 6)), o 55 (.load false 1 (.t 54)), o 56 (.len false
    (.t 55)), o 57 (.bin .eql (.t 56) (n 0)), m 2 57]) .ret) .skip)) (.seq (R [o 58 (.load true 3 (.t 3)), o 59 (.call (.f 38) [.t 58]), o 10 (.alloc [.nils, .nils, .nils]), x
    (.store 3 (.t 10) (.t 59))]) (.seq (R [o 60 (.fld 0 (.t 6)), o 61 (.load false 1 (.t 60)), o 62 (.fld 0 (.t 3)), o 63 (.load false 1 (.t 62)), o 64 (.call (.f 39) [.t 61, .t
    63]), m 65 64, q 66 65 true (.fld 1 (.t 6)), q 67 65 true (.load false 1 (.t 66)), q 68 65 true (.fld 0 (.t 3)), q 69 65 true (.load false 1 (.t 68)), q 70 65 true (.call (.f
    39) [.t 67, .t 69]), o 71 (.pick (.t 65) (.t 70) (.c (.b false))), m 72 71, q 73 72 true (.fld 0 (.t 8)), q 74 72 true (.load false 1 (.t 73)), q 75 72 true (.fld 1 (.t 3)), q
    76 72 true (.load false 1 (.t 75)), q 77 72 true (.call (.f 39) [.t 74, .t 76]), o 78 (.pick (.t 72) (.t 77) (.c (.b false))), m 79 78, q 80 79 true (.fld 2 (.t 6)), q 81 79
    true (.load false 1 (.t 80)), q 82 79 true (.len false (.t 81)), q 83 79 true (.fld 2 (.t 8)), q 84 79 true (.load false 1 (.t 83)), q 85 79 true (.len false (.t 84)), q 86 79
    true (.bin .add (.t 82) (.t 85)), q 87 79 true (.bin .eql (.t 86) (n 0)), o 88 (.pick (.t 79) (.t 87) (.c (.b false))), m 89 88, q 90 89 true (.fld 1 (.t 10)), q 91 89 true
    (.load false 1 (.t 90)), q 92 89 true (.fld 0 (.t 3)), q 93 89 true (.load false 1 (.t 92)), q 94 89 true (.call (.f 39) [.t 91, .t 93]), o 95 (.pick (.t 89) (.t 94) (.c (.b
    false))), m 96 95, q 97 96 true (.fld 2 (.t 10)), q 98 96 true (.load false 1 (.t 97)), q 99 96 true (.len false (.t 98)), q 100 96 true (.bin .eql (.t 99) (n 0)), o 101 (.pick
    (.t 96) (.t 100) (.c (.b false))), m 2 101]) .ret))))))))))),
  by kernel_rfl⟩
def k34 : KF Go.Proofs.Try.f34 := ⟨
 .seq (R [o 2 (.alloc [.nils, .nils, .nils])]) (.seq (R [m 4 0, o 5 (.call (.f 64) [.t 4]), m 3 5]) (.seq (R [m 6 3, o 7 (.call (.f 77) [.t 6]), x (.store 3 (.t 2) (.t 7))]) .ret)),
  by kernel_rfl⟩
def k37 : KF Go.Proofs.Try.f37 := ⟨
 .seq (R [o 3 (.box (.t 0)), o 6 (.alloc [.nils, .nils, .nils]), o 7 (.mv (.c (.b false)))]) (.seq (.seq (R [o 12 (.load true 3 (.t 3)), o 13 (.call (.f 35) [.t 12]), o 14 (.un .not
    (.t 13)), m 15 14, q 16 15 false (.mv (.t 2)), q 17 15 false (.bin .lss (.t 16) (n 0)), o 18 (.pick (.t 15) (.c (.b true)) (.t 17))]) (.cond (.t 18) (.seq (R [o 19 (.build
    [.nils, .nils, .nils] []), x (.store 3 (.t 6) (.t 19)), o 7 (.mv (.c (.b false)))]) .ret) .skip)) (.seq (R [o 20 (.fld 1 (.t 3)), o 21 (.load false 1 (.t 20)), m 8 21]) (.seq
    (.seq (R [m 22 1, o 23 (.len false (.t 22)), o 24 (.mv (n 0))]) (.block 0 (.loop (.seq (R [o 25 (.bin .lss (.t 24) (.t 23))]) (.seq (.cond (.t 25) .skip (.exit 0)) (.seq (.block
    1 (.seq (R [m 26 24, o 27 (.idx 1 (.t 22) (.t 24)), o 28 (.load false 1 (.t 27)), m 9 26, m 10 28]) (.seq (.seq (R [m 29 10, o 30 (.fld 2 (.t 3)), o 31 (.load false 1 (.t 30)),
    o 32 (.len false (.t 31)), o 33 (.bin .sub (.t 32) (n 1)), o 34 (.call (.f 86) [.t 29, n 0, .t 33]), o 35 (.un .not (.t 34)), m 36 35, q 37 36 false (.mv (.t 9)), q 38 36 false
    (.bin .gtr (.t 37) (n 0)), q 39 36 false (.mv (.t 38)), q 40 39 true (.mv (.t 1)), q 41 39 true (.mv (.t 9)), q 42 39 true (.bin .sub (.t 41) (n 1)), q 43 39 true (.idx 1 (.t
    40) (.t 42)), q 44 39 true (.load false 1 (.t 43)), q 45 39 true (.mv (.t 10)), q 46 39 true (.bin .geq (.t 44) (.t 45)), q 47 36 false (.pick (.t 39) (.t 46) (.c (.b false))),
    o 48 (.pick (.t 36) (.c (.b true)) (.t 47))]) (.cond (.t 48) (.seq (R [o 49 (.build [.nils, .nils, .nils] []), x (.store 3 (.t 6) (.t 49)), o 7 (.mv (.c (.b false)))]) .ret)
    .skip)) (.seq (R [o 50 (.fld 2 (.t 3)), o 51 (.load false 1 (.t 50)), m 52 10, o 53 (.idx 4 (.t 51) (.t 52)), o 54 (.load true 4 (.t 53)), o 11 (.alloc [.i .i64 0, .s [], .s [],
    .s []]), x (.store 4 (.t 11) (.t 54))]) (.seq (.seq (R [m 55 9, m 56 1, o 57 (.len false (.t 56)), o 58 (.bin .sub (.t 57) (n 1)), o 59 (.bin .eql (.t 55) (.t 58)), m 60 59, q
    61 60 true (.fld 0 (.t 11)), q 62 60 true (.load false 1 (.t 61)), q 63 60 true (.bin .eql (.t 62) (n 1)), o 64 (.pick (.t 60) (.t 63) (.c (.b false)))]) (.cond (.t 64) (R [o 65
    (.fld 3 (.t 11)), o 66 (.load false 1 (.t 65)), m 67 2, o 68 (.fld 3 (.t 11)), o 69 (.load false 1 (.t 68)), o 70 (.len true (.t 69)), o 71 (.mm false [.t 67, .t 70]), o 72
    (.sls (.t 66) none (some (.t 71))), o 73 (.fld 3 (.t 11)), x (.store 1 (.t 73) (.t 72))]) .skip)) (R [m 75 8, o 76 (.load true 4 (.t 11)), o 77 (.call (.f 80) [.t 75, .t 76]), m
    74 77, o 78 (.ext (.t 74) 0), o 79 (.ext (.t 74) 1), m 8 78])))))) (R [o 80 (.bin .add (.t 24) (n 1)), m 24 80]))))))) (.seq (.seq (R [m 81 8, o 82 (.call (.f 78) [.t 81]), o 83
    (.un .not (.t 82))]) (.cond (.t 83) (.seq (R [o 84 (.build [.nils, .nils, .nils] []), x (.store 3 (.t 6) (.t 84)), o 7 (.mv (.c (.b false)))]) .ret) .skip)) (.seq (R [m 85 8, o
    86 (.call (.f 87) [.t 85]), m 87 8, o 88 (.call (.f 87) [.t 87]), o 89 (.build [.nils, .nils, .nils] [(0, 1, .t 86), (1, 1, .t 88)]), x (.store 3 (.t 6) (.t 89)), o 7 (.mv (.c
    (.b true)))]) .ret))))),
  by kernel_rfl⟩
def k38 : KF Go.Proofs.Try.f38 := ⟨
 .seq (R [o 1 (.box (.t 0)), o 2 (.alloc [.nils, .nils, .nils])]) (.seq (.seq (R [o 3 (.load true 3 (.t 1)), o 4 (.call (.f 35) [.t 3]), o 5 (.un .not (.t 4))]) (.cond (.t 5) (.seq
    (R [o 6 (.build [.nils, .nils, .nils] []), x (.store 3 (.t 2) (.t 6))]) .ret) .skip)) (.seq (R [o 7 (.load true 3 (.t 1)), o 8 (.call (.f 88) [.t 7]), x (.store 3 (.t 2) (.t
    8))]) .ret)),
  by kernel_rfl⟩
def k39 : KF Go.Proofs.Try.f39 := ⟨
 .seq (R [o 4 (.mv (.c (.b false)))]) (.seq (.seq (R [m 6 0, o 7 (.len false (.t 6)), m 8 1, o 9 (.len false (.t 8)), o 10 (.bin .neq (.t 7) (.t 9))]) (.cond (.t 10) (.seq (R [o 4
    (.mv (.c (.b false)))]) .ret) .skip)) (.seq (.seq (R [o 5 (.mv (n 0))]) (.block 0 (.loop (.seq (.seq (R [m 11 5, m 12 0, o 13 (.len false (.t 12)), o 14 (.bin .lss (.t 11) (.t
    13))]) (.cond (.t 14) .skip (.exit 0))) (.seq (.block 1 (.seq (D [m 17 0, m 18 5, o 19 (.idx 2 (.t 17) (.t 18)), o 20 (.load true 2 (.t 19)), m 21 1, m 22 5, o 23 (.idx 2 (.t
    21) (.t 22)), o 24 (.load true 2 (.t 23)), o 25 (.eqt (.struct [.str, .str]) true (.t 20) (.t 24))] [[], [], [0, 1], [2], [], [], [4, 5], [6], [3, 7]]) (.cond (.t 25) (.seq (R
    [o 4 (.mv (.c (.b false)))]) .ret) .skip))) (R [m 15 5, o 16 (.bin .add (.t 15) (n 1)), m 5 16])))))) (.seq (R [o 4 (.mv (.c (.b true)))]) .ret))),
  by kernel_rfl⟩
def k88 : KF Go.Proofs.Try.f88 := ⟨
 .seq (R [o 1 (.box (.t 0)), o 2 (.alloc [.nils, .nils, .nils])]) (.seq (D [o 3 (.fld 0 (.t 1)), o 4 (.load false 1 (.t 3)), o 5 (.callc 87 [.t 4]), o 6 (.fld 0 (.t 1)), o 7 (.load
    false 1 (.t 6)), o 8 (.callc 87 [.t 7]), o 9 (.build [.nils, .nils, .nils] [(0, 1, .t 5), (1, 1, .t 8)]), x (.store 3 (.t 2) (.t 9))] [[], [0], [1], [], [3], [4, 2], [2, 5], [6,
    5, 0, 1, 2, 3, 4, 5, 6]]) .ret),
  by kernel_rfl⟩
def k51 : KF Go.Proofs.Try.f51 := ⟨
 .seq (R [o 1 (.box (.t 0)), o 2 (.alloc [.nils, .nils, .nils])]) (.seq (.seq (R [o 3 (.load true 3 (.t 1)), o 4 (.call (.f 36) [.t 3]), o 5 (.un .not (.t 4))]) (.cond (.t 5) (.seq
    (R [o 6 (.build [.nils, .nils, .nils] []), x (.store 3 (.t 2) (.t 6))]) .ret) .skip)) (.seq (D [o 7 (.mk4 (.bslice 2 0 [.s [], .s []] [])), o 8 (.fld 0 (.t 1)), o 9 (.load false
    1 (.t 8)), o 10 (.mk4 (.app 2 32 [.s [], .s []] (.t 7) (.t 9))), o 11 (.mk4 (.bslice 2 0 [.s [], .s []] [])), o 12 (.fld 0 (.t 1)), o 13 (.load false 1 (.t 12)), o 14 (.mk4
    (.app 2 32 [.s [], .s []] (.t 11) (.t 13))), o 15 (.build [.nils, .nils, .nils] [(0, 1, .t 10), (1, 1, .t 14)]), x (.store 3 (.t 2) (.t 15))] [[], [], [1], [0, 2], [], [], [5],
    [4, 6, 3], [3, 7], [8, 7, 0, 1, 2, 3, 4, 5, 6, 7, 8]]) .ret)),
  by kernel_rfl⟩
def k47 : KF Go.Proofs.Try.f47 := ⟨
 .seq (R [o 2 (.box (.t 0)), o 3 (.box (.t 1)), o 4 (.alloc [.nils, .nils, .nils]), o 5 (.mv (n 0))]) (.seq (.seq (R [o 6 (.load true 3 (.t 2)), o 7 (.call (.f 36) [.t 6]), o 8 (.un
    .not (.t 7))]) (.cond (.t 8) (.seq (R [o 9 (.build [.nils, .nils, .nils] []), x (.store 3 (.t 4) (.t 9)), o 5 (.mv (n 1))]) .ret) .skip)) (.seq (R [o 10 (.load true 3 (.t 2)), o
    11 (.load true 4 (.t 3)), o 12 (.call (.f 100) [.t 10, .t 11]), o 13 (.ext (.t 12) 0), o 14 (.ext (.t 12) 1), x (.store 3 (.t 4) (.t 13)), m 5 14]) .ret)),
  by kernel_rfl⟩
def k100 : KF Go.Proofs.Try.f100 := ⟨
 .seq (R [o 2 (.box (.t 0)), o 3 (.box (.t 1)), o 4 (.alloc [.nils, .nils, .nils]), o 5 (.mv (n 0))]) (.seq (.seq (R [o 9 (.load true 4 (.t 3)), o 10 (.call (.f 84) [.t 9]), o 11
    (.un .not (.t 10))]) (.cond (.t 11) (.seq (R [o 12 (.load true 3 (.t 2)), o 13 (.call (.f 104) [.t 12]), x (.store 3 (.t 4) (.t 13)), o 5 (.mv (n 2))]) .ret) .skip)) (.seq (R [o
    15 (.fld 0 (.t 2)), o 16 (.load false 1 (.t 15)), o 17 (.load true 4 (.t 3)), o 18 (.call (.f 83) [.t 16, .t 17]), m 14 18, o 19 (.ext (.t 14) 0), o 20 (.ext (.t 14) 1), m 6 19,
    m 7 20]) (.seq (.seq (R [m 21 7, o 22 (.un .not (.t 21))]) (.cond (.t 22) (.seq (R [o 23 (.load true 3 (.t 2)), o 24 (.call (.f 104) [.t 23]), x (.store 3 (.t 4) (.t 24)), o 5
    (.mv (n 3))]) .ret) .skip)) (.seq (.seq (R [o 25 (.fld 2 (.t 2)), o 26 (.load false 1 (.t 25)), o 27 (.len false (.t 26)), o 28 (.bin .eql (.t 27) (n 200)), m 29 28, q 30 29
    false (.mv (.t 6)), q 31 29 false (.call (.f 82) [.t 30]), q 32 29 false (.un .not (.t 31)), o 33 (.pick (.t 29) (.c (.b true)) (.t 32))]) (.cond (.t 33) (.seq (R [o 34 (.load
    true 3 (.t 2)), o 35 (.call (.f 104) [.t 34]), x (.store 3 (.t 4) (.t 35)), o 5 (.mv (n 4))]) .ret) .skip)) (.seq (R [o 36 (.load true 3 (.t 2)), o 37 (.call (.f 104) [.t 36]),
    o 8 (.alloc [.nils, .nils, .nils]), x (.store 3 (.t 8) (.t 37))]) (.seq (R [m 38 6, o 39 (.fld 0 (.t 8)), x (.store 1 (.t 39) (.t 38))]) (.seq (R [o 40 (.fld 2 (.t 8)), o 41
    (.load false 1 (.t 40)), o 42 (.load true 4 (.t 3)), o 43 (.bslice 4 1 [.i .i64 0, .s [], .s [], .s []] [(0, .t 42)]), o 44 (.app 4 56 [.i .i64 0, .s [], .s [], .s []] (.t 41)
    (.t 43)), o 45 (.fld 2 (.t 8)), x (.store 1 (.t 45) (.t 44))]) (.seq (R [o 46 (.load true 3 (.t 8)), x (.store 3 (.t 4) (.t 46)), o 5 (.mv (n 0))]) .ret)))))))),
  by kernel_rfl⟩
def k104 : KF Go.Proofs.Try.f104 := ⟨
 .seq (R [o 1 (.box (.t 0)), o 2 (.alloc [.nils, .nils, .nils])]) (.seq (D [o 3 (.mk4 (.bslice 2 0 [.s [], .s []] [])), o 4 (.fld 0 (.t 1)), o 5 (.load false 1 (.t 4)), o 6 (.mk4
    (.app 2 32 [.s [], .s []] (.t 3) (.t 5))), o 7 (.mk4 (.bslice 2 0 [.s [], .s []] [])), o 8 (.fld 1 (.t 1)), o 9 (.load false 1 (.t 8)), o 10 (.mk4 (.app 2 32 [.s [], .s []] (.t
    7) (.t 9))), o 11 (.mk4 (.bslice 4 0 [.i .i64 0, .s [], .s [], .s []] [])), o 12 (.fld 2 (.t 1)), o 13 (.load false 1 (.t 12)), o 14 (.mk4 (.app 4 56 [.i .i64 0, .s [], .s [],
    .s []] (.t 11) (.t 13))), o 15 (.build [.nils, .nils, .nils] [(0, 1, .t 6), (1, 1, .t 10), (2, 1, .t 14)]), x (.store 3 (.t 2) (.t 15))] [[], [], [1], [0, 2], [], [], [5], [4,
    6, 3], [], [], [9], [8, 10, 7], [3, 7, 11], [12, 11, 0, 1, 2, 3, 4, 5, 6, 7, 8, 9, 10, 11, 12]]) .ret),
  by kernel_rfl⟩
def k103 : KF Go.Proofs.Try.f103 := ⟨
 .seq (R [o 1 (.box (.t 0)), o 2 (.alloc [.nils, .nils, .nils])]) (.seq (D [o 3 (.fld 0 (.t 1)), o 4 (.load false 1 (.t 3)), o 5 (.callc 87 [.t 4]), o 6 (.fld 1 (.t 1)), o 7 (.load
    false 1 (.t 6)), o 8 (.callc 87 [.t 7]), o 9 (.fld 2 (.t 1)), o 10 (.load false 1 (.t 9)), o 11 (.callc 131 [.t 10]), o 12 (.build [.nils, .nils, .nils] [(0, 1, .t 5), (1, 1, .t
    8), (2, 1, .t 11)]), x (.store 3 (.t 2) (.t 12))] [[], [0], [1], [], [3], [4, 2], [], [6], [7, 5], [2, 5, 8], [9, 8, 0, 1, 2, 3, 4, 5, 6, 7, 8, 9]]) .ret),
  by kernel_rfl⟩
def k131 : KF Go.Proofs.Try.f131 := ⟨
 .seq (R [o 2 (.mv (.c .nils))]) (.seq (.seq (R [m 3 0, o 4 (.eqn false (.t 3) (.c .nils))]) (.cond (.t 4) (.seq (R [o 2 (.mv (.c .nils)), G]) .ret) .skip)) (.seq (R [o 5 (.bslice 4
    0 [.i .i64 0, .s [], .s [], .s []] []), m 6 0, o 7 (.app 4 56 [.i .i64 0, .s [], .s [], .s []] (.t 5) (.t 6)), m 2 7]) .ret)),
  by kernel_rfl⟩
def k46 : KF Go.Proofs.Try.f46 := ⟨
 .seq (R [o 2 (.box (.t 0)), o 3 (.box (.t 1)), o 4 (.alloc [.nils, .nils, .nils]), o 5 (.mv (n 0))]) (.seq (.seq (R [o 6 (.load true 3 (.t 2)), o 7 (.call (.f 35) [.t 6]), o 8 (.un
    .not (.t 7))]) (.cond (.t 8) (.seq (R [o 9 (.build [.nils, .nils, .nils] []), x (.store 3 (.t 4) (.t 9)), o 5 (.mv (n 1))]) .ret) .skip)) (.seq (R [o 10 (.load true 3 (.t 2)), o
    11 (.load true 4 (.t 3)), o 12 (.call (.f 99) [.t 10, .t 11]), o 13 (.ext (.t 12) 0), o 14 (.ext (.t 12) 1), x (.store 3 (.t 4) (.t 13)), m 5 14]) .ret)),
  by kernel_rfl⟩
def k99 : KF Go.Proofs.Try.f99 := ⟨
 .seq (R [o 2 (.box (.t 0)), o 3 (.box (.t 1)), o 4 (.alloc [.nils, .nils, .nils]), o 5 (.mv (n 0))]) (.seq (R [o 9 (.load true 3 (.t 2)), o 10 (.call (.f 103) [.t 9]), o 6 (.alloc
    [.nils, .nils, .nils]), x (.store 3 (.t 6) (.t 10))]) (.seq (.seq (R [o 11 (.load true 4 (.t 3)), o 12 (.call (.f 79) [.t 11]), o 13 (.un .not (.t 12))]) (.cond (.t 13) (.seq (R
    [o 14 (.load true 3 (.t 6)), x (.store 3 (.t 4) (.t 14)), o 5 (.mv (n 2))]) .ret) .skip)) (.seq (R [o 16 (.fld 0 (.t 2)), o 17 (.load false 1 (.t 16)), o 18 (.load true 4 (.t
    3)), o 19 (.call (.f 80) [.t 17, .t 18]), m 15 19, o 20 (.ext (.t 15) 0), o 21 (.ext (.t 15) 1), m 7 20, m 8 21]) (.seq (.block 0 (.seq (R [m 23 8, o 24 (.un .not (.t 23)), m 22
    24]) (.cond (.t 22) (.seq (R [o 25 (.load true 3 (.t 6)), x (.store 3 (.t 4) (.t 25)), o 5 (.mv (n 3))]) .ret) (.seq (R [o 27 (.fld 2 (.t 2)), o 28 (.load false 1 (.t 27)), o 29
    (.len false (.t 28)), o 30 (.bin .eql (.t 29) (n 200)), m 31 30, q 32 31 false (.mv (.t 7)), q 33 31 false (.call (.f 78) [.t 32]), q 34 31 false (.un .not (.t 33)), o 35 (.pick
    (.t 31) (.c (.b true)) (.t 34)), m 26 35]) (.cond (.t 26) (.seq (R [o 36 (.load true 3 (.t 6)), x (.store 3 (.t 4) (.t 36)), o 5 (.mv (n 4))]) .ret) .skip))))) (.seq (D [m 37 7,
    o 38 (.callc 87 [.t 37]), o 39 (.fld 2 (.t 6)), o 40 (.load false 1 (.t 39)), o 41 (.load true 4 (.t 3)), o 42 (.mk4 (.bslice 4 1 [.i .i64 0, .s [], .s [], .s []] [(0, .t
    41)])), o 43 (.mk4 (.app 4 56 [.i .i64 0, .s [], .s [], .s []] (.t 40) (.t 42))), o 44 (.fld 0 (.t 6)), x (.store 1 (.t 44) (.t 38)), o 45 (.fld 2 (.t 6)), x (.store 1 (.t 45)
    (.t 43))] [[], [0], [], [2], [], [4], [3, 5, 1], [0, 1, 2, 3], [7, 1, 6, 0, 1, 2, 3], [0, 1, 2, 3, 4, 5, 6, 7, 8], [9, 6, 8, 0, 1, 2, 3, 4, 5, 6, 7, 8]]) (.seq (R [o 46 (.load
    true 3 (.t 6)), x (.store 3 (.t 4) (.t 46)), o 5 (.mv (n 0))]) .ret)))))),
  by kernel_rfl⟩
end FrA

