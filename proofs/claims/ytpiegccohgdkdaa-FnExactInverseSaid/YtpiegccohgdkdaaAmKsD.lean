/- The programs of some functions. No condition. -/
import Derived.Test.YtpiegccohgdkdaaProg
import Derived.Test.YtpiegccohgdkdaaAmFuns
set_option linter.all false
set_option linter.unusedSimpArgs false
set_option linter.unusedVariables false
set_option linter.deprecated false
/-! KsD -/
open Go Go.AM
namespace FrA
open Go.AM.L
set_option maxRecDepth 100000
def k35 : KF Go.Proofs.Try.f35 := ⟨
 .seq (R [o 1 (.box (.t 0)), o 2 (.mv (.c (.b false)))]) (.seq (.seq (R [o 8 (.fld 0 (.t 1)), o 9 (.load false 1 (.t 8)), o 10 (.call (.f 78) [.t 9]), o 11 (.un .not (.t 10)), m 12
    11, q 13 12 false (.fld 1 (.t 1)), q 14 12 false (.load false 1 (.t 13)), q 15 12 false (.call (.f 78) [.t 14]), q 16 12 false (.un .not (.t 15)), o 17 (.pick (.t 12) (.c (.b
    true)) (.t 16)), m 18 17, q 19 18 false (.fld 2 (.t 1)), q 20 18 false (.load false 1 (.t 19)), q 21 18 false (.len false (.t 20)), q 22 18 false (.bin .gtr (.t 21) (n 200)), o
    23 (.pick (.t 18) (.c (.b true)) (.t 22))]) (.cond (.t 23) (.seq (R [o 2 (.mv (.c (.b false)))]) .ret) .skip)) (.seq (R [o 24 (.fld 1 (.t 1)), o 25 (.load false 1 (.t 24)), m 3
    25]) (.seq (.seq (R [o 26 (.fld 2 (.t 1)), o 27 (.load false 1 (.t 26)), o 28 (.len false (.t 27)), o 29 (.mv (n 0))]) (.block 0 (.loop (.seq (R [o 30 (.bin .lss (.t 29) (.t
    28))]) (.seq (.cond (.t 30) .skip (.exit 0)) (.seq (.block 1 (.seq (R [o 31 (.idx 4 (.t 27) (.t 29)), o 32 (.load true 4 (.t 31)), o 5 (.alloc [.i .i64 0, .s [], .s [], .s []]),
    x (.store 4 (.t 5) (.t 32))]) (.seq (R [o 33 (.load true 4 (.t 5)), o 34 (.call (.f 79) [.t 33]), o 6 (.mv (.c .nils)), m 7 34]) (.seq (.seq (R [m 35 7]) (.cond (.t 35) (R [m 37
    3, o 38 (.load true 4 (.t 5)), o 39 (.call (.f 80) [.t 37, .t 38]), m 36 39, o 40 (.ext (.t 36) 0), o 41 (.ext (.t 36) 1), m 6 40, m 7 41]) .skip)) (.seq (.seq (R [m 42 7, o 43
    (.un .not (.t 42)), m 44 43, q 45 44 false (.mv (.t 6)), q 46 44 false (.call (.f 78) [.t 45]), q 47 44 false (.un .not (.t 46)), o 48 (.pick (.t 44) (.c (.b true)) (.t 47))])
    (.cond (.t 48) (.seq (R [o 2 (.mv (.c (.b false)))]) .ret) .skip)) (R [m 49 6, m 3 49])))))) (R [o 50 (.bin .add (.t 29) (n 1)), m 29 50]))))))) (.seq (R [m 51 3, o 52 (.fld 0
    (.t 1)), o 53 (.load false 1 (.t 52)), o 54 (.call (.f 81) [.t 51, .t 53]), m 2 54]) .ret)))),
  by kernel_rfl⟩
def k36 : KF Go.Proofs.Try.f36 := ⟨
 .seq (R [o 1 (.box (.t 0)), o 2 (.mv (.c (.b false)))]) (.seq (.seq (R [o 7 (.fld 0 (.t 1)), o 8 (.load false 1 (.t 7)), o 9 (.call (.f 82) [.t 8]), o 10 (.un .not (.t 9)), m 11
    10, q 12 11 false (.fld 1 (.t 1)), q 13 11 false (.load false 1 (.t 12)), q 14 11 false (.call (.f 82) [.t 13]), q 15 11 false (.un .not (.t 14)), o 16 (.pick (.t 11) (.c (.b
    true)) (.t 15)), m 17 16, q 18 17 false (.fld 2 (.t 1)), q 19 17 false (.load false 1 (.t 18)), q 20 17 false (.len false (.t 19)), q 21 17 false (.bin .gtr (.t 20) (n 200)), o
    22 (.pick (.t 17) (.c (.b true)) (.t 21))]) (.cond (.t 22) (.seq (R [o 2 (.mv (.c (.b false)))]) .ret) .skip)) (.seq (R [o 23 (.fld 1 (.t 1)), o 24 (.load false 1 (.t 23)), m 3
    24]) (.seq (.seq (R [o 4 (.mv (n 0))]) (.block 0 (.loop (.seq (.seq (R [m 25 4, o 26 (.fld 2 (.t 1)), o 27 (.load false 1 (.t 26)), o 28 (.len false (.t 27)), o 29 (.bin .lss
    (.t 25) (.t 28))]) (.cond (.t 29) .skip (.exit 0))) (.seq (.block 1 (.seq (R [m 33 3, o 34 (.fld 2 (.t 1)), o 35 (.load false 1 (.t 34)), m 36 4, o 37 (.idx 4 (.t 35) (.t 36)),
    o 38 (.load true 4 (.t 37)), o 39 (.call (.f 83) [.t 33, .t 38]), m 32 39, o 40 (.ext (.t 32) 0), o 41 (.ext (.t 32) 1), m 5 40, m 6 41]) (.seq (.seq (R [m 42 6, o 43 (.un .not
    (.t 42)), m 44 43, q 45 44 false (.fld 2 (.t 1)), q 46 44 false (.load false 1 (.t 45)), q 47 44 false (.mv (.t 4)), q 48 44 false (.idx 4 (.t 46) (.t 47)), q 49 44 false (.load
    true 4 (.t 48)), q 50 44 false (.call (.f 84) [.t 49]), q 51 44 false (.un .not (.t 50)), o 52 (.pick (.t 44) (.c (.b true)) (.t 51)), m 53 52, q 54 53 false (.mv (.t 5)), q 55
    53 false (.call (.f 82) [.t 54]), q 56 53 false (.un .not (.t 55)), o 57 (.pick (.t 53) (.c (.b true)) (.t 56))]) (.cond (.t 57) (.seq (R [o 2 (.mv (.c (.b false)))]) .ret)
    .skip)) (R [m 58 5, m 3 58])))) (R [m 30 4, o 31 (.bin .add (.t 30) (n 1)), m 4 31])))))) (.seq (R [m 59 3, o 60 (.fld 0 (.t 1)), o 61 (.load false 1 (.t 60)), o 62 (.call (.f
    85) [.t 59, .t 61]), m 2 62]) .ret)))),
  by kernel_rfl⟩
def k78 : KF Go.Proofs.Try.f78 := ⟨
 .seq (R [o 2 (.mv (.c (.b false)))]) (.seq (R [o 3 (.mv (n 0))]) (.seq (.seq (R [m 6 0, o 7 (.len false (.t 6)), o 8 (.mv (n 0))]) (.block 0 (.loop (.seq (R [o 9 (.bin .lss (.t 8)
    (.t 7))]) (.seq (.cond (.t 9) .skip (.exit 0)) (.seq (.block 1 (.seq (R [m 10 8, o 11 (.idx 2 (.t 6) (.t 8)), o 12 (.load true 2 (.t 11)), o 5 (.alloc [.s [], .s []]), m 4 10, x
    (.store 2 (.t 5) (.t 12))]) (.seq (R [m 13 3, o 14 (.fld 1 (.t 5)), o 15 (.load false 1 (.t 14)), o 16 (.len true (.t 15)), o 17 (.bin .add (.t 13) (.t 16)), m 3 17]) (.seq (D
    [m 18 4, o 19 (.bin .eql (.t 18) (n 60)), m 20 19, q 21 20 false (.mv (.t 3)), q 22 20 false (.bin .gtr (.t 21) (n 200000)), o 23 (.pick (.t 20) (.c (.b true)) (.t 22)), m 24
    23, q 25 24 false (.fld 0 (.t 5)), q 26 24 false (.load false 1 (.t 25)), q 27 24 false (.call0 (.f 117) [.t 26]), q 28 24 false (.un .not (.t 27)), o 29 (.pick (.t 24) (.c (.b
    true)) (.t 28)), m 30 29, q 31 30 false (.mv (.t 4)), q 32 30 false (.bin .gtr (.t 31) (n 0)), q 33 30 false (.mv (.t 32)), q 34 33 true (.mv (.t 0)), q 35 33 true (.mv (.t 4)),
    q 36 33 true (.bin .sub (.t 35) (n 1)), q 37 33 true (.idx 2 (.t 34) (.t 36)), q 38 33 true (.fld 0 (.t 37)), q 39 33 true (.load false 1 (.t 38)), q 40 33 true (.fld 0 (.t 5)),
    q 41 33 true (.load false 1 (.t 40)), q 42 33 true (.bin .geq (.t 39) (.t 41)), q 43 30 false (.pick (.t 33) (.t 42) (.c (.b false))), o 44 (.pick (.t 30) (.c (.b true)) (.t
    43))] [[], [0], [1], [2], [3, 2], [2, 4], [5, 2], [6], [7, 6], [8, 6, 6], [9, 6], [6, 10], [11, 9], [12], [13, 12], [14, 12, 12], [15], [15], [17, 15], [16, 18, 15], [19, 15],
    [20, 15], [15], [22, 15], [21, 23, 15], [15, 24, 12], [12, 25]]) (.cond (.t 44) (.seq (R [o 2 (.mv (.c (.b false)))]) .ret) .skip))))) (R [o 45 (.bin .add (.t 8) (n 1)), m 8
    45]))))))) (.seq (R [o 2 (.mv (.c (.b true)))]) .ret))),
  by kernel_rfl⟩
def k79 : KF Go.Proofs.Try.f79 := ⟨
 .seq (R [o 1 (.box (.t 0)), o 2 (.mv (.c (.b false)))]) (.seq (.seq (R [o 3 (.fld 0 (.t 1)), o 4 (.load false 1 (.t 3))]) (.block 0 (.seq (R [o 6 (.bin .eql (.t 4) (n 1)), m 5 6])
    (.cond (.t 5) (.seq (R [o 7 (.fld 1 (.t 1)), o 8 (.load false 1 (.t 7)), o 9 (.call (.f 117) [.t 8]), m 10 9, q 11 10 true (.fld 2 (.t 1)), q 12 10 true (.load false 1 (.t 11)),
    q 13 10 true (.bin .eql (.t 12) (.c (.s []))), o 14 (.pick (.t 10) (.t 13) (.c (.b false))), m 2 14]) .ret) (.seq (R [o 16 (.bin .eql (.t 4) (n 2)), m 15 16]) (.cond (.t 15)
    (.seq (R [o 17 (.fld 1 (.t 1)), o 18 (.load false 1 (.t 17)), o 19 (.call (.f 117) [.t 18]), m 20 19, q 21 20 true (.fld 2 (.t 1)), q 22 20 true (.load false 1 (.t 21)), q 23 20
    true (.call (.f 117) [.t 22]), o 24 (.pick (.t 20) (.t 23) (.c (.b false))), m 25 24, q 26 25 true (.fld 3 (.t 1)), q 27 25 true (.load false 1 (.t 26)), q 28 25 true (.bin .eql
    (.t 27) (.c (.s []))), o 29 (.pick (.t 25) (.t 28) (.c (.b false))), m 2 29]) .ret) .skip)))))) (.seq (R [o 30 (.fld 0 (.t 1)), o 31 (.load false 1 (.t 30)), o 32 (.bin .eql (.t
    31) (n 3)), m 33 32, q 34 33 true (.fld 1 (.t 1)), q 35 33 true (.load false 1 (.t 34)), q 36 33 true (.call (.f 117) [.t 35]), o 37 (.pick (.t 33) (.t 36) (.c (.b false))), m
    38 37, q 39 38 true (.fld 2 (.t 1)), q 40 38 true (.load false 1 (.t 39)), q 41 38 true (.bin .eql (.t 40) (.c (.s []))), o 42 (.pick (.t 38) (.t 41) (.c (.b false))), m 43 42,
    q 44 43 true (.fld 3 (.t 1)), q 45 43 true (.load false 1 (.t 44)), q 46 43 true (.bin .eql (.t 45) (.c (.s []))), o 47 (.pick (.t 43) (.t 46) (.c (.b false))), m 2 47]) .ret)),
  by kernel_rfl⟩
def k80 : KF Go.Proofs.Try.f80 := ⟨
 .seq (R [o 3 (.box (.t 1)), o 4 (.mv (.c .nils)), o 5 (.mv (.c (.b false)))]) (.seq (R [m 12 0, o 13 (.fld 1 (.t 3)), o 14 (.load false 1 (.t 13)), o 15 (.call (.f 118) [.t 12, .t
    14]), m 11 15, o 16 (.ext (.t 11) 0), o 17 (.ext (.t 11) 1), m 6 16, m 7 17]) (.seq (.seq (R [o 18 (.fld 0 (.t 3)), o 19 (.load false 1 (.t 18)), o 20 (.bin .eql (.t 19) (n
    1))]) (.cond (.t 20) (.seq (R [o 21 (.fld 3 (.t 3)), o 22 (.load false 1 (.t 21)), m 8 22]) (.seq (.seq (R [m 23 7]) (.cond (.t 23) (R [m 24 0, m 25 6, o 26 (.idx 2 (.t 24) (.t
    25)), o 27 (.fld 1 (.t 26)), o 28 (.load false 1 (.t 27)), m 29 8, o 30 (.bin .add (.t 28) (.t 29)), m 8 30]) .skip)) (.seq (R [m 31 0, o 32 (.fld 1 (.t 3)), o 33 (.load false 1
    (.t 32)), m 34 8, o 35 (.call (.f 119) [.t 31, .t 33, .t 34]), m 4 35, o 5 (.mv (.c (.b true)))]) .ret))) .skip)) (.seq (.seq (R [m 36 7, o 37 (.un .not (.t 36))]) (.cond (.t
    37) (.seq (R [m 38 0, m 4 38, o 5 (.mv (.c (.b false)))]) .ret) .skip)) (.seq (R [m 39 0, m 40 6, o 41 (.idx 2 (.t 39) (.t 40)), o 42 (.fld 1 (.t 41)), o 43 (.load false 1 (.t
    42)), m 9 43]) (.seq (R [m 44 0, o 45 (.call (.f 87) [.t 44]), m 46 6, m 47 6, o 48 (.bin .add (.t 47) (n 1)), o 49 (.call (.f 120) [.t 45, .t 46, .t 48]), m 10 49]) (.seq (.seq
    (R [o 50 (.fld 0 (.t 3)), o 51 (.load false 1 (.t 50)), o 52 (.bin .eql (.t 51) (n 2))]) (.cond (.t 52) (R [m 53 10, o 54 (.fld 2 (.t 3)), o 55 (.load false 1 (.t 54)), m 56 9,
    o 57 (.call (.f 119) [.t 53, .t 55, .t 56]), m 10 57]) .skip)) (.seq (R [m 58 10, m 4 58, o 5 (.mv (.c (.b true)))]) .ret))))))),
  by kernel_rfl⟩
def k81 : KF Go.Proofs.Try.f81 := ⟨
 .seq (R [o 4 (.mv (.c (.b false)))]) (.seq (.seq (R [m 6 0, o 7 (.len false (.t 6)), m 8 1, o 9 (.len false (.t 8)), o 10 (.bin .neq (.t 7) (.t 9))]) (.cond (.t 10) (.seq (R [o 4
    (.mv (.c (.b false)))]) .ret) .skip)) (.seq (.seq (R [m 11 0, o 12 (.len false (.t 11)), o 13 (.mv (n 0))]) (.block 0 (.loop (.seq (R [o 14 (.bin .lss (.t 13) (.t 12))]) (.seq
    (.cond (.t 14) .skip (.exit 0)) (.seq (.block 1 (.seq (R [m 15 13, m 5 15]) (.seq (D [m 16 0, m 17 5, o 18 (.idx 2 (.t 16) (.t 17)), o 19 (.load true 2 (.t 18)), m 20 1, m 21 5,
    o 22 (.idx 2 (.t 20) (.t 21)), o 23 (.load true 2 (.t 22)), o 24 (.eqt (.struct [.str, .str]) true (.t 19) (.t 23))] [[], [], [0, 1], [2], [], [], [4, 5], [6], [3, 7]]) (.cond
    (.t 24) (.seq (R [o 4 (.mv (.c (.b false)))]) .ret) .skip)))) (R [o 25 (.bin .add (.t 13) (n 1)), m 13 25]))))))) (.seq (R [o 4 (.mv (.c (.b true)))]) .ret))),
  by kernel_rfl⟩
def k82 : KF Go.Proofs.Try.f82 := ⟨
 .seq (R [o 2 (.mv (.c (.b false)))]) (.seq (.seq (R [m 5 0, o 6 (.len false (.t 5)), o 7 (.bin .gtr (.t 6) (n 60))]) (.cond (.t 7) (.seq (R [o 2 (.mv (.c (.b false)))]) .ret)
    .skip)) (.seq (R [o 3 (.mv (n 0))]) (.seq (.seq (R [o 4 (.mv (n 0))]) (.block 0 (.loop (.seq (.seq (R [m 8 4, m 9 0, o 10 (.len false (.t 9)), o 11 (.bin .lss (.t 8) (.t 10))])
    (.cond (.t 11) .skip (.exit 0))) (.seq (.block 1 (.seq (.seq (D [m 14 0, m 15 4, o 16 (.idx 2 (.t 14) (.t 15)), o 17 (.fld 0 (.t 16)), o 18 (.load false 1 (.t 17)), o 19 (.call0
    (.f 121) [.t 18]), o 20 (.un .not (.t 19)), m 21 20, q 22 21 false (.mv (.t 4)), q 23 21 false (.bin .gtr (.t 22) (n 0)), q 24 21 false (.mv (.t 23)), q 25 24 true (.mv (.t 0)),
    q 26 24 true (.mv (.t 4)), q 27 24 true (.idx 2 (.t 25) (.t 26)), q 28 24 true (.fld 0 (.t 27)), q 29 24 true (.load false 1 (.t 28)), q 30 24 true (.mv (.t 0)), q 31 24 true
    (.mv (.t 4)), q 32 24 true (.bin .sub (.t 31) (n 1)), q 33 24 true (.idx 2 (.t 30) (.t 32)), q 34 24 true (.fld 0 (.t 33)), q 35 24 true (.load false 1 (.t 34)), q 36 24 true
    (.bin .leq (.t 29) (.t 35)), q 37 21 false (.pick (.t 24) (.t 36) (.c (.b false))), o 38 (.pick (.t 21) (.c (.b true)) (.t 37))] [[], [], [0, 1], [2], [3], [4], [5], [6, 5],
    [7], [8, 7], [9, 7, 7], [10], [10], [11, 12, 10], [13, 10], [14, 10], [10], [10], [17, 10], [16, 18, 10], [19, 10], [20, 10], [15, 21, 10], [10, 22, 7], [7, 23]]) (.cond (.t 38)
    (.seq (R [o 2 (.mv (.c (.b false)))]) .ret) .skip)) (R [m 39 3, m 40 0, m 41 4, o 42 (.idx 2 (.t 40) (.t 41)), o 43 (.fld 1 (.t 42)), o 44 (.load false 1 (.t 43)), o 45 (.len
    true (.t 44)), o 46 (.bin .add (.t 39) (.t 45)), m 3 46]))) (R [m 12 4, o 13 (.bin .add (.t 12) (n 1)), m 4 13])))))) (.seq (R [m 47 3, o 48 (.bin .leq (.t 47) (n 200000)), m 2
    48]) .ret)))),
  by kernel_rfl⟩
def k83 : KF Go.Proofs.Try.f83 := ⟨
 .seq (R [o 3 (.box (.t 1)), o 4 (.mv (.c .nils)), o 5 (.mv (.c (.b false)))]) (.seq (R [m 9 0, o 10 (.fld 1 (.t 3)), o 11 (.load false 1 (.t 10)), o 12 (.call (.f 95) [.t 9, .t
    11]), m 6 12]) (.seq (.seq (R [o 13 (.fld 0 (.t 3)), o 14 (.load false 1 (.t 13)), o 15 (.bin .eql (.t 14) (n 1))]) (.cond (.t 15) (.seq (R [o 16 (.fld 3 (.t 3)), o 17 (.load
    false 1 (.t 16)), m 7 17]) (.seq (.seq (R [m 18 6, o 19 (.bin .geq (.t 18) (n 0))]) (.cond (.t 19) (R [m 20 0, m 21 6, o 22 (.idx 2 (.t 20) (.t 21)), o 23 (.fld 1 (.t 22)), o 24
    (.load false 1 (.t 23)), m 25 7, o 26 (.bin .add (.t 24) (.t 25)), m 7 26]) .skip)) (.seq (R [m 27 0, o 28 (.fld 1 (.t 3)), o 29 (.load false 1 (.t 28)), m 30 7, o 31 (.call (.f
    122) [.t 27, .t 29, .t 30]), m 4 31, o 5 (.mv (.c (.b true)))]) .ret))) .skip)) (.seq (.seq (R [m 32 6, o 33 (.bin .lss (.t 32) (n 0))]) (.cond (.t 33) (.seq (R [o 34 (.bslice 2
    0 [.s [], .s []] []), m 35 0, o 36 (.app 2 32 [.s [], .s []] (.t 34) (.t 35)), m 4 36, o 5 (.mv (.c (.b false)))]) .ret) .skip)) (.seq (R [m 37 0, o 38 (.fld 1 (.t 3)), o 39
    (.load false 1 (.t 38)), o 40 (.call (.f 123) [.t 37, .t 39]), m 8 40]) (.seq (.seq (R [o 41 (.fld 0 (.t 3)), o 42 (.load false 1 (.t 41)), o 43 (.bin .eql (.t 42) (n 2))])
    (.cond (.t 43) (D [m 44 8, o 45 (.fld 2 (.t 3)), o 46 (.load false 1 (.t 45)), m 47 0, m 48 6, o 49 (.idx 2 (.t 47) (.t 48)), o 50 (.fld 1 (.t 49)), o 51 (.load false 1 (.t
    50)), o 52 (.calln (.f 122) [.t 44, .t 46, .t 51]), m 8 52] [[], [], [1], [], [], [3, 4], [5], [6], [0, 2, 7], [8, 8, 0, 1, 2, 3, 4, 5, 6, 7, 8]]) .skip)) (.seq (R [m 53 8, m 4
    53, o 5 (.mv (.c (.b true)))]) .ret)))))),
  by kernel_rfl⟩
def k84 : KF Go.Proofs.Try.f84 := ⟨
 .seq (R [o 1 (.box (.t 0)), o 2 (.mv (.c (.b false)))]) (.seq (.seq (R [o 3 (.fld 0 (.t 1)), o 4 (.load false 1 (.t 3)), o 5 (.call (.f 109) [.t 4, n 1, n 3]), o 6 (.un .not (.t
    5)), m 7 6, q 8 7 false (.fld 1 (.t 1)), q 9 7 false (.load false 1 (.t 8)), q 10 7 false (.call (.f 121) [.t 9]), q 11 7 false (.un .not (.t 10)), o 12 (.pick (.t 7) (.c (.b
    true)) (.t 11))]) (.cond (.t 12) (.seq (R [o 2 (.mv (.c (.b false)))]) .ret) .skip)) (.seq (.seq (R [o 13 (.fld 0 (.t 1)), o 14 (.load false 1 (.t 13)), o 15 (.bin .eql (.t 14)
    (n 2))]) (.cond (.t 15) (.seq (R [o 16 (.fld 2 (.t 1)), o 17 (.load false 1 (.t 16)), o 18 (.call (.f 121) [.t 17]), m 19 18, q 20 19 true (.fld 3 (.t 1)), q 21 19 true (.load
    false 1 (.t 20)), q 22 19 true (.bin .eql (.t 21) (.c (.s []))), o 23 (.pick (.t 19) (.t 22) (.c (.b false))), m 2 23]) .ret) .skip)) (.seq (R [o 24 (.fld 2 (.t 1)), o 25 (.load
    false 1 (.t 24)), o 26 (.bin .eql (.t 25) (.c (.s []))), m 27 26, q 28 27 true (.fld 0 (.t 1)), q 29 27 true (.load false 1 (.t 28)), q 30 27 true (.bin .eql (.t 29) (n 1)), q
    31 27 true (.mv (.t 30)), q 32 31 false (.fld 3 (.t 1)), q 33 31 false (.load false 1 (.t 32)), q 34 31 false (.bin .eql (.t 33) (.c (.s []))), q 35 27 true (.pick (.t 31) (.c
    (.b true)) (.t 34)), o 36 (.pick (.t 27) (.t 35) (.c (.b false))), m 2 36]) .ret))),
  by kernel_rfl⟩
def k85 : KF Go.Proofs.Try.f85 := ⟨
 .seq (R [o 4 (.mv (.c (.b false)))]) (.seq (.seq (R [m 6 0, o 7 (.len false (.t 6)), m 8 1, o 9 (.len false (.t 8)), o 10 (.bin .neq (.t 7) (.t 9))]) (.cond (.t 10) (.seq (R [o 4
    (.mv (.c (.b false)))]) .ret) .skip)) (.seq (.seq (R [o 5 (.mv (n 0))]) (.block 0 (.loop (.seq (.seq (R [m 11 5, m 12 0, o 13 (.len false (.t 12)), o 14 (.bin .lss (.t 11) (.t
    13))]) (.cond (.t 14) .skip (.exit 0))) (.seq (.block 1 (.seq (D [m 17 0, m 18 5, o 19 (.idx 2 (.t 17) (.t 18)), o 20 (.load true 2 (.t 19)), m 21 1, m 22 5, o 23 (.idx 2 (.t
    21) (.t 22)), o 24 (.load true 2 (.t 23)), o 25 (.eqt (.struct [.str, .str]) true (.t 20) (.t 24))] [[], [], [0, 1], [2], [], [], [4, 5], [6], [3, 7]]) (.cond (.t 25) (.seq (R
    [o 4 (.mv (.c (.b false)))]) .ret) .skip))) (R [m 15 5, o 16 (.bin .add (.t 15) (n 1)), m 5 16])))))) (.seq (R [o 4 (.mv (.c (.b true)))]) .ret))),
  by kernel_rfl⟩
def k86 : KF Go.Proofs.Try.f86 := ⟨
 .seq (R [o 6 (.mv (.c (.b false)))]) (.seq (R [m 7 1, m 8 0, o 9 (.bin .leq (.t 7) (.t 8)), m 10 9, q 11 10 true (.mv (.t 0)), q 12 10 true (.mv (.t 2)), q 13 10 true (.bin .leq
    (.t 11) (.t 12)), o 14 (.pick (.t 10) (.t 13) (.c (.b false))), m 6 14]) .ret),
  by kernel_rfl⟩
def k87 : KF Go.Proofs.Try.f87 := ⟨
 .seq (R [o 2 (.mv (.c .nils))]) (.seq (.seq (R [m 3 0, o 4 (.eqn false (.t 3) (.c .nils))]) (.cond (.t 4) (.seq (R [o 2 (.mv (.c .nils)), G]) .ret) .skip)) (.seq (R [o 5 (.bslice 2
    0 [.s [], .s []] []), m 6 0, o 7 (.app 2 32 [.s [], .s []] (.t 5) (.t 6)), m 2 7]) .ret)),
  by kernel_rfl⟩
def k117 : KF Go.Proofs.Try.f117 := ⟨
 .seq (R [o 2 (.mv (.c (.b false)))]) (.seq (R [m 3 0, o 4 (.len true (.t 3)), o 5 (.call (.f 86) [.t 4, n 1, n 100]), m 2 5]) .ret),
  by kernel_rfl⟩
def k118 : KF Go.Proofs.Try.f118 := ⟨
 .seq (R [o 4 (.mv (n 0)), o 5 (.mv (.c (.b false)))]) (.seq (R [m 6 0, m 7 1, o 8 (.call (.f 136) [.t 6, .t 7, .f 137]), o 9 (.ext (.t 8) 0), o 10 (.ext (.t 8) 1), m 4 9, m 5 10])
    .ret),
  by kernel_rfl⟩
def k119 : KF Go.Proofs.Try.f119 := ⟨
 .seq (R [o 6 (.mv (.c .nils))]) (.seq (R [m 11 0, m 12 1, o 13 (.call (.f 118) [.t 11, .t 12]), m 10 13, o 14 (.ext (.t 10) 0), o 15 (.ext (.t 10) 1), m 7 14, m 8 15]) (.seq (R [m
    16 0, o 17 (.call (.f 87) [.t 16]), m 9 17]) (.seq (.seq (R [m 18 8]) (.cond (.t 18) (.seq (R [m 19 9, m 20 7, m 21 2, o 22 (.idx 2 (.t 19) (.t 20)), o 23 (.fld 1 (.t 22)), x
    (.store 1 (.t 23) (.t 21))]) (.seq (R [m 24 9, m 6 24]) .ret)) .skip)) (.seq (R [m 25 9, m 26 7, m 27 1, m 28 2, o 29 (.build [.s [], .s []] [(0, 1, .t 27), (1, 1, .t 28)]), o
    30 (.bslice 2 1 [.s [], .s []] [(0, .t 29)]), o 31 (.call (.f 139) [.t 25, .t 26, .t 30]), m 6 31]) .ret)))),
  by kernel_rfl⟩
def k120 : KF Go.Proofs.Try.f120 := ⟨
 .seq (R [o 6 (.mv (.c .nils))]) (.seq (R [m 8 0, m 9 1, m 10 2, m 11 0, o 12 (.len false (.t 11)), o 13 (.slc 2 (.t 8) (some (.t 9)) (some (.t 10)) (some (.t 12)))]) (.seq (.seq (R
    [m 14 1, m 15 2, o 16 (.bin .eql (.t 14) (.t 15))]) (.cond (.t 16) (.seq (R [m 17 0, m 6 17]) .ret) .skip)) (.seq (R [m 18 0, o 19 (.len false (.t 18)), m 7 19]) (.seq (D [m 20
    0, m 21 1, o 22 (.slc 2 (.t 20) none (some (.t 21)) none), m 23 0, m 24 2, o 25 (.slc 2 (.t 23) (some (.t 24)) none none), o 26 (.app 2 32 [.s [], .s []] (.t 22) (.t 25)), m 0
    26] [[], [], [0, 1], [], [], [3, 4], [2, 5], [6, 6, 0, 1, 2, 3, 4, 5, 6]]) (.seq (R [m 27 0, m 28 0, o 29 (.len false (.t 28)), m 30 7, o 31 (.slc 2 (.t 27) (some (.t 29)) (some
    (.t 30)) none), x (.clr 2 [.s [], .s []] (.t 31))]) (.seq (R [m 32 0, m 6 32]) .ret)))))),
  by kernel_rfl⟩
def k121 : KF Go.Proofs.Try.f121 := ⟨
 .seq (R [o 2 (.mv (.c (.b false)))]) (.seq (R [m 3 0, o 4 (.len true (.t 3)), o 5 (.bin .geq (.t 4) (n 1)), m 6 5, q 7 6 true (.mv (.t 0)), q 8 6 true (.len true (.t 7)), q 9 6
    true (.bin .leq (.t 8) (n 100)), o 10 (.pick (.t 6) (.t 9) (.c (.b false))), m 2 10]) .ret),
  by kernel_rfl⟩
def k122 : KF Go.Proofs.Try.f122 := ⟨
 .seq (R [o 6 (.mv (.c .nils))]) (.seq (R [o 10 (.bslice 2 0 [.s [], .s []] []), m 7 10]) (.seq (R [o 8 (.mv (.c (.b false)))]) (.seq (.seq (R [o 9 (.mv (n 0))]) (.block 0 (.loop
    (.seq (.seq (R [m 11 9, m 12 0, o 13 (.len false (.t 12)), o 14 (.bin .lss (.t 11) (.t 13))]) (.cond (.t 14) .skip (.exit 0))) (.seq (.block 1 (.seq (.seq (R [m 17 8, o 18 (.un
    .not (.t 17)), m 19 18, q 20 19 true (.mv (.t 0)), q 21 19 true (.mv (.t 9)), q 22 19 true (.idx 2 (.t 20) (.t 21)), q 23 19 true (.fld 0 (.t 22)), q 24 19 true (.load false 1
    (.t 23)), q 25 19 true (.mv (.t 1)), q 26 19 true (.bin .geq (.t 24) (.t 25)), o 27 (.pick (.t 19) (.t 26) (.c (.b false)))]) (.cond (.t 27) (.seq (R [m 28 7, m 29 1, m 30 2, o
    31 (.build [.s [], .s []] [(0, 1, .t 29), (1, 1, .t 30)]), o 32 (.bslice 2 1 [.s [], .s []] [(0, .t 31)]), o 33 (.app 2 32 [.s [], .s []] (.t 28) (.t 32)), m 7 33]) (R [o 8 (.mv
    (.c (.b true)))])) .skip)) (.seq (R [m 34 0, m 35 9, o 36 (.idx 2 (.t 34) (.t 35)), o 37 (.fld 0 (.t 36)), o 38 (.load false 1 (.t 37)), m 39 1, o 40 (.bin .neq (.t 38) (.t
    39))]) (.cond (.t 40) (R [m 41 7, m 42 0, m 43 9, o 44 (.idx 2 (.t 42) (.t 43)), o 45 (.load true 2 (.t 44)), o 46 (.bslice 2 1 [.s [], .s []] [(0, .t 45)]), o 47 (.app 2 32 [.s
    [], .s []] (.t 41) (.t 46)), m 7 47]) .skip)))) (R [m 15 9, o 16 (.bin .add (.t 15) (n 1)), m 9 16])))))) (.seq (.seq (R [m 48 8, o 49 (.un .not (.t 48))]) (.cond (.t 49) (R [m
    50 7, m 51 1, m 52 2, o 53 (.build [.s [], .s []] [(0, 1, .t 51), (1, 1, .t 52)]), o 54 (.bslice 2 1 [.s [], .s []] [(0, .t 53)]), o 55 (.app 2 32 [.s [], .s []] (.t 50) (.t
    54)), m 7 55]) .skip)) (.seq (R [m 56 7, m 6 56]) .ret))))),
  by kernel_rfl⟩
def k123 : KF Go.Proofs.Try.f123 := ⟨
 .seq (R [o 4 (.mv (.c .nils))]) (.seq (R [o 7 (.bslice 2 0 [.s [], .s []] []), m 5 7]) (.seq (.seq (R [o 6 (.mv (n 0))]) (.block 0 (.loop (.seq (.seq (R [m 8 6, m 9 0, o 10 (.len
    false (.t 9)), o 11 (.bin .lss (.t 8) (.t 10))]) (.cond (.t 11) .skip (.exit 0))) (.seq (.block 1 (.seq (R [m 14 0, m 15 6, o 16 (.idx 2 (.t 14) (.t 15)), o 17 (.fld 0 (.t 16)),
    o 18 (.load false 1 (.t 17)), m 19 1, o 20 (.bin .neq (.t 18) (.t 19))]) (.cond (.t 20) (R [m 21 5, m 22 0, m 23 6, o 24 (.idx 2 (.t 22) (.t 23)), o 25 (.load true 2 (.t 24)), o
    26 (.bslice 2 1 [.s [], .s []] [(0, .t 25)]), o 27 (.app 2 32 [.s [], .s []] (.t 21) (.t 26)), m 5 27]) .skip))) (R [m 12 6, o 13 (.bin .add (.t 12) (n 1)), m 6 13])))))) (.seq
    (R [m 28 5, m 4 28]) .ret))),
  by kernel_rfl⟩
def k136 : KF Go.Proofs.Try.f136 := ⟨
 .seq (R [o 6 (.mv (n 0)), o 7 (.mv (.c (.b false)))]) (.seq (R [m 12 0, o 13 (.len false (.t 12)), m 8 13]) (.seq (R [m 14 8, o 9 (.mv (n 0)), m 10 14]) (.seq (.block 0 (.loop
    (.seq (.seq (R [m 15 9, m 16 10, o 17 (.bin .lss (.t 15) (.t 16))]) (.cond (.t 17) .skip (.exit 0))) (.block 1 (.seq (R [m 18 9, m 19 10, o 20 (.bin .add (.t 18) (.t 19)), o 21
    (.conv (.int .u64) (.t 20)), o 22 (.bin .shr (.t 21) (.c (.i .u64 1))), o 23 (.conv (.int .i64) (.t 22)), m 11 23]) (.seq (R [m 24 2, m 25 0, m 26 11, o 27 (.idx 2 (.t 25) (.t
    26)), o 28 (.load true 2 (.t 27)), m 29 1, o 30 (.call (.t 24) [.t 28, .t 29]), o 31 (.bin .lss (.t 30) (n 0))]) (.cond (.t 31) (R [m 32 11, o 33 (.bin .add (.t 32) (n 1)), m 9
    33]) (R [m 34 11, m 10 34])))))))) (.seq (R [m 35 9, m 36 9, m 37 8, o 38 (.bin .lss (.t 36) (.t 37)), m 39 38, q 40 39 true (.mv (.t 2)), q 41 39 true (.mv (.t 0)), q 42 39
    true (.mv (.t 9)), q 43 39 true (.idx 2 (.t 41) (.t 42)), q 44 39 true (.load true 2 (.t 43)), q 45 39 true (.mv (.t 1)), q 46 39 true (.call (.t 40) [.t 44, .t 45]), q 47 39
    true (.bin .eql (.t 46) (n 0)), o 48 (.pick (.t 39) (.t 47) (.c (.b false))), m 6 35, m 7 48]) .ret)))),
  by kernel_rfl⟩
def k137 : KF Go.Proofs.Try.f137 := ⟨
 .seq (R [o 2 (.box (.t 0)), o 4 (.mv (n 0))]) (.seq (R [o 5 (.fld 0 (.t 2)), o 6 (.load false 1 (.t 5)), m 7 1, o 8 (.call (.f 138) [.t 6, .t 7]), m 4 8]) .ret),
  by kernel_rfl⟩
def k138 : KF Go.Proofs.Try.f138 := ⟨
 .seq (R [o 4 (.mv (n 0))]) (.seq (R [m 5 0, m 6 1, o 7 (.call (.f 142) [.t 5, .t 6]), m 4 7]) .ret),
  by kernel_rfl⟩
def k139 : KF Go.Proofs.Try.f139 := ⟨
 .seq (R [o 6 (.mv (.c .nils))]) (.seq (R [m 10 0, m 11 1, o 12 (.slc 2 (.t 10) (some (.t 11)) none none)]) (.seq (R [m 13 2, o 14 (.len false (.t 13)), m 7 14]) (.seq (.seq (R [m
    15 7, o 16 (.bin .eql (.t 15) (n 0))]) (.cond (.t 16) (.seq (R [m 17 0, m 6 17]) .ret) .skip)) (.seq (R [m 18 0, o 19 (.len false (.t 18)), m 8 19]) (.seq (.seq (R [m 20 1, m 21
    8, o 22 (.bin .eql (.t 20) (.t 21))]) (.cond (.t 22) (.seq (R [m 23 0, m 24 2, o 25 (.app 2 32 [.s [], .s []] (.t 23) (.t 24)), m 6 25]) .ret) .skip)) (.seq (.seq (R [m 26 8, m
    27 7, o 28 (.bin .add (.t 26) (.t 27)), m 29 0, o 30 (.cap (.t 29)), o 31 (.bin .gtr (.t 28) (.t 30))]) (.cond (.t 31) (.seq (R [m 32 0, m 33 1, o 34 (.slc 2 (.t 32) none (some
    (.t 33)) none), m 35 8, m 36 7, o 37 (.bin .add (.t 35) (.t 36)), m 38 1, o 39 (.bin .sub (.t 37) (.t 38)), o 40 (.appz 2 32 [.s [], .s []] (.t 34) (.t 39)), m 9 40]) (.seq (R
    [m 41 9, m 42 1, o 43 (.slc 2 (.t 41) (some (.t 42)) none none), m 44 2, o 45 (.cpy 2 (.t 43) (.t 44))]) (.seq (D [m 46 9, m 47 1, m 48 7, o 49 (.bin .add (.t 47) (.t 48)), o 50
    (.slc 2 (.t 46) (some (.t 49)) none none), m 51 0, m 52 1, o 53 (.slc 2 (.t 51) (some (.t 52)) none none), o 54 (.cpy 2 (.t 50) (.t 53))] [[], [], [], [1, 2], [0, 3], [], [],
    [5, 6], [4, 7]]) (.seq (R [m 55 9, m 6 55]) .ret)))) .skip)) (.seq (R [m 56 0, m 57 8, m 58 7, o 59 (.bin .add (.t 57) (.t 58)), o 60 (.slc 2 (.t 56) none (some (.t 59)) none),
    m 0 60]) (.seq (.seq (R [m 61 2, m 62 0, m 63 1, m 64 7, o 65 (.bin .add (.t 63) (.t 64)), o 66 (.slc 2 (.t 62) (some (.t 65)) none none), o 67 (.call (.f 143) [.t 61, .t 66]),
    o 68 (.un .not (.t 67))]) (.cond (.t 68) (.seq (D [m 69 0, m 70 1, m 71 7, o 72 (.bin .add (.t 70) (.t 71)), o 73 (.slc 2 (.t 69) (some (.t 72)) none none), m 74 0, m 75 1, o 76
    (.slc 2 (.t 74) (some (.t 75)) none none), o 77 (.cpy 2 (.t 73) (.t 76))] [[], [], [], [1, 2], [0, 3], [], [], [5, 6], [4, 7]]) (.seq (R [m 78 0, m 79 1, o 80 (.slc 2 (.t 78)
    (some (.t 79)) none none), m 81 2, o 82 (.cpy 2 (.t 80) (.t 81))]) (.seq (R [m 83 0, m 6 83]) .ret))) .skip)) (.seq (R [m 84 0, m 85 8, o 86 (.slc 2 (.t 84) (some (.t 85)) none
    none), m 87 2, o 88 (.cpy 2 (.t 86) (.t 87))]) (.seq (R [m 89 0, m 90 1, o 91 (.slc 2 (.t 89) (some (.t 90)) none none), m 92 7, o 93 (.call (.f 144) [.t 91, .t 92])]) (.seq (R
    [m 94 0, m 6 94]) .ret))))))))))),
  by kernel_rfl⟩
def k142 : KF Go.Proofs.Try.f142 := ⟨
 .seq (R [o 4 (.mv (n 0))]) (.seq (R [m 5 0, m 6 1, o 7 (.call (.f 146) [.t 5, .t 6]), m 4 7]) .ret),
  by kernel_rfl⟩
def k95 : KF Go.Proofs.Try.f95 := ⟨
 .seq (R [o 4 (.mv (n 0))]) (.seq (.seq (R [o 5 (.mv (n 0))]) (.block 0 (.loop (.seq (.seq (R [m 6 5, m 7 0, o 8 (.len false (.t 7)), o 9 (.bin .lss (.t 6) (.t 8))]) (.cond (.t 9)
    .skip (.exit 0))) (.seq (.block 1 (.seq (R [m 12 0, m 13 5, o 14 (.idx 2 (.t 12) (.t 13)), o 15 (.fld 0 (.t 14)), o 16 (.load false 1 (.t 15)), m 17 1, o 18 (.bin .eql (.t 16)
    (.t 17))]) (.cond (.t 18) (.seq (R [m 19 5, m 4 19]) .ret) .skip))) (R [m 10 5, o 11 (.bin .add (.t 10) (n 1)), m 5 11])))))) (.seq (R [o 4 (.mv (n (-1)))]) .ret)),
  by kernel_rfl⟩
def k109 : KF Go.Proofs.Try.f109 := ⟨
 .seq (R [o 6 (.mv (.c (.b false)))]) (.seq (R [m 7 0, m 8 1, o 9 (.bin .geq (.t 7) (.t 8)), m 10 9, q 11 10 true (.mv (.t 0)), q 12 10 true (.mv (.t 2)), q 13 10 true (.bin .leq
    (.t 11) (.t 12)), o 14 (.pick (.t 10) (.t 13) (.c (.b false))), m 6 14]) .ret),
  by kernel_rfl⟩
end FrA

