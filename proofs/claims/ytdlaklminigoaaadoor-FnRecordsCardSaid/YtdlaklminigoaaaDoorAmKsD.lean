/- The programs of some functions. No condition. -/
import Derived.Test.YtdlaklminigoaaaDoorProg
import Derived.Test.YtdlaklminigoaaaDoorAmFuns
set_option linter.all false
set_option linter.unusedSimpArgs false
set_option linter.unusedVariables false
set_option linter.deprecated false
/-! KsD -/
open Go Go.AM
namespace FrA
open Go.AM.L
set_option maxRecDepth 100000
-- (*s.l1Rd).val
def k26 : KF Go.Proofs.Tryd.f26 := ⟨
 .seq (R [o 2 (.alloc [.i .i64 0, .i .i64 0, .s []])]) (.seq (.seq (R [m 3 0, o 4 (.call (.f 14) [.t 3, n 12])]) (.block 0 (.seq (.seq (R [o 6 (.bin .eql (.t 4) (n 0)), m 5 6])
    (.cond (.t 5) .skip (R [o 7 (.bin .eql (.t 4) (n 1)), m 5 7]))) (.cond (.t 5) (.seq (R [o 8 (.build [.i .i64 0, .i .i64 0, .s []] []), x (.store 3 (.t 2) (.t 8))]) .ret) (.seq
    (.seq (R [o 10 (.bin .eql (.t 4) (n 2)), m 9 10]) (.cond (.t 9) .skip (R [o 11 (.bin .eql (.t 4) (n 3)), m 9 11]))) (.cond (.t 9) (.seq (R [o 12 (.bslice 1 6 [.s []] [(0, .c (.s
    [])), (1, .c (.s [97])), (2, .c (.s [98])), (3, .c (.s [97, 32, 98])), (4, .c (.s [105, 116, 39, 115])), (5, .c (.s [120, 44, 37]))]), m 13 0, o 14 (.call (.f 14) [.t 13, n 6]),
    o 15 (.idx 1 (.t 12) (.t 14)), o 16 (.load false 1 (.t 15)), o 17 (.call (.f 42) [.t 16]), x (.store 3 (.t 2) (.t 17))]) .ret) (.seq (R [o 19 (.bin .eql (.t 4) (n 4)), m 18 19])
    (.cond (.t 18) (.seq (R [o 20 (.bslice 1 4 [.i .i64 0] [(0, n (-1000000000)), (1, n 1000000000), (2, n (-5)), (3, n 70)]), m 21 0, o 22 (.call (.f 14) [.t 21, n 4]), o 23 (.idx
    1 (.t 20) (.t 22)), o 24 (.load false 1 (.t 23)), o 25 (.call (.f 44) [.t 24]), x (.store 3 (.t 2) (.t 25))]) .ret) .skip)))))))) (.seq (R [m 26 0, o 27 (.call (.f 14) [.t 26, n
    5]), o 28 (.call (.f 44) [.t 27]), x (.store 3 (.t 2) (.t 28))]) .ret)),
  by kernel_rfl⟩
-- (*s.l1Rd).vals
def k13 : KF Go.Proofs.Tryd.f13 := ⟨
 .seq (R [o 4 (.mv (.c .nils))]) (.seq (R [o 7 (.bslice 3 0 [.i .i64 0, .i .i64 0, .s []] []), m 5 7]) (.seq (.seq (R [o 6 (.mv (n 0))]) (.block 0 (.loop (.seq (.seq (R [m 8 6, m 9
    1, o 10 (.bin .lss (.t 8) (.t 9))]) (.cond (.t 10) .skip (.exit 0))) (.seq (.block 1 (R [m 13 5, m 14 0, o 15 (.call (.f 26) [.t 14]), o 16 (.bslice 3 1 [.i .i64 0, .i .i64 0,
    .s []] [(0, .t 15)]), o 17 (.app 3 32 [.i .i64 0, .i .i64 0, .s []] (.t 13) (.t 16)), m 5 17])) (R [m 11 6, o 12 (.bin .add (.t 11) (n 1)), m 6 12])))))) (.seq (R [m 18 5, m 4
    18]) .ret))),
  by kernel_rfl⟩
-- (*s.l1Rd).hurt
def k23 : KF Go.Proofs.Tryd.f23 := ⟨
 .seq (R [o 4 (.mv (.c (.s [])))]) (.seq (.seq (R [m 6 0, o 7 (.call (.f 14) [.t 6, n 6])]) (.block 0 (.seq (R [o 9 (.bin .eql (.t 7) (n 1)), m 8 9]) (.cond (.t 8) (.seq (R [m 10 1,
    m 11 0, m 12 1, o 13 (.len true (.t 12)), o 14 (.bin .add (.t 13) (n 1)), o 15 (.call (.f 14) [.t 11, .t 14]), o 16 (.sls (.t 10) none (some (.t 15))), m 4 16]) .ret) (.seq (R
    [o 18 (.bin .eql (.t 7) (n 2)), m 17 18]) (.cond (.t 17) (.seq (R [m 19 1, o 20 (.len true (.t 19)), o 21 (.bin .gtr (.t 20) (n 0))]) (.cond (.t 21) (.seq (R [m 22 0, m 23 1, o
    24 (.len true (.t 23)), o 25 (.call (.f 14) [.t 22, .t 24]), m 5 25]) (.seq (D [m 26 1, m 27 5, o 28 (.sls (.t 26) none (some (.t 27))), o 29 (.bslice 1 6 [.s []] [(0, .c (.s
    [97])), (1, .c (.s [48])), (2, .c (.s [39])), (3, .c (.s [49])), (4, .c (.s [37])), (5, .c (.s [32]))]), m 30 0, o 31 (.callh (.f 14) [.t 30, n 6]), o 32 (.idx 1 (.t 29) (.t
    31)), o 33 (.load false 1 (.t 32)), o 34 (.bin .add (.t 28) (.t 33)), m 35 1, m 36 5, o 37 (.bin .add (.t 36) (n 1)), o 38 (.sls (.t 35) (some (.t 37)) none), o 39 (.bin .add
    (.t 34) (.t 38)), m 4 39] [[], [], [0, 1], [], [], [4], [3, 5], [6], [2, 7], [], [], [10], [9, 11], [8, 12], [13, 5, 0, 1, 2, 3, 4, 5, 6, 7, 8, 9, 10, 11, 12, 13]]) .ret))
    .skip)) (.seq (R [o 41 (.bin .eql (.t 7) (n 3)), m 40 41]) (.cond (.t 40) (.seq (R [m 42 1, o 43 (.bslice 1 3 [.s []] [(0, .c (.s [97])), (1, .c (.s [10])), (2, .c (.s [49]))]),
    m 44 0, o 45 (.call (.f 14) [.t 44, n 3]), o 46 (.idx 1 (.t 43) (.t 45)), o 47 (.load false 1 (.t 46)), o 48 (.bin .add (.t 42) (.t 47)), m 4 48]) .ret) .skip)))))))) (.seq (R
    [m 49 1, m 4 49]) .ret)),
  by kernel_rfl⟩
-- s.DrawRecordText
def k5 : KF Go.Proofs.Tryd.f5 := ⟨
 .seq (R [o 2 (.mv (.c .nils))]) (.seq (R [m 5 0, o 6 (.call (.f 12) [.t 5]), m 3 6]) (.seq (R [m 7 3, m 8 3, o 9 (.call (.f 14) [.t 8, n 5]), o 10 (.call (.f 13) [.t 7, .t 9]), m 4
    10]) (.seq (.seq (R [m 11 3, o 12 (.call (.f 15) [.t 11, n 12])]) (.cond (.t 12) (.seq (R [m 13 4, o 14 (.build [.i .i64 0, .i .i64 0, .s []] [(0, 1, n 3)]), o 15 (.bslice 3 1
    [.i .i64 0, .i .i64 0, .s []] [(0, .t 14)]), o 16 (.app 3 32 [.i .i64 0, .i .i64 0, .s []] (.t 13) (.t 15)), m 2 16]) .ret) .skip)) (.seq (R [m 17 4, m 2 17]) .ret)))),
  by kernel_rfl⟩
-- s.DrawReadRecord
def k10 : KF Go.Proofs.Tryd.f10 := ⟨
 .seq (R [o 2 (.mv (.c (.s [])))]) (.seq (R [m 5 0, o 6 (.call (.f 12) [.t 5]), m 3 6]) (.seq (R [m 7 3, m 8 3, o 9 (.call (.f 14) [.t 8, n 4]), o 10 (.call (.f 13) [.t 7, .t 9]), o
    11 (.call (.f 8) [.t 10]), m 4 11]) (.seq (.seq (R [m 12 3, o 13 (.call (.f 15) [.t 12, n 2])]) (.cond (.t 13) (.seq (R [m 14 4, m 2 14]) .ret) .skip)) (.seq (R [m 15 3, m 16 4,
    o 17 (.call (.f 23) [.t 15, .t 16]), m 2 17]) .ret)))),
  by kernel_rfl⟩
-- w.sameVals
def k9 : KF Go.Proofs.Tryd.f9 := ⟨
 .seq (R [o 4 (.mv (.c (.b false)))]) (.seq (.seq (R [m 6 0, o 7 (.len false (.t 6)), m 8 1, o 9 (.len false (.t 8)), o 10 (.bin .neq (.t 7) (.t 9))]) (.cond (.t 10) (.seq (R [o 4
    (.mv (.c (.b false)))]) .ret) .skip)) (.seq (.seq (R [o 5 (.mv (n 0))]) (.block 0 (.loop (.seq (.seq (R [m 11 5, m 12 0, o 13 (.len false (.t 12)), o 14 (.bin .lss (.t 11) (.t
    13))]) (.cond (.t 14) .skip (.exit 0))) (.seq (.block 1 (.seq (D [m 17 0, m 18 5, o 19 (.idx 3 (.t 17) (.t 18)), o 20 (.load true 3 (.t 19)), m 21 1, m 22 5, o 23 (.idx 3 (.t
    21) (.t 22)), o 24 (.load true 3 (.t 23)), o 25 (.eqt (.struct [.int, .int, .str]) true (.t 20) (.t 24))] [[], [], [0, 1], [2], [], [], [4, 5], [6], [3, 7]]) (.cond (.t 25)
    (.seq (R [o 4 (.mv (.c (.b false)))]) .ret) .skip))) (R [m 15 5, o 16 (.bin .add (.t 15) (n 1)), m 5 16])))))) (.seq (R [o 4 (.mv (.c (.b true)))]) .ret))),
  by kernel_rfl⟩
-- w.FnRecords
def k3 : KF Go.Proofs.Tryd.f3 := ⟨
 .seq (R [o 2 (.mv (.c (.b false)))]) (.seq (.seq (R [m 12 0, o 13 (.call (.f 4) [.t 12])]) (.cond (.t 13) (.seq (R [o 2 (.mv (.c (.b true)))]) .ret) .skip)) (.seq (R [m 14 0, o 15
    (.call (.f 5) [.t 14]), m 3 15]) (.seq (R [m 16 3, o 17 (.call (.f 6) [.t 16]), m 4 17]) (.seq (R [m 19 4, o 20 (.call (.f 7) [.t 19]), m 18 20, o 21 (.ext (.t 18) 0), o 22
    (.ext (.t 18) 1), m 5 21, m 6 22]) (.seq (.seq (R [m 23 4, m 24 3, o 25 (.call (.f 8) [.t 24]), o 26 (.bin .neq (.t 23) (.t 25)), m 27 26, q 28 27 false (.mv (.t 6)), q 29 27
    false (.mv (.t 4)), q 30 27 false (.bin .neq (.t 29) (.c (.s []))), q 31 27 false (.eqt .bool true (.t 28) (.t 30)), o 32 (.pick (.t 27) (.c (.b true)) (.t 31)), m 33 32, q 34
    33 false (.mv (.t 6)), q 35 33 false (.mv (.t 34)), q 36 35 true (.mv (.t 5)), q 37 35 true (.mv (.t 3)), q 38 35 true (.call (.f 9) [.t 36, .t 37]), q 39 35 true (.un .not (.t
    38)), q 40 33 false (.pick (.t 35) (.t 39) (.c (.b false))), o 41 (.pick (.t 33) (.c (.b true)) (.t 40))]) (.cond (.t 41) (.seq (R [o 2 (.mv (.c (.b false)))]) .ret) .skip))
    (.seq (R [m 42 0, o 43 (.call (.f 10) [.t 42]), m 7 43]) (.seq (R [m 45 7, o 46 (.call (.f 7) [.t 45]), m 44 46, o 47 (.ext (.t 44) 0), o 48 (.ext (.t 44) 1), m 8 47, m 9 48])
    (.seq (R [m 50 7, o 51 (.call (.f 11) [.t 50]), m 49 51, o 52 (.ext (.t 49) 0), o 53 (.ext (.t 49) 1), m 10 52, m 11 53]) (.seq (R [m 54 9, m 55 11, o 56 (.eqt .bool false (.t
    54) (.t 55)), m 57 56, q 58 57 true (.mv (.t 9)), q 59 57 true (.un .not (.t 58)), q 60 57 true (.mv (.t 59)), q 61 60 false (.mv (.t 8)), q 62 60 false (.call (.f 6) [.t 61]),
    q 63 60 false (.mv (.t 7)), q 64 60 false (.bin .eql (.t 62) (.t 63)), q 65 57 true (.pick (.t 60) (.c (.b true)) (.t 64)), o 66 (.pick (.t 57) (.t 65) (.c (.b false))), m 2
    66]) .ret))))))))),
  by kernel_rfl⟩
end FrA

