/- The programs of some functions. No condition. -/
import Derived.Test.YtdlaklminigoaaaDoorProg
import Derived.Test.YtdlaklminigoaaaDoorAmFuns
set_option linter.all false
set_option linter.unusedSimpArgs false
set_option linter.unusedVariables false
set_option linter.deprecated false
/-! KsV -/
open Go Go.AM
namespace FrA
open Go.AM.L
set_option maxRecDepth 100000
-- i.in
def k45 : KF Go.Proofs.Tryd.f45 := ⟨
 .seq (R [o 6 (.mv (.c (.b false)))]) (.seq (R [m 7 1, m 8 0, o 9 (.bin .leq (.t 7) (.t 8)), m 10 9, q 11 10 true (.mv (.t 0)), q 12 10 true (.mv (.t 2)), q 13 10 true (.bin .leq
    (.t 11) (.t 12)), o 14 (.pick (.t 10) (.t 13) (.c (.b false))), m 6 14]) .ret),
  by kernel_rfl⟩
-- i.ValOk
def k28 : KF Go.Proofs.Tryd.f28 := ⟨
 .seq (R [o 1 (.box (.t 0)), o 2 (.mv (.c (.b false)))]) (.seq (.seq (R [o 3 (.fld 0 (.t 1)), o 4 (.load false 1 (.t 3))]) (.block 0 (.seq (R [o 6 (.bin .eql (.t 4) (n 0)), m 5 6])
    (.cond (.t 5) (.seq (R [o 7 (.load true 3 (.t 1)), o 8 (.build [.i .i64 0, .i .i64 0, .s []] []), o 9 (.eqt (.struct [.int, .int, .str]) false (.t 7) (.t 8)), m 2 9]) .ret)
    (.seq (R [o 11 (.bin .eql (.t 4) (n 1)), m 10 11]) (.cond (.t 10) (.seq (R [o 12 (.fld 1 (.t 1)), o 13 (.load false 1 (.t 12)), o 14 (.call (.f 45) [.t 13, n (-1000000000), n
    1000000000]), m 15 14, q 16 15 true (.fld 2 (.t 1)), q 17 15 true (.load false 1 (.t 16)), q 18 15 true (.bin .eql (.t 17) (.c (.s []))), o 19 (.pick (.t 15) (.t 18) (.c (.b
    false))), m 2 19]) .ret) (.seq (R [o 21 (.bin .eql (.t 4) (n 2)), m 20 21]) (.cond (.t 20) (.seq (R [o 22 (.fld 1 (.t 1)), o 23 (.load false 1 (.t 22)), o 24 (.bin .eql (.t 23)
    (n 0)), m 25 24, q 26 25 true (.fld 2 (.t 1)), q 27 25 true (.load false 1 (.t 26)), q 28 25 true (.len true (.t 27)), q 29 25 true (.bin .leq (.t 28) (n 12)), o 30 (.pick (.t
    25) (.t 29) (.c (.b false))), m 2 30]) .ret) .skip)))))))) (.seq (R [o 2 (.mv (.c (.b false)))]) .ret)),
  by kernel_rfl⟩
-- s.l1In
def k56 : KF Go.Proofs.Tryd.f56 := ⟨
 .seq (R [o 6 (.mv (.c (.b false)))]) (.seq (R [m 7 0, m 8 1, o 9 (.bin .geq (.t 7) (.t 8)), m 10 9, q 11 10 true (.mv (.t 0)), q 12 10 true (.mv (.t 2)), q 13 10 true (.bin .leq
    (.t 11) (.t 12)), o 14 (.pick (.t 10) (.t 13) (.c (.b false))), m 6 14]) .ret),
  by kernel_rfl⟩
-- s.ValOk
def k37 : KF Go.Proofs.Tryd.f37 := ⟨
 .seq (R [o 1 (.box (.t 0)), o 2 (.mv (.c (.b false)))]) (.seq (.seq (R [o 3 (.fld 0 (.t 1)), o 4 (.load false 1 (.t 3))]) (.block 0 (.seq (R [o 6 (.bin .eql (.t 4) (n 0)), m 5 6])
    (.cond (.t 5) (.seq (R [o 7 (.load true 3 (.t 1)), o 8 (.build [.i .i64 0, .i .i64 0, .s []] []), o 9 (.eqt (.struct [.int, .int, .str]) false (.t 7) (.t 8)), m 2 9]) .ret)
    (.seq (R [o 11 (.bin .eql (.t 4) (n 1)), m 10 11]) (.cond (.t 10) (.seq (R [o 12 (.fld 1 (.t 1)), o 13 (.load false 1 (.t 12)), o 14 (.call (.f 56) [.t 13, n (-1000000000), n
    1000000000]), m 15 14, q 16 15 true (.fld 2 (.t 1)), q 17 15 true (.load false 1 (.t 16)), q 18 15 true (.bin .eql (.t 17) (.c (.s []))), o 19 (.pick (.t 15) (.t 18) (.c (.b
    false))), m 2 19]) .ret) (.seq (R [o 21 (.bin .eql (.t 4) (n 2)), m 20 21]) (.cond (.t 20) (.seq (R [o 22 (.fld 1 (.t 1)), o 23 (.load false 1 (.t 22)), o 24 (.bin .eql (.t 23)
    (n 0)), m 25 24, q 26 25 true (.fld 2 (.t 1)), q 27 25 true (.load false 1 (.t 26)), q 28 25 true (.len true (.t 27)), q 29 25 true (.bin .leq (.t 28) (n 12)), o 30 (.pick (.t
    25) (.t 29) (.c (.b false))), m 2 30]) .ret) .skip)))))))) (.seq (R [o 2 (.mv (.c (.b false)))]) .ret)),
  by kernel_rfl⟩
-- s.l1Dec
def k38 : KF Go.Proofs.Tryd.f38 := ⟨
 .seq (R [o 2 (.mv (.c (.s [])))]) (.seq (R [m 6 0, o 7 (.bin .lss (.t 6) (n 0)), m 3 7]) (.seq (R [o 4 (.mv (.c (.s [])))]) (.seq (.block 0 (.loop (.seq (.seq (R [m 8 4, o 9 (.bin
    .eql (.t 8) (.c (.s []))), m 10 9, q 11 10 false (.mv (.t 0)), q 12 10 false (.bin .neq (.t 11) (n 0)), o 13 (.pick (.t 10) (.c (.b true)) (.t 12))]) (.cond (.t 13) .skip (.exit
    0))) (.block 1 (.seq (R [m 14 0, o 15 (.bin .rem (.t 14) (n 10)), m 5 15]) (.seq (.seq (R [m 16 5, o 17 (.bin .lss (.t 16) (n 0))]) (.cond (.t 17) (R [m 18 5, o 19 (.un .neg (.t
    18)), m 5 19]) .skip)) (.seq (R [m 20 5, o 21 (.bin .add (n 48) (.t 20)), o 22 (.conv (.int .u8) (.t 21)), o 23 (.bslice 1 1 [.i .u8 0] [(0, .t 22)]), o 24 (.conv .b2s (.t 23)),
    m 25 4, o 26 (.bin .add (.t 24) (.t 25)), m 4 26]) (R [m 27 0, o 28 (.bin .quo (.t 27) (n 10)), m 0 28])))))))) (.seq (.seq (R [m 29 3]) (.cond (.t 29) (.seq (R [m 30 4, o 31
    (.bin .add (.c (.s [45])) (.t 30)), m 2 31]) .ret) .skip)) (.seq (R [m 32 4, m 2 32]) .ret))))),
  by kernel_rfl⟩
-- s.l1Hex
def k57 : KF Go.Proofs.Tryd.f57 := ⟨
 .seq (R [o 2 (.mv (.c (.s [])))]) (.seq (D [m 3 0, o 4 (.bin .quo (.t 3) (.c (.i .u8 16))), m 5 0, o 6 (.bin .quo (.t 5) (.c (.i .u8 16))), o 7 (.bin .add (.t 6) (.c (.i .u8 1))),
    o 8 (.sls (.c (.s [48, 49, 50, 51, 52, 53, 54, 55, 56, 57, 97, 98, 99, 100, 101, 102])) (some (.t 4)) (some (.t 7))), m 9 0, o 10 (.bin .rem (.t 9) (.c (.i .u8 16))), m 11 0, o
    12 (.bin .rem (.t 11) (.c (.i .u8 16))), o 13 (.bin .add (.t 12) (.c (.i .u8 1))), o 14 (.sls (.c (.s [48, 49, 50, 51, 52, 53, 54, 55, 56, 57, 97, 98, 99, 100, 101, 102])) (some
    (.t 10)) (some (.t 13))), o 15 (.bin .add (.t 8) (.t 14)), m 2 15] [[], [0], [], [2], [3], [1, 4], [], [6], [], [8], [9], [7, 10], [5, 11], [12, 0, 1, 2, 3, 4, 5, 6, 7, 8, 9,
    10, 11, 12]]) .ret),
  by kernel_rfl⟩
-- s.ValText
def k39 : KF Go.Proofs.Tryd.f39 := ⟨
 .seq (R [o 1 (.box (.t 0)), o 2 (.mv (.c (.s [])))]) (.seq (.seq (R [o 6 (.load true 3 (.t 1)), o 7 (.call (.f 37) [.t 6]), o 8 (.un .not (.t 7))]) (.cond (.t 8) (.seq (R [o 2 (.mv
    (.c (.s [])))]) .ret) .skip)) (.seq (.seq (R [o 9 (.fld 0 (.t 1)), o 10 (.load false 1 (.t 9))]) (.block 0 (.seq (R [o 12 (.bin .eql (.t 10) (n 0)), m 11 12]) (.cond (.t 11)
    (.seq (R [o 2 (.mv (.c (.s [110, 117, 108, 108])))]) .ret) (.seq (R [o 14 (.bin .eql (.t 10) (n 1)), m 13 14]) (.cond (.t 13) (.seq (R [o 15 (.fld 1 (.t 1)), o 16 (.load false 1
    (.t 15)), o 17 (.call (.f 38) [.t 16]), m 2 17]) .ret) .skip)))))) (.seq (R [o 3 (.mv (.c (.s [39])))]) (.seq (.seq (R [o 4 (.mv (n 0))]) (.block 1 (.loop (.seq (.seq (R [m 18
    4, o 19 (.fld 2 (.t 1)), o 20 (.load false 1 (.t 19)), o 21 (.len true (.t 20)), o 22 (.bin .lss (.t 18) (.t 21))]) (.cond (.t 22) .skip (.exit 1))) (.seq (.block 2 (.seq (R [o
    25 (.fld 2 (.t 1)), o 26 (.load false 1 (.t 25)), m 27 4, o 28 (.ids (.t 26) (.t 27)), m 5 28]) (.seq (R [m 29 5, o 30 (.bin .lss (.t 29) (.c (.i .u8 33))), m 31 30, q 32 31
    false (.mv (.t 5)), q 33 31 false (.bin .gtr (.t 32) (.c (.i .u8 126))), o 34 (.pick (.t 31) (.c (.b true)) (.t 33)), m 35 34, q 36 35 false (.mv (.t 5)), q 37 35 false (.bin
    .eql (.t 36) (.c (.i .u8 39))), o 38 (.pick (.t 35) (.c (.b true)) (.t 37)), m 39 38, q 40 39 false (.mv (.t 5)), q 41 39 false (.bin .eql (.t 40) (.c (.i .u8 37))), o 42 (.pick
    (.t 39) (.c (.b true)) (.t 41)), m 43 42, q 44 43 false (.mv (.t 5)), q 45 43 false (.bin .eql (.t 44) (.c (.i .u8 44))), o 46 (.pick (.t 43) (.c (.b true)) (.t 45))]) (.cond
    (.t 46) (R [m 47 3, o 48 (.bin .add (.t 47) (.c (.s [37]))), m 49 5, o 50 (.call (.f 57) [.t 49]), o 51 (.bin .add (.t 48) (.t 50)), m 3 51]) (R [m 52 3, o 53 (.fld 2 (.t 1)), o
    54 (.load false 1 (.t 53)), m 55 4, m 56 4, o 57 (.bin .add (.t 56) (n 1)), o 58 (.sls (.t 54) (some (.t 55)) (some (.t 57))), o 59 (.bin .add (.t 52) (.t 58)), m 3 59]))))) (R
    [m 23 4, o 24 (.bin .add (.t 23) (n 1)), m 4 24])))))) (.seq (R [m 60 3, o 61 (.bin .add (.t 60) (.c (.s [39]))), m 2 61]) .ret))))),
  by kernel_rfl⟩
-- s.l1Cut
def k40 : KF Go.Proofs.Tryd.f40 := ⟨
 .seq (R [o 4 (.mv (.c (.s []))), o 5 (.mv (.c (.s []))), o 6 (.mv (.c (.b false)))]) (.seq (.seq (R [o 7 (.mv (n 0))]) (.block 0 (.loop (.seq (.seq (R [m 8 7, m 9 0, o 10 (.len
    true (.t 9)), o 11 (.bin .lss (.t 8) (.t 10))]) (.cond (.t 11) .skip (.exit 0))) (.seq (.block 1 (.seq (R [m 14 0, m 15 7, o 16 (.ids (.t 14) (.t 15)), m 17 1, o 18 (.bin .eql
    (.t 16) (.t 17))]) (.cond (.t 18) (.seq (D [m 19 0, m 20 7, o 21 (.sls (.t 19) none (some (.t 20))), m 22 0, m 23 7, o 24 (.bin .add (.t 23) (n 1)), o 25 (.sls (.t 22) (some (.t
    24)) none), m 4 21, m 5 25, o 6 (.mv (.c (.b true)))] [[], [], [0, 1], [], [], [4], [3, 5], [2, 0, 1, 2], [6, 7, 0, 1, 2, 3, 4, 5, 6, 7], [8, 0, 1, 2, 3, 4, 5, 6, 7, 8]]) .ret)
    .skip))) (R [m 12 7, o 13 (.bin .add (.t 12) (n 1)), m 7 13])))))) (.seq (R [m 26 0, m 4 26, o 5 (.mv (.c (.s []))), o 6 (.mv (.c (.b false)))]) .ret)),
  by kernel_rfl⟩
-- s.l1Words
def k24 : KF Go.Proofs.Tryd.f24 := ⟨
 .seq (R [o 4 (.mv (.c .nils))]) (.seq (R [o 8 (.bslice 1 0 [.s []] []), m 5 8]) (.seq (.seq (R [o 6 (.mv (.c (.b true)))]) (.block 0 (.loop (.seq (.seq (R [m 9 6]) (.cond (.t 9)
    .skip (.exit 0))) (.block 1 (.seq (R [o 7 (.mv (.c (.s [])))]) (.seq (R [m 11 0, m 12 1, o 13 (.call (.f 40) [.t 11, .t 12]), m 10 13, o 14 (.ext (.t 10) 0), o 15 (.ext (.t 10)
    1), o 16 (.ext (.t 10) 2), m 7 14, m 0 15, m 6 16]) (R [m 17 5, m 18 7, o 19 (.bslice 1 1 [.s []] [(0, .t 18)]), o 20 (.app 1 16 [.s []] (.t 17) (.t 19)), m 5 20])))))))) (.seq
    (R [m 21 5, m 4 21]) .ret))),
  by kernel_rfl⟩
-- s.l1Digit
def k41 : KF Go.Proofs.Tryd.f41 := ⟨
 .seq (R [o 2 (.mv (n 0))]) (.seq (.block 0 (.seq (R [m 4 0, o 5 (.bin .geq (.t 4) (.c (.i .u8 48))), m 6 5, q 7 6 true (.mv (.t 0)), q 8 6 true (.bin .leq (.t 7) (.c (.i .u8 57))),
    o 9 (.pick (.t 6) (.t 8) (.c (.b false))), m 3 9]) (.cond (.t 3) (.seq (R [m 10 0, o 11 (.bin .sub (.t 10) (.c (.i .u8 48))), o 12 (.conv (.int .i64) (.t 11)), m 2 12]) .ret)
    (.seq (R [m 14 0, o 15 (.bin .geq (.t 14) (.c (.i .u8 97))), m 16 15, q 17 16 true (.mv (.t 0)), q 18 16 true (.bin .leq (.t 17) (.c (.i .u8 102))), o 19 (.pick (.t 16) (.t 18)
    (.c (.b false))), m 13 19]) (.cond (.t 13) (.seq (R [m 20 0, o 21 (.bin .sub (.t 20) (.c (.i .u8 97))), o 22 (.conv (.int .i64) (.t 21)), o 23 (.bin .add (.t 22) (n 10)), m 2
    23]) .ret) .skip))))) (.seq (R [o 2 (.mv (n 16))]) .ret)),
  by kernel_rfl⟩
-- s.l1Str
def k42 : KF Go.Proofs.Tryd.f42 := ⟨
 .seq (R [o 2 (.alloc [.i .i64 0, .i .i64 0, .s []])]) (.seq (R [m 3 0, o 4 (.build [.i .i64 0, .i .i64 0, .s []] [(0, 1, n 2), (2, 1, .t 3)]), x (.store 3 (.t 2) (.t 4))]) .ret),
  by kernel_rfl⟩
-- s.l1Int
def k44 : KF Go.Proofs.Tryd.f44 := ⟨
 .seq (R [o 2 (.alloc [.i .i64 0, .i .i64 0, .s []])]) (.seq (R [m 3 0, o 4 (.build [.i .i64 0, .i .i64 0, .s []] [(0, 1, n 1), (1, 1, .t 3)]), x (.store 3 (.t 2) (.t 4))]) .ret),
  by kernel_rfl⟩
-- s.l1Num
def k43 : KF Go.Proofs.Tryd.f43 := ⟨
 .seq (R [o 2 (.mv (n 0)), o 3 (.mv (.c (.b false)))]) (.seq (.seq (R [m 8 0, o 9 (.len true (.t 8)), o 10 (.bin .gtr (.t 9) (n 1)), m 11 10, q 12 11 true (.mv (.t 0)), q 13 11 true
    (.ids (.t 12) (n 0)), q 14 11 true (.bin .eql (.t 13) (.c (.i .u8 45))), o 15 (.pick (.t 11) (.t 14) (.c (.b false))), m 16 15, q 17 16 true (.mv (.t 0)), q 18 16 true (.ids (.t
    17) (n 1)), q 19 16 true (.bin .neq (.t 18) (.c (.i .u8 48))), o 20 (.pick (.t 16) (.t 19) (.c (.b false))), m 21 20, q 22 21 true (.mv (.t 0)), q 23 21 true (.ids (.t 22) (n
    1)), q 24 21 true (.bin .neq (.t 23) (.c (.i .u8 45))), o 25 (.pick (.t 21) (.t 24) (.c (.b false)))]) (.cond (.t 25) (.seq (R [m 27 0, o 28 (.sls (.t 27) (some (n 1)) none), o
    29 (.call (.f 43) [.t 28]), m 26 29, o 30 (.ext (.t 26) 0), o 31 (.ext (.t 26) 1), m 4 30, m 5 31]) (.seq (R [m 32 4, o 33 (.un .neg (.t 32)), m 34 5, m 2 33, m 3 34]) .ret))
    .skip)) (.seq (.seq (R [m 35 0, o 36 (.len true (.t 35)), o 37 (.bin .lss (.t 36) (n 1)), m 38 37, q 39 38 false (.mv (.t 0)), q 40 38 false (.len true (.t 39)), q 41 38 false
    (.bin .gtr (.t 40) (n 10)), o 42 (.pick (.t 38) (.c (.b true)) (.t 41)), m 43 42, q 44 43 false (.mv (.t 0)), q 45 43 false (.ids (.t 44) (n 0)), q 46 43 false (.bin .eql (.t
    45) (.c (.i .u8 48))), q 47 43 false (.mv (.t 46)), q 48 47 true (.mv (.t 0)), q 49 47 true (.len true (.t 48)), q 50 47 true (.bin .gtr (.t 49) (n 1)), q 51 43 false (.pick (.t
    47) (.t 50) (.c (.b false))), o 52 (.pick (.t 43) (.c (.b true)) (.t 51))]) (.cond (.t 52) (.seq (R [o 2 (.mv (n 0)), o 3 (.mv (.c (.b false)))]) .ret) .skip)) (.seq (R [o 6
    (.mv (n 0))]) (.seq (.seq (R [o 7 (.mv (n 0))]) (.block 0 (.loop (.seq (.seq (R [m 53 7, m 54 0, o 55 (.len true (.t 54)), o 56 (.bin .lss (.t 53) (.t 55))]) (.cond (.t 56)
    .skip (.exit 0))) (.seq (.block 1 (.seq (.seq (R [m 59 0, m 60 7, o 61 (.ids (.t 59) (.t 60)), o 62 (.bin .lss (.t 61) (.c (.i .u8 48))), m 63 62, q 64 63 false (.mv (.t 0)), q
    65 63 false (.mv (.t 7)), q 66 63 false (.ids (.t 64) (.t 65)), q 67 63 false (.bin .gtr (.t 66) (.c (.i .u8 57))), o 68 (.pick (.t 63) (.c (.b true)) (.t 67))]) (.cond (.t 68)
    (.seq (R [o 2 (.mv (n 0)), o 3 (.mv (.c (.b false)))]) .ret) .skip)) (R [m 69 6, o 70 (.bin .mul (n 10) (.t 69)), m 71 0, m 72 7, o 73 (.ids (.t 71) (.t 72)), o 74 (.bin .sub
    (.t 73) (.c (.i .u8 48))), o 75 (.conv (.int .i64) (.t 74)), o 76 (.bin .add (.t 70) (.t 75)), m 6 76]))) (R [m 57 7, o 58 (.bin .add (.t 57) (n 1)), m 7 58])))))) (.seq (R [m
    77 6, m 2 77, o 3 (.mv (.c (.b true)))]) .ret))))),
  by kernel_rfl⟩
-- s.ReadVal
def k25 : KF Go.Proofs.Tryd.f25 := ⟨
 .seq (R [o 2 (.alloc [.i .i64 0, .i .i64 0, .s []]), o 3 (.mv (.c (.b false)))]) (.seq (R [o 9 (.build [.i .i64 0, .i .i64 0, .s []] []), o 4 (.alloc [.i .i64 0, .i .i64 0, .s
    []]), x (.store 3 (.t 4) (.t 9))]) (.seq (.block 0 (.seq (R [m 21 0, o 22 (.bin .eql (.t 21) (.c (.s [110, 117, 108, 108]))), m 20 22]) (.cond (.t 20) (.seq (R [o 23 (.load true
    3 (.t 4)), x (.store 3 (.t 2) (.t 23)), o 3 (.mv (.c (.b true)))]) .ret) (.seq (R [m 25 0, o 26 (.len true (.t 25)), o 27 (.bin .gtr (.t 26) (n 1)), m 28 27, q 29 28 true (.mv
    (.t 0)), q 30 28 true (.ids (.t 29) (n 0)), q 31 28 true (.bin .eql (.t 30) (.c (.i .u8 39))), o 32 (.pick (.t 28) (.t 31) (.c (.b false))), m 33 32, q 34 33 true (.mv (.t 0)),
    q 35 33 true (.mv (.t 0)), q 36 33 true (.len true (.t 35)), q 37 33 true (.bin .sub (.t 36) (n 1)), q 38 33 true (.ids (.t 34) (.t 37)), q 39 33 true (.bin .eql (.t 38) (.c (.i
    .u8 39))), o 40 (.pick (.t 33) (.t 39) (.c (.b false))), m 24 40]) (.cond (.t 24) (.seq (R [o 41 (.bslice 1 0 [.i .u8 0] []), m 5 41]) (.seq (.seq (R [o 6 (.mv (n 1))]) (.block
    1 (.loop (.seq (.seq (R [m 42 6, m 43 0, o 44 (.len true (.t 43)), o 45 (.bin .sub (.t 44) (n 1)), o 46 (.bin .lss (.t 42) (.t 45))]) (.cond (.t 46) .skip (.exit 1))) (.seq
    (.block 2 (.seq (R [m 49 0, m 50 6, o 51 (.ids (.t 49) (.t 50)), o 52 (.bin .eql (.t 51) (.c (.i .u8 37))), m 53 52, q 54 53 true (.mv (.t 6)), q 55 53 true (.bin .add (.t 54)
    (n 3)), q 56 53 true (.mv (.t 0)), q 57 53 true (.len true (.t 56)), q 58 53 true (.bin .lss (.t 55) (.t 57)), o 59 (.pick (.t 53) (.t 58) (.c (.b false))), m 60 59, q 61 60
    true (.mv (.t 0)), q 62 60 true (.mv (.t 6)), q 63 60 true (.bin .add (.t 62) (n 1)), q 64 60 true (.ids (.t 61) (.t 63)), q 65 60 true (.call (.f 41) [.t 64]), q 66 60 true
    (.bin .lss (.t 65) (n 16)), o 67 (.pick (.t 60) (.t 66) (.c (.b false))), m 68 67, q 69 68 true (.mv (.t 0)), q 70 68 true (.mv (.t 6)), q 71 68 true (.bin .add (.t 70) (n 2)),
    q 72 68 true (.ids (.t 69) (.t 71)), q 73 68 true (.call (.f 41) [.t 72]), q 74 68 true (.bin .lss (.t 73) (n 16)), o 75 (.pick (.t 68) (.t 74) (.c (.b false)))]) (.cond (.t 75)
    (.seq (D [m 76 5, m 77 0, m 78 6, o 79 (.bin .add (.t 78) (n 1)), o 80 (.ids (.t 77) (.t 79)), o 81 (.call0 (.f 41) [.t 80]), o 82 (.bin .mul (n 16) (.t 81)), m 83 0, m 84 6, o
    85 (.bin .add (.t 84) (n 2)), o 86 (.ids (.t 83) (.t 85)), o 87 (.call0 (.f 41) [.t 86]), o 88 (.bin .add (.t 82) (.t 87)), o 89 (.conv (.int .u8) (.t 88)), o 90 (.bslice 1 1
    [.i .u8 0] [(0, .t 89)]), o 91 (.app 1 1 [.i .u8 0] (.t 76) (.t 90)), m 5 91] [[], [], [], [2], [1, 3], [4], [5], [], [], [8], [7, 9], [10, 5], [6, 11], [12], [13], [0, 14, 11],
    [15, 15, 0, 1, 2, 3, 4, 5, 6, 7, 8, 9, 10, 11, 12, 13, 14, 15]]) (R [m 92 6, o 93 (.bin .add (.t 92) (n 2)), m 6 93])) (R [m 94 5, m 95 0, m 96 6, o 97 (.ids (.t 95) (.t 96)), o
    98 (.bslice 1 1 [.i .u8 0] [(0, .t 97)]), o 99 (.app 1 1 [.i .u8 0] (.t 94) (.t 98)), m 5 99])))) (R [m 47 6, o 48 (.bin .add (.t 47) (n 1)), m 6 48])))))) (R [m 100 5, o 101
    (.conv .b2s (.t 100)), o 102 (.call (.f 42) [.t 101]), x (.store 3 (.t 4) (.t 102))]))) (.seq (R [m 11 0, o 12 (.call (.f 43) [.t 11]), m 10 12, o 13 (.ext (.t 10) 0), o 14
    (.ext (.t 10) 1), m 7 13, m 8 14]) (.seq (.seq (R [m 15 8, o 16 (.un .not (.t 15))]) (.cond (.t 16) (.seq (R [o 17 (.build [.i .i64 0, .i .i64 0, .s []] []), x (.store 3 (.t 2)
    (.t 17)), o 3 (.mv (.c (.b false)))]) .ret) .skip)) (R [m 18 7, o 19 (.call (.f 44) [.t 18]), x (.store 3 (.t 4) (.t 19))])))))))) (.seq (.seq (R [o 103 (.load true 3 (.t 4)), o
    104 (.call (.f 39) [.t 103]), m 105 0, o 106 (.bin .neq (.t 104) (.t 105))]) (.cond (.t 106) (.seq (R [o 107 (.build [.i .i64 0, .i .i64 0, .s []] []), x (.store 3 (.t 2) (.t
    107)), o 3 (.mv (.c (.b false)))]) .ret) .skip)) (.seq (R [o 108 (.load true 3 (.t 4)), x (.store 3 (.t 2) (.t 108)), o 3 (.mv (.c (.b true)))]) .ret)))),
  by kernel_rfl⟩
-- s.l2Vals
def k21 : KF Go.Proofs.Tryd.f21 := ⟨
 .seq (R [o 2 (.mv (.c (.b false)))]) (.seq (.seq (R [o 3 (.mv (n 0))]) (.block 0 (.loop (.seq (.seq (R [m 4 3, m 5 0, o 6 (.len false (.t 5)), o 7 (.bin .lss (.t 4) (.t 6))])
    (.cond (.t 7) .skip (.exit 0))) (.seq (.block 1 (.seq (R [m 10 0, m 11 3, o 12 (.idx 3 (.t 10) (.t 11)), o 13 (.load true 3 (.t 12)), o 14 (.call (.f 37) [.t 13]), o 15 (.un
    .not (.t 14))]) (.cond (.t 15) (.seq (R [o 2 (.mv (.c (.b false)))]) .ret) .skip))) (R [m 8 3, o 9 (.bin .add (.t 8) (n 1)), m 3 9])))))) (.seq (R [m 16 0, o 17 (.len false (.t
    16)), o 18 (.bin .leq (.t 17) (n 16)), m 2 18]) .ret)),
  by kernel_rfl⟩
-- s.l12Text
def k22 : KF Go.Proofs.Tryd.f22 := ⟨
 .seq (R [o 2 (.mv (.c (.s [])))]) (.seq (R [m 5 0, o 6 (.len false (.t 5)), o 7 (.call (.f 38) [.t 6]), m 3 7]) (.seq (.seq (R [o 4 (.mv (n 0))]) (.block 0 (.loop (.seq (.seq (R [m
    8 4, m 9 0, o 10 (.len false (.t 9)), o 11 (.bin .lss (.t 8) (.t 10))]) (.cond (.t 11) .skip (.exit 0))) (.seq (.block 1 (R [m 14 3, o 15 (.bin .add (.t 14) (.c (.s [44]))), m
    16 0, m 17 4, o 18 (.idx 3 (.t 16) (.t 17)), o 19 (.load true 3 (.t 18)), o 20 (.call (.f 39) [.t 19]), o 21 (.bin .add (.t 15) (.t 20)), m 3 21])) (R [m 12 4, o 13 (.bin .add
    (.t 12) (n 1)), m 4 13])))))) (.seq (R [m 22 3, m 2 22]) .ret))),
  by kernel_rfl⟩
-- s.RecordText
def k8 : KF Go.Proofs.Tryd.f8 := ⟨
 .seq (R [o 2 (.mv (.c (.s [])))]) (.seq (.seq (R [m 3 0, o 4 (.call (.f 21) [.t 3]), o 5 (.un .not (.t 4))]) (.cond (.t 5) (.seq (R [o 2 (.mv (.c (.s [])))]) .ret) .skip)) (.seq (R
    [m 6 0, o 7 (.call (.f 22) [.t 6]), m 2 7]) .ret)),
  by kernel_rfl⟩
-- s.ReadRecord
def k11 : KF Go.Proofs.Tryd.f11 := ⟨
 .seq (R [o 2 (.mv (.c .nils)), o 3 (.mv (.c (.b false)))]) (.seq (R [m 9 0, o 10 (.call (.f 24) [.t 9, .c (.i .u8 44)]), m 4 10]) (.seq (R [o 11 (.bslice 3 0 [.i .i64 0, .i .i64 0,
    .s []] []), m 5 11]) (.seq (.seq (R [o 6 (.mv (n 1))]) (.block 0 (.loop (.seq (.seq (R [m 12 6, m 13 4, o 14 (.len false (.t 13)), o 15 (.bin .lss (.t 12) (.t 14))]) (.cond (.t
    15) .skip (.exit 0))) (.seq (.block 1 (.seq (R [m 19 4, m 20 6, o 21 (.idx 1 (.t 19) (.t 20)), o 22 (.load false 1 (.t 21)), o 23 (.call (.f 25) [.t 22]), m 18 23, o 24 (.ext
    (.t 18) 0), o 25 (.ext (.t 18) 1), o 7 (.alloc [.i .i64 0, .i .i64 0, .s []]), x (.store 3 (.t 7) (.t 24)), m 8 25]) (.seq (.seq (R [m 26 8, o 27 (.un .not (.t 26))]) (.cond (.t
    27) (.seq (R [o 2 (.mv (.c .nils)), o 3 (.mv (.c (.b false)))]) .ret) .skip)) (R [m 28 5, o 29 (.load true 3 (.t 7)), o 30 (.bslice 3 1 [.i .i64 0, .i .i64 0, .s []] [(0, .t
    29)]), o 31 (.app 3 32 [.i .i64 0, .i .i64 0, .s []] (.t 28) (.t 30)), m 5 31])))) (R [m 16 6, o 17 (.bin .add (.t 16) (n 1)), m 6 17])))))) (.seq (.seq (R [m 32 5, o 33 (.call
    (.f 8) [.t 32]), m 34 0, o 35 (.bin .neq (.t 33) (.t 34)), m 36 35, q 37 36 false (.mv (.t 0)), q 38 36 false (.bin .eql (.t 37) (.c (.s []))), o 39 (.pick (.t 36) (.c (.b
    true)) (.t 38))]) (.cond (.t 39) (.seq (R [o 2 (.mv (.c .nils)), o 3 (.mv (.c (.b false)))]) .ret) .skip)) (.seq (R [m 40 5, m 2 40, o 3 (.mv (.c (.b true)))]) .ret))))),
  by kernel_rfl⟩
-- i.readText
def k35 : KF Go.Proofs.Tryd.f35 := ⟨
 .seq (R [o 2 (.mv (.c (.s [])))]) (.seq (R [o 6 (.bslice 1 0 [.i .u8 0] []), m 3 6]) (.seq (.seq (R [o 4 (.mv (n 1))]) (.block 0 (.loop (.seq (.seq (R [m 7 4, o 8 (.bin .add (.t 7)
    (n 1)), m 9 0, o 10 (.len true (.t 9)), o 11 (.bin .lss (.t 8) (.t 10))]) (.cond (.t 11) .skip (.exit 0))) (.seq (.block 1 (.seq (R [m 14 0, m 15 4, o 16 (.ids (.t 14) (.t 15)),
    m 5 16]) (.seq (.seq (R [m 17 5, o 18 (.bin .eql (.t 17) (.c (.i .u8 37))), m 19 18, q 20 19 true (.mv (.t 4)), q 21 19 true (.bin .add (.t 20) (n 2)), q 22 19 true (.mv (.t
    0)), q 23 19 true (.len true (.t 22)), q 24 19 true (.bin .lss (.t 21) (.t 23)), o 25 (.pick (.t 19) (.t 24) (.c (.b false)))]) (.cond (.t 25) (.seq (D [m 26 0, m 27 4, o 28
    (.bin .add (.t 27) (n 1)), o 29 (.ids (.t 26) (.t 28)), o 30 (.call0 (.f 53) [.c (.s [48, 49, 50, 51, 52, 53, 54, 55, 56, 57, 97, 98, 99, 100, 101, 102]), .t 29]), o 31 (.mm
    true [n 0, .t 30]), o 32 (.bin .mul (.t 31) (n 16)), m 33 0, m 34 4, o 35 (.bin .add (.t 34) (n 2)), o 36 (.ids (.t 33) (.t 35)), o 37 (.call0 (.f 53) [.c (.s [48, 49, 50, 51,
    52, 53, 54, 55, 56, 57, 97, 98, 99, 100, 101, 102]), .t 36]), o 38 (.mm true [n 0, .t 37]), o 39 (.bin .add (.t 32) (.t 38)), o 40 (.conv (.int .u8) (.t 39)), m 5 40] [[], [],
    [1], [0, 2], [3], [4], [5], [], [], [8], [7, 9], [10, 4], [11], [6, 12], [13], [14, 11, 0, 1, 2, 3, 4, 5, 6, 7, 8, 9, 10, 11, 12, 13, 14]]) (R [m 41 4, o 42 (.bin .add (.t 41)
    (n 2)), m 4 42])) .skip)) (R [m 43 3, m 44 5, o 45 (.bslice 1 1 [.i .u8 0] [(0, .t 44)]), o 46 (.app 1 1 [.i .u8 0] (.t 43) (.t 45)), m 3 46])))) (R [m 12 4, o 13 (.bin .add (.t
    12) (n 1)), m 4 13])))))) (.seq (R [m 47 3, o 48 (.conv .b2s (.t 47)), m 2 48]) .ret))),
  by kernel_rfl⟩
-- i.ReadVal
def k20 : KF Go.Proofs.Tryd.f20 := ⟨
 .seq (R [o 2 (.alloc [.i .i64 0, .i .i64 0, .s []]), o 3 (.mv (.c (.b false)))]) (.seq (R [o 5 (.build [.i .i64 0, .i .i64 0, .s []] []), o 4 (.alloc [.i .i64 0, .i .i64 0, .s
    []]), x (.store 3 (.t 4) (.t 5))]) (.seq (.block 0 (.seq (R [m 14 0, o 15 (.bin .eql (.t 14) (.c (.s [110, 117, 108, 108]))), m 13 15]) (.cond (.t 13) .skip (.seq (R [m 17 0, o
    18 (.call (.f 34) [.t 17, .c (.s [39])]), m 16 18]) (.cond (.t 16) (R [m 19 0, o 20 (.call (.f 35) [.t 19]), o 21 (.build [.i .i64 0, .i .i64 0, .s []] [(0, 1, n 2), (2, 1, .t
    20)]), x (.store 3 (.t 4) (.t 21))]) (.seq (R [o 6 (.fld 0 (.t 4)), x (.store 1 (.t 6) (n 1))]) (R [m 8 0, o 9 (.call (.f 36) [.t 8, n 10, n 64]), m 7 9, o 10 (.ext (.t 7) 0), o
    11 (.ext (.t 7) 1), o 12 (.fld 1 (.t 4)), x (.store 1 (.t 12) (.t 10))]))))))) (.seq (.seq (R [m 22 0, o 23 (.bin .eql (.t 22) (.c (.s []))), m 24 23, q 25 24 false (.load true
    3 (.t 4)), q 26 24 false (.call (.f 18) [.t 25]), q 27 24 false (.mv (.t 0)), q 28 24 false (.bin .neq (.t 26) (.t 27)), o 29 (.pick (.t 24) (.c (.b true)) (.t 28))]) (.cond (.t
    29) (.seq (R [o 30 (.build [.i .i64 0, .i .i64 0, .s []] []), x (.store 3 (.t 2) (.t 30)), o 3 (.mv (.c (.b false)))]) .ret) .skip)) (.seq (R [o 31 (.load true 3 (.t 4)), x
    (.store 3 (.t 2) (.t 31)), o 3 (.mv (.c (.b true)))]) .ret)))),
  by kernel_rfl⟩
-- i.areVals
def k16 : KF Go.Proofs.Tryd.f16 := ⟨
 .seq (R [o 4 (.mv (.c (.b false)))]) (.seq (.seq (R [m 7 0, o 8 (.len false (.t 7)), o 9 (.mv (n 0))]) (.block 0 (.loop (.seq (R [o 10 (.bin .lss (.t 9) (.t 8))]) (.seq (.cond (.t
    10) .skip (.exit 0)) (.seq (.block 1 (.seq (R [m 11 9, o 12 (.idx 3 (.t 7) (.t 9)), o 13 (.load true 3 (.t 12)), o 6 (.alloc [.i .i64 0, .i .i64 0, .s []]), m 5 11, x (.store 3
    (.t 6) (.t 13))]) (.seq (R [m 14 5, m 15 1, o 16 (.bin .eql (.t 14) (.t 15)), m 17 16, q 18 17 false (.load true 3 (.t 6)), q 19 17 false (.call (.f 28) [.t 18]), q 20 17 false
    (.un .not (.t 19)), o 21 (.pick (.t 17) (.c (.b true)) (.t 20))]) (.cond (.t 21) (.seq (R [o 4 (.mv (.c (.b false)))]) .ret) .skip)))) (R [o 22 (.bin .add (.t 9) (n 1)), m 9
    22]))))))) (.seq (R [o 4 (.mv (.c (.b true)))]) .ret)),
  by kernel_rfl⟩
-- i.decimal
def k17 : KF Go.Proofs.Tryd.f17 := ⟨
 .seq (R [o 2 (.mv (.c (.s [])))]) (.seq (R [m 3 0, o 4 (.call (.f 29) [.t 3, n 10]), m 2 4]) .ret),
  by kernel_rfl⟩
-- i.RecordText
def k6 : KF Go.Proofs.Tryd.f6 := ⟨
 .seq (R [o 2 (.mv (.c (.s [])))]) (.seq (.seq (R [m 6 0, o 7 (.call (.f 16) [.t 6, n 16]), o 8 (.un .not (.t 7))]) (.cond (.t 8) (.seq (R [o 2 (.mv (.c (.s [])))]) .ret) .skip))
    (.seq (R [m 9 0, o 10 (.len false (.t 9)), o 11 (.call (.f 17) [.t 10]), m 3 11]) (.seq (.seq (R [m 12 0, o 13 (.len false (.t 12)), o 14 (.mv (n 0))]) (.block 0 (.loop (.seq (R
    [o 15 (.bin .lss (.t 14) (.t 13))]) (.seq (.cond (.t 15) .skip (.exit 0)) (.seq (.block 1 (.seq (R [o 16 (.idx 3 (.t 12) (.t 14)), o 17 (.load true 3 (.t 16)), o 5 (.alloc [.i
    .i64 0, .i .i64 0, .s []]), x (.store 3 (.t 5) (.t 17))]) (R [m 18 3, o 19 (.load true 3 (.t 5)), o 20 (.call (.f 18) [.t 19]), o 21 (.bin .add (.c (.s [44])) (.t 20)), o 22
    (.bin .add (.t 18) (.t 21)), m 3 22]))) (R [o 23 (.bin .add (.t 14) (n 1)), m 14 23]))))))) (.seq (R [m 24 3, m 2 24]) .ret)))),
  by kernel_rfl⟩
-- i.ReadRecord
def k7 : KF Go.Proofs.Tryd.f7 := ⟨
 .seq (R [o 2 (.mv (.c .nils)), o 3 (.mv (.c (.b false)))]) (.seq (R [o 10 (.bslice 3 0 [.i .i64 0, .i .i64 0, .s []] []), m 4 10]) (.seq (R [m 11 0, o 12 (.call (.f 19) [.t 11, .c
    (.s [44])]), m 5 12]) (.seq (.seq (R [m 13 5, o 14 (.slc 1 (.t 13) (some (n 1)) none none), o 15 (.len false (.t 14)), o 16 (.mv (n 0))]) (.block 0 (.loop (.seq (R [o 17 (.bin
    .lss (.t 16) (.t 15))]) (.seq (.cond (.t 17) .skip (.exit 0)) (.seq (.block 1 (.seq (R [o 18 (.idx 1 (.t 14) (.t 16)), o 19 (.load false 1 (.t 18)), m 7 19]) (.seq (R [m 21 7, o
    22 (.call (.f 20) [.t 21]), m 20 22, o 23 (.ext (.t 20) 0), o 24 (.ext (.t 20) 1), o 8 (.alloc [.i .i64 0, .i .i64 0, .s []]), x (.store 3 (.t 8) (.t 23)), m 9 24]) (.seq (.seq
    (R [m 25 9, o 26 (.un .not (.t 25)), m 27 26, q 28 27 false (.mv (.t 4)), q 29 27 false (.len false (.t 28)), q 30 27 false (.bin .eql (.t 29) (n 16)), o 31 (.pick (.t 27) (.c
    (.b true)) (.t 30))]) (.cond (.t 31) (.seq (R [o 2 (.mv (.c .nils)), o 3 (.mv (.c (.b false)))]) .ret) .skip)) (R [m 32 4, o 33 (.load true 3 (.t 8)), o 34 (.bslice 3 1 [.i .i64
    0, .i .i64 0, .s []] [(0, .t 33)]), o 35 (.app 3 32 [.i .i64 0, .i .i64 0, .s []] (.t 32) (.t 34)), m 4 35]))))) (R [o 36 (.bin .add (.t 16) (n 1)), m 16 36]))))))) (.seq (.seq
    (R [m 37 0, o 38 (.bin .eql (.t 37) (.c (.s []))), m 39 38, q 40 39 false (.mv (.t 4)), q 41 39 false (.call (.f 6) [.t 40]), q 42 39 false (.mv (.t 0)), q 43 39 false (.bin
    .neq (.t 41) (.t 42)), o 44 (.pick (.t 39) (.c (.b true)) (.t 43))]) (.cond (.t 44) (.seq (R [o 2 (.mv (.c .nils)), o 3 (.mv (.c (.b false)))]) .ret) .skip)) (.seq (R [m 45 4, m
    2 45, o 3 (.mv (.c (.b true)))]) .ret))))),
  by kernel_rfl⟩
end FrA

