/- The programs of some functions. No condition. -/
import Derived.Test.YtbhdjaccdaccbaaGreatProg
import Derived.Test.YtbhdjaccdaccbaaGreatAmG18
set_option linter.all false
set_option linter.unusedSimpArgs false
set_option linter.unusedVariables false
set_option linter.deprecated false
/-! KsW -/
section
open Go Go.AM
namespace FrA
open Go.AM.L
set_option maxRecDepth 100000
-- w.toVal
def k187 : KF Go.Proofs.Tryz.f187 := ⟨
 .seq (R [o 1 (.box (.t 0)), o 2 (.alloc [.i .i64 0, .i .i64 0, .s []])]) (.seq (R [o 3 (.alloc [.i .i64 0, .i .i64 0, .s []])]) (.seq (R [o 4 (.fld 0 (.t 1)), o 5 (.load false 1
    (.t 4)), o 6 (.fld 0 (.t 3)), x (.store 1 (.t 6) (.t 5))]) (.seq (R [o 7 (.fld 1 (.t 1)), o 8 (.load false 1 (.t 7)), o 9 (.fld 1 (.t 3)), x (.store 1 (.t 9) (.t 8))]) (.seq (R
    [o 10 (.fld 2 (.t 1)), o 11 (.load false 1 (.t 10)), o 12 (.fld 2 (.t 3)), x (.store 1 (.t 12) (.t 11))]) (.seq (R [o 13 (.load true 3 (.t 3)), x (.store 3 (.t 2) (.t 13))])
    .ret))))),
  by kernel_rfl⟩
-- w.toValS
-- w.toCol
def k154 : KF Go.Proofs.Tryz.f154 := ⟨
 .seq (R [o 1 (.box (.t 0)), o 2 (.alloc [.s [], .i .i64 0, .b false, .i .i64 0, .i .i64 0, .s []])]) (.seq (R [o 3 (.alloc [.s [], .i .i64 0, .b false, .i .i64 0, .i .i64 0, .s
    []])]) (.seq (R [o 4 (.fld 0 (.t 1)), o 5 (.load false 1 (.t 4)), o 6 (.fld 0 (.t 3)), x (.store 1 (.t 6) (.t 5))]) (.seq (R [o 7 (.fld 1 (.t 1)), o 8 (.load false 1 (.t 7)), o
    9 (.fld 1 (.t 3)), x (.store 1 (.t 9) (.t 8))]) (.seq (R [o 10 (.fld 2 (.t 1)), o 11 (.load false 1 (.t 10)), o 12 (.fld 2 (.t 3)), x (.store 1 (.t 12) (.t 11))]) (.seq (R [o 13
    (.fld 3 (.t 1)), o 14 (.load true 3 (.t 13)), o 15 (.call (.f 187) [.t 14]), o 16 (.fld 3 (.t 3)), x (.store 3 (.t 16) (.t 15))]) (.seq (R [o 17 (.load true 6 (.t 3)), x (.store
    6 (.t 2) (.t 17))]) .ret)))))),
  by kernel_rfl⟩
-- w.toColS
-- w.toInt64S
def k101 : KF Go.Proofs.Tryz.f101 := ⟨
 .seq (R [o 2 (.mv (.c .nils))]) (.seq (R [m 5 0, o 6 (.len false (.t 5)), o 7 (.mks 1 8 [.i .i64 0] (.t 6) (.t 6)), m 3 7]) (.seq (.seq (R [o 4 (.mv (n 0))]) (.block 0 (.loop (.seq
    (.seq (R [m 8 4, m 9 0, o 10 (.len false (.t 9)), o 11 (.bin .lss (.t 8) (.t 10))]) (.cond (.t 11) .skip (.exit 0))) (.seq (.block 1 (R [m 14 3, m 15 4, m 16 0, m 17 4, o 18
    (.idx 1 (.t 16) (.t 17)), o 19 (.load false 1 (.t 18)), o 20 (.idx 1 (.t 14) (.t 15)), x (.store 1 (.t 20) (.t 19))])) (R [m 12 4, o 13 (.bin .add (.t 12) (n 1)), m 4 13]))))))
    (.seq (R [m 21 3, m 2 21]) .ret))),
  by kernel_rfl⟩
-- w.toUnique
def k155 : KF Go.Proofs.Tryz.f155 := ⟨
 .seq (R [o 1 (.box (.t 0)), o 2 (.alloc [.nils])]) (.seq (R [o 3 (.alloc [.nils])]) (.seq (R [o 4 (.fld 0 (.t 1)), o 5 (.load false 1 (.t 4)), o 6 (.call (.f 101) [.t 5]), o 7
    (.fld 0 (.t 3)), x (.store 1 (.t 7) (.t 6))]) (.seq (R [o 8 (.load true 1 (.t 3)), x (.store 1 (.t 2) (.t 8))]) .ret))),
  by kernel_rfl⟩
-- w.toUniqueS
-- w.toTok
def k247 : KF Go.Proofs.Tryz.f247 := ⟨
 .seq (R [o 1 (.box (.t 0)), o 2 (.alloc [.i .i64 0, .i .i64 0, .i .i64 0, .i .i64 0, .s []])]) (.seq (R [o 3 (.alloc [.i .i64 0, .i .i64 0, .i .i64 0, .i .i64 0, .s []])]) (.seq (R
    [o 4 (.fld 0 (.t 1)), o 5 (.load false 1 (.t 4)), o 6 (.fld 0 (.t 3)), x (.store 1 (.t 6) (.t 5))]) (.seq (R [o 7 (.fld 1 (.t 1)), o 8 (.load false 1 (.t 7)), o 9 (.fld 1 (.t
    3)), x (.store 1 (.t 9) (.t 8))]) (.seq (R [o 10 (.fld 2 (.t 1)), o 11 (.load true 3 (.t 10)), o 12 (.call (.f 187) [.t 11]), o 13 (.fld 2 (.t 3)), x (.store 3 (.t 13) (.t
    12))]) (.seq (R [o 14 (.load true 5 (.t 3)), x (.store 5 (.t 2) (.t 14))]) .ret))))),
  by kernel_rfl⟩
-- w.toTokS
-- w.toCheck
def k156 : KF Go.Proofs.Tryz.f156 := ⟨
 .seq (R [o 1 (.box (.t 0)), o 2 (.alloc [.nils])]) (.seq (R [o 3 (.alloc [.nils])]) (.seq (R [o 4 (.fld 0 (.t 1)), o 5 (.load false 1 (.t 4)), o 6 (.call (.f 216) [.t 5]), o 7
    (.fld 0 (.t 3)), x (.store 1 (.t 7) (.t 6))]) (.seq (R [o 8 (.load true 1 (.t 3)), x (.store 1 (.t 2) (.t 8))]) .ret))),
  by kernel_rfl⟩
-- w.toCheckS
-- w.toFk
def k157 : KF Go.Proofs.Tryz.f157 := ⟨
 .seq (R [o 1 (.box (.t 0)), o 2 (.alloc [.nils, .s [], .i .i64 0, .i .i64 0, .b false])]) (.seq (R [o 3 (.alloc [.nils, .s [], .i .i64 0, .i .i64 0, .b false])]) (.seq (R [o 4
    (.fld 0 (.t 1)), o 5 (.load false 1 (.t 4)), o 6 (.call (.f 101) [.t 5]), o 7 (.fld 0 (.t 3)), x (.store 1 (.t 7) (.t 6))]) (.seq (R [o 8 (.fld 1 (.t 1)), o 9 (.load false 1 (.t
    8)), o 10 (.fld 1 (.t 3)), x (.store 1 (.t 10) (.t 9))]) (.seq (R [o 11 (.fld 2 (.t 1)), o 12 (.load false 1 (.t 11)), o 13 (.fld 2 (.t 3)), x (.store 1 (.t 13) (.t 12))]) (.seq
    (R [o 14 (.fld 3 (.t 1)), o 15 (.load false 1 (.t 14)), o 16 (.fld 3 (.t 3)), x (.store 1 (.t 16) (.t 15))]) (.seq (R [o 17 (.fld 4 (.t 1)), o 18 (.load false 1 (.t 17)), o 19
    (.fld 4 (.t 3)), x (.store 1 (.t 19) (.t 18))]) (.seq (R [o 20 (.load true 5 (.t 3)), x (.store 5 (.t 2) (.t 20))]) .ret))))))),
  by kernel_rfl⟩
-- w.toFkS
-- w.toTable
def k44 : KF Go.Proofs.Tryz.f44 := ⟨
 .seq (R [o 1 (.box (.t 0)), o 2 (.alloc [.s [], .nils, .nils, .nils, .nils, .nils])]) (.seq (R [o 3 (.alloc [.s [], .nils, .nils, .nils, .nils, .nils])]) (.seq (R [o 4 (.fld 0 (.t
    1)), o 5 (.load false 1 (.t 4)), o 6 (.fld 0 (.t 3)), x (.store 1 (.t 6) (.t 5))]) (.seq (R [o 7 (.fld 1 (.t 1)), o 8 (.load false 1 (.t 7)), o 9 (.call (.f 100) [.t 8]), o 10
    (.fld 1 (.t 3)), x (.store 1 (.t 10) (.t 9))]) (.seq (R [o 11 (.fld 2 (.t 1)), o 12 (.load false 1 (.t 11)), o 13 (.call (.f 101) [.t 12]), o 14 (.fld 2 (.t 3)), x (.store 1 (.t
    14) (.t 13))]) (.seq (R [o 15 (.fld 3 (.t 1)), o 16 (.load false 1 (.t 15)), o 17 (.call (.f 102) [.t 16]), o 18 (.fld 3 (.t 3)), x (.store 1 (.t 18) (.t 17))]) (.seq (R [o 19
    (.fld 4 (.t 1)), o 20 (.load false 1 (.t 19)), o 21 (.call (.f 103) [.t 20]), o 22 (.fld 4 (.t 3)), x (.store 1 (.t 22) (.t 21))]) (.seq (R [o 23 (.fld 5 (.t 1)), o 24 (.load
    false 1 (.t 23)), o 25 (.call (.f 104) [.t 24]), o 26 (.fld 5 (.t 3)), x (.store 1 (.t 26) (.t 25))]) (.seq (R [o 27 (.load true 6 (.t 3)), x (.store 6 (.t 2) (.t 27))])
    .ret)))))))),
  by kernel_rfl⟩
-- w.toTableS
def k12 : KF Go.Proofs.Tryz.f12 := ⟨
 .seq (R [o 2 (.mv (.c .nils))]) (.seq (R [m 5 0, o 6 (.len false (.t 5)), o 7 (.mks 6 136 [.s [], .nils, .nils, .nils, .nils, .nils] (.t 6) (.t 6)), m 3 7]) (.seq (.seq (R [o 4
    (.mv (n 0))]) (.block 0 (.loop (.seq (.seq (R [m 8 4, m 9 0, o 10 (.len false (.t 9)), o 11 (.bin .lss (.t 8) (.t 10))]) (.cond (.t 11) .skip (.exit 0))) (.seq (.block 1 (R [m
    14 3, m 15 4, m 16 0, m 17 4, o 18 (.idx 6 (.t 16) (.t 17)), o 19 (.load true 6 (.t 18)), o 20 (.call (.f 44) [.t 19]), o 21 (.idx 6 (.t 14) (.t 15)), x (.store 6 (.t 21) (.t
    20))])) (R [m 12 4, o 13 (.bin .add (.t 12) (n 1)), m 4 13])))))) (.seq (R [m 22 3, m 2 22]) .ret))),
  by kernel_rfl⟩
-- w.toRow
def k158 : KF Go.Proofs.Tryz.f158 := ⟨
 .seq (R [o 1 (.box (.t 0)), o 2 (.alloc [.i .i64 0, .nils])]) (.seq (R [o 3 (.alloc [.i .i64 0, .nils])]) (.seq (R [o 4 (.fld 0 (.t 1)), o 5 (.load false 1 (.t 4)), o 6 (.fld 0 (.t
    3)), x (.store 1 (.t 6) (.t 5))]) (.seq (R [o 7 (.fld 1 (.t 1)), o 8 (.load false 1 (.t 7)), o 9 (.call (.f 135) [.t 8]), o 10 (.fld 1 (.t 3)), x (.store 1 (.t 10) (.t 9))])
    (.seq (R [o 11 (.load true 2 (.t 3)), x (.store 2 (.t 2) (.t 11))]) .ret)))),
  by kernel_rfl⟩
-- w.toRowS
-- w.toData
def k45 : KF Go.Proofs.Tryz.f45 := ⟨
 .seq (R [o 1 (.box (.t 0)), o 2 (.alloc [.nils])]) (.seq (R [o 3 (.alloc [.nils])]) (.seq (R [o 4 (.fld 0 (.t 1)), o 5 (.load false 1 (.t 4)), o 6 (.call (.f 105) [.t 5]), o 7
    (.fld 0 (.t 3)), x (.store 1 (.t 7) (.t 6))]) (.seq (R [o 8 (.load true 1 (.t 3)), x (.store 1 (.t 2) (.t 8))]) .ret))),
  by kernel_rfl⟩
-- w.toDataS
def k13 : KF Go.Proofs.Tryz.f13 := ⟨
 .seq (R [o 2 (.mv (.c .nils))]) (.seq (R [m 5 0, o 6 (.len false (.t 5)), o 7 (.mks 1 24 [.nils] (.t 6) (.t 6)), m 3 7]) (.seq (.seq (R [o 4 (.mv (n 0))]) (.block 0 (.loop (.seq
    (.seq (R [m 8 4, m 9 0, o 10 (.len false (.t 9)), o 11 (.bin .lss (.t 8) (.t 10))]) (.cond (.t 11) .skip (.exit 0))) (.seq (.block 1 (R [m 14 3, m 15 4, m 16 0, m 17 4, o 18
    (.idx 1 (.t 16) (.t 17)), o 19 (.load true 1 (.t 18)), o 20 (.call (.f 45) [.t 19]), o 21 (.idx 1 (.t 14) (.t 15)), x (.store 1 (.t 21) (.t 20))])) (R [m 12 4, o 13 (.bin .add
    (.t 12) (n 1)), m 4 13])))))) (.seq (R [m 22 3, m 2 22]) .ret))),
  by kernel_rfl⟩
end FrA
end
/-! KsDb -/
section
open Go Go.AM
namespace FrA
open Go.AM.L
set_option maxRecDepth 100000
-- i.fit
def k82 : KF Go.Proofs.Tryz.f82 := ⟨
 .seq (R [o 2 (.box (.t 0)), o 4 (.mv (.c (.b false)))]) (.seq (.seq (R [m 7 1, o 8 (.len false (.t 7)), o 9 (.fld 1 (.t 2)), o 10 (.load false 1 (.t 9)), o 11 (.len false (.t 10)),
    o 12 (.bin .neq (.t 8) (.t 11))]) (.cond (.t 12) (.seq (R [o 4 (.mv (.c (.b false)))]) .ret) .skip)) (.seq (.seq (R [m 13 1, o 14 (.len false (.t 13)), o 15 (.mv (n 0))])
    (.block 0 (.loop (.seq (R [o 16 (.bin .lss (.t 15) (.t 14))]) (.seq (.cond (.t 16) .skip (.exit 0)) (.seq (.block 1 (.seq (R [m 17 15, o 18 (.idx 3 (.t 13) (.t 15)), o 19 (.load
    true 3 (.t 18)), o 6 (.alloc [.i .i64 0, .i .i64 0, .s []]), m 5 17, x (.store 3 (.t 6) (.t 19))]) (.seq (D [o 20 (.load true 3 (.t 6)), o 21 (.fld 1 (.t 2)), o 22 (.load false
    1 (.t 21)), m 23 5, o 24 (.idx 6 (.t 22) (.t 23)), o 25 (.fld 1 (.t 24)), o 26 (.load false 1 (.t 25)), o 27 (.call0 (.f 136) [.t 20, .t 26]), o 28 (.un .not (.t 27))] [[], [],
    [1], [], [2, 3], [4], [5], [0, 6], [7]]) (.cond (.t 28) (.seq (R [o 4 (.mv (.c (.b false)))]) .ret) .skip)))) (R [o 29 (.bin .add (.t 15) (n 1)), m 15 29]))))))) (.seq (R [o 4
    (.mv (.c (.b true)))]) .ret))),
  by kernel_rfl⟩
-- i.areRows
def k92 : KF Go.Proofs.Tryz.f92 := ⟨
 .seq (R [o 2 (.box (.t 0)), o 4 (.mv (.c (.b false)))]) (.seq (.seq (R [m 7 1, o 8 (.len false (.t 7)), o 9 (.mv (n 0))]) (.block 0 (.loop (.seq (R [o 10 (.bin .lss (.t 9) (.t
    8))]) (.seq (.cond (.t 10) .skip (.exit 0)) (.seq (.block 1 (.seq (R [m 11 9, o 12 (.idx 2 (.t 7) (.t 9)), o 13 (.load true 2 (.t 12)), o 6 (.alloc [.i .i64 0, .nils]), m 5 11,
    x (.store 2 (.t 6) (.t 13))]) (.seq (D [o 14 (.fld 0 (.t 6)), o 15 (.load false 1 (.t 14)), o 16 (.call0 (.f 81) [.t 15, n 1, n 1000000000]), o 17 (.un .not (.t 16)), m 18 17, q
    19 18 false (.mv (.t 5)), q 20 18 false (.bin .gtr (.t 19) (n 0)), q 21 18 false (.mv (.t 20)), q 22 21 true (.mv (.t 1)), q 23 21 true (.mv (.t 5)), q 24 21 true (.bin .sub (.t
    23) (n 1)), q 25 21 true (.idx 2 (.t 22) (.t 24)), q 26 21 true (.fld 0 (.t 25)), q 27 21 true (.load false 1 (.t 26)), q 28 21 true (.fld 0 (.t 6)), q 29 21 true (.load false 1
    (.t 28)), q 30 21 true (.bin .geq (.t 27) (.t 29)), q 31 18 false (.pick (.t 21) (.t 30) (.c (.b false))), o 32 (.pick (.t 18) (.c (.b true)) (.t 31)), m 33 32, q 34 33 false
    (.load true 6 (.t 2)), q 35 33 false (.fld 1 (.t 6)), q 36 33 false (.load false 1 (.t 35)), q 37 33 false (.call0 (.f 82) [.t 34, .t 36]), q 38 33 false (.un .not (.t 37)), o
    39 (.pick (.t 33) (.c (.b true)) (.t 38))] [[], [0], [1], [2], [3, 2], [4], [5, 4], [6, 4, 4], [7], [7], [9, 7], [8, 10, 7], [11, 7], [12, 7], [7], [14, 7], [13, 15, 7], [7, 16,
    4], [4, 17], [18, 7], [19], [19], [21, 19], [20, 22, 19, 19], [23, 19], [19, 24]]) (.cond (.t 39) (.seq (R [o 4 (.mv (.c (.b false)))]) .ret) .skip)))) (R [o 40 (.bin .add (.t
    9) (n 1)), m 9 40]))))))) (.seq (R [m 41 1, o 42 (.len false (.t 41)), o 43 (.bin .leq (.t 42) (n 60)), m 4 43]) .ret)),
  by kernel_rfl⟩
-- i.DbOk
def k35 : KF Go.Proofs.Tryz.f35 := ⟨
 .seq (R [o 4 (.mv (.c (.b false)))]) (.seq (.seq (R [m 7 0, o 8 (.call (.f 91) [.t 7]), o 9 (.un .not (.t 8)), m 10 9, q 11 10 false (.mv (.t 1)), q 12 10 false (.len false (.t
    11)), q 13 10 false (.mv (.t 0)), q 14 10 false (.len false (.t 13)), q 15 10 false (.bin .neq (.t 12) (.t 14)), o 16 (.pick (.t 10) (.c (.b true)) (.t 15))]) (.cond (.t 16)
    (.seq (R [o 4 (.mv (.c (.b false)))]) .ret) .skip)) (.seq (.seq (R [m 17 1, o 18 (.len false (.t 17)), o 19 (.mv (n 0))]) (.block 0 (.loop (.seq (R [o 20 (.bin .lss (.t 19) (.t
    18))]) (.seq (.cond (.t 20) .skip (.exit 0)) (.seq (.block 1 (.seq (R [m 21 19, o 22 (.idx 1 (.t 17) (.t 19)), o 23 (.load true 1 (.t 22)), o 6 (.alloc [.nils]), m 5 21, x
    (.store 1 (.t 6) (.t 23))]) (.seq (D [m 24 0, m 25 5, o 26 (.idx 6 (.t 24) (.t 25)), o 27 (.load true 6 (.t 26)), o 28 (.fld 0 (.t 6)), o 29 (.load false 1 (.t 28)), o 30
    (.call0 (.f 92) [.t 27, .t 29]), o 31 (.un .not (.t 30))] [[], [], [0, 1], [2], [], [4], [3, 5], [6]]) (.cond (.t 31) (.seq (R [o 4 (.mv (.c (.b false)))]) .ret) .skip)))) (R [o
    32 (.bin .add (.t 19) (n 1)), m 19 32]))))))) (.seq (R [o 4 (.mv (.c (.b true)))]) .ret))),
  by kernel_rfl⟩
-- s.l4Kinds
def k134 : KF Go.Proofs.Tryz.f134 := ⟨
 .seq (R [o 2 (.box (.t 0)), o 4 (.mv (.c (.b false)))]) (.seq (.seq (R [m 6 1, o 7 (.len false (.t 6)), o 8 (.fld 1 (.t 2)), o 9 (.load false 1 (.t 8)), o 10 (.len false (.t 9)), o
    11 (.bin .neq (.t 7) (.t 10))]) (.cond (.t 11) (.seq (R [o 4 (.mv (.c (.b false)))]) .ret) .skip)) (.seq (.seq (R [o 5 (.mv (n 0))]) (.block 0 (.loop (.seq (.seq (R [m 12 5, m
    13 1, o 14 (.len false (.t 13)), o 15 (.bin .lss (.t 12) (.t 14))]) (.cond (.t 15) .skip (.exit 0))) (.seq (.block 1 (.seq (D [m 18 1, m 19 5, o 20 (.idx 3 (.t 18) (.t 19)), o
    21 (.load true 3 (.t 20)), o 22 (.call0 (.f 186) [.t 21]), o 23 (.un .not (.t 22)), m 24 23, q 25 24 false (.mv (.t 1)), q 26 24 false (.mv (.t 5)), q 27 24 false (.idx 3 (.t
    25) (.t 26)), q 28 24 false (.fld 0 (.t 27)), q 29 24 false (.load false 1 (.t 28)), q 30 24 false (.bin .neq (.t 29) (n 0)), q 31 24 false (.mv (.t 30)), q 32 31 true (.mv (.t
    1)), q 33 31 true (.mv (.t 5)), q 34 31 true (.idx 3 (.t 32) (.t 33)), q 35 31 true (.fld 0 (.t 34)), q 36 31 true (.load false 1 (.t 35)), q 37 31 true (.fld 1 (.t 2)), q 38 31
    true (.load false 1 (.t 37)), q 39 31 true (.mv (.t 5)), q 40 31 true (.idx 6 (.t 38) (.t 39)), q 41 31 true (.fld 1 (.t 40)), q 42 31 true (.load false 1 (.t 41)), q 43 31 true
    (.bin .neq (.t 36) (.t 42)), q 44 24 false (.pick (.t 31) (.t 43) (.c (.b false))), o 45 (.pick (.t 24) (.c (.b true)) (.t 44))] [[], [], [0, 1], [2], [3], [4], [5, 4], [6],
    [6], [7, 8, 6], [9, 6], [10, 6], [11, 6], [12, 6, 6], [13], [13], [14, 15, 13], [16, 13], [17, 13], [13], [19, 13], [13], [20, 21, 13], [22, 13], [23, 13], [18, 24, 13], [13,
    25, 6], [6, 26]]) (.cond (.t 45) (.seq (R [o 4 (.mv (.c (.b false)))]) .ret) .skip))) (R [m 16 5, o 17 (.bin .add (.t 16) (n 1)), m 5 17])))))) (.seq (R [o 4 (.mv (.c (.b
    true)))]) .ret))),
  by kernel_rfl⟩
-- s.l4Db
def k77 : KF Go.Proofs.Tryz.f77 := ⟨
 .seq (R [o 4 (.mv (.c (.b false)))]) (.seq (.seq (R [m 8 1, o 9 (.len false (.t 8)), m 10 0, o 11 (.len false (.t 10)), o 12 (.bin .neq (.t 9) (.t 11))]) (.cond (.t 12) (.seq (R [o
    4 (.mv (.c (.b false)))]) .ret) .skip)) (.seq (.seq (R [o 5 (.mv (n 0))]) (.block 0 (.loop (.seq (.seq (R [m 13 5, m 14 1, o 15 (.len false (.t 14)), o 16 (.bin .lss (.t 13) (.t
    15))]) (.cond (.t 16) .skip (.exit 0))) (.seq (.block 1 (.seq (R [m 19 1, m 20 5, o 21 (.idx 1 (.t 19) (.t 20)), o 22 (.fld 0 (.t 21)), o 23 (.load false 1 (.t 22)), m 6 23])
    (.seq (.seq (R [o 7 (.mv (n 0))]) (.block 2 (.loop (.seq (.seq (R [m 24 7, m 25 6, o 26 (.len false (.t 25)), o 27 (.bin .lss (.t 24) (.t 26))]) (.cond (.t 27) .skip (.exit 2)))
    (.seq (.block 3 (.seq (D [m 30 6, m 31 7, o 32 (.idx 2 (.t 30) (.t 31)), o 33 (.fld 0 (.t 32)), o 34 (.load false 1 (.t 33)), o 35 (.call0 (.f 132) [.t 34, n 1, n 1000000000]),
    o 36 (.un .not (.t 35)), m 37 36, q 38 37 false (.mv (.t 7)), q 39 37 false (.bin .gtr (.t 38) (n 0)), q 40 37 false (.mv (.t 39)), q 41 40 true (.mv (.t 6)), q 42 40 true (.mv
    (.t 7)), q 43 40 true (.bin .sub (.t 42) (n 1)), q 44 40 true (.idx 2 (.t 41) (.t 43)), q 45 40 true (.fld 0 (.t 44)), q 46 40 true (.load false 1 (.t 45)), q 47 40 true (.mv
    (.t 6)), q 48 40 true (.mv (.t 7)), q 49 40 true (.idx 2 (.t 47) (.t 48)), q 50 40 true (.fld 0 (.t 49)), q 51 40 true (.load false 1 (.t 50)), q 52 40 true (.bin .geq (.t 46)
    (.t 51)), q 53 37 false (.pick (.t 40) (.t 52) (.c (.b false))), o 54 (.pick (.t 37) (.c (.b true)) (.t 53)), m 55 54, q 56 55 false (.mv (.t 0)), q 57 55 false (.mv (.t 5)), q
    58 55 false (.idx 6 (.t 56) (.t 57)), q 59 55 false (.load true 6 (.t 58)), q 60 55 false (.mv (.t 6)), q 61 55 false (.mv (.t 7)), q 62 55 false (.idx 2 (.t 60) (.t 61)), q 63
    55 false (.fld 1 (.t 62)), q 64 55 false (.load false 1 (.t 63)), q 65 55 false (.call0 (.f 134) [.t 59, .t 64]), q 66 55 false (.un .not (.t 65)), o 67 (.pick (.t 55) (.c (.b
    true)) (.t 66))] [[], [], [0, 1], [2], [3], [4], [5], [6, 5], [7], [8, 7], [9, 7, 7], [10], [10], [12, 10], [11, 13, 10], [14, 10], [15, 10], [10], [10], [17, 18, 10], [19, 10],
    [20, 10], [16, 21, 10], [10, 22, 7], [7, 23], [24, 10], [25], [25], [26, 27, 25], [28, 25], [25], [25], [30, 31, 25], [32, 25], [33, 25], [29, 34, 25, 25], [35, 25], [25, 36]])
    (.cond (.t 67) (.seq (R [o 4 (.mv (.c (.b false)))]) .ret) .skip))) (R [m 28 7, o 29 (.bin .add (.t 28) (n 1)), m 7 29])))))) (.seq (R [m 68 6, o 69 (.len false (.t 68)), o 70
    (.bin .gtr (.t 69) (n 60))]) (.cond (.t 70) (.seq (R [o 4 (.mv (.c (.b false)))]) .ret) .skip))))) (R [m 17 5, o 18 (.bin .add (.t 17) (n 1)), m 5 18])))))) (.seq (R [o 4 (.mv
    (.c (.b true)))]) .ret))),
  by kernel_rfl⟩
-- s.DbOk
def k38 : KF Go.Proofs.Tryz.f38 := ⟨
 .seq (R [o 4 (.mv (.c (.b false)))]) (.seq (R [m 5 0, o 6 (.call (.f 99) [.t 5]), m 7 6, q 8 7 true (.mv (.t 0)), q 9 7 true (.mv (.t 1)), q 10 7 true (.call (.f 77) [.t 8, .t 9]),
    o 11 (.pick (.t 7) (.t 10) (.c (.b false))), m 4 11]) .ret),
  by kernel_rfl⟩
end FrA
end
/-! KsSd -/
section
open Go Go.AM
namespace FrA
open Go.AM.L
set_option maxRecDepth 100000
-- s.SchemaOk
def k99 : KF Go.Proofs.Tryz.f99 := ⟨
 .seq (R [o 2 (.mv (.c (.b false)))]) (.seq (.seq (R [o 3 (.mv (n 0))]) (.block 0 (.loop (.seq (.seq (R [m 9 3, m 10 0, o 11 (.len false (.t 10)), o 12 (.bin .lss (.t 9) (.t 11))])
    (.cond (.t 12) .skip (.exit 0))) (.seq (.block 1 (.seq (D [m 15 0, m 16 3, o 17 (.idx 6 (.t 15) (.t 16)), o 18 (.load true 6 (.t 17)), o 19 (.call0 (.f 152) [.t 18]), o 20 (.un
    .not (.t 19)), m 21 20, q 22 21 false (.mv (.t 0)), q 23 21 false (.mv (.t 3)), q 24 21 false (.slc 6 (.t 22) none (some (.t 23)) none), q 25 21 false (.mv (.t 0)), q 26 21
    false (.mv (.t 3)), q 27 21 false (.idx 6 (.t 25) (.t 26)), q 28 21 false (.fld 0 (.t 27)), q 29 21 false (.load false 1 (.t 28)), q 30 21 false (.call0 (.f 153) [.t 24, .t
    29]), q 31 21 false (.bin .geq (.t 30) (n 0)), o 32 (.pick (.t 21) (.c (.b true)) (.t 31))] [[], [], [0, 1], [2], [3], [4], [5, 4], [6], [6], [7, 8, 6], [6], [6], [10, 11, 6],
    [12, 6], [13, 6], [9, 14, 6, 6], [15, 6], [6, 16]]) (.cond (.t 32) (.seq (R [o 2 (.mv (.c (.b false)))]) .ret) .skip))) (R [m 13 3, o 14 (.bin .add (.t 13) (n 1)), m 3 14]))))))
    (.seq (.seq (R [o 4 (.mv (n 0))]) (.block 2 (.loop (.seq (.seq (R [m 33 4, m 34 0, o 35 (.len false (.t 34)), o 36 (.bin .lss (.t 33) (.t 35))]) (.cond (.t 36) .skip (.exit 2)))
    (.seq (.block 3 (.seq (R [o 5 (.mv (n 0))]) (.block 4 (.loop (.seq (.seq (R [m 39 5, m 40 0, m 41 4, o 42 (.idx 6 (.t 40) (.t 41)), o 43 (.fld 5 (.t 42)), o 44 (.load false 1
    (.t 43)), o 45 (.len false (.t 44)), o 46 (.bin .lss (.t 39) (.t 45))]) (.cond (.t 46) .skip (.exit 4))) (.seq (.block 5 (.seq (R [m 49 0, m 50 4, o 51 (.idx 6 (.t 49) (.t 50)),
    o 52 (.fld 5 (.t 51)), o 53 (.load false 1 (.t 52)), m 54 5, o 55 (.idx 5 (.t 53) (.t 54)), o 56 (.load true 5 (.t 55)), o 6 (.alloc [.nils, .s [], .i .i64 0, .i .i64 0, .b
    false]), x (.store 5 (.t 6) (.t 56))]) (.seq (R [m 57 0, o 58 (.fld 1 (.t 6)), o 59 (.load false 1 (.t 58)), o 60 (.call (.f 153) [.t 57, .t 59]), m 7 60]) (.seq (.seq (D [m 61
    7, o 62 (.bin .lss (.t 61) (n 0)), m 63 62, q 64 63 false (.mv (.t 0)), q 65 63 false (.mv (.t 7)), q 66 63 false (.idx 6 (.t 64) (.t 65)), q 67 63 false (.fld 2 (.t 66)), q 68
    63 false (.load false 1 (.t 67)), q 69 63 false (.len false (.t 68)), q 70 63 false (.fld 0 (.t 6)), q 71 63 false (.load false 1 (.t 70)), q 72 63 false (.len false (.t 71)), q
    73 63 false (.bin .neq (.t 69) (.t 72)), o 74 (.pick (.t 63) (.c (.b true)) (.t 73))] [[], [0], [1], [2], [2], [3, 4, 2], [5, 2], [6, 2], [7, 2], [2], [9, 2], [10, 2], [8, 11,
    2], [2, 12]]) (.cond (.t 74) (.seq (R [o 2 (.mv (.c (.b false)))]) .ret) .skip)) (.seq (R [o 8 (.mv (n 0))]) (.block 6 (.loop (.seq (.seq (R [m 75 8, o 76 (.fld 0 (.t 6)), o 77
    (.load false 1 (.t 76)), o 78 (.len false (.t 77)), o 79 (.bin .lss (.t 75) (.t 78))]) (.cond (.t 79) .skip (.exit 6))) (.seq (.block 7 (.seq (D [m 82 0, m 83 4, o 84 (.idx 6
    (.t 82) (.t 83)), o 85 (.fld 1 (.t 84)), o 86 (.load false 1 (.t 85)), o 87 (.fld 0 (.t 6)), o 88 (.load false 1 (.t 87)), m 89 8, o 90 (.idx 1 (.t 88) (.t 89)), o 91 (.load
    false 1 (.t 90)), o 92 (.idx 6 (.t 86) (.t 91)), o 93 (.fld 1 (.t 92)), o 94 (.load false 1 (.t 93)), m 95 0, m 96 7, o 97 (.idx 6 (.t 95) (.t 96)), o 98 (.fld 1 (.t 97)), o 99
    (.load false 1 (.t 98)), m 100 0, m 101 7, o 102 (.idx 6 (.t 100) (.t 101)), o 103 (.fld 2 (.t 102)), o 104 (.load false 1 (.t 103)), m 105 8, o 106 (.idx 1 (.t 104) (.t 105)),
    o 107 (.load false 1 (.t 106)), o 108 (.idx 6 (.t 99) (.t 107)), o 109 (.fld 1 (.t 108)), o 110 (.load false 1 (.t 109)), o 111 (.bin .neq (.t 94) (.t 110))] [[], [], [0, 1],
    [2], [3], [], [5], [], [6, 7], [8], [4, 9], [10], [11], [], [], [13, 14], [15], [16], [], [], [18, 19], [20], [21], [], [22, 23], [24], [17, 25], [26], [27], [12, 28]]) (.cond
    (.t 111) (.seq (R [o 2 (.mv (.c (.b false)))]) .ret) .skip))) (R [m 80 8, o 81 (.bin .add (.t 80) (n 1)), m 8 81])))))))))) (R [m 47 5, o 48 (.bin .add (.t 47) (n 1)), m 5
    48]))))))) (R [m 37 4, o 38 (.bin .add (.t 37) (n 1)), m 4 38])))))) (.seq (R [m 112 0, o 113 (.len false (.t 112)), o 114 (.bin .leq (.t 113) (n 5)), m 2 114]) .ret))),
  by kernel_rfl⟩
end FrA
end
/-! KsG2 -/
section
open Go Go.AM
namespace FrA
open Go.AM.L
set_option maxRecDepth 100000
-- s.TableOk
def k152 : KF Go.Proofs.Tryz.f152 := ⟨
 .seq (R [o 1 (.box (.t 0)), o 2 (.mv (.c (.b false)))]) (.seq (R [o 11 (.fld 1 (.t 1)), o 12 (.load false 1 (.t 11)), o 13 (.len false (.t 12)), m 3 13]) (.seq (.seq (R [o 14 (.fld
    0 (.t 1)), o 15 (.load false 1 (.t 14)), o 16 (.call (.f 213) [.t 15]), o 17 (.un .not (.t 16)), m 18 17, q 19 18 false (.mv (.t 3)), q 20 18 false (.call (.f 132) [.t 19, n 1,
    n 8]), q 21 18 false (.un .not (.t 20)), o 22 (.pick (.t 18) (.c (.b true)) (.t 21)), m 23 22, q 24 23 false (.fld 2 (.t 1)), q 25 23 false (.load false 1 (.t 24)), q 26 23
    false (.mv (.t 3)), q 27 23 false (.call (.f 214) [.t 25, .t 26]), q 28 23 false (.un .not (.t 27)), o 29 (.pick (.t 23) (.c (.b true)) (.t 28)), m 30 29, q 31 30 false (.fld 3
    (.t 1)), q 32 30 false (.load false 1 (.t 31)), q 33 30 false (.len false (.t 32)), q 34 30 false (.bin .gtr (.t 33) (n 3)), o 35 (.pick (.t 30) (.c (.b true)) (.t 34)), m 36
    35, q 37 36 false (.fld 4 (.t 1)), q 38 36 false (.load false 1 (.t 37)), q 39 36 false (.len false (.t 38)), q 40 36 false (.bin .gtr (.t 39) (n 3)), o 41 (.pick (.t 36) (.c
    (.b true)) (.t 40)), m 42 41, q 43 42 false (.fld 5 (.t 1)), q 44 42 false (.load false 1 (.t 43)), q 45 42 false (.len false (.t 44)), q 46 42 false (.bin .gtr (.t 45) (n 3)),
    o 47 (.pick (.t 42) (.c (.b true)) (.t 46))]) (.cond (.t 47) (.seq (R [o 2 (.mv (.c (.b false)))]) .ret) .skip)) (.seq (.seq (R [o 4 (.mv (n 0))]) (.block 0 (.loop (.seq (.seq
    (R [m 48 4, m 49 3, o 50 (.bin .lss (.t 48) (.t 49))]) (.cond (.t 50) .skip (.exit 0))) (.seq (.block 1 (.seq (R [o 53 (.fld 1 (.t 1)), o 54 (.load false 1 (.t 53)), m 55 4, o
    56 (.idx 6 (.t 54) (.t 55)), o 57 (.load true 6 (.t 56)), o 5 (.alloc [.s [], .i .i64 0, .b false, .i .i64 0, .i .i64 0, .s []]), x (.store 6 (.t 5) (.t 57))]) (.seq (D [o 58
    (.fld 0 (.t 5)), o 59 (.load false 1 (.t 58)), o 60 (.call0 (.f 213) [.t 59]), o 61 (.un .not (.t 60)), m 62 61, q 63 62 false (.fld 1 (.t 1)), q 64 62 false (.load false 1 (.t
    63)), q 65 62 false (.mv (.t 4)), q 66 62 false (.slc 6 (.t 64) none (some (.t 65)) none), q 67 62 false (.build [.s [], .nils, .nils, .nils, .nils, .nils] [(1, 1, .t 66)]), q
    68 62 false (.fld 0 (.t 5)), q 69 62 false (.load false 1 (.t 68)), q 70 62 false (.call0 (.f 215) [.t 67, .t 69]), q 71 62 false (.bin .geq (.t 70) (n 0)), o 72 (.pick (.t 62)
    (.c (.b true)) (.t 71)), m 73 72, q 74 73 false (.fld 1 (.t 5)), q 75 73 false (.load false 1 (.t 74)), q 76 73 false (.call0 (.f 132) [.t 75, n 1, n 2]), q 77 73 false (.un
    .not (.t 76)), o 78 (.pick (.t 73) (.c (.b true)) (.t 77)), m 79 78, q 80 79 false (.fld 3 (.t 5)), q 81 79 false (.load true 3 (.t 80)), q 82 79 false (.call0 (.f 186) [.t
    81]), q 83 79 false (.un .not (.t 82)), o 84 (.pick (.t 79) (.c (.b true)) (.t 83)), m 85 84, q 86 85 false (.fld 3 (.t 5)), q 87 85 false (.fld 0 (.t 86)), q 88 85 false (.load
    false 1 (.t 87)), q 89 85 false (.bin .neq (.t 88) (n 0)), q 90 85 false (.mv (.t 89)), q 91 90 true (.fld 3 (.t 5)), q 92 90 true (.fld 0 (.t 91)), q 93 90 true (.load false 1
    (.t 92)), q 94 90 true (.fld 1 (.t 5)), q 95 90 true (.load false 1 (.t 94)), q 96 90 true (.bin .neq (.t 93) (.t 95)), q 97 85 false (.pick (.t 90) (.t 96) (.c (.b false))), o
    98 (.pick (.t 85) (.c (.b true)) (.t 97))] [[], [0], [1], [2], [3, 2], [4], [5, 4], [4], [6, 7, 4], [8, 4], [4], [10, 4], [9, 11, 4, 4], [12, 4], [4, 13], [14, 12], [15], [16,
    15], [17, 15, 15], [18, 15], [15, 19], [20, 18], [21], [22, 21], [23, 21, 21], [24, 21], [21, 25], [26, 24], [27], [28, 27], [29, 27], [30, 27], [31, 27, 27], [32], [33, 32],
    [34, 32], [32], [36, 32], [35, 37, 32], [32, 38, 27], [27, 39]]) (.cond (.t 98) (.seq (R [o 2 (.mv (.c (.b false)))]) .ret) .skip)))) (R [m 51 4, o 52 (.bin .add (.t 51) (n 1)),
    m 4 52])))))) (.seq (.seq (R [o 6 (.mv (n 0))]) (.block 2 (.loop (.seq (.seq (R [m 99 6, o 100 (.fld 2 (.t 1)), o 101 (.load false 1 (.t 100)), o 102 (.len false (.t 101)), o
    103 (.bin .lss (.t 99) (.t 102))]) (.cond (.t 103) .skip (.exit 2))) (.seq (.block 3 (.seq (D [o 106 (.fld 1 (.t 1)), o 107 (.load false 1 (.t 106)), o 108 (.fld 2 (.t 1)), o
    109 (.load false 1 (.t 108)), m 110 6, o 111 (.idx 1 (.t 109) (.t 110)), o 112 (.load false 1 (.t 111)), o 113 (.idx 6 (.t 107) (.t 112)), o 114 (.fld 2 (.t 113)), o 115 (.load
    false 1 (.t 114)), o 116 (.un .not (.t 115))] [[], [0], [], [2], [], [3, 4], [5], [1, 6], [7], [8], [9]]) (.cond (.t 116) (.seq (R [o 2 (.mv (.c (.b false)))]) .ret) .skip))) (R
    [m 104 6, o 105 (.bin .add (.t 104) (n 1)), m 6 105])))))) (.seq (.seq (R [o 7 (.mv (n 0))]) (.block 4 (.loop (.seq (.seq (R [m 117 7, o 118 (.fld 3 (.t 1)), o 119 (.load false
    1 (.t 118)), o 120 (.len false (.t 119)), o 121 (.bin .lss (.t 117) (.t 120))]) (.cond (.t 121) .skip (.exit 4))) (.seq (.block 5 (.seq (R [o 124 (.fld 3 (.t 1)), o 125 (.load
    false 1 (.t 124)), m 126 7, o 127 (.idx 1 (.t 125) (.t 126)), o 128 (.fld 0 (.t 127)), o 129 (.load false 1 (.t 128)), m 130 3, o 131 (.call (.f 214) [.t 129, .t 130]), o 132
    (.un .not (.t 131))]) (.cond (.t 132) (.seq (R [o 2 (.mv (.c (.b false)))]) .ret) .skip))) (R [m 122 7, o 123 (.bin .add (.t 122) (n 1)), m 7 123])))))) (.seq (.seq (R [o 8 (.mv
    (n 0))]) (.block 6 (.loop (.seq (.seq (R [m 133 8, o 134 (.fld 4 (.t 1)), o 135 (.load false 1 (.t 134)), o 136 (.len false (.t 135)), o 137 (.bin .lss (.t 133) (.t 136))])
    (.cond (.t 137) .skip (.exit 6))) (.seq (.block 7 (.seq (R [o 140 (.fld 4 (.t 1)), o 141 (.load false 1 (.t 140)), m 142 8, o 143 (.idx 1 (.t 141) (.t 142)), o 144 (.fld 0 (.t
    143)), o 145 (.load false 1 (.t 144)), m 146 3, o 147 (.call (.f 181) [.t 145, .t 146]), o 148 (.un .not (.t 147))]) (.cond (.t 148) (.seq (R [o 2 (.mv (.c (.b false)))]) .ret)
    .skip))) (R [m 138 8, o 139 (.bin .add (.t 138) (n 1)), m 8 139])))))) (.seq (.seq (R [o 9 (.mv (n 0))]) (.block 8 (.loop (.seq (.seq (R [m 149 9, o 150 (.fld 5 (.t 1)), o 151
    (.load false 1 (.t 150)), o 152 (.len false (.t 151)), o 153 (.bin .lss (.t 149) (.t 152))]) (.cond (.t 153) .skip (.exit 8))) (.seq (.block 9 (.seq (R [o 156 (.fld 5 (.t 1)), o
    157 (.load false 1 (.t 156)), m 158 9, o 159 (.idx 5 (.t 157) (.t 158)), o 160 (.load true 5 (.t 159)), o 10 (.alloc [.nils, .s [], .i .i64 0, .i .i64 0, .b false]), x (.store 5
    (.t 10) (.t 160))]) (.seq (R [o 161 (.fld 0 (.t 10)), o 162 (.load false 1 (.t 161)), m 163 3, o 164 (.call (.f 214) [.t 162, .t 163]), o 165 (.un .not (.t 164)), m 166 165, q
    167 166 false (.fld 1 (.t 10)), q 168 166 false (.load false 1 (.t 167)), q 169 166 false (.call (.f 213) [.t 168]), q 170 166 false (.un .not (.t 169)), o 171 (.pick (.t 166)
    (.c (.b true)) (.t 170)), m 172 171, q 173 172 false (.fld 2 (.t 10)), q 174 172 false (.load false 1 (.t 173)), q 175 172 false (.call (.f 132) [.t 174, n 0, n 2]), q 176 172
    false (.un .not (.t 175)), o 177 (.pick (.t 172) (.c (.b true)) (.t 176)), m 178 177, q 179 178 false (.fld 3 (.t 10)), q 180 178 false (.load false 1 (.t 179)), q 181 178 false
    (.call (.f 132) [.t 180, n 0, n 2]), q 182 178 false (.un .not (.t 181)), o 183 (.pick (.t 178) (.c (.b true)) (.t 182))]) (.cond (.t 183) (.seq (R [o 2 (.mv (.c (.b false)))])
    .ret) .skip)))) (R [m 154 9, o 155 (.bin .add (.t 154) (n 1)), m 9 155])))))) (.seq (R [o 2 (.mv (.c (.b true)))]) .ret)))))))),
  by kernel_rfl⟩
-- s.l3At
def k153 : KF Go.Proofs.Tryz.f153 := ⟨
 .seq (R [o 4 (.mv (n 0))]) (.seq (.seq (R [o 5 (.mv (n 0))]) (.block 0 (.loop (.seq (.seq (R [m 6 5, m 7 0, o 8 (.len false (.t 7)), o 9 (.bin .lss (.t 6) (.t 8))]) (.cond (.t 9)
    .skip (.exit 0))) (.seq (.block 1 (.seq (R [m 12 0, m 13 5, o 14 (.idx 6 (.t 12) (.t 13)), o 15 (.fld 0 (.t 14)), o 16 (.load false 1 (.t 15)), m 17 1, o 18 (.bin .eql (.t 16)
    (.t 17))]) (.cond (.t 18) (.seq (R [m 19 5, m 4 19]) .ret) .skip))) (R [m 10 5, o 11 (.bin .add (.t 10) (n 1)), m 5 11])))))) (.seq (R [o 4 (.mv (n (-1)))]) .ret)),
  by kernel_rfl⟩
end FrA
end
/-! WsA -/
section
open Go Go.AM
namespace FrA
def capE (n : Nat) : Option Nat := if n = 0 then some 0 else none
end FrA
end
