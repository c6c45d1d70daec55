/- The programs of some functions. No condition. -/
import Derived.Test.YtdlaklminigoaaaDoorProg
import Derived.Test.YtdlaklminigoaaaDoorAmFuns
set_option linter.all false
set_option linter.unusedSimpArgs false
set_option linter.unusedVariables false
set_option linter.deprecated false
/-! KsR -/
open Go Go.AM
namespace FrA
open Go.AM.L
set_option maxRecDepth 100000
-- w.big
def k4 : KF Go.Proofs.Tryd.f4 := ⟨
 .seq (R [o 2 (.mv (.c (.b false)))]) (.seq (R [m 3 0, o 4 (.len false (.t 3)), o 5 (.bin .gtr (.t 4) (n 1048576)), m 2 5]) .ret),
  by kernel_rfl⟩
-- s.l1Open
def k12 : KF Go.Proofs.Tryd.f12 := ⟨
 .seq (R [o 2 (.mv (.c .nilp))]) (.seq (R [m 3 0, o 4 (.build [.nils, .i .i64 0] [(0, 1, .t 3)]), o 5 (.box (.t 4)), m 2 5]) .ret),
  by kernel_rfl⟩
-- (*s.l1Rd).next
def k27 : KF Go.Proofs.Tryd.f27 := ⟨
 .seq (R [o 2 (.mv (n 0))]) (.seq (.seq (D [m 3 0, o 4 (.nilck (.t 3)), o 5 (.fld 1 (.t 4)), o 6 (.load false 1 (.t 5)), m 7 0, o 8 (.nilck (.t 7)), o 9 (.fld 0 (.t 8)), o 10 (.load
    false 1 (.t 9)), o 11 (.len false (.t 10)), o 12 (.bin .geq (.t 6) (.t 11))] [[], [0], [1], [2], [], [4], [5], [6], [7], [3, 8]]) (.cond (.t 12) (.seq (R [o 2 (.mv (n 0))])
    .ret) .skip)) (.seq (R [m 13 0, o 14 (.nilck (.t 13)), o 15 (.fld 1 (.t 14)), o 16 (.load false 1 (.t 15)), o 17 (.bin .add (.t 16) (n 1)), o 18 (.nilck (.t 13)), o 19 (.fld 1
    (.t 18)), x (.store 1 (.t 19) (.t 17))]) (.seq (D [m 20 0, o 21 (.nilck (.t 20)), o 22 (.fld 0 (.t 21)), o 23 (.load false 1 (.t 22)), m 24 0, o 25 (.nilck (.t 24)), o 26 (.fld
    1 (.t 25)), o 27 (.load false 1 (.t 26)), o 28 (.bin .sub (.t 27) (n 1)), o 29 (.idx 1 (.t 23) (.t 28)), o 30 (.load false 1 (.t 29)), o 31 (.conv (.int .i64) (.t 30)), m 2 31]
    [[], [0], [1], [2], [], [4], [5], [6], [7], [3, 8], [9], [10], [11, 0, 1, 2, 3, 4, 5, 6, 7, 8, 9, 10, 11]]) .ret))),
  by kernel_rfl⟩
-- (*s.l1Rd).below
def k14 : KF Go.Proofs.Tryd.f14 := ⟨
 .seq (R [o 4 (.mv (n 0))]) (.seq (.seq (R [m 6 1, o 7 (.bin .leq (.t 6) (n 1))]) (.cond (.t 7) (.seq (R [o 4 (.mv (n 0))]) .ret) .skip)) (.seq (.seq (R [m 8 1, o 9 (.bin .leq (.t
    8) (n 256))]) (.cond (.t 9) (.seq (R [m 10 0, o 11 (.call (.f 27) [.t 10]), m 12 1, o 13 (.bin .rem (.t 11) (.t 12)), m 4 13]) .ret) .skip)) (.seq (R [m 14 0, o 15 (.call (.f
    27) [.t 14]), o 16 (.bin .mul (.t 15) (n 256)), m 5 16]) (.seq (R [m 17 5, m 18 0, o 19 (.call (.f 27) [.t 18]), o 20 (.bin .add (.t 17) (.t 19)), m 5 20]) (.seq (R [m 21 5, m
    22 1, o 23 (.bin .rem (.t 21) (.t 22)), m 4 23]) .ret))))),
  by kernel_rfl⟩
-- (*s.l1Rd).once
def k15 : KF Go.Proofs.Tryd.f15 := ⟨
 .seq (R [o 4 (.mv (.c (.b false)))]) (.seq (R [m 5 0, m 6 1, o 7 (.call (.f 14) [.t 5, .t 6]), m 8 1, o 9 (.bin .sub (.t 8) (n 1)), o 10 (.bin .eql (.t 7) (.t 9)), m 4 10]) .ret),
  by kernel_rfl⟩
end FrA

