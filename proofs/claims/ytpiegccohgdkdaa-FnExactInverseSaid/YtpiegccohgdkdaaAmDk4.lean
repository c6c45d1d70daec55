/- The programs of some functions. No condition. -/
import Derived.Test.YtpiegccohgdkdaaProg
import Derived.Test.YtpiegccohgdkdaaAmFuns
import Derived.Test.YtpiegccohgdkdaaAmDk3
set_option linter.all false
set_option linter.unusedSimpArgs false
set_option linter.unusedVariables false
set_option linter.deprecated false
/-! KsF -/
open Go Go.AM
namespace FrA
open Go.AM.L
set_option maxRecDepth 100000
def k8 : KF Go.Proofs.Try.f8 := ⟨
 .seq (R [o 1 (.box (.t 0)), o 2 (.mv (.c (.b false)))]) (.seq (R [o 3 (.mv (n 1048576))]) (.seq (R [o 7 (.load true 3 (.t 1)), m 8 3, o 9 (.call (.f 40) [.t 7, .t 8]), m 3 9])
    (.seq (.seq (R [m 10 3, o 11 (.bin .lss (.t 10) (n 0))]) (.cond (.t 11) (.seq (R [o 2 (.mv (.c (.b true)))]) .ret) .skip)) (.seq (R [o 12 (.load true 3 (.t 1)), o 13 (.call (.f
    41) [.t 12]), o 14 (.call (.f 36) [.t 13]), m 4 14]) (.seq (R [o 15 (.load true 3 (.t 1)), o 16 (.call (.f 41) [.t 15]), o 5 (.alloc [.nils, .nils, .nils]), x (.store 3 (.t 5)
    (.t 16))]) (.seq (R [o 17 (.load true 3 (.t 5)), o 18 (.call (.f 35) [.t 17]), m 6 18]) (.seq (.seq (R [m 19 6, m 20 4, o 21 (.eqt .bool true (.t 19) (.t 20))]) (.cond (.t 21)
    (.seq (R [o 2 (.mv (.c (.b false)))]) .ret) .skip)) (.seq (.seq (D [o 22 (.load true 3 (.t 5)), o 23 (.load true 3 (.t 1)), o 24 (.call0 (.f 41) [.t 23]), o 25 (.callv (.f 42)
    [.t 22, .t 24]), o 26 (.un .not (.t 25))] [[], [], [1], [0, 2, 2], [3]]) (.cond (.t 26) (.seq (R [o 2 (.mv (.c (.b false)))]) .ret) .skip)) (.seq (R [o 2 (.mv (.c (.b true)))])
    .ret))))))))),
  by kernel_rfl⟩
def k40 : KF Go.Proofs.Try.f40 := ⟨
 .seq (R [o 2 (.box (.t 0)), o 4 (.mv (n 0))]) (.seq (R [o 5 (.fld 0 (.t 2)), o 6 (.load false 1 (.t 5)), m 7 1, o 8 (.call (.f 89) [.t 6, .t 7]), m 1 8]) (.seq (.seq (R [m 9 1, o
    10 (.bin .lss (.t 9) (n 0))]) (.cond (.t 10) (.seq (R [o 4 (.mv (n (-1)))]) .ret) .skip)) (.seq (R [o 11 (.fld 1 (.t 2)), o 12 (.load false 1 (.t 11)), m 13 1, o 14 (.call (.f
    89) [.t 12, .t 13]), m 1 14]) (.seq (.seq (R [m 15 1, o 16 (.bin .lss (.t 15) (n 0))]) (.cond (.t 16) (.seq (R [o 4 (.mv (n (-1)))]) .ret) .skip)) (.seq (R [o 17 (.fld 2 (.t
    2)), o 18 (.load false 1 (.t 17)), m 19 1, o 20 (.call (.f 90) [.t 18, .t 19]), m 1 20]) (.seq (.seq (R [m 21 1, o 22 (.bin .lss (.t 21) (n 0))]) (.cond (.t 22) (.seq (R [o 4
    (.mv (n (-1)))]) .ret) .skip)) (.seq (R [m 23 1, m 4 23]) .ret))))))),
  by kernel_rfl⟩
def k41 : KF Go.Proofs.Try.f41 := ⟨
 .seq (R [o 1 (.box (.t 0)), o 2 (.alloc [.nils, .nils, .nils])]) (.seq (R [o 3 (.alloc [.nils, .nils, .nils])]) (.seq (R [o 4 (.fld 0 (.t 1)), o 5 (.load false 1 (.t 4)), o 6
    (.call (.f 91) [.t 5]), o 7 (.fld 0 (.t 3)), x (.store 1 (.t 7) (.t 6))]) (.seq (R [o 8 (.fld 1 (.t 1)), o 9 (.load false 1 (.t 8)), o 10 (.call (.f 91) [.t 9]), o 11 (.fld 1
    (.t 3)), x (.store 1 (.t 11) (.t 10))]) (.seq (R [o 12 (.fld 2 (.t 1)), o 13 (.load false 1 (.t 12)), o 14 (.call (.f 92) [.t 13]), o 15 (.fld 2 (.t 3)), x (.store 1 (.t 15) (.t
    14))]) (.seq (R [o 16 (.load true 3 (.t 3)), x (.store 3 (.t 2) (.t 16))]) .ret))))),
  by kernel_rfl⟩
def k42 : KF Go.Proofs.Try.f42 := ⟨
 .seq (R [o 2 (.box (.t 0)), o 3 (.box (.t 1)), o 4 (.mv (.c (.b false)))]) (.seq (.seq (R [o 5 (.fld 0 (.t 2)), o 6 (.load false 1 (.t 5)), o 7 (.fld 0 (.t 3)), o 8 (.load false 1
    (.t 7)), o 9 (.call (.f 93) [.t 6, .t 8]), o 10 (.un .not (.t 9))]) (.cond (.t 10) (.seq (R [o 4 (.mv (.c (.b false)))]) .ret) .skip)) (.seq (.seq (R [o 11 (.fld 1 (.t 2)), o 12
    (.load false 1 (.t 11)), o 13 (.fld 1 (.t 3)), o 14 (.load false 1 (.t 13)), o 15 (.call (.f 93) [.t 12, .t 14]), o 16 (.un .not (.t 15))]) (.cond (.t 16) (.seq (R [o 4 (.mv (.c
    (.b false)))]) .ret) .skip)) (.seq (.seq (R [o 17 (.fld 2 (.t 2)), o 18 (.load false 1 (.t 17)), o 19 (.fld 2 (.t 3)), o 20 (.load false 1 (.t 19)), o 21 (.call (.f 94) [.t 18,
    .t 20]), o 22 (.un .not (.t 21))]) (.cond (.t 22) (.seq (R [o 4 (.mv (.c (.b false)))]) .ret) .skip)) (.seq (R [o 4 (.mv (.c (.b true)))]) .ret)))),
  by kernel_rfl⟩
def k54 : KF Go.Proofs.Try.f54 := ⟨
 .seq (R [o 2 (.box (.t 0)), o 4 (.mv (n 0))]) (.seq (R [m 5 1, o 6 (.fld 1 (.t 2)), o 7 (.load false 1 (.t 6)), o 8 (.len true (.t 7)), o 9 (.bin .sub (.t 5) (.t 8)), m 1 9]) (.seq
    (.seq (R [m 10 1, o 11 (.bin .lss (.t 10) (n 0))]) (.cond (.t 11) (.seq (R [o 4 (.mv (n (-1)))]) .ret) .skip)) (.seq (R [m 12 1, o 13 (.fld 2 (.t 2)), o 14 (.load false 1 (.t
    13)), o 15 (.len true (.t 14)), o 16 (.bin .sub (.t 12) (.t 15)), m 1 16]) (.seq (.seq (R [m 17 1, o 18 (.bin .lss (.t 17) (n 0))]) (.cond (.t 18) (.seq (R [o 4 (.mv (n (-1)))])
    .ret) .skip)) (.seq (R [m 19 1, o 20 (.fld 3 (.t 2)), o 21 (.load false 1 (.t 20)), o 22 (.len true (.t 21)), o 23 (.bin .sub (.t 19) (.t 22)), m 1 23]) (.seq (.seq (R [m 24 1,
    o 25 (.bin .lss (.t 24) (n 0))]) (.cond (.t 25) (.seq (R [o 4 (.mv (n (-1)))]) .ret) .skip)) (.seq (R [m 26 1, m 4 26]) .ret))))))),
  by kernel_rfl⟩
def k55 : KF Go.Proofs.Try.f55 := ⟨
 .seq (R [o 1 (.box (.t 0)), o 2 (.alloc [.i .i64 0, .s [], .s [], .s []])]) (.seq (R [o 3 (.alloc [.i .i64 0, .s [], .s [], .s []])]) (.seq (R [o 4 (.fld 0 (.t 1)), o 5 (.load
    false 1 (.t 4)), o 6 (.fld 0 (.t 3)), x (.store 1 (.t 6) (.t 5))]) (.seq (R [o 7 (.fld 1 (.t 1)), o 8 (.load false 1 (.t 7)), o 9 (.fld 1 (.t 3)), x (.store 1 (.t 9) (.t 8))])
    (.seq (R [o 10 (.fld 2 (.t 1)), o 11 (.load false 1 (.t 10)), o 12 (.fld 2 (.t 3)), x (.store 1 (.t 12) (.t 11))]) (.seq (R [o 13 (.fld 3 (.t 1)), o 14 (.load false 1 (.t 13)),
    o 15 (.fld 3 (.t 3)), x (.store 1 (.t 15) (.t 14))]) (.seq (R [o 16 (.load true 4 (.t 3)), x (.store 4 (.t 2) (.t 16))]) .ret)))))),
  by kernel_rfl⟩
def k89 : KF Go.Proofs.Try.f89 := ⟨
 .seq (R [o 4 (.mv (n 0))]) (.seq (R [m 6 1, m 7 0, o 8 (.len false (.t 7)), o 9 (.bin .sub (.t 6) (.t 8)), m 1 9]) (.seq (.seq (R [m 10 1, o 11 (.bin .lss (.t 10) (n 0))]) (.cond
    (.t 11) (.seq (R [o 4 (.mv (n (-1)))]) .ret) .skip)) (.seq (.seq (R [o 5 (.mv (n 0))]) (.block 0 (.loop (.seq (.seq (R [m 12 5, m 13 0, o 14 (.len false (.t 13)), o 15 (.bin
    .lss (.t 12) (.t 14))]) (.cond (.t 15) .skip (.exit 0))) (.seq (.block 1 (.seq (R [m 18 0, m 19 5, o 20 (.idx 2 (.t 18) (.t 19)), o 21 (.load true 2 (.t 20)), m 22 1, o 23
    (.call (.f 124) [.t 21, .t 22]), m 1 23]) (.seq (R [m 24 1, o 25 (.bin .lss (.t 24) (n 0))]) (.cond (.t 25) (.seq (R [o 4 (.mv (n (-1)))]) .ret) .skip)))) (R [m 16 5, o 17 (.bin
    .add (.t 16) (n 1)), m 5 17])))))) (.seq (R [m 26 1, m 4 26]) .ret)))),
  by kernel_rfl⟩
def k90 : KF Go.Proofs.Try.f90 := ⟨
 .seq (R [o 4 (.mv (n 0))]) (.seq (R [m 6 1, m 7 0, o 8 (.len false (.t 7)), o 9 (.bin .sub (.t 6) (.t 8)), m 1 9]) (.seq (.seq (R [m 10 1, o 11 (.bin .lss (.t 10) (n 0))]) (.cond
    (.t 11) (.seq (R [o 4 (.mv (n (-1)))]) .ret) .skip)) (.seq (.seq (R [o 5 (.mv (n 0))]) (.block 0 (.loop (.seq (.seq (R [m 12 5, m 13 0, o 14 (.len false (.t 13)), o 15 (.bin
    .lss (.t 12) (.t 14))]) (.cond (.t 15) .skip (.exit 0))) (.seq (.block 1 (.seq (R [m 18 0, m 19 5, o 20 (.idx 4 (.t 18) (.t 19)), o 21 (.load true 4 (.t 20)), m 22 1, o 23
    (.call (.f 54) [.t 21, .t 22]), m 1 23]) (.seq (R [m 24 1, o 25 (.bin .lss (.t 24) (n 0))]) (.cond (.t 25) (.seq (R [o 4 (.mv (n (-1)))]) .ret) .skip)))) (R [m 16 5, o 17 (.bin
    .add (.t 16) (n 1)), m 5 17])))))) (.seq (R [m 26 1, m 4 26]) .ret)))),
  by kernel_rfl⟩
def k91 : KF Go.Proofs.Try.f91 := ⟨
 .seq (R [o 2 (.mv (.c .nils))]) (.seq (R [m 5 0, o 6 (.len false (.t 5)), o 7 (.mks 2 32 [.s [], .s []] (.t 6) (.t 6)), m 3 7]) (.seq (.seq (R [o 4 (.mv (n 0))]) (.block 0 (.loop
    (.seq (.seq (R [m 8 4, m 9 0, o 10 (.len false (.t 9)), o 11 (.bin .lss (.t 8) (.t 10))]) (.cond (.t 11) .skip (.exit 0))) (.seq (.block 1 (R [m 14 3, m 15 4, m 16 0, m 17 4, o
    18 (.idx 2 (.t 16) (.t 17)), o 19 (.load true 2 (.t 18)), o 20 (.call (.f 125) [.t 19]), o 21 (.idx 2 (.t 14) (.t 15)), x (.store 2 (.t 21) (.t 20))])) (R [m 12 4, o 13 (.bin
    .add (.t 12) (n 1)), m 4 13])))))) (.seq (R [m 22 3, m 2 22]) .ret))),
  by kernel_rfl⟩
def k92 : KF Go.Proofs.Try.f92 := ⟨
 .seq (R [o 2 (.mv (.c .nils))]) (.seq (R [m 5 0, o 6 (.len false (.t 5)), o 7 (.mks 4 56 [.i .i64 0, .s [], .s [], .s []] (.t 6) (.t 6)), m 3 7]) (.seq (.seq (R [o 4 (.mv (n 0))])
    (.block 0 (.loop (.seq (.seq (R [m 8 4, m 9 0, o 10 (.len false (.t 9)), o 11 (.bin .lss (.t 8) (.t 10))]) (.cond (.t 11) .skip (.exit 0))) (.seq (.block 1 (R [m 14 3, m 15 4, m
    16 0, m 17 4, o 18 (.idx 4 (.t 16) (.t 17)), o 19 (.load true 4 (.t 18)), o 20 (.call (.f 55) [.t 19]), o 21 (.idx 4 (.t 14) (.t 15)), x (.store 4 (.t 21) (.t 20))])) (R [m 12
    4, o 13 (.bin .add (.t 12) (n 1)), m 4 13])))))) (.seq (R [m 22 3, m 2 22]) .ret))),
  by kernel_rfl⟩
def k93 : KF Go.Proofs.Try.f93 := ⟨
 .seq (R [o 4 (.mv (.c (.b false)))]) (.seq (.seq (R [m 6 0, o 7 (.len false (.t 6)), m 8 1, o 9 (.len false (.t 8)), o 10 (.bin .neq (.t 7) (.t 9))]) (.cond (.t 10) (.seq (R [o 4
    (.mv (.c (.b false)))]) .ret) .skip)) (.seq (.seq (R [o 5 (.mv (n 0))]) (.block 0 (.loop (.seq (.seq (R [m 11 5, m 12 0, o 13 (.len false (.t 12)), o 14 (.bin .lss (.t 11) (.t
    13))]) (.cond (.t 14) .skip (.exit 0))) (.seq (.block 1 (.seq (D [m 17 0, m 18 5, o 19 (.idx 2 (.t 17) (.t 18)), o 20 (.load true 2 (.t 19)), m 21 1, m 22 5, o 23 (.idx 2 (.t
    21) (.t 22)), o 24 (.load true 2 (.t 23)), o 25 (.call0 (.f 126) [.t 20, .t 24]), o 26 (.un .not (.t 25))] [[], [], [0, 1], [2], [], [], [4, 5], [6], [3, 7], [8]]) (.cond (.t
    26) (.seq (R [o 4 (.mv (.c (.b false)))]) .ret) .skip))) (R [m 15 5, o 16 (.bin .add (.t 15) (n 1)), m 5 16])))))) (.seq (R [o 4 (.mv (.c (.b true)))]) .ret))),
  by kernel_rfl⟩
def k94 : KF Go.Proofs.Try.f94 := ⟨
 .seq (R [o 4 (.mv (.c (.b false)))]) (.seq (.seq (R [m 6 0, o 7 (.len false (.t 6)), m 8 1, o 9 (.len false (.t 8)), o 10 (.bin .neq (.t 7) (.t 9))]) (.cond (.t 10) (.seq (R [o 4
    (.mv (.c (.b false)))]) .ret) .skip)) (.seq (.seq (R [o 5 (.mv (n 0))]) (.block 0 (.loop (.seq (.seq (R [m 11 5, m 12 0, o 13 (.len false (.t 12)), o 14 (.bin .lss (.t 11) (.t
    13))]) (.cond (.t 14) .skip (.exit 0))) (.seq (.block 1 (.seq (D [m 17 0, m 18 5, o 19 (.idx 4 (.t 17) (.t 18)), o 20 (.load true 4 (.t 19)), m 21 1, m 22 5, o 23 (.idx 4 (.t
    21) (.t 22)), o 24 (.load true 4 (.t 23)), o 25 (.call0 (.f 127) [.t 20, .t 24]), o 26 (.un .not (.t 25))] [[], [], [0, 1], [2], [], [], [4, 5], [6], [3, 7], [8]]) (.cond (.t
    26) (.seq (R [o 4 (.mv (.c (.b false)))]) .ret) .skip))) (R [m 15 5, o 16 (.bin .add (.t 15) (n 1)), m 5 16])))))) (.seq (R [o 4 (.mv (.c (.b true)))]) .ret))),
  by kernel_rfl⟩
def k124 : KF Go.Proofs.Try.f124 := ⟨
 .seq (R [o 2 (.box (.t 0)), o 4 (.mv (n 0))]) (.seq (R [m 5 1, o 6 (.fld 0 (.t 2)), o 7 (.load false 1 (.t 6)), o 8 (.len true (.t 7)), o 9 (.bin .sub (.t 5) (.t 8)), m 1 9]) (.seq
    (.seq (R [m 10 1, o 11 (.bin .lss (.t 10) (n 0))]) (.cond (.t 11) (.seq (R [o 4 (.mv (n (-1)))]) .ret) .skip)) (.seq (R [m 12 1, o 13 (.fld 1 (.t 2)), o 14 (.load false 1 (.t
    13)), o 15 (.len true (.t 14)), o 16 (.bin .sub (.t 12) (.t 15)), m 1 16]) (.seq (.seq (R [m 17 1, o 18 (.bin .lss (.t 17) (n 0))]) (.cond (.t 18) (.seq (R [o 4 (.mv (n (-1)))])
    .ret) .skip)) (.seq (R [m 19 1, m 4 19]) .ret))))),
  by kernel_rfl⟩
def k125 : KF Go.Proofs.Try.f125 := ⟨
 .seq (R [o 1 (.box (.t 0)), o 2 (.alloc [.s [], .s []])]) (.seq (R [o 3 (.alloc [.s [], .s []])]) (.seq (R [o 4 (.fld 0 (.t 1)), o 5 (.load false 1 (.t 4)), o 6 (.fld 0 (.t 3)), x
    (.store 1 (.t 6) (.t 5))]) (.seq (R [o 7 (.fld 1 (.t 1)), o 8 (.load false 1 (.t 7)), o 9 (.fld 1 (.t 3)), x (.store 1 (.t 9) (.t 8))]) (.seq (R [o 10 (.load true 2 (.t 3)), x
    (.store 2 (.t 2) (.t 10))]) .ret)))),
  by kernel_rfl⟩
def k126 : KF Go.Proofs.Try.f126 := ⟨
 .seq (R [o 2 (.box (.t 0)), o 3 (.box (.t 1)), o 4 (.mv (.c (.b false)))]) (.seq (.seq (R [o 5 (.fld 0 (.t 2)), o 6 (.load false 1 (.t 5)), o 7 (.fld 0 (.t 3)), o 8 (.load false 1
    (.t 7)), o 9 (.bin .neq (.t 6) (.t 8))]) (.cond (.t 9) (.seq (R [o 4 (.mv (.c (.b false)))]) .ret) .skip)) (.seq (.seq (R [o 10 (.fld 1 (.t 2)), o 11 (.load false 1 (.t 10)), o
    12 (.fld 1 (.t 3)), o 13 (.load false 1 (.t 12)), o 14 (.bin .neq (.t 11) (.t 13))]) (.cond (.t 14) (.seq (R [o 4 (.mv (.c (.b false)))]) .ret) .skip)) (.seq (R [o 4 (.mv (.c
    (.b true)))]) .ret))),
  by kernel_rfl⟩
def k127 : KF Go.Proofs.Try.f127 := ⟨
 .seq (R [o 2 (.box (.t 0)), o 3 (.box (.t 1)), o 4 (.mv (.c (.b false)))]) (.seq (.seq (R [o 5 (.fld 0 (.t 2)), o 6 (.load false 1 (.t 5)), o 7 (.fld 0 (.t 3)), o 8 (.load false 1
    (.t 7)), o 9 (.bin .neq (.t 6) (.t 8))]) (.cond (.t 9) (.seq (R [o 4 (.mv (.c (.b false)))]) .ret) .skip)) (.seq (.seq (R [o 10 (.fld 1 (.t 2)), o 11 (.load false 1 (.t 10)), o
    12 (.fld 1 (.t 3)), o 13 (.load false 1 (.t 12)), o 14 (.bin .neq (.t 11) (.t 13))]) (.cond (.t 14) (.seq (R [o 4 (.mv (.c (.b false)))]) .ret) .skip)) (.seq (.seq (R [o 15
    (.fld 2 (.t 2)), o 16 (.load false 1 (.t 15)), o 17 (.fld 2 (.t 3)), o 18 (.load false 1 (.t 17)), o 19 (.bin .neq (.t 16) (.t 18))]) (.cond (.t 19) (.seq (R [o 4 (.mv (.c (.b
    false)))]) .ret) .skip)) (.seq (.seq (R [o 20 (.fld 3 (.t 2)), o 21 (.load false 1 (.t 20)), o 22 (.fld 3 (.t 3)), o 23 (.load false 1 (.t 22)), o 24 (.bin .neq (.t 21) (.t
    23))]) (.cond (.t 24) (.seq (R [o 4 (.mv (.c (.b false)))]) .ret) .skip)) (.seq (R [o 4 (.mv (.c (.b true)))]) .ret))))),
  by kernel_rfl⟩
end FrA

/-! DkK -/
open Go Go.AM
namespace FrA
open Go.Proofs
set_option maxRecDepth 100000
set_option linter.unusedSimpArgs false
abbrev Lg (n : Nat) : Prop := n ≤ 9223372036854775807
theorem h125 (a d : List UInt8) : HT 125 [.agg [.s a, .s d]] [] (.agg [.s a, .s d]) true [] := by
  refine holdsc_of (c := Try.f125.body.getD .skip) (k := k125.1) (cs := [(2, some (true, 2))]) HOk mixedT hintT Try.func125 (by kernel_rfl) (by kernel_rfl) (by kernel_rfl) k125.2 (by kernel_rfl) (le_of 1 _ (by kernel_rfl)) ?_
  simp -dsimp only [k125, go_sem, ↓reduceIte, Nat.reduceEqDiff, Int.reduceLE, Int.reduceLT, Int.reduceNeg, Int.reduceEq, Nat.reduceMul, Nat.reduceAdd, Nat.reduceLeDiff, reduceCtorEq]
  refine finC_val (p := True) (l := [.agg [.s a, .s d]]) (by simp [resM, resE, upd_at, loadF, cur, hup_at]) trivial ?_ ?_
  · simp [resOne, retA, retL]
  · simp [resOne, ResOk, ResL]
theorem h55 (o : Dop) : HT 55 [.agg (opC o)] [] (.agg (opC o)) true [] := by
  refine holdsc_of (c := Try.f55.body.getD .skip) (k := k55.1) (cs := [(2, some (true, 4))]) HOk mixedT hintT Try.func55 (by kernel_rfl) (by kernel_rfl) (by kernel_rfl) k55.2 (by kernel_rfl) (le_of 1 _ (by kernel_rfl)) ?_
  unfold opC
  simp -dsimp only [k55, go_sem, ↓reduceIte, Nat.reduceEqDiff, Int.reduceLE, Int.reduceLT, Int.reduceNeg, Int.reduceEq, Nat.reduceMul, Nat.reduceAdd, Nat.reduceLeDiff, reduceCtorEq]
  refine finC_val (p := True) (l := [.agg (opC o)]) (by simp [resM, resE, upd_at, loadF, cur, hup_at, opC]) trivial ?_ ?_
  · simp [resOne, retA, retL, opC]
  · simp [resOne, ResOk, ResL, opC]
def szf (f : File) : Nat := f.1.length + f.2.length
def szl : List File → Nat
  | [] => 0
  | f :: l => szf f + szl l
def szo (o : Dop) : Nat := o.2.1.length + o.2.2.1.length + o.2.2.2.length
def szol : List Dop → Nat
  | [] => 0
  | f :: l => szo f + szol l
theorem szl_succ {l : List File} {i : Nat} (h : i < l.length) : szl (l.take (i + 1)) = szl (l.take i) + szf (l.getD i ([], [])) := by
  have app : ∀ a b : List File, szl (a ++ b) = szl a + szl b := by
    intro a b
    induction a with
    | nil => simp [szl]
    | cons f a ih => simp [szl, ih]; omega
  rw [List.take_add_one, app, List.getElem?_eq_getElem h, List.getD_eq_getElem?_getD, List.getElem?_eq_getElem h]
  simp [szl]
theorem szl_le (l : List File) (i : Nat) : szl (l.take i) ≤ szl l := by
  have app : ∀ a b : List File, szl (a ++ b) = szl a + szl b := by
    intro a b
    induction a with
    | nil => simp [szl]
    | cons f a ih => simp [szl, ih]; omega
  conv => rhs; rw [← List.take_append_drop i l, app]
  omega
theorem szol_succ {l : List Dop} {i : Nat} (h : i < l.length) : szol (l.take (i + 1)) = szol (l.take i) + szo (l.getD i dop0) := by
  have app : ∀ a b : List Dop, szol (a ++ b) = szol a + szol b := by
    intro a b
    induction a with
    | nil => simp [szol]
    | cons f a ih => simp [szol, ih]; omega
  rw [List.take_add_one, app, List.getElem?_eq_getElem h, List.getD_eq_getElem?_getD, List.getElem?_eq_getElem h]
  simp [szol]
theorem szol_le (l : List Dop) (i : Nat) : szol (l.take i) ≤ szol l := by
  have app : ∀ a b : List Dop, szol (a ++ b) = szol a + szol b := by
    intro a b
    induction a with
    | nil => simp [szol]
    | cons f a ih => simp [szol, ih]; omega
  conv => rhs; rw [← List.take_append_drop i l, app]
  omega
def lefts (left n : Nat) : Int := if n ≤ left then ((left - n : Nat) : Int) else -1
theorem lefts_no {left n : Nat} (h : ¬ n ≤ left) : lefts left n = -1 := if_neg h
theorem lefts_yes {left n : Nat} (h : n ≤ left) : lefts left n = ((left - n : Nat) : Int) := if_pos h
theorem h124 (a d : List UInt8) (left : Nat) (hl : left ≤ 1048576) (ha : Lg a.length) (hd : Lg d.length) : HT 124 [.agg [.s a, .s d], i64 left] [] (i64 (lefts left (a.length + d.length))) true [] := by
  refine holds_of (c := Try.f124.body.getD .skip) (k := k124.1) (ts := [4]) HOk mixedT hintT Try.func124 (by kernel_rfl) (by kernel_rfl) (by kernel_rfl) k124.2 (by kernel_rfl) (le_of 2 _ (by kernel_rfl)) ?_
  by_cases h1 : a.length ≤ left
  · have w1 : IntKind.i64.wrap ((left : Int) - (a.length : Int)) = ((left - a.length : Nat) : Int) := by rw [wr (by omega) (by omega)]; omega
    have c1 : ¬ ((left - a.length : Nat) : Int) < 0 := by omega
    have w2 : IntKind.i64.wrap (((left - a.length : Nat) : Int) - (d.length : Int)) = ((left - a.length : Nat) : Int) - (d.length : Int) := by
      unfold IntKind.wrap; simp [IntKind.signed, IntKind.bits]; omega
    by_cases h2 : a.length + d.length ≤ left
    · have c2 : ¬ ((left - a.length : Nat) : Int) - (d.length : Int) < 0 := by omega
      simp -dsimp only [k124, w1, c1, w2, c2, go_sem, ↓reduceIte, Nat.reduceEqDiff, Int.reduceLE, Int.reduceLT, Int.reduceNeg, Int.reduceEq, Nat.reduceMul, Nat.reduceAdd, Nat.reduceLeDiff, reduceCtorEq]
      refine Fin_val ?_ (by simp [resV, upd_at, ResOk])
      simp [resV, upd_at, retA]; rw [lefts_yes h2]; omega
    · have c2 : ((left - a.length : Nat) : Int) - (d.length : Int) < 0 := by omega
      simp -dsimp only [k124, w1, c1, w2, c2, go_sem, ↓reduceIte, Nat.reduceEqDiff, Int.reduceLE, Int.reduceLT, Int.reduceNeg, Int.reduceEq, Nat.reduceMul, Nat.reduceAdd, Nat.reduceLeDiff, reduceCtorEq]
      exact Fin_val (by simp [resV, upd_at, retA, lefts_no h2]) (by simp [resV, upd_at, ResOk])
  · have w1 : IntKind.i64.wrap ((left : Int) - (a.length : Int)) = (left : Int) - (a.length : Int) := by
      unfold IntKind.wrap; simp [IntKind.signed, IntKind.bits]; omega
    have c1 : (left : Int) - (a.length : Int) < 0 := by omega
    simp -dsimp only [k124, w1, c1, go_sem, ↓reduceIte, Nat.reduceEqDiff, Int.reduceLE, Int.reduceLT, Int.reduceNeg, Int.reduceEq, Nat.reduceMul, Nat.reduceAdd, Nat.reduceLeDiff, reduceCtorEq]
    exact Fin_val (by simp [resV, upd_at, retA, lefts_no (show ¬ a.length + d.length ≤ left by omega)]) (by simp [resV, upd_at, ResOk])
theorem h54 (o : Dop) (left : Nat) (hl : left ≤ 1048576) (ha : Lg o.2.1.length) (hb : Lg o.2.2.1.length) (hd : Lg o.2.2.2.length) : HT 54 [.agg (opC o), i64 left] [] (i64 (lefts left (szo o))) true [] := by
  refine holds_of (c := Try.f54.body.getD .skip) (k := k54.1) (ts := [4]) HOk mixedT hintT Try.func54 (by kernel_rfl) (by kernel_rfl) (by kernel_rfl) k54.2 (by kernel_rfl) (le_of 2 _ (by kernel_rfl)) ?_
  obtain ⟨k, a, b, d⟩ := o
  simp only at ha hb hd
  simp only [opC, szo]
  by_cases h1 : a.length ≤ left
  · have w1 : IntKind.i64.wrap ((left : Int) - (a.length : Int)) = ((left - a.length : Nat) : Int) := by rw [wr (by omega) (by omega)]; omega
    have c1 : ¬ ((left - a.length : Nat) : Int) < 0 := by omega
    by_cases h2 : a.length + b.length ≤ left
    · have w2 : IntKind.i64.wrap (((left - a.length : Nat) : Int) - (b.length : Int)) = ((left - a.length - b.length : Nat) : Int) := by rw [wr (by omega) (by omega)]; omega
      have c2 : ¬ ((left - a.length - b.length : Nat) : Int) < 0 := by omega
      have w3 : IntKind.i64.wrap (((left - a.length - b.length : Nat) : Int) - (d.length : Int)) = ((left - a.length - b.length : Nat) : Int) - (d.length : Int) := by
        unfold IntKind.wrap; simp [IntKind.signed, IntKind.bits]; omega
      by_cases h3 : a.length + b.length + d.length ≤ left
      · have c3 : ¬ ((left - a.length - b.length : Nat) : Int) - (d.length : Int) < 0 := by omega
        simp -dsimp only [k54, w1, c1, w2, c2, w3, c3, go_sem, ↓reduceIte, Nat.reduceEqDiff, Int.reduceLE, Int.reduceLT, Int.reduceNeg, Int.reduceEq, Nat.reduceMul, Nat.reduceAdd, Nat.reduceLeDiff, reduceCtorEq]
        refine Fin_val ?_ (by simp [resV, upd_at, ResOk])
        simp [resV, upd_at, retA]; rw [lefts_yes h3]; omega
      · have c3 : ((left - a.length - b.length : Nat) : Int) - (d.length : Int) < 0 := by omega
        simp -dsimp only [k54, w1, c1, w2, c2, w3, c3, go_sem, ↓reduceIte, Nat.reduceEqDiff, Int.reduceLE, Int.reduceLT, Int.reduceNeg, Int.reduceEq, Nat.reduceMul, Nat.reduceAdd, Nat.reduceLeDiff, reduceCtorEq]
        exact Fin_val (by simp [resV, upd_at, retA, lefts_no h3]) (by simp [resV, upd_at, ResOk])
    · have w2 : IntKind.i64.wrap (((left - a.length : Nat) : Int) - (b.length : Int)) = ((left - a.length : Nat) : Int) - (b.length : Int) := by
        unfold IntKind.wrap; simp [IntKind.signed, IntKind.bits]; omega
      have c2 : ((left - a.length : Nat) : Int) - (b.length : Int) < 0 := by omega
      simp -dsimp only [k54, w1, c1, w2, c2, go_sem, ↓reduceIte, Nat.reduceEqDiff, Int.reduceLE, Int.reduceLT, Int.reduceNeg, Int.reduceEq, Nat.reduceMul, Nat.reduceAdd, Nat.reduceLeDiff, reduceCtorEq]
      exact Fin_val (by simp [resV, upd_at, retA, lefts_no (show ¬ a.length + b.length + d.length ≤ left by omega)]) (by simp [resV, upd_at, ResOk])
  · have w1 : IntKind.i64.wrap ((left : Int) - (a.length : Int)) = (left : Int) - (a.length : Int) := by
      unfold IntKind.wrap; simp [IntKind.signed, IntKind.bits]; omega
    have c1 : (left : Int) - (a.length : Int) < 0 := by omega
    simp -dsimp only [k54, w1, c1, go_sem, ↓reduceIte, Nat.reduceEqDiff, Int.reduceLE, Int.reduceLT, Int.reduceNeg, Int.reduceEq, Nat.reduceMul, Nat.reduceAdd, Nat.reduceLeDiff, reduceCtorEq]
    exact Fin_val (by simp [resV, upd_at, retA, lefts_no (show ¬ a.length + b.length + d.length ≤ left by omega)]) (by simp [resV, upd_at, ResOk])
end FrA

/-! DkL -/
open Go Go.AM
namespace FrA
open Go.Proofs
set_option maxRecDepth 100000
set_option linter.unusedSimpArgs false
theorem neg1 : ((-1 : Int) < 0) = True := by simp
theorem h89 (l : List File) (left : Nat) (hl : left ≤ 1048576) (hn : Lg l.length) (hb : ∀ f ∈ l, Lg f.1.length ∧ Lg f.2.length) : HT 89 [.dat 2 (fl l), i64 left] [] (i64 (lefts left (l.length + szl l))) true [] := by
  refine holds_of (c := Try.f89.body.getD .skip) (k := k89.1) (ts := [4]) HOk mixedT hintT Try.func89 (by kernel_rfl) (by kernel_rfl) (by kernel_rfl) k89.2 (by kernel_rfl) (le_of 2 _ (by kernel_rfl)) ?_
  by_cases h1 : l.length ≤ left
  · have w1 : IntKind.i64.wrap ((left : Int) - (l.length : Int)) = ((left - l.length : Nat) : Int) := by rw [wr (by omega) (by omega)]; omega
    have c1 : ¬ ((left - l.length : Nat) : Int) < 0 := by omega
    simp -dsimp only [k89, w1, c1, fl_len, go_sem, ↓reduceIte, Nat.reduceEqDiff, Int.reduceLE, Int.reduceLT, Int.reduceNeg, Int.reduceEq, Nat.reduceMul, Nat.reduceAdd, Nat.reduceLeDiff, reduceCtorEq]
    refine K_loop (fun g h c => ∃ i : Nat, i ≤ l.length ∧ l.length + szl (l.take i) ≤ left ∧ g 0 = .dat 2 (fl l) ∧ g 1 = i64 (left - l.length - szl (l.take i) : Nat) ∧ g 5 = i64 i) (fun g _ _ => match g 5 with | .i _ n => l.length - n.toNat | _ => 0) ?_ ?_
    · exact ⟨0, by omega, by simp [szl]; omega, by simp [upd_at, S_0], by simp [upd_at, szl], by simp [upd_at]⟩
    · rintro A n hA g h c ⟨i, hi, hsz, q0, q1, q5⟩ hm
      by_cases hlt : i < l.length
      · have hc : (i : Int) < (l.length : Int) := by omega
        have w2 : IntKind.i64.wrap ((i : Int) + 1) = ((i + 1 : Nat) : Int) := by rw [wr (by omega) (by omega)]; rfl
        have hf := hb _ (getD_mem hlt)
        have hs := szl_succ hlt
        simp only [szf] at hs
        have hle := szl_le l (i + 1)
        simp -dsimp only [q0, q1, q5, hc, fl_get hlt, fl_len, go_sem, ↓reduceIte, Nat.reduceEqDiff, Int.reduceLE, Int.reduceLT, Int.reduceNeg, Int.reduceEq, Nat.reduceMul, Nat.reduceAdd, Nat.reduceLeDiff, reduceCtorEq]
        refine Call_val (own := true) (h124 _ _ (left - l.length - szl (l.take i)) (by omega) hf.1 hf.2) (by simp [ExpOk, AV.pure]) (.inl rfl) ?_
        by_cases h2 : (l.getD i ([], [])).1.length + (l.getD i ([], [])).2.length ≤ left - l.length - szl (l.take i)
        · rw [lefts_yes h2]
          have c2 : ¬ ((left - l.length - szl (l.take i) - ((l.getD i ([], [])).1.length + (l.getD i ([], [])).2.length) : Nat) : Int) < 0 := by omega
          simp -dsimp only [q0, q5, c2, w2, go_sem, ↓reduceIte, Nat.reduceEqDiff, Int.reduceLE, Int.reduceLT, Int.reduceNeg, Int.reduceEq, Nat.reduceMul, Nat.reduceAdd, Nat.reduceLeDiff, reduceCtorEq]
          refine hA _ _ _ ?_ ?_
          · refine ⟨i + 1, by omega, by omega, by simp [upd_at, q0], ?_, by simp [upd_at]⟩
            simp only [upd_at]
            exact congrArg i64 (congrArg Int.ofNat (by omega))
          · rw [q5] at hm; simp [upd_at] at hm ⊢; omega
        · rw [lefts_no h2]
          simp -dsimp only [neg1, go_sem, ↓reduceIte, Nat.reduceEqDiff, Int.reduceLE, Int.reduceLT, Int.reduceNeg, Int.reduceEq, Nat.reduceMul, Nat.reduceAdd, Nat.reduceLeDiff, reduceCtorEq]
          exact Fin_val (by simp [resV, upd_at, retA, lefts_no (show ¬ l.length + szl l ≤ left by omega)]) (by simp [resV, upd_at, ResOk])
      · have hc : ¬ (i : Int) < (l.length : Int) := by omega
        rw [List.take_of_length_le (by omega)] at hsz q1
        simp -dsimp only [q0, q1, q5, hc, fl_len, go_sem, ↓reduceIte, Nat.reduceEqDiff, Int.reduceLE, Int.reduceLT, Int.reduceNeg, Int.reduceEq, Nat.reduceMul, Nat.reduceAdd, Nat.reduceLeDiff, reduceCtorEq]
        refine Fin_val ?_ (by simp [resV, upd_at, ResOk, q1])
        simp only [resV, upd_at, q1, retA, lefts_yes hsz]
        exact congrArg i64 (congrArg Int.ofNat (by omega))
  · have w1 : IntKind.i64.wrap ((left : Int) - (l.length : Int)) = (left : Int) - (l.length : Int) := by
      unfold IntKind.wrap; simp [IntKind.signed, IntKind.bits]; omega
    have c1 : (left : Int) - (l.length : Int) < 0 := by omega
    simp -dsimp only [k89, w1, c1, fl_len, go_sem, ↓reduceIte, Nat.reduceEqDiff, Int.reduceLE, Int.reduceLT, Int.reduceNeg, Int.reduceEq, Nat.reduceMul, Nat.reduceAdd, Nat.reduceLeDiff, reduceCtorEq]
    exact Fin_val (by simp [resV, upd_at, retA, lefts_no (show ¬ l.length + szl l ≤ left by omega)]) (by simp [resV, upd_at, ResOk])
theorem h90 (l : List Dop) (left : Nat) (hl : left ≤ 1048576) (hn : Lg l.length) (hb : ∀ f ∈ l, Lg f.2.1.length ∧ Lg f.2.2.1.length ∧ Lg f.2.2.2.length) : HT 90 [.dat 4 (ol l), i64 left] [] (i64 (lefts left (l.length + szol l))) true [] := by
  refine holds_of (c := Try.f90.body.getD .skip) (k := k90.1) (ts := [4]) HOk mixedT hintT Try.func90 (by kernel_rfl) (by kernel_rfl) (by kernel_rfl) k90.2 (by kernel_rfl) (le_of 2 _ (by kernel_rfl)) ?_
  by_cases h1 : l.length ≤ left
  · have w1 : IntKind.i64.wrap ((left : Int) - (l.length : Int)) = ((left - l.length : Nat) : Int) := by rw [wr (by omega) (by omega)]; omega
    have c1 : ¬ ((left - l.length : Nat) : Int) < 0 := by omega
    simp -dsimp only [k90, w1, c1, ol_len, go_sem, ↓reduceIte, Nat.reduceEqDiff, Int.reduceLE, Int.reduceLT, Int.reduceNeg, Int.reduceEq, Nat.reduceMul, Nat.reduceAdd, Nat.reduceLeDiff, reduceCtorEq]
    refine K_loop (fun g h c => ∃ i : Nat, i ≤ l.length ∧ l.length + szol (l.take i) ≤ left ∧ g 0 = .dat 4 (ol l) ∧ g 1 = i64 (left - l.length - szol (l.take i) : Nat) ∧ g 5 = i64 i) (fun g _ _ => match g 5 with | .i _ n => l.length - n.toNat | _ => 0) ?_ ?_
    · exact ⟨0, by omega, by simp [szol]; omega, by simp [upd_at, S_0], by simp [upd_at, szol], by simp [upd_at]⟩
    · rintro A n hA g h c ⟨i, hi, hsz, q0, q1, q5⟩ hm
      by_cases hlt : i < l.length
      · have hc : (i : Int) < (l.length : Int) := by omega
        have w2 : IntKind.i64.wrap ((i : Int) + 1) = ((i + 1 : Nat) : Int) := by rw [wr (by omega) (by omega)]; rfl
        have hf := hb _ (getO_mem hlt)
        have hs := szol_succ hlt
        have hle := szol_le l (i + 1)
        obtain ⟨op, hop⟩ : ∃ op, op = l.getD i dop0 := ⟨_, rfl⟩
        have hgo := ol_get hlt
        rw [← hop] at hf hs hgo
        have ec : opC op = [.i .i64 op.1, .s op.2.1, .s op.2.2.1, .s op.2.2.2] := rfl
        have h54' := h54 op (left - l.length - szol (l.take i)) (by omega) hf.1 hf.2.1 hf.2.2
        rw [ec] at h54'
        simp -dsimp only [q0, q1, q5, hc, hgo, ec, ol_len, go_sem, ↓reduceIte, Nat.reduceEqDiff, Int.reduceLE, Int.reduceLT, Int.reduceNeg, Int.reduceEq, Nat.reduceMul, Nat.reduceAdd, Nat.reduceLeDiff, reduceCtorEq]
        refine Call_val (own := true) (h54') (by simp [ExpOk, AV.pure]) (.inl rfl) ?_
        by_cases h2 : szo op ≤ left - l.length - szol (l.take i)
        · rw [lefts_yes h2]
          have c2 : ¬ ((left - l.length - szol (l.take i) - szo op : Nat) : Int) < 0 := by omega
          simp -dsimp only [q0, q5, c2, w2, go_sem, ↓reduceIte, Nat.reduceEqDiff, Int.reduceLE, Int.reduceLT, Int.reduceNeg, Int.reduceEq, Nat.reduceMul, Nat.reduceAdd, Nat.reduceLeDiff, reduceCtorEq]
          refine hA _ _ _ ?_ ?_
          · refine ⟨i + 1, by omega, by omega, by simp [upd_at, q0], ?_, by simp [upd_at]⟩
            simp only [upd_at]
            exact congrArg i64 (congrArg Int.ofNat (by omega))
          · rw [q5] at hm; simp [upd_at] at hm ⊢; omega
        · rw [lefts_no h2]
          simp -dsimp only [neg1, go_sem, ↓reduceIte, Nat.reduceEqDiff, Int.reduceLE, Int.reduceLT, Int.reduceNeg, Int.reduceEq, Nat.reduceMul, Nat.reduceAdd, Nat.reduceLeDiff, reduceCtorEq]
          exact Fin_val (by simp [resV, upd_at, retA, lefts_no (show ¬ l.length + szol l ≤ left by omega)]) (by simp [resV, upd_at, ResOk])
      · have hc : ¬ (i : Int) < (l.length : Int) := by omega
        rw [List.take_of_length_le (by omega)] at hsz q1
        simp -dsimp only [q0, q1, q5, hc, ol_len, go_sem, ↓reduceIte, Nat.reduceEqDiff, Int.reduceLE, Int.reduceLT, Int.reduceNeg, Int.reduceEq, Nat.reduceMul, Nat.reduceAdd, Nat.reduceLeDiff, reduceCtorEq]
        refine Fin_val ?_ (by simp [resV, upd_at, ResOk, q1])
        simp only [resV, upd_at, q1, retA, lefts_yes hsz]
        exact congrArg i64 (congrArg Int.ofNat (by omega))
  · have w1 : IntKind.i64.wrap ((left : Int) - (l.length : Int)) = (left : Int) - (l.length : Int) := by
      unfold IntKind.wrap; simp [IntKind.signed, IntKind.bits]; omega
    have c1 : (left : Int) - (l.length : Int) < 0 := by omega
    simp -dsimp only [k90, w1, c1, ol_len, go_sem, ↓reduceIte, Nat.reduceEqDiff, Int.reduceLE, Int.reduceLT, Int.reduceNeg, Int.reduceEq, Nat.reduceMul, Nat.reduceAdd, Nat.reduceLeDiff, reduceCtorEq]
    exact Fin_val (by simp [resV, upd_at, retA, lefts_no (show ¬ l.length + szol l ≤ left by omega)]) (by simp [resV, upd_at, ResOk])
end FrA

/-! DkM -/
open Go Go.AM
namespace FrA
open Go.Proofs
set_option maxRecDepth 100000
set_option linter.unusedSimpArgs false
theorem tz_set {α : Type} (l : List α) (d : α) (i : Nat) (h : i < l.length) : (l.take i ++ List.replicate (l.length - i) d).set i (l.getD i d) = l.take (i + 1) ++ List.replicate (l.length - (i + 1)) d := by
  have e1 : l.length - i = (l.length - (i + 1)) + 1 := by omega
  rw [e1, List.replicate_succ, List.set_append, if_neg (by simp; omega)]
  have e2 : i - (l.take i).length = 0 := by simp; omega
  rw [e2, List.set_cons_zero, List.take_add_one, List.getElem?_eq_getElem h, List.getD_eq_getElem?_getD, List.getElem?_eq_getElem h, Option.getD_some, Option.toList_some, List.append_assoc]
  rfl
theorem tz_end {α : Type} (l : List α) (d : α) (i : Nat) (h : l.length ≤ i) : l.take i ++ List.replicate (l.length - i) d = l := by
  rw [List.take_of_length_le h, show l.length - i = 0 by omega]; simp
theorem tz_len {α : Type} (l : List α) (d : α) (i : Nat) (h : i ≤ l.length) : (l.take i ++ List.replicate (l.length - i) d).length = l.length := by simp; omega
theorem h91 (l : List File) (hn : l.length ≤ 1048576) : HT 91 [.dat 2 (fl l)] [] (.dat 2 (fl l)) true [] := by
  refine holds_of (c := Try.f91.body.getD .skip) (k := k91.1) (ts := [2]) HOk mixedT hintT Try.func91 (by kernel_rfl) (by kernel_rfl) (by kernel_rfl) k91.2 (by kernel_rfl) (le_of 1 _ (by kernel_rfl)) ?_
  simp -dsimp only [k91, fl_len, go_sem, ↓reduceIte, Nat.reduceEqDiff, Int.reduceLE, Int.reduceLT, Int.reduceNeg, Int.reduceEq, Nat.reduceMul, Nat.reduceAdd, Nat.reduceLeDiff, reduceCtorEq]
  refine EK_p ?_ ?_
  · simp [bigOk]; omega
  simp -dsimp only [Int.toNat_natCast, zs_fl, go_sem, ↓reduceIte, Nat.reduceEqDiff, Int.reduceLE, Int.reduceLT, Int.reduceNeg, Int.reduceEq, Nat.reduceMul, Nat.reduceAdd, Nat.reduceLeDiff, reduceCtorEq]
  refine K_loop (fun g h c => ∃ (i : Nat) (q : Prop), i ≤ l.length ∧ g 0 = .dat 2 (fl l) ∧ g 3 = .sl (.l 7) 1 0 l.length none ∧ g 4 = i64 i ∧ h (.l 7) = some { ver := 1, es := fl (l.take i ++ List.replicate (l.length - i) ([], [])), esz := 2, own := q }) (fun g _ _ => match g 4 with | .i _ n => l.length - n.toNat | _ => 0) ?_ ?_
  · exact ⟨0, _, by omega, by simp [upd_at, S_0], by simp [upd_at], by simp [upd_at], by simp [hup_at, zs]; rfl⟩
  · rintro A n hA g h c ⟨i, q, hi, q0, q3, q4, hh⟩ hm
    by_cases hlt : i < l.length
    · have hc : (i : Int) < (l.length : Int) := by omega
      have w2 : IntKind.i64.wrap ((i : Int) + 1) = ((i + 1 : Nat) : Int) := by rw [wr (by omega) (by omega)]; rfl
      simp -dsimp only [q0, q3, q4, hc, fl_get hlt, fl_len, go_sem, ↓reduceIte, Nat.reduceEqDiff, Int.reduceLE, Int.reduceLT, Int.reduceNeg, Int.reduceEq, Nat.reduceMul, Nat.reduceAdd, Nat.reduceLeDiff, reduceCtorEq]
      refine Call_val (own := true) (h125 _ _) (by simp [ExpOk, AV.pure]) (.inl rfl) ?_
      simp -dsimp only [q0, q3, q4, hh, go_sem, ↓reduceIte, Nat.reduceEqDiff, Int.reduceLE, Int.reduceLT, Int.reduceNeg, Int.reduceEq, Nat.reduceMul, Nat.reduceAdd, Nat.reduceLeDiff, reduceCtorEq]
      refine VK_p (by omega) ?_
      have gz := fl_get (l := l.take i ++ List.replicate (l.length - i) ([], [])) (i := i) (by rw [tz_len _ _ _ hi]; exact hlt)
      have st := fl_set (l.take i ++ List.replicate (l.length - i) ([], [])) i (l.getD i ([], []))
      simp -dsimp only [q0, q3, q4, hh, gz, Nat.zero_add, st, w2, go_sem, ↓reduceIte, Nat.reduceEqDiff, Int.reduceLE, Int.reduceLT, Int.reduceNeg, Int.reduceEq, Nat.reduceMul, Nat.reduceAdd, Nat.reduceLeDiff, reduceCtorEq]
      refine hA _ _ _ ?_ ?_
      · exact ⟨i + 1, _, by omega, by simp [upd_at, q0], by simp [upd_at, q3], by simp [upd_at], by rw [hup_at, if_pos rfl, tz_set _ _ _ hlt]⟩
      · rw [q4] at hm; simp [upd_at] at hm ⊢; omega
    · have hc : ¬ (i : Int) < (l.length : Int) := by omega
      rw [tz_end _ _ _ (by omega)] at hh
      simp -dsimp only [q0, q3, q4, hc, fl_len, go_sem, ↓reduceIte, Nat.reduceEqDiff, Int.reduceLE, Int.reduceLT, Int.reduceNeg, Int.reduceEq, Nat.reduceMul, Nat.reduceAdd, Nat.reduceLeDiff, reduceCtorEq]
      exact fin_fl (.l 7) 1 l.length none q _ _ rfl (by simp [upd_at, q3]) hh rfl
theorem ol_pure (l : List Dop) : Pure (ol l) := by
  intro e he c hc
  simp only [ol, List.mem_map] at he
  obtain ⟨t, _, rfl⟩ := he
  simp [opC] at hc; rcases hc with rfl | rfl | rfl | rfl <;> rfl
theorem ol_flat (l : List Dop) : Flat (ol l) := by
  intro e he c hc
  simp only [ol, List.mem_map] at he
  obtain ⟨t, _, rfl⟩ := he
  simp [opC] at hc; rcases hc with rfl | rfl | rfl | rfl <;> rfl
theorem ol_set (l : List Dop) (i : Nat) (f : Dop) : (ol l).set i (opC f) = ol (l.set i f) := by simp [ol, List.map_set]
theorem fin_ol {m : List Dop} {t : Nat} (o : Rid) (v n : Nat) (cap : Option Nat) (q : Prop) (g : Slots) (h : Heap) (ho : o.isP = false) (hg : g t = .sl o v 0 n cap) (hh : h o = some { ver := v, es := ol m, esz := 4, own := q }) (hm : n = m.length) : FinB [t] [] (.dat 4 (ol m)) true [] g h := by
  refine Fin_val ?_ ?_
  · have : sub (ol m) 0 n = ol m := by unfold sub; rw [if_pos ⟨rfl, by rw [ol_len, hm]⟩]
    simp [resV, hg, retA, cur, hh, List.idxOf?, this]
  · simp only [resV, hg, ResOk]
    exact ⟨{ ver := v, es := ol m, esz := 4, own := q }, by unfold cur; rw [hh]; simp, .inr ⟨ho, by simp, ol_pure _, by simp only [ol_len]; omega, fun _ => .inr (ol_flat _)⟩⟩
theorem zo_ol (n : Nat) : List.replicate n [AV.i .i64 0, AV.s [], AV.s [], AV.s []] = ol (List.replicate n dop0) := by simp [ol, dop0, opC]
theorem h92 (l : List Dop) (hn : l.length ≤ 1048576) : HT 92 [.dat 4 (ol l)] [] (.dat 4 (ol l)) true [] := by
  refine holds_of (c := Try.f92.body.getD .skip) (k := k92.1) (ts := [2]) HOk mixedT hintT Try.func92 (by kernel_rfl) (by kernel_rfl) (by kernel_rfl) k92.2 (by kernel_rfl) (le_of 1 _ (by kernel_rfl)) ?_
  simp -dsimp only [k92, ol_len, go_sem, ↓reduceIte, Nat.reduceEqDiff, Int.reduceLE, Int.reduceLT, Int.reduceNeg, Int.reduceEq, Nat.reduceMul, Nat.reduceAdd, Nat.reduceLeDiff, reduceCtorEq]
  refine EK_p ?_ ?_
  · simp [bigOk]; omega
  simp -dsimp only [Int.toNat_natCast, zo_ol, go_sem, ↓reduceIte, Nat.reduceEqDiff, Int.reduceLE, Int.reduceLT, Int.reduceNeg, Int.reduceEq, Nat.reduceMul, Nat.reduceAdd, Nat.reduceLeDiff, reduceCtorEq]
  refine K_loop (fun g h c => ∃ (i : Nat) (q : Prop), i ≤ l.length ∧ g 0 = .dat 4 (ol l) ∧ g 3 = .sl (.l 7) 1 0 l.length none ∧ g 4 = i64 i ∧ h (.l 7) = some { ver := 1, es := ol (l.take i ++ List.replicate (l.length - i) dop0), esz := 4, own := q }) (fun g _ _ => match g 4 with | .i _ n => l.length - n.toNat | _ => 0) ?_ ?_
  · exact ⟨0, _, by omega, by simp [upd_at, S_0], by simp [upd_at], by simp [upd_at], by simp [hup_at]; rfl⟩
  · rintro A n hA g h c ⟨i, q, hi, q0, q3, q4, hh⟩ hm
    by_cases hlt : i < l.length
    · have hc : (i : Int) < (l.length : Int) := by omega
      have w2 : IntKind.i64.wrap ((i : Int) + 1) = ((i + 1 : Nat) : Int) := by rw [wr (by omega) (by omega)]; rfl
      obtain ⟨op, hop⟩ : ∃ op, op = l.getD i dop0 := ⟨_, rfl⟩
      have hgo := ol_get hlt
      rw [← hop] at hgo
      have ec : opC op = [.i .i64 op.1, .s op.2.1, .s op.2.2.1, .s op.2.2.2] := rfl
      have h55' := h55 op
      rw [ec] at h55'
      simp -dsimp only [q0, q3, q4, hc, hgo, ec, ol_len, go_sem, ↓reduceIte, Nat.reduceEqDiff, Int.reduceLE, Int.reduceLT, Int.reduceNeg, Int.reduceEq, Nat.reduceMul, Nat.reduceAdd, Nat.reduceLeDiff, reduceCtorEq]
      refine Call_val (own := true) (h55') (by simp [ExpOk, AV.pure]) (.inl rfl) ?_
      simp -dsimp only [q0, q3, q4, hh, go_sem, ↓reduceIte, Nat.reduceEqDiff, Int.reduceLE, Int.reduceLT, Int.reduceNeg, Int.reduceEq, Nat.reduceMul, Nat.reduceAdd, Nat.reduceLeDiff, reduceCtorEq]
      refine VK_p (by omega) ?_
      obtain ⟨oz, hoz⟩ : ∃ oz, oz = (l.take i ++ List.replicate (l.length - i) dop0).getD i dop0 := ⟨_, rfl⟩
      have gz := ol_get (ops := l.take i ++ List.replicate (l.length - i) dop0) (i := i) (by rw [tz_len _ _ _ hi]; exact hlt)
      rw [← hoz] at gz
      have ecz : opC oz = [.i .i64 oz.1, .s oz.2.1, .s oz.2.2.1, .s oz.2.2.2] := rfl
      have st := ol_set (l.take i ++ List.replicate (l.length - i) dop0) i op
      rw [ec] at st
      simp -dsimp only [q0, q3, q4, hh, gz, ecz, Nat.zero_add, st, w2, go_sem, ↓reduceIte, Nat.reduceEqDiff, Int.reduceLE, Int.reduceLT, Int.reduceNeg, Int.reduceEq, Nat.reduceMul, Nat.reduceAdd, Nat.reduceLeDiff, reduceCtorEq]
      refine hA _ _ _ ?_ ?_
      · exact ⟨i + 1, _, by omega, by simp [upd_at, q0], by simp [upd_at, q3], by simp [upd_at], by rw [hup_at, if_pos rfl, hop, tz_set _ _ _ hlt]⟩
      · rw [q4] at hm; simp [upd_at] at hm ⊢; omega
    · have hc : ¬ (i : Int) < (l.length : Int) := by omega
      rw [tz_end _ _ _ (by omega)] at hh
      simp -dsimp only [q0, q3, q4, hc, ol_len, go_sem, ↓reduceIte, Nat.reduceEqDiff, Int.reduceLE, Int.reduceLT, Int.reduceNeg, Int.reduceEq, Nat.reduceMul, Nat.reduceAdd, Nat.reduceLeDiff, reduceCtorEq]
      exact fin_ol (.l 7) 1 l.length none q _ _ rfl (by simp [upd_at, q3]) hh rfl
end FrA

/-! DkN -/
open Go Go.AM
namespace FrA
open Go.Proofs
set_option maxRecDepth 100000
set_option linter.unusedSimpArgs false
theorem h126 (a b : File) : HT 126 [.agg [.s a.1, .s a.2], .agg [.s b.1, .s b.2]] [] (.b (fileEq a b)) true [] := by
  refine holds_of (c := Try.f126.body.getD .skip) (k := k126.1) (ts := [4]) HOk mixedT hintT Try.func126 (by kernel_rfl) (by kernel_rfl) (by kernel_rfl) k126.2 (by kernel_rfl) (le_of 2 _ (by kernel_rfl)) ?_
  cases e1 : (a.1 == b.1)
  · have f1 : (!(a.1 == b.1)) = true := by rw [e1]; rfl
    simp -dsimp only [k126, f1, go_sem, ↓reduceIte, Nat.reduceEqDiff, Int.reduceLE, Int.reduceLT, Int.reduceNeg, Int.reduceEq, Nat.reduceMul, Nat.reduceAdd, Nat.reduceLeDiff, reduceCtorEq]
    exact Fin_val (by simp [resV, upd_at, retA, fileEq, e1]) (by simp [resV, upd_at, ResOk])
  · have f1 : (!(a.1 == b.1)) = false := by rw [e1]; rfl
    cases e2 : (a.2 == b.2)
    · have f2 : (!(a.2 == b.2)) = true := by rw [e2]; rfl
      simp -dsimp only [k126, f1, f2, go_sem, ↓reduceIte, Nat.reduceEqDiff, Int.reduceLE, Int.reduceLT, Int.reduceNeg, Int.reduceEq, Nat.reduceMul, Nat.reduceAdd, Nat.reduceLeDiff, reduceCtorEq]
      exact Fin_val (by simp [resV, upd_at, retA, fileEq, e1, e2]) (by simp [resV, upd_at, ResOk])
    · have f2 : (!(a.2 == b.2)) = false := by rw [e2]; rfl
      simp -dsimp only [k126, f1, f2, go_sem, ↓reduceIte, Nat.reduceEqDiff, Int.reduceLE, Int.reduceLT, Int.reduceNeg, Int.reduceEq, Nat.reduceMul, Nat.reduceAdd, Nat.reduceLeDiff, reduceCtorEq]
      exact Fin_val (by simp [resV, upd_at, retA, fileEq, e1, e2]) (by simp [resV, upd_at, ResOk])
theorem h127 (a : Dop) : HT 127 [.agg (opC a), .agg (opC a)] [] (.b true) true [] := by
  refine holds_of (c := Try.f127.body.getD .skip) (k := k127.1) (ts := [4]) HOk mixedT hintT Try.func127 (by kernel_rfl) (by kernel_rfl) (by kernel_rfl) k127.2 (by kernel_rfl) (le_of 2 _ (by kernel_rfl)) ?_
  obtain ⟨k, n, t, d⟩ := a
  unfold opC
  have f0 : (k != k) = false := by simp
  have f1 : ∀ x : List UInt8, (!(x == x)) = false := fun x => by simp
  simp -dsimp only [k127, f0, f1, go_sem, ↓reduceIte, Nat.reduceEqDiff, Int.reduceLE, Int.reduceLT, Int.reduceNeg, Int.reduceEq, Nat.reduceMul, Nat.reduceAdd, Nat.reduceLeDiff, reduceCtorEq]
  exact Fin_val (by simp [resV, upd_at, retA]) (by simp [resV, upd_at, ResOk])
theorem h93 (a : List File) (ha : a.length ≤ 1048576) : HT 93 [.dat 2 (fl a), .dat 2 (fl a)] [] (.b true) true [] := by
  refine holds_of (c := Try.f93.body.getD .skip) (k := k93.1) (ts := [4]) HOk mixedT hintT Try.func93 (by kernel_rfl) (by kernel_rfl) (by kernel_rfl) k93.2 (by kernel_rfl) (le_of 2 _ (by kernel_rfl)) ?_
  have hc : ((a.length : Int) != (a.length : Int)) = false := by simp
  simp -dsimp only [k93, hc, fl_len, go_sem, ↓reduceIte, Nat.reduceEqDiff, Int.reduceLE, Int.reduceLT, Int.reduceNeg, Int.reduceEq, Nat.reduceMul, Nat.reduceAdd, Nat.reduceLeDiff, reduceCtorEq]
  refine K_loop (fun g h _ => ∃ i : Nat, i ≤ a.length ∧ g 0 = .dat 2 (fl a) ∧ g 1 = .dat 2 (fl a) ∧ g 5 = i64 i) (fun g _ _ => match g 5 with | .i _ n => a.length - n.toNat | _ => 0) ?_ ?_
  · exact ⟨0, by omega, by simp [upd_at, S_0], by simp [upd_at, S_1], by simp [upd_at]⟩
  · rintro A n hA g h c ⟨i, hi, q0, q1, q5⟩ hn
    by_cases hlt : i < a.length
    · have hc : (i : Int) < (a.length : Int) := by omega
      have ga := fl_get hlt
      have w1 : IntKind.i64.wrap ((i : Int) + 1) = ((i + 1 : Nat) : Int) := by rw [wr (by omega) (by omega)]; rfl
      simp -dsimp only [q0, q1, q5, hc, ga, fl_len, go_sem, ↓reduceIte, Nat.reduceEqDiff, Int.reduceLE, Int.reduceLT, Int.reduceNeg, Int.reduceEq, Nat.reduceMul, Nat.reduceAdd, Nat.reduceLeDiff, reduceCtorEq]
      refine Call0_val true (h126 (a.getD i ([], [])) (a.getD i ([], []))) (by simp [AV.free, AV.pure]) (.inl rfl) ?_
      simp -dsimp only [fileEq_t.2 rfl, q5, w1, go_sem, ↓reduceIte, Nat.reduceEqDiff, Int.reduceLE, Int.reduceLT, Int.reduceNeg, Int.reduceEq, Nat.reduceMul, Nat.reduceAdd, Nat.reduceLeDiff, reduceCtorEq]
      refine hA _ _ _ ?_ ?_
      · exact ⟨i + 1, by omega, by simp [upd_at, q0], by simp [upd_at, q1], by simp [upd_at]⟩
      · rw [q5] at hn; simp [upd_at] at hn ⊢; omega
    · have hc : ¬ (i : Int) < (a.length : Int) := by omega
      simp -dsimp only [q0, q1, q5, hc, fl_len, go_sem, ↓reduceIte, Nat.reduceEqDiff, Int.reduceLE, Int.reduceLT, Int.reduceNeg, Int.reduceEq, Nat.reduceMul, Nat.reduceAdd, Nat.reduceLeDiff, reduceCtorEq]
      exact Fin_val (by simp [resV, upd_at, retA]) (by simp [resV, upd_at, ResOk])
theorem h94 (a : List Dop) (ha : a.length ≤ 1048576) : HT 94 [.dat 4 (ol a), .dat 4 (ol a)] [] (.b true) true [] := by
  refine holds_of (c := Try.f94.body.getD .skip) (k := k94.1) (ts := [4]) HOk mixedT hintT Try.func94 (by kernel_rfl) (by kernel_rfl) (by kernel_rfl) k94.2 (by kernel_rfl) (le_of 2 _ (by kernel_rfl)) ?_
  have hc : ((a.length : Int) != (a.length : Int)) = false := by simp
  simp -dsimp only [k94, hc, ol_len, go_sem, ↓reduceIte, Nat.reduceEqDiff, Int.reduceLE, Int.reduceLT, Int.reduceNeg, Int.reduceEq, Nat.reduceMul, Nat.reduceAdd, Nat.reduceLeDiff, reduceCtorEq]
  refine K_loop (fun g h _ => ∃ i : Nat, i ≤ a.length ∧ g 0 = .dat 4 (ol a) ∧ g 1 = .dat 4 (ol a) ∧ g 5 = i64 i) (fun g _ _ => match g 5 with | .i _ n => a.length - n.toNat | _ => 0) ?_ ?_
  · exact ⟨0, by omega, by simp [upd_at, S_0], by simp [upd_at, S_1], by simp [upd_at]⟩
  · rintro A n hA g h c ⟨i, hi, q0, q1, q5⟩ hn
    by_cases hlt : i < a.length
    · have hc : (i : Int) < (a.length : Int) := by omega
      obtain ⟨op, hop⟩ : ∃ op, op = a.getD i dop0 := ⟨_, rfl⟩
      have hgo := ol_get hlt
      rw [← hop] at hgo
      have ec : opC op = [.i .i64 op.1, .s op.2.1, .s op.2.2.1, .s op.2.2.2] := rfl
      have h127' := h127 op
      rw [ec] at h127'
      have w1 : IntKind.i64.wrap ((i : Int) + 1) = ((i + 1 : Nat) : Int) := by rw [wr (by omega) (by omega)]; rfl
      simp -dsimp only [q0, q1, q5, hc, hgo, ec, ol_len, go_sem, ↓reduceIte, Nat.reduceEqDiff, Int.reduceLE, Int.reduceLT, Int.reduceNeg, Int.reduceEq, Nat.reduceMul, Nat.reduceAdd, Nat.reduceLeDiff, reduceCtorEq]
      refine Call0_val true (h127') (by simp [AV.free, AV.pure]) (.inl rfl) ?_
      simp -dsimp only [q5, w1, go_sem, ↓reduceIte, Nat.reduceEqDiff, Int.reduceLE, Int.reduceLT, Int.reduceNeg, Int.reduceEq, Nat.reduceMul, Nat.reduceAdd, Nat.reduceLeDiff, reduceCtorEq]
      refine hA _ _ _ ?_ ?_
      · exact ⟨i + 1, by omega, by simp [upd_at, q0], by simp [upd_at, q1], by simp [upd_at]⟩
      · rw [q5] at hn; simp [upd_at] at hn ⊢; omega
    · have hc : ¬ (i : Int) < (a.length : Int) := by omega
      simp -dsimp only [q0, q1, q5, hc, ol_len, go_sem, ↓reduceIte, Nat.reduceEqDiff, Int.reduceLE, Int.reduceLT, Int.reduceNeg, Int.reduceEq, Nat.reduceMul, Nat.reduceAdd, Nat.reduceLeDiff, reduceCtorEq]
      exact Fin_val (by simp [resV, upd_at, retA]) (by simp [resV, upd_at, ResOk])
theorem h42 (live safe : List File) (ops : List Dop) (h1 : live.length ≤ 1048576) (h2 : safe.length ≤ 1048576) (h3 : ops.length ≤ 1048576) : HT 42 [disk live safe ops, disk live safe ops] [] (.b true) true [] := by
  refine holds_of (c := Try.f42.body.getD .skip) (k := k42.1) (ts := [4]) HOk mixedT hintT Try.func42 (by kernel_rfl) (by kernel_rfl) (by kernel_rfl) k42.2 (by kernel_rfl) (le_of 2 _ (by kernel_rfl)) ?_
  unfold disk
  simp -dsimp only [k42, go_sem, ↓reduceIte, Nat.reduceEqDiff, Int.reduceLE, Int.reduceLT, Int.reduceNeg, Int.reduceEq, Nat.reduceMul, Nat.reduceAdd, Nat.reduceLeDiff, reduceCtorEq]
  refine Call_val (own := true) (h93 live h1) (by simp [ExpOk, AV.pure]) (.inl rfl) ?_
  simp -dsimp only [go_sem, ↓reduceIte, Nat.reduceEqDiff, Int.reduceLE, Int.reduceLT, Int.reduceNeg, Int.reduceEq, Nat.reduceMul, Nat.reduceAdd, Nat.reduceLeDiff, reduceCtorEq]
  refine Call_val (own := true) (h93 safe h2) (by simp [ExpOk, AV.pure]) (.inl rfl) ?_
  simp -dsimp only [go_sem, ↓reduceIte, Nat.reduceEqDiff, Int.reduceLE, Int.reduceLT, Int.reduceNeg, Int.reduceEq, Nat.reduceMul, Nat.reduceAdd, Nat.reduceLeDiff, reduceCtorEq]
  refine Call_val (own := true) (h94 ops h3) (by simp [ExpOk, AV.pure]) (.inl rfl) ?_
  simp -dsimp only [go_sem, ↓reduceIte, Nat.reduceEqDiff, Int.reduceLE, Int.reduceLT, Int.reduceNeg, Int.reduceEq, Nat.reduceMul, Nat.reduceAdd, Nat.reduceLeDiff, reduceCtorEq]
  exact Fin_val (by simp [resV, upd_at, retA]) (by simp [resV, upd_at, ResOk])
theorem h41 (live safe : List File) (ops : List Dop) (h1 : live.length ≤ 1048576) (h2 : safe.length ≤ 1048576) (h3 : ops.length ≤ 1048576) : HT 41 [disk live safe ops] [] (disk live safe ops) false [] := by
  refine holdsc_of (c := Try.f41.body.getD .skip) (k := k41.1) (cs := [(2, some (true, 3))]) HOk mixedT hintT Try.func41 (by kernel_rfl) (by kernel_rfl) (by kernel_rfl) k41.2 (by kernel_rfl) (le_of 1 _ (by kernel_rfl)) ?_
  unfold disk
  simp -dsimp only [k41, go_sem, ↓reduceIte, Nat.reduceEqDiff, Int.reduceLE, Int.reduceLT, Int.reduceNeg, Int.reduceEq, Nat.reduceMul, Nat.reduceAdd, Nat.reduceLeDiff, reduceCtorEq]
  refine Call_val (own := true) (h91 live h1) (by simp [ExpOk, AV.pure]) (.inl rfl) ?_
  simp -dsimp only [go_sem, ↓reduceIte, Nat.reduceEqDiff, Int.reduceLE, Int.reduceLT, Int.reduceNeg, Int.reduceEq, Nat.reduceMul, Nat.reduceAdd, Nat.reduceLeDiff, reduceCtorEq]
  refine Call_val (own := true) (h91 safe h2) (by simp [ExpOk, AV.pure]) (.inl rfl) ?_
  simp -dsimp only [go_sem, ↓reduceIte, Nat.reduceEqDiff, Int.reduceLE, Int.reduceLT, Int.reduceNeg, Int.reduceEq, Nat.reduceMul, Nat.reduceAdd, Nat.reduceLeDiff, reduceCtorEq]
  refine Call_val (own := true) (h92 ops h3) (by simp [ExpOk, AV.pure]) (.inl rfl) ?_
  simp -dsimp only [go_sem, ↓reduceIte, Nat.reduceEqDiff, Int.reduceLE, Int.reduceLT, Int.reduceNeg, Int.reduceEq, Nat.reduceMul, Nat.reduceAdd, Nat.reduceLeDiff, reduceCtorEq]
  refine finC_val (p := True) (l := [.agg [.dat 2 (fl live), .dat 2 (fl safe), .dat 4 (ol ops)]]) (by simp [resM, resE, upd_at, loadF, cur, hup_at]) trivial ?_ ?_
  · simp [resOne, retA, retL]
  · simp [resOne, ResOk, ResL]
def szd (live safe : List File) (ops : List Dop) : Nat := (live.length + szl live) + (safe.length + szl safe) + (ops.length + szol ops)
theorem h40 (live safe : List File) (ops : List Dop) (left : Nat) (hl : left ≤ 1048576) (n1 : Lg live.length) (n2 : Lg safe.length) (n3 : Lg ops.length) (b1 : ∀ f ∈ live, Lg f.1.length ∧ Lg f.2.length) (b2 : ∀ f ∈ safe, Lg f.1.length ∧ Lg f.2.length) (b3 : ∀ f ∈ ops, Lg f.2.1.length ∧ Lg f.2.2.1.length ∧ Lg f.2.2.2.length) :
    HT 40 [disk live safe ops, i64 left] [] (i64 (lefts left (szd live safe ops))) true [] := by
  refine holds_of (c := Try.f40.body.getD .skip) (k := k40.1) (ts := [4]) HOk mixedT hintT Try.func40 (by kernel_rfl) (by kernel_rfl) (by kernel_rfl) k40.2 (by kernel_rfl) (le_of 2 _ (by kernel_rfl)) ?_
  unfold disk
  simp -dsimp only [k40, go_sem, ↓reduceIte, Nat.reduceEqDiff, Int.reduceLE, Int.reduceLT, Int.reduceNeg, Int.reduceEq, Nat.reduceMul, Nat.reduceAdd, Nat.reduceLeDiff, reduceCtorEq]
  refine Call_val (own := true) (h89 live left hl n1 b1) (by simp [ExpOk, AV.pure]) (.inl rfl) ?_
  by_cases e1 : live.length + szl live ≤ left
  · rw [lefts_yes e1]
    have c1 : ¬ ((left - (live.length + szl live) : Nat) : Int) < 0 := by omega
    simp -dsimp only [c1, go_sem, ↓reduceIte, Nat.reduceEqDiff, Int.reduceLE, Int.reduceLT, Int.reduceNeg, Int.reduceEq, Nat.reduceMul, Nat.reduceAdd, Nat.reduceLeDiff, reduceCtorEq]
    refine Call_val (own := true) (h89 safe (left - (live.length + szl live)) (by omega) n2 b2) (by simp [ExpOk, AV.pure]) (.inl rfl) ?_
    by_cases e2 : safe.length + szl safe ≤ left - (live.length + szl live)
    · rw [lefts_yes e2]
      have c2 : ¬ ((left - (live.length + szl live) - (safe.length + szl safe) : Nat) : Int) < 0 := by omega
      simp -dsimp only [c2, go_sem, ↓reduceIte, Nat.reduceEqDiff, Int.reduceLE, Int.reduceLT, Int.reduceNeg, Int.reduceEq, Nat.reduceMul, Nat.reduceAdd, Nat.reduceLeDiff, reduceCtorEq]
      refine Call_val (own := true) (h90 ops (left - (live.length + szl live) - (safe.length + szl safe)) (by omega) n3 b3) (by simp [ExpOk, AV.pure]) (.inl rfl) ?_
      by_cases e3 : ops.length + szol ops ≤ left - (live.length + szl live) - (safe.length + szl safe)
      · rw [lefts_yes e3]
        have c3 : ¬ ((left - (live.length + szl live) - (safe.length + szl safe) - (ops.length + szol ops) : Nat) : Int) < 0 := by omega
        simp -dsimp only [c3, go_sem, ↓reduceIte, Nat.reduceEqDiff, Int.reduceLE, Int.reduceLT, Int.reduceNeg, Int.reduceEq, Nat.reduceMul, Nat.reduceAdd, Nat.reduceLeDiff, reduceCtorEq]
        refine Fin_val ?_ (by simp [resV, upd_at, ResOk])
        simp only [resV, upd_at, ↓reduceIte, retA]
        rw [lefts_yes (show szd live safe ops ≤ left by unfold szd; omega)]
        exact congrArg i64 (congrArg Int.ofNat (by unfold szd; omega))
      · rw [lefts_no e3]
        simp -dsimp only [neg1, go_sem, ↓reduceIte, Nat.reduceEqDiff, Int.reduceLE, Int.reduceLT, Int.reduceNeg, Int.reduceEq, Nat.reduceMul, Nat.reduceAdd, Nat.reduceLeDiff, reduceCtorEq]
        exact Fin_val (by simp [resV, upd_at, retA, lefts_no (show ¬ szd live safe ops ≤ left by unfold szd; omega)]) (by simp [resV, upd_at, ResOk])
    · rw [lefts_no e2]
      simp -dsimp only [neg1, go_sem, ↓reduceIte, Nat.reduceEqDiff, Int.reduceLE, Int.reduceLT, Int.reduceNeg, Int.reduceEq, Nat.reduceMul, Nat.reduceAdd, Nat.reduceLeDiff, reduceCtorEq]
      exact Fin_val (by simp [resV, upd_at, retA, lefts_no (show ¬ szd live safe ops ≤ left by unfold szd; omega)]) (by simp [resV, upd_at, ResOk])
  · rw [lefts_no e1]
    simp -dsimp only [neg1, go_sem, ↓reduceIte, Nat.reduceEqDiff, Int.reduceLE, Int.reduceLT, Int.reduceNeg, Int.reduceEq, Nat.reduceMul, Nat.reduceAdd, Nat.reduceLeDiff, reduceCtorEq]
    exact Fin_val (by simp [resV, upd_at, retA, lefts_no (show ¬ szd live safe ops ≤ left by unfold szd; omega)]) (by simp [resV, upd_at, ResOk])
theorem szl_mem (l : List File) : ∀ f ∈ l, szf f ≤ szl l := by
  induction l with
  | nil => intro f hf; cases hf
  | cons g l ih =>
    intro f hf
    rcases List.mem_cons.1 hf with rfl | hf
    · simp [szl]
    · have := ih f hf; simp [szl]; omega
theorem szol_mem (l : List Dop) : ∀ f ∈ l, szo f ≤ szol l := by
  induction l with
  | nil => intro f hf; cases hf
  | cons g l ih =>
    intro f hf
    rcases List.mem_cons.1 hf with rfl | hf
    · simp [szol]
    · have := ih f hf; simp [szol]; omega
structure LgD (live safe : List File) (ops : List Dop) : Prop where
  n1 : Lg live.length
  n2 : Lg safe.length
  n3 : Lg ops.length
  b1 : ∀ f ∈ live, Lg f.1.length ∧ Lg f.2.length
  b2 : ∀ f ∈ safe, Lg f.1.length ∧ Lg f.2.length
  b3 : ∀ f ∈ ops, Lg f.2.1.length ∧ Lg f.2.2.1.length ∧ Lg f.2.2.2.length
theorem bds {live safe : List File} {ops : List Dop} (h : szd live safe ops ≤ 1048576) : BdF live ∧ BdF safe ∧ BdO ops := by
  unfold szd at h
  refine ⟨⟨by omega, fun f hf => ?_⟩, ⟨by omega, fun f hf => ?_⟩, ⟨by omega, fun f hf => ?_⟩⟩
  · have := szl_mem live f hf; unfold szf at this; omega
  · have := szl_mem safe f hf; unfold szf at this; omega
  · have := szol_mem ops f hf; unfold szo at this; omega
theorem h8 (live safe : List File) (ops : List Dop) (hL : LgD live safe ops) : HT 8 [disk live safe ops] [] (.b true) true [] := by
  refine holds_of (c := Try.f8.body.getD .skip) (k := k8.1) (ts := [2]) HOk mixedT hintT Try.func8 (by kernel_rfl) (by kernel_rfl) (by kernel_rfl) k8.2 (by kernel_rfl) (le_of 1 _ (by kernel_rfl)) ?_
  have d40 := h40 live safe ops 1048576 (by omega) hL.n1 hL.n2 hL.n3 hL.b1 hL.b2 hL.b3
  by_cases hs : szd live safe ops ≤ 1048576
  · obtain ⟨B1, B2, B3⟩ := bds hs
    have d41 := h41 live safe ops B1.1 B2.1 B3.1
    have d42 := h42 live safe ops B1.1 B2.1 B3.1
    have d36 := h36 live safe ops B1 B2 B3
    have d35 := h35 live safe ops B1 B2 B3
    unfold disk at d40 d41 d42 d36 d35 ⊢
    rw [lefts_yes hs] at d40
    have c1 : ¬ ((1048576 - szd live safe ops : Nat) : Int) < 0 := by omega
    simp -dsimp only [k8, go_sem, ↓reduceIte, Nat.reduceEqDiff, Int.reduceLE, Int.reduceLT, Int.reduceNeg, Int.reduceEq, Nat.reduceMul, Nat.reduceAdd, Nat.reduceLeDiff, reduceCtorEq]
    refine Call_val (own := true) (d40) (by simp [ExpOk, AV.pure]) (.inl rfl) ?_
    simp -dsimp only [c1, go_sem, ↓reduceIte, Nat.reduceEqDiff, Int.reduceLE, Int.reduceLT, Int.reduceNeg, Int.reduceEq, Nat.reduceMul, Nat.reduceAdd, Nat.reduceLeDiff, reduceCtorEq]
    refine Call_val (own := false) (d41) (by simp [ExpOk, AV.pure]) (.inr (by simp [AV.rooted, AV.ref1])) ?_
    simp -dsimp only [go_sem, ↓reduceIte, Nat.reduceEqDiff, Int.reduceLE, Int.reduceLT, Int.reduceNeg, Int.reduceEq, Nat.reduceMul, Nat.reduceAdd, Nat.reduceLeDiff, reduceCtorEq]
    refine Call_val (own := true) (d36) (by simp [ExpOk, AV.pure]) (.inl rfl) ?_
    simp -dsimp only [go_sem, ↓reduceIte, Nat.reduceEqDiff, Int.reduceLE, Int.reduceLT, Int.reduceNeg, Int.reduceEq, Nat.reduceMul, Nat.reduceAdd, Nat.reduceLeDiff, reduceCtorEq]
    refine Call_val (own := false) (d41) (by simp [ExpOk, AV.pure]) (.inr (by simp [AV.rooted, AV.ref1])) ?_
    simp -dsimp only [go_sem, ↓reduceIte, Nat.reduceEqDiff, Int.reduceLE, Int.reduceLT, Int.reduceNeg, Int.reduceEq, Nat.reduceMul, Nat.reduceAdd, Nat.reduceLeDiff, reduceCtorEq]
    refine Call_val (own := true) (d35) (by simp [ExpOk, AV.pure]) (.inl rfl) ?_
    have c2 : ((diskB live safe ops == diskB live safe ops) != true) = false := by simp
    simp -dsimp only [c2, go_sem, ↓reduceIte, Nat.reduceEqDiff, Int.reduceLE, Int.reduceLT, Int.reduceNeg, Int.reduceEq, Nat.reduceMul, Nat.reduceAdd, Nat.reduceLeDiff, reduceCtorEq]
    refine Call0_val false d41 (by simp [AV.free, AV.pure]) (.inr (by simp [AV.rooted, AV.ref1])) ?_
    simp -dsimp only [go_sem, ↓reduceIte, Nat.reduceEqDiff, Int.reduceLE, Int.reduceLT, Int.reduceNeg, Int.reduceEq, Nat.reduceMul, Nat.reduceAdd, Nat.reduceLeDiff, reduceCtorEq]
    refine Callv_val true d42 (by simp [ExpOk, AV.pure]) (.inl rfl) ?_
    simp -dsimp only [go_sem, ↓reduceIte, Nat.reduceEqDiff, Int.reduceLE, Int.reduceLT, Int.reduceNeg, Int.reduceEq, Nat.reduceMul, Nat.reduceAdd, Nat.reduceLeDiff, reduceCtorEq]
    exact Fin_val (by simp [resV, upd_at, retA]) (by simp [resV, upd_at, ResOk])
  · unfold disk at d40 ⊢
    rw [lefts_no hs] at d40
    simp -dsimp only [k8, go_sem, ↓reduceIte, Nat.reduceEqDiff, Int.reduceLE, Int.reduceLT, Int.reduceNeg, Int.reduceEq, Nat.reduceMul, Nat.reduceAdd, Nat.reduceLeDiff, reduceCtorEq]
    refine Call_val (own := true) (d40) (by simp [ExpOk, AV.pure]) (.inl rfl) ?_
    simp -dsimp only [neg1, go_sem, ↓reduceIte, Nat.reduceEqDiff, Int.reduceLE, Int.reduceLT, Int.reduceNeg, Int.reduceEq, Nat.reduceMul, Nat.reduceAdd, Nat.reduceLeDiff, reduceCtorEq]
    exact Fin_val (by simp [resV, upd_at, retA]) (by simp [resV, upd_at, ResOk])
end FrA

