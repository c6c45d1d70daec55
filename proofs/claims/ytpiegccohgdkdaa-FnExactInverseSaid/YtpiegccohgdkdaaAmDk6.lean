/- The programs of some functions. No condition. -/
import Derived.Test.YtpiegccohgdkdaaProg
import Derived.Test.YtpiegccohgdkdaaAmFuns
import Derived.Test.YtpiegccohgdkdaaAmDk4
import Derived.Test.YtpiegccohgdkdaaAmDk5
set_option linter.all false
set_option linter.unusedSimpArgs false
set_option linter.unusedVariables false
set_option linter.deprecated false
/-! KsH -/
open Go Go.AM
namespace FrA
open Go.AM.L
set_option maxRecDepth 100000
def k12 : KF Go.Proofs.Try.f12 := ⟨
 .seq (R [o 1 (.box (.t 0)), o 2 (.mv (.c (.b false)))]) (.seq (R [o 3 (.mv (n 1048576))]) (.seq (R [o 11 (.load true 3 (.t 1)), m 12 3, o 13 (.call (.f 40) [.t 11, .t 12]), m 3
    13]) (.seq (.seq (R [m 14 3, o 15 (.bin .lss (.t 14) (n 0))]) (.cond (.t 15) (.seq (R [o 2 (.mv (.c (.b true)))]) .ret) .skip)) (.seq (R [o 16 (.load true 3 (.t 1)), o 17 (.call
    (.f 41) [.t 16]), o 18 (.call (.f 51) [.t 17]), o 4 (.alloc [.nils, .nils, .nils]), x (.store 3 (.t 4) (.t 18))]) (.seq (R [o 19 (.load true 3 (.t 1)), o 20 (.call (.f 41) [.t
    19]), o 5 (.alloc [.nils, .nils, .nils]), x (.store 3 (.t 5) (.t 20))]) (.seq (R [o 21 (.load true 3 (.t 5)), o 22 (.call (.f 38) [.t 21]), o 6 (.alloc [.nils, .nils, .nils]), x
    (.store 3 (.t 6) (.t 22))]) (.seq (.seq (R [o 23 (.load true 3 (.t 6)), o 24 (.load true 3 (.t 4)), o 25 (.call (.f 42) [.t 23, .t 24]), o 26 (.un .not (.t 25))]) (.cond (.t 26)
    (.seq (R [o 2 (.mv (.c (.b false)))]) .ret) .skip)) (.seq (.seq (D [o 27 (.load true 3 (.t 5)), o 28 (.load true 3 (.t 1)), o 29 (.call0 (.f 41) [.t 28]), o 30 (.callv (.f 42)
    [.t 27, .t 29]), o 31 (.un .not (.t 30))] [[], [], [1], [0, 2, 2], [3]]) (.cond (.t 31) (.seq (R [o 2 (.mv (.c (.b false)))]) .ret) .skip)) (.seq (R [o 7 (.mv (n 1))]) (.seq (R
    [o 32 (.load true 3 (.t 5)), m 33 7, o 34 (.call (.f 52) [.t 32, .t 33]), m 7 34]) (.seq (.seq (R [m 35 7, o 36 (.bin .lss (.t 35) (n 0)), m 37 36, q 38 37 false (.load true 3
    (.t 6)), q 39 37 false (.load true 3 (.t 4)), q 40 37 false (.call (.f 42) [.t 38, .t 39]), q 41 37 false (.un .not (.t 40)), o 42 (.pick (.t 37) (.c (.b true)) (.t 41))])
    (.cond (.t 42) (.seq (R [o 2 (.mv (.c (.b false)))]) .ret) .skip)) (.seq (R [o 8 (.mv (n 1))]) (.seq (R [o 43 (.load true 3 (.t 6)), m 44 8, o 45 (.call (.f 52) [.t 43, .t 44]),
    m 8 45]) (.seq (R [o 9 (.mv (n 1))]) (.seq (R [o 46 (.load true 3 (.t 6)), m 47 9, o 48 (.call (.f 53) [.t 46, .t 47]), m 9 48]) (.seq (.seq (R [m 49 9, o 50 (.bin .lss (.t 49)
    (n 0))]) (.cond (.t 50) (.seq (R [o 2 (.mv (.c (.b false)))]) .ret) .skip)) (.seq (.seq (R [m 51 9, m 52 8, o 53 (.bin .neq (.t 51) (.t 52))]) (.cond (.t 53) (.seq (R [o 2 (.mv
    (.c (.b false)))]) .ret) .skip)) (.seq (R [o 54 (.load true 3 (.t 1)), o 55 (.call (.f 41) [.t 54]), o 56 (.call (.f 38) [.t 55]), o 10 (.alloc [.nils, .nils, .nils]), x (.store
    3 (.t 10) (.t 56))]) (.seq (.seq (R [o 57 (.load true 3 (.t 10)), o 58 (.load true 3 (.t 4)), o 59 (.call (.f 42) [.t 57, .t 58]), o 60 (.un .not (.t 59))]) (.cond (.t 60) (.seq
    (R [o 2 (.mv (.c (.b false)))]) .ret) .skip)) (.seq (R [o 9 (.mv (n 1))]) (.seq (R [o 61 (.load true 3 (.t 6)), m 62 9, o 63 (.call (.f 53) [.t 61, .t 62]), m 9 63]) (.seq (.seq
    (R [m 64 9, o 65 (.bin .lss (.t 64) (n 0))]) (.cond (.t 65) (.seq (R [o 2 (.mv (.c (.b false)))]) .ret) .skip)) (.seq (.seq (R [m 66 9, m 67 8, o 68 (.bin .neq (.t 66) (.t
    67))]) (.cond (.t 68) (.seq (R [o 2 (.mv (.c (.b false)))]) .ret) .skip)) (.seq (R [o 2 (.mv (.c (.b true)))]) .ret)))))))))))))))))))))))),
  by kernel_rfl⟩
def k52 : KF Go.Proofs.Try.f52 := ⟨
 .seq (R [o 2 (.box (.t 0)), o 4 (.mv (n 0))]) (.seq (R [o 5 (.fld 0 (.t 2)), o 6 (.load false 1 (.t 5)), m 7 1, o 8 (.call (.f 105) [.t 6, .t 7]), m 1 8]) (.seq (R [o 9 (.fld 1 (.t
    2)), o 10 (.load false 1 (.t 9)), m 11 1, o 12 (.call (.f 105) [.t 10, .t 11]), m 1 12]) (.seq (R [o 13 (.fld 2 (.t 2)), o 14 (.load false 1 (.t 13)), m 15 1, o 16 (.call (.f
    106) [.t 14, .t 15]), m 1 16]) (.seq (R [m 17 1, m 4 17]) .ret)))),
  by kernel_rfl⟩
def k53 : KF Go.Proofs.Try.f53 := ⟨
 .seq (R [o 2 (.box (.t 0)), o 4 (.mv (n 0))]) (.seq (R [o 5 (.fld 0 (.t 2)), o 6 (.load false 1 (.t 5)), m 7 1, o 8 (.call (.f 107) [.t 6, .t 7]), m 1 8]) (.seq (.seq (R [m 9 1, o
    10 (.bin .lss (.t 9) (n 0))]) (.cond (.t 10) (.seq (R [o 4 (.mv (n (-1)))]) .ret) .skip)) (.seq (R [o 11 (.fld 1 (.t 2)), o 12 (.load false 1 (.t 11)), m 13 1, o 14 (.call (.f
    107) [.t 12, .t 13]), m 1 14]) (.seq (.seq (R [m 15 1, o 16 (.bin .lss (.t 15) (n 0))]) (.cond (.t 16) (.seq (R [o 4 (.mv (n (-1)))]) .ret) .skip)) (.seq (R [o 17 (.fld 2 (.t
    2)), o 18 (.load false 1 (.t 17)), m 19 1, o 20 (.call (.f 108) [.t 18, .t 19]), m 1 20]) (.seq (.seq (R [m 21 1, o 22 (.bin .lss (.t 21) (n 0))]) (.cond (.t 22) (.seq (R [o 4
    (.mv (n (-1)))]) .ret) .skip)) (.seq (R [m 23 1, m 4 23]) .ret))))))),
  by kernel_rfl⟩
def k105 : KF Go.Proofs.Try.f105 := ⟨
 .seq (R [o 4 (.mv (n 0))]) (.seq (.seq (R [o 5 (.mv (n 0))]) (.block 0 (.loop (.seq (.seq (R [m 6 5, m 7 0, o 8 (.len false (.t 7)), o 9 (.bin .lss (.t 6) (.t 8))]) (.cond (.t 9)
    .skip (.exit 0))) (.seq (.block 1 (.seq (R [m 12 0, m 13 5, m 14 1, o 15 (.call (.f 63) [.t 14]), o 16 (.idx 2 (.t 12) (.t 13)), o 17 (.fld 0 (.t 16)), x (.store 1 (.t 17) (.t
    15))]) (.seq (R [m 18 1, o 19 (.bin .add (.t 18) (n 1)), m 1 19]) (.seq (R [m 20 0, m 21 5, m 22 1, o 23 (.call (.f 63) [.t 22]), o 24 (.idx 2 (.t 20) (.t 21)), o 25 (.fld 1 (.t
    24)), x (.store 1 (.t 25) (.t 23))]) (R [m 26 1, o 27 (.bin .add (.t 26) (n 1)), m 1 27]))))) (R [m 10 5, o 11 (.bin .add (.t 10) (n 1)), m 5 11])))))) (.seq (R [m 28 1, m 4
    28]) .ret)),
  by kernel_rfl⟩
def k106 : KF Go.Proofs.Try.f106 := ⟨
 .seq (R [o 4 (.mv (n 0))]) (.seq (.seq (R [o 5 (.mv (n 0))]) (.block 0 (.loop (.seq (.seq (R [m 6 5, m 7 0, o 8 (.len false (.t 7)), o 9 (.bin .lss (.t 6) (.t 8))]) (.cond (.t 9)
    .skip (.exit 0))) (.seq (.block 1 (.seq (R [m 12 0, m 13 5, m 14 1, o 15 (.idx 4 (.t 12) (.t 13)), o 16 (.fld 0 (.t 15)), x (.store 1 (.t 16) (.t 14))]) (.seq (R [m 17 1, o 18
    (.bin .add (.t 17) (n 1)), m 1 18]) (.seq (R [m 19 0, m 20 5, m 21 1, o 22 (.call (.f 63) [.t 21]), o 23 (.idx 4 (.t 19) (.t 20)), o 24 (.fld 1 (.t 23)), x (.store 1 (.t 24) (.t
    22))]) (.seq (R [m 25 1, o 26 (.bin .add (.t 25) (n 1)), m 1 26]) (.seq (R [m 27 0, m 28 5, m 29 1, o 30 (.call (.f 63) [.t 29]), o 31 (.idx 4 (.t 27) (.t 28)), o 32 (.fld 2 (.t
    31)), x (.store 1 (.t 32) (.t 30))]) (.seq (R [m 33 1, o 34 (.bin .add (.t 33) (n 1)), m 1 34]) (.seq (R [m 35 0, m 36 5, m 37 1, o 38 (.call (.f 63) [.t 37]), o 39 (.idx 4 (.t
    35) (.t 36)), o 40 (.fld 3 (.t 39)), x (.store 1 (.t 40) (.t 38))]) (R [m 41 1, o 42 (.bin .add (.t 41) (n 1)), m 1 42]))))))))) (R [m 10 5, o 11 (.bin .add (.t 10) (n 1)), m 5
    11])))))) (.seq (R [m 43 1, m 4 43]) .ret)),
  by kernel_rfl⟩
def k107 : KF Go.Proofs.Try.f107 := ⟨
 .seq (R [o 4 (.mv (n 0))]) (.seq (.seq (R [o 5 (.mv (n 0))]) (.block 0 (.loop (.seq (.seq (R [m 6 5, m 7 0, o 8 (.len false (.t 7)), o 9 (.bin .lss (.t 6) (.t 8))]) (.cond (.t 9)
    .skip (.exit 0))) (.seq (.block 1 (.seq (.seq (D [m 12 0, m 13 5, o 14 (.idx 2 (.t 12) (.t 13)), o 15 (.fld 0 (.t 14)), o 16 (.load false 1 (.t 15)), m 17 1, o 18 (.call0 (.f
    63) [.t 17]), o 19 (.bin .neq (.t 16) (.t 18))] [[], [], [0, 1], [2], [3], [], [5], [4, 6]]) (.cond (.t 19) (.seq (R [o 4 (.mv (n (-1)))]) .ret) .skip)) (.seq (R [m 20 1, o 21
    (.bin .add (.t 20) (n 1)), m 1 21]) (.seq (.seq (D [m 22 0, m 23 5, o 24 (.idx 2 (.t 22) (.t 23)), o 25 (.fld 1 (.t 24)), o 26 (.load false 1 (.t 25)), m 27 1, o 28 (.call0 (.f
    63) [.t 27]), o 29 (.bin .neq (.t 26) (.t 28))] [[], [], [0, 1], [2], [3], [], [5], [4, 6]]) (.cond (.t 29) (.seq (R [o 4 (.mv (n (-1)))]) .ret) .skip)) (R [m 30 1, o 31 (.bin
    .add (.t 30) (n 1)), m 1 31]))))) (R [m 10 5, o 11 (.bin .add (.t 10) (n 1)), m 5 11])))))) (.seq (R [m 32 1, m 4 32]) .ret)),
  by kernel_rfl⟩
def k108 : KF Go.Proofs.Try.f108 := ⟨
 .seq (R [o 4 (.mv (n 0))]) (.seq (.seq (R [o 5 (.mv (n 0))]) (.block 0 (.loop (.seq (.seq (R [m 6 5, m 7 0, o 8 (.len false (.t 7)), o 9 (.bin .lss (.t 6) (.t 8))]) (.cond (.t 9)
    .skip (.exit 0))) (.seq (.block 1 (.seq (.seq (R [m 12 0, m 13 5, o 14 (.idx 4 (.t 12) (.t 13)), o 15 (.fld 0 (.t 14)), o 16 (.load false 1 (.t 15)), m 17 1, o 18 (.bin .neq (.t
    16) (.t 17))]) (.cond (.t 18) (.seq (R [o 4 (.mv (n (-1)))]) .ret) .skip)) (.seq (R [m 19 1, o 20 (.bin .add (.t 19) (n 1)), m 1 20]) (.seq (.seq (D [m 21 0, m 22 5, o 23 (.idx
    4 (.t 21) (.t 22)), o 24 (.fld 1 (.t 23)), o 25 (.load false 1 (.t 24)), m 26 1, o 27 (.call0 (.f 63) [.t 26]), o 28 (.bin .neq (.t 25) (.t 27))] [[], [], [0, 1], [2], [3], [],
    [5], [4, 6]]) (.cond (.t 28) (.seq (R [o 4 (.mv (n (-1)))]) .ret) .skip)) (.seq (R [m 29 1, o 30 (.bin .add (.t 29) (n 1)), m 1 30]) (.seq (.seq (D [m 31 0, m 32 5, o 33 (.idx 4
    (.t 31) (.t 32)), o 34 (.fld 2 (.t 33)), o 35 (.load false 1 (.t 34)), m 36 1, o 37 (.call0 (.f 63) [.t 36]), o 38 (.bin .neq (.t 35) (.t 37))] [[], [], [0, 1], [2], [3], [],
    [5], [4, 6]]) (.cond (.t 38) (.seq (R [o 4 (.mv (n (-1)))]) .ret) .skip)) (.seq (R [m 39 1, o 40 (.bin .add (.t 39) (n 1)), m 1 40]) (.seq (.seq (D [m 41 0, m 42 5, o 43 (.idx 4
    (.t 41) (.t 42)), o 44 (.fld 3 (.t 43)), o 45 (.load false 1 (.t 44)), m 46 1, o 47 (.call0 (.f 63) [.t 46]), o 48 (.bin .neq (.t 45) (.t 47))] [[], [], [0, 1], [2], [3], [],
    [5], [4, 6]]) (.cond (.t 48) (.seq (R [o 4 (.mv (n (-1)))]) .ret) .skip)) (R [m 49 1, o 50 (.bin .add (.t 49) (n 1)), m 1 50]))))))))) (R [m 10 5, o 11 (.bin .add (.t 10) (n
    1)), m 5 11])))))) (.seq (R [m 51 1, m 4 51]) .ret)),
  by kernel_rfl⟩
def k63 : KF Go.Proofs.Try.f63 := ⟨
 .seq (R [o 2 (.mv (.c (.s [])))]) (.seq (.seq (R [m 4 0, o 5 (.bin .leq (.t 4) (n 0))]) (.cond (.t 5) (.seq (R [o 2 (.mv (.c (.s [109, 48])))]) .ret) .skip)) (.seq (R [o 3 (.mv (.c
    (.s [])))]) (.seq (.block 0 (.loop (.seq (.seq (R [m 6 0, o 7 (.bin .gtr (.t 6) (n 0))]) (.cond (.t 7) .skip (.exit 0))) (.block 1 (.seq (R [m 8 0, o 9 (.bin .rem (.t 8) (n
    10)), o 10 (.bin .add (n 48) (.t 9)), o 11 (.conv (.int .u8) (.t 10)), o 12 (.bslice 1 1 [.i .u8 0] [(0, .t 11)]), o 13 (.conv .b2s (.t 12)), m 14 3, o 15 (.bin .add (.t 13) (.t
    14)), m 3 15]) (R [m 16 0, o 17 (.bin .quo (.t 16) (n 10)), m 0 17])))))) (.seq (R [m 18 3, o 19 (.bin .add (.c (.s [109])) (.t 18)), m 2 19]) .ret)))),
  by kernel_rfl⟩
end FrA

/-! DkT -/
open Go Go.AM
namespace FrA
open Go.Proofs
set_option maxRecDepth 100000
set_option linter.unusedSimpArgs false
def obO (l : List Dop) : Ob := { ver := 1, es := ol l, esz := 4, own := True }
theorem ol_good (l : List Dop) : Good (ol l) 4 := by
  intro e he
  simp only [ol, List.mem_map] at he
  obtain ⟨t, _, rfl⟩ := he
  simp [opC, AV.storable]
theorem h131 (l : List Dop) (hn : l.length ≤ 1048576) : HT 131 [.dat 4 (ol l)] [] (.sl (.p 0) 1 0 l.length none) true [obO l] := by
  have fin := @fin_clone (ol l) 4 2
  rw [ol_len] at fin
  refine holds_of (c := Try.f131.body.getD .skip) (k := k131.1) (ts := [2]) HOk mixedT hintT Try.func131 (by kernel_rfl) (by kernel_rfl) (by kernel_rfl) k131.2 (by kernel_rfl) (le_of 1 _ (by kernel_rfl)) ?_
  by_cases h0 : l = []
  · subst h0
    simp -dsimp only [k131, go_sem, ↓reduceIte, Nat.reduceEqDiff, Int.reduceLE, Int.reduceLT, Int.reduceNeg, Int.reduceEq, Nat.reduceMul, Nat.reduceAdd, Nat.reduceLeDiff, reduceCtorEq]
    refine EqnK_any rfl rfl fun b => ?_
    cases b with
    | true =>
      simp -dsimp only [go_sem, ↓reduceIte, Nat.reduceEqDiff, Int.reduceLE, Int.reduceLT, Int.reduceNeg, Int.reduceEq, Nat.reduceMul, Nat.reduceAdd, Nat.reduceLeDiff, reduceCtorEq]
      refine Gh_of (.nil _ _ _ 2 (.l 900) 4 rfl rfl rfl) ?_
      simp -dsimp only [go_sem, ↓reduceIte, Nat.reduceEqDiff, Int.reduceLE, Int.reduceLT, Int.reduceNeg, Int.reduceEq, Nat.reduceMul, Nat.reduceAdd, Nat.reduceLeDiff, reduceCtorEq]
      exact fin (.l 900) 1 0 _ _ True rfl (by simp [upd_at]) (by simp [hup_at, ol]) rfl (ol_flat _) (ol_pure _)
    | false =>
      simp -dsimp only [ol_len, go_sem, ↓reduceIte, Nat.reduceEqDiff, Int.reduceLE, Int.reduceLT, Int.reduceNeg, Int.reduceEq, Nat.reduceMul, Nat.reduceAdd, Nat.reduceLeDiff, reduceCtorEq]
      refine EK_p (by simp [bigOk, ol_good]) ?_
      simp -dsimp only [ol_len, chunk, List.nil_append, Nat.zero_add, go_sem, ↓reduceIte, Nat.reduceEqDiff, Int.reduceLE, Int.reduceLT, Int.reduceNeg, Int.reduceEq, Nat.reduceMul, Nat.reduceAdd, Nat.reduceLeDiff, reduceCtorEq]
      exact fin (.l 5) 2 0 _ _ _ rfl (by simp [upd_at]) (by rw [hup_at, if_pos rfl]) rfl (ol_flat _) (ol_pure _)
  · have hne : ol l ≠ [] := by cases l <;> simp_all [ol]
    simp -dsimp only [k131, go_sem, ↓reduceIte, Nat.reduceEqDiff, Int.reduceLE, Int.reduceLT, Int.reduceNeg, Int.reduceEq, Nat.reduceMul, Nat.reduceAdd, Nat.reduceLeDiff, reduceCtorEq]
    refine EqnK_p hne ?_
    simp -dsimp only [ol_len, go_sem, ↓reduceIte, Nat.reduceEqDiff, Int.reduceLE, Int.reduceLT, Int.reduceNeg, Int.reduceEq, Nat.reduceMul, Nat.reduceAdd, Nat.reduceLeDiff, reduceCtorEq]
    refine EK_p ⟨ol_good _, ?_, ?_⟩ ?_
    · unfold bigOk; omega
    · omega
    simp -dsimp only [ol_len, chunk, List.nil_append, Nat.zero_add, go_sem, ↓reduceIte, Nat.reduceEqDiff, Int.reduceLE, Int.reduceLT, Int.reduceNeg, Int.reduceEq, Nat.reduceMul, Nat.reduceAdd, Nat.reduceLeDiff, reduceCtorEq]
    exact fin (.l 5) 2 l.length _ _ _ rfl (by simp [upd_at]) (by simp [hup_at]; rfl) rfl (ol_flat _) (ol_pure _)
theorem cp87 (l : List File) (hn : l.length ≤ 1048576) : HC.cp 87 2 (fl l) := by
  show Copies _ _ _ _
  unfold Copies; rw [fl_len]; exact h87 l hn
theorem cp131 (l : List Dop) (hn : l.length ≤ 1048576) : HC.cp 131 4 (ol l) := by
  show Copies _ _ _ _
  unfold Copies; rw [ol_len]; exact h131 l hn
/-- A synced disk. -/
def syncA (live : List File) : AV := .agg [.sl (.p 0) 1 0 live.length none, .sl (.p 1) 1 0 live.length none, .nils]
theorem h88 (live safe : List File) (ops : List Dop) (hn : live.length ≤ 1048576) : HT 88 [disk live safe ops] [] (syncA live) true [obF live, obF live] := by
  refine holdsc_of (c := Try.f88.body.getD .skip) (k := k88.1) (cs := [(2, some (true, 3))]) HOk mixedT hintT Try.func88 (by kernel_rfl) (by kernel_rfl) (by kernel_rfl) k88.2 (by kernel_rfl) (le_of 1 _ (by kernel_rfl)) ?_
  unfold disk
  simp -dsimp only [k88, go_sem, ↓reduceIte, Nat.reduceEqDiff, Int.reduceLE, Int.reduceLT, Int.reduceNeg, Int.reduceEq, Nat.reduceMul, Nat.reduceAdd, Nat.reduceLeDiff, reduceCtorEq]
  refine Cp_of (cp87 live hn) (fl_pure _) rfl fun v1 => ?_
  simp -dsimp only [go_sem, ↓reduceIte, Nat.reduceEqDiff, Int.reduceLE, Int.reduceLT, Int.reduceNeg, Int.reduceEq, Nat.reduceMul, Nat.reduceAdd, Nat.reduceLeDiff, reduceCtorEq]
  refine Cp_of (cp87 live hn) (fl_pure _) (by simp [hup_at, objs_r]) fun v2 => ?_
  simp -dsimp only [fl_len, go_sem, ↓reduceIte, Nat.reduceEqDiff, Int.reduceLE, Int.reduceLT, Int.reduceNeg, Int.reduceEq, Nat.reduceMul, Nat.reduceAdd, Nat.reduceLeDiff, reduceCtorEq]
  refine finC_outs [.r 5 0, .r 8 0] (p := True) (l := [.agg [.sl (.r 5 0) v1 0 live.length none, .sl (.r 8 0) v2 0 live.length none, .nils]]) (by simp [resM, resE, upd_at, loadF, cur, hup_at]) trivial (by simp) (by simp [Rid.isP]) ?_ ?_ ?_
  · exact .flat (by simp only [hup_at, newObs, ↓reduceIte, Nat.reduceEqDiff, reduceCtorEq, Rid.r.injEq, Rid.l.injEq, Nat.reduceAdd, Nat.zero_add, and_self, and_true, and_false, false_and, true_and] <;> rfl) (fl_flat _) (fl_pure _) (.flat (by simp only [hup_at, newObs, ↓reduceIte, Nat.reduceEqDiff, reduceCtorEq, Rid.r.injEq, Rid.l.injEq, Nat.reduceAdd, Nat.zero_add, and_self, and_true, and_false, false_and, true_and] <;> rfl) (fl_flat _) (fl_pure _) trivial)
  · simp [resOne, retA, retL, cur, hup_at, List.idxOf?_cons, syncA]
  · simp [resOne, ResOk, ResL, cur, hup_at]
def nilA : AV := .agg [.nils, .nils, .nils]
theorem h38_no (live safe : List File) (ops : List Dop) (hl : BdF live) (hsf : BdF safe) (ho : BdO ops) (hd : diskB live safe ops = false) : HT 38 [disk live safe ops] [] nilA true [] := by
  refine holdsc_of (c := Try.f38.body.getD .skip) (k := k38.1) (cs := [(2, some (true, 3))]) HOk mixedT hintT Try.func38 (by kernel_rfl) (by kernel_rfl) (by kernel_rfl) k38.2 (by kernel_rfl) (le_of 1 _ (by kernel_rfl)) ?_
  have d35 := h35 live safe ops hl hsf ho
  rw [hd] at d35
  unfold disk at d35 ⊢
  simp -dsimp only [k38, go_sem, ↓reduceIte, Nat.reduceEqDiff, Int.reduceLE, Int.reduceLT, Int.reduceNeg, Int.reduceEq, Nat.reduceMul, Nat.reduceAdd, Nat.reduceLeDiff, reduceCtorEq]
  refine Call_val (own := true) (d35) (by simp [ExpOk, AV.pure]) (.inl rfl) ?_
  simp -dsimp only [go_sem, ↓reduceIte, Nat.reduceEqDiff, Int.reduceLE, Int.reduceLT, Int.reduceNeg, Int.reduceEq, Nat.reduceMul, Nat.reduceAdd, Nat.reduceLeDiff, reduceCtorEq]
  refine finC_val (p := True) (l := [nilA]) (by simp [resM, resE, upd_at, loadF, cur, hup_at, nilA]) trivial ?_ ?_
  · simp [resOne, retA, retL, nilA]
  · simp [resOne, ResOk, ResL, nilA]
theorem h38 (live safe : List File) (ops : List Dop) (hl : BdF live) (hsf : BdF safe) (ho : BdO ops) (hd : diskB live safe ops = true) : HT 38 [disk live safe ops] [] (syncA live) true [obF live, obF live] := by
  refine holdsc_of (c := Try.f38.body.getD .skip) (k := k38.1) (cs := [(2, some (true, 3))]) HOk mixedT hintT Try.func38 (by kernel_rfl) (by kernel_rfl) (by kernel_rfl) k38.2 (by kernel_rfl) (le_of 1 _ (by kernel_rfl)) ?_
  have d35 := h35 live safe ops hl hsf ho
  have d88 := h88 live safe ops hl.1
  rw [hd] at d35
  unfold disk at d35 d88 ⊢
  simp -dsimp only [k38, go_sem, ↓reduceIte, Nat.reduceEqDiff, Int.reduceLE, Int.reduceLT, Int.reduceNeg, Int.reduceEq, Nat.reduceMul, Nat.reduceAdd, Nat.reduceLeDiff, reduceCtorEq]
  refine Call_val (own := true) (d35) (by simp [ExpOk, AV.pure]) (.inl rfl) ?_
  simp -dsimp only [go_sem, ↓reduceIte, Nat.reduceEqDiff, Int.reduceLE, Int.reduceLT, Int.reduceNeg, Int.reduceEq, Nat.reduceMul, Nat.reduceAdd, Nat.reduceLeDiff, reduceCtorEq]
  refine Call_news (own := true) d88 (by simp [ExpOk, AV.pure]) (by simp [obF, fl_pure]) (.inl rfl) (by simp [obF]) ?_
  simp -dsimp only [syncA, impA, impL, Option.getD_some, Nat.sub_self, Nat.sub_zero, obF, go_sem, ↓reduceIte, Nat.reduceEqDiff, Int.reduceLE, Int.reduceLT, Int.reduceNeg, Int.reduceEq, Nat.reduceMul, Nat.reduceAdd, Nat.reduceLeDiff, reduceCtorEq]
  refine finC_outs [.r 8 0, .r 8 1] (p := True) (l := [.agg [.sl (.r 8 0) 3 0 live.length none, .sl (.r 8 1) 3 0 live.length none, .nils]]) (by simp [resM, resE, upd_at, loadF, cur, hup_at]) trivial (by simp) (by simp [Rid.isP]) ?_ ?_ ?_
  · exact .flat (by simp only [hup_at, newObs, ↓reduceIte, Nat.reduceEqDiff, reduceCtorEq, Rid.r.injEq, Rid.l.injEq, Nat.reduceAdd, Nat.zero_add, and_self, and_true, and_false, false_and, true_and] <;> rfl) (fl_flat _) (fl_pure _) (.flat (by simp only [hup_at, newObs, ↓reduceIte, Nat.reduceEqDiff, reduceCtorEq, Rid.r.injEq, Rid.l.injEq, Nat.reduceAdd, Nat.zero_add, and_self, and_true, and_false, false_and, true_and] <;> rfl) (fl_flat _) (fl_pure _) trivial)
  · simp [resOne, retA, retL, cur, hup_at, List.idxOf?_cons, syncA]
  · simp [resOne, ResOk, ResL, cur, hup_at]
theorem h51_no (live safe : List File) (ops : List Dop) (hl : BdF live) (hsf : BdF safe) (ho : BdO ops) (hd : diskB live safe ops = false) : HT 51 [disk live safe ops] [] nilA true [] := by
  refine holdsc_of (c := Try.f51.body.getD .skip) (k := k51.1) (cs := [(2, some (true, 3))]) HOk mixedT hintT Try.func51 (by kernel_rfl) (by kernel_rfl) (by kernel_rfl) k51.2 (by kernel_rfl) (le_of 1 _ (by kernel_rfl)) ?_
  have d36 := h36 live safe ops hl hsf ho
  rw [hd] at d36
  unfold disk at d36 ⊢
  simp -dsimp only [k51, go_sem, ↓reduceIte, Nat.reduceEqDiff, Int.reduceLE, Int.reduceLT, Int.reduceNeg, Int.reduceEq, Nat.reduceMul, Nat.reduceAdd, Nat.reduceLeDiff, reduceCtorEq]
  refine Call_val (own := true) (d36) (by simp [ExpOk, AV.pure]) (.inl rfl) ?_
  simp -dsimp only [go_sem, ↓reduceIte, Nat.reduceEqDiff, Int.reduceLE, Int.reduceLT, Int.reduceNeg, Int.reduceEq, Nat.reduceMul, Nat.reduceAdd, Nat.reduceLeDiff, reduceCtorEq]
  refine finC_val (p := True) (l := [nilA]) (by simp [resM, resE, upd_at, loadF, cur, hup_at, nilA]) trivial ?_ ?_
  · simp [resOne, retA, retL, nilA]
  · simp [resOne, ResOk, ResL, nilA]
theorem h51 (live safe : List File) (ops : List Dop) (hl : BdF live) (hsf : BdF safe) (ho : BdO ops) (hd : diskB live safe ops = true) : HT 51 [disk live safe ops] [] (syncA live) true [obF live, obF live] := by
  refine holdsc_of (c := Try.f51.body.getD .skip) (k := k51.1) (cs := [(2, some (true, 3))]) HOk mixedT hintT Try.func51 (by kernel_rfl) (by kernel_rfl) (by kernel_rfl) k51.2 (by kernel_rfl) (le_of 1 _ (by kernel_rfl)) ?_
  have d36 := h36 live safe ops hl hsf ho
  rw [hd] at d36
  unfold disk at d36 ⊢
  have hn := hl.1
  simp -dsimp only [k51, go_sem, ↓reduceIte, Nat.reduceEqDiff, Int.reduceLE, Int.reduceLT, Int.reduceNeg, Int.reduceEq, Nat.reduceMul, Nat.reduceAdd, Nat.reduceLeDiff, reduceCtorEq]
  refine Call_val (own := true) (d36) (by simp [ExpOk, AV.pure]) (.inl rfl) ?_
  have hgl : Good (fl live) 2 ∧ bigOk (fl live).length 32 ∧ (fl live).length ≤ 9223372036854775807 := ⟨fl_good _, by rw [fl_len]; unfold bigOk; omega, by rw [fl_len]; omega⟩
  simp -dsimp only [objs_l, go_sem, ↓reduceIte, Nat.reduceEqDiff, Int.reduceLE, Int.reduceLT, Int.reduceNeg, Int.reduceEq, Nat.reduceMul, Nat.reduceAdd, Nat.reduceLeDiff, reduceCtorEq]
  intro v
  refine EKd_p (fun _ => hgl) rfl fun v2 => ?_
  simp -dsimp only [objs_l, go_sem, ↓reduceIte, Nat.reduceEqDiff, Int.reduceLE, Int.reduceLT, Int.reduceNeg, Int.reduceEq, Nat.reduceMul, Nat.reduceAdd, Nat.reduceLeDiff, reduceCtorEq]
  intro v3
  refine EKd_p (fun _ => hgl) rfl fun v4 => ?_
  simp -dsimp only [fl_len, go_sem, ↓reduceIte, Nat.reduceEqDiff, Int.reduceLE, Int.reduceLT, Int.reduceNeg, Int.reduceEq, Nat.reduceMul, Nat.reduceAdd, Nat.reduceLeDiff, reduceCtorEq]
  refine finC_outs [.l 7, .l 11] (p := True) (l := [.agg [.sl (.l 7) v2 0 live.length none, .sl (.l 11) v4 0 live.length none, .nils]]) (by simp [resM, resE, upd_at, loadF, cur, hup_at]) trivial (by simp) (by simp [Rid.isP]) ?_ ?_ ?_
  · exact .flat (by simp only [hup_at, newObs, ↓reduceIte, Nat.reduceEqDiff, reduceCtorEq, Rid.r.injEq, Rid.l.injEq, Nat.reduceAdd, Nat.zero_add, and_self, and_true, and_false, false_and, true_and] <;> rfl) (fl_flat _) (fl_pure _) (.flat (by simp only [hup_at, newObs, ↓reduceIte, Nat.reduceEqDiff, reduceCtorEq, Rid.r.injEq, Rid.l.injEq, Nat.reduceAdd, Nat.zero_add, and_self, and_true, and_false, false_and, true_and] <;> rfl) (fl_flat _) (fl_pure _) trivial)
  · simp [resOne, retA, retL, cur, hup_at, List.idxOf?_cons, syncA]
  · simp [resOne, ResOk, ResL, cur, hup_at]
def copyA (live safe : List File) (ops : List Dop) : AV := .agg [.sl (.p 0) 1 0 live.length none, .sl (.p 1) 1 0 safe.length none, .sl (.p 2) 1 0 ops.length none]
theorem h103 (live safe : List File) (ops : List Dop) (hn : live.length ≤ 1048576) (hn2 : safe.length ≤ 1048576) (hn3 : ops.length ≤ 1048576) : HT 103 [disk live safe ops] [] (copyA live safe ops) true [obF live, obF safe, obO ops] := by
  refine holdsc_of (c := Try.f103.body.getD .skip) (k := k103.1) (cs := [(2, some (true, 3))]) HOk mixedT hintT Try.func103 (by kernel_rfl) (by kernel_rfl) (by kernel_rfl) k103.2 (by kernel_rfl) (le_of 1 _ (by kernel_rfl)) ?_
  unfold disk
  simp -dsimp only [k103, go_sem, ↓reduceIte, Nat.reduceEqDiff, Int.reduceLE, Int.reduceLT, Int.reduceNeg, Int.reduceEq, Nat.reduceMul, Nat.reduceAdd, Nat.reduceLeDiff, reduceCtorEq]
  refine Cp_of (cp87 live hn) (fl_pure _) rfl fun v1 => ?_
  simp -dsimp only [go_sem, ↓reduceIte, Nat.reduceEqDiff, Int.reduceLE, Int.reduceLT, Int.reduceNeg, Int.reduceEq, Nat.reduceMul, Nat.reduceAdd, Nat.reduceLeDiff, reduceCtorEq]
  refine Cp_of (cp87 safe hn2) (fl_pure _) (by simp [hup_at, objs_r]) fun v2 => ?_
  simp -dsimp only [go_sem, ↓reduceIte, Nat.reduceEqDiff, Int.reduceLE, Int.reduceLT, Int.reduceNeg, Int.reduceEq, Nat.reduceMul, Nat.reduceAdd, Nat.reduceLeDiff, reduceCtorEq]
  refine Cp_of (cp131 ops hn3) (ol_pure _) (by simp [hup_at, objs_r]) fun v3 => ?_
  simp -dsimp only [fl_len, ol_len, go_sem, ↓reduceIte, Nat.reduceEqDiff, Int.reduceLE, Int.reduceLT, Int.reduceNeg, Int.reduceEq, Nat.reduceMul, Nat.reduceAdd, Nat.reduceLeDiff, reduceCtorEq]
  refine finC_outs [.r 5 0, .r 8 0, .r 11 0] (p := True) (l := [.agg [.sl (.r 5 0) v1 0 live.length none, .sl (.r 8 0) v2 0 safe.length none, .sl (.r 11 0) v3 0 ops.length none]]) (by simp [resM, resE, upd_at, loadF, cur, hup_at]) trivial (by simp) (by simp [Rid.isP]) ?_ ?_ ?_
  · exact .flat (by simp only [hup_at, newObs, ↓reduceIte, Nat.reduceEqDiff, reduceCtorEq, Rid.r.injEq, Rid.l.injEq, Nat.reduceAdd, Nat.zero_add, and_self, and_true, and_false, false_and, true_and] <;> rfl) (fl_flat _) (fl_pure _) (.flat (by simp only [hup_at, newObs, ↓reduceIte, Nat.reduceEqDiff, reduceCtorEq, Rid.r.injEq, Rid.l.injEq, Nat.reduceAdd, Nat.zero_add, and_self, and_true, and_false, false_and, true_and] <;> rfl) (fl_flat _) (fl_pure _) (.flat (by simp only [hup_at, newObs, ↓reduceIte, Nat.reduceEqDiff, reduceCtorEq, Rid.r.injEq, Rid.l.injEq, Nat.reduceAdd, Nat.zero_add, and_self, and_true, and_false, false_and, true_and] <;> rfl) (ol_flat _) (ol_pure _) trivial))
  · simp [resOne, retA, retL, cur, hup_at, List.idxOf?_cons, copyA]
  · simp [resOne, ResOk, ResL, cur, hup_at]
theorem h104 (live safe : List File) (ops : List Dop) (hn : live.length ≤ 1048576) (hn2 : safe.length ≤ 1048576) (hn3 : ops.length ≤ 1048576) : HT 104 [disk live safe ops] [] (copyA live safe ops) true [obF live, obF safe, obO ops] := by
  refine holdsc_of (c := Try.f104.body.getD .skip) (k := k104.1) (cs := [(2, some (true, 3))]) HOk mixedT hintT Try.func104 (by kernel_rfl) (by kernel_rfl) (by kernel_rfl) k104.2 (by kernel_rfl) (le_of 1 _ (by kernel_rfl)) ?_
  unfold disk
  have hgl : ∀ l : List File, l.length ≤ 1048576 → Good (fl l) 2 ∧ bigOk (fl l).length 32 ∧ (fl l).length ≤ 9223372036854775807 := fun l hl => ⟨fl_good _, by rw [fl_len]; unfold bigOk; omega, by rw [fl_len]; omega⟩
  have hgo : Good (ol ops) 4 ∧ bigOk (ol ops).length 56 ∧ (ol ops).length ≤ 9223372036854775807 := ⟨ol_good _, by rw [ol_len]; unfold bigOk; omega, by rw [ol_len]; omega⟩
  simp -dsimp only [k104, objs_l, go_sem, ↓reduceIte, Nat.reduceEqDiff, Int.reduceLE, Int.reduceLT, Int.reduceNeg, Int.reduceEq, Nat.reduceMul, Nat.reduceAdd, Nat.reduceLeDiff, reduceCtorEq]
  intro v
  refine EKd_p (fun _ => hgl live hn) rfl fun v1 => ?_
  simp -dsimp only [objs_l, go_sem, ↓reduceIte, Nat.reduceEqDiff, Int.reduceLE, Int.reduceLT, Int.reduceNeg, Int.reduceEq, Nat.reduceMul, Nat.reduceAdd, Nat.reduceLeDiff, reduceCtorEq]
  intro v
  refine EKd_p (fun _ => hgl safe hn2) rfl fun v2 => ?_
  simp -dsimp only [objs_l, go_sem, ↓reduceIte, Nat.reduceEqDiff, Int.reduceLE, Int.reduceLT, Int.reduceNeg, Int.reduceEq, Nat.reduceMul, Nat.reduceAdd, Nat.reduceLeDiff, reduceCtorEq]
  intro v
  refine EKd_p (fun _ => hgo) rfl fun v3 => ?_
  simp -dsimp only [fl_len, ol_len, go_sem, ↓reduceIte, Nat.reduceEqDiff, Int.reduceLE, Int.reduceLT, Int.reduceNeg, Int.reduceEq, Nat.reduceMul, Nat.reduceAdd, Nat.reduceLeDiff, reduceCtorEq]
  refine finC_outs [.l 3, .l 7, .l 11] (p := True) (l := [.agg [.sl (.l 3) v1 0 live.length none, .sl (.l 7) v2 0 safe.length none, .sl (.l 11) v3 0 ops.length none]]) (by simp [resM, resE, upd_at, loadF, cur, hup_at]) trivial (by simp) (by simp [Rid.isP]) ?_ ?_ ?_
  · exact .flat (by simp only [hup_at, newObs, ↓reduceIte, Nat.reduceEqDiff, reduceCtorEq, Rid.r.injEq, Rid.l.injEq, Nat.reduceAdd, Nat.zero_add, and_self, and_true, and_false, false_and, true_and] <;> rfl) (fl_flat _) (fl_pure _) (.flat (by simp only [hup_at, newObs, ↓reduceIte, Nat.reduceEqDiff, reduceCtorEq, Rid.r.injEq, Rid.l.injEq, Nat.reduceAdd, Nat.zero_add, and_self, and_true, and_false, false_and, true_and] <;> rfl) (fl_flat _) (fl_pure _) (.flat (by simp only [hup_at, newObs, ↓reduceIte, Nat.reduceEqDiff, reduceCtorEq, Rid.r.injEq, Rid.l.injEq, Nat.reduceAdd, Nat.zero_add, and_self, and_true, and_false, false_and, true_and] <;> rfl) (ol_flat _) (ol_pure _) trivial))
  · simp [resOne, retA, retL, cur, hup_at, List.idxOf?_cons, copyA]
  · simp [resOne, ResOk, ResL, cur, hup_at]
end FrA

