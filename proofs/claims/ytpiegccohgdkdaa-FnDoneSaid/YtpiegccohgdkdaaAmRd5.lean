/- Drawn numbers: walked. No condition. -/
import Derived.Test.YtpiegccohgdkdaaAmRd1
import Derived.Test.YtpiegccohgdkdaaAmRd3
import Derived.Test.YtpiegccohgdkdaaAmRd4
import Derived.Test.YtpiegccohgdkdaaAmDkUb
set_option linter.all false
set_option linter.unusedSimpArgs false
set_option linter.unusedVariables false
set_option linter.deprecated false
/-! RdH -/
open Go Go.AM
namespace FrA
open Go.Proofs
set_option maxRecDepth 100000
set_option linter.unusedSimpArgs false
theorem rd_finP {code : List UInt8} {p p' : Nat} {cs : List RS} {g : Slots} {h : Heap} {c : Nat} {Φ : AV → List Ob → Prop} (r : AV) {pr : Prop} {l : List AV} (hh : h (.p 0) = some (rdV code p' 0 true)) (h0 : resM h g cs = some (pr, l)) (hp : pr) (h1 : retA h [] 1 (resOne l) = r) (h2 : ResOk h [] false (resOne l)) (hΦ : Φ r [rdO code p']) :
    FinC cs [rdO code p] false Φ .ret g h c := by
  obtain ⟨q, l', q0, qp, r', o', ⟨e1, e2⟩, rest⟩ := finC_obs (own := false) (obs := [rdO code p]) (obs' := [rdO code p']) h0 hp rfl (fun k ob hk => by
    cases k with
    | zero => simp at hk; subst hk; exact ⟨rd_pure _ _, False, .inr (by simp [rdO]), hh, rfl⟩
    | succ k => simp at hk) h1 h2
  subst e1; subst e2
  exact ⟨q, l', q0, qp, _, _, hΦ, rest⟩
/-- Some number, and the reader stands somewhere. -/
def numΦ (code : List UInt8) (k : IntKind) (r : AV) (o' : List Ob) : Prop := ∃ p', p' ≤ code.length ∧ o' = [rdO code p'] ∧ ∃ x : Int, r = .i k x
theorem h140 (code : List UInt8) (p : Nat) (hp : p ≤ code.length) (hc : code.length ≤ 1048576) : HC 140 [.ptr (.p 0) 0 0 0] [rdO code p] false (numΦ code .u64) := by
  refine holdsc_of (c := Try.f140.body.getD .skip) (k := k140.1) (cs := [(2, none)]) HOk mixedT hintT Try.func140 (by kernel_rfl) (by kernel_rfl) (by kernel_rfl) k140.2 (by kernel_rfl) (le_of 1 _ (by kernel_rfl)) ?_
  simp -dsimp only [k140, go_sem, ↓reduceIte, Nat.reduceEqDiff, Int.reduceLE, Int.reduceLT, Int.reduceNeg, Int.reduceEq, Nat.reduceMul, Nat.reduceAdd, Nat.reduceLeDiff, reduceCtorEq]
  refine K_for 8 (fun i g h c => ∃ (x : Int) (p' : Nat), p' ≤ code.length ∧ g 0 = .ptr (.p 0) 0 0 0 ∧ g 3 = .i .u64 x ∧ g 4 = i64 i ∧ h (.p 0) = some (rdV code p' 0 true)) ?_ ?_ ?_
  · exact ⟨0, p, hp, by simp [upd_at, S_0], by simp [upd_at], by simp [upd_at], rd_obj code p⟩
  · rintro i A hi hA g h c ⟨x, p', hp', q0, q3, q4, m0⟩
    have hc1 : (i : Int) < 8 := by omega
    have w1 : IntKind.i64.wrap ((i : Int) + 1) = ((i + 1 : Nat) : Int) := by rw [wr (by omega) (by omega)]; rfl
    simp -dsimp only [q0, q3, q4, hc1, go_sem, ↓reduceIte, Nat.reduceEqDiff, Int.reduceLE, Int.reduceLT, Int.reduceNeg, Int.reduceEq, Nat.reduceMul, Nat.reduceAdd, Nat.reduceLeDiff, reduceCtorEq]
    refine Call_rd m0 (h111 code p' hp' hc) (fun a ha => by cases ha) ?_
    simp -dsimp only [q0, q3, q4, w1, go_sem, ↓reduceIte, Nat.reduceEqDiff, Int.reduceLE, Int.reduceLT, Int.reduceNeg, Int.reduceEq, Nat.reduceMul, Nat.reduceAdd, Nat.reduceLeDiff, reduceCtorEq]
    exact hA _ _ _ ⟨_, (nx code p').2, nx_le hp', by simp [upd_at, q0], by simp [upd_at]; rfl, by simp [upd_at], by simp [hup_at]⟩
  · rintro A g h c ⟨x, p', hp', q0, q3, q4, m0⟩
    have hc1 : ¬ (((8 : Nat) : Int) < 8) := by omega
    simp -dsimp only [q0, q3, q4, hc1, go_sem, ↓reduceIte, Nat.reduceEqDiff, Int.reduceLE, Int.reduceLT, Int.reduceNeg, Int.reduceEq, Nat.reduceMul, Nat.reduceAdd, Nat.reduceLeDiff, reduceCtorEq]
    refine rd_finP (p' := p') (.i .u64 x) (l := [.i .u64 x]) m0 (by simp [resM, resE, upd_at, yes]) trivial ?_ ?_ ⟨p', hp', rfl, x, rfl⟩
    · simp [resOne, retA]
    · simp [resOne, ResOk]
theorem h128 (code : List UInt8) (p : Nat) (hp : p ≤ code.length) (hc : code.length ≤ 1048576) : HC 128 [.ptr (.p 0) 0 0 0, i64 1, i64 3] [rdO code p] false (numΦ code .i64) := by
  refine holdsc_of (c := Try.f128.body.getD .skip) (k := k128.1) (cs := [(6, none)]) HOk mixedT hintT Try.func128 (by kernel_rfl) (by kernel_rfl) (by kernel_rfl) k128.2 (by kernel_rfl) (le_of 3 _ (by kernel_rfl)) ?_
  simp -dsimp only [k128, go_sem, ↓reduceIte, Nat.reduceEqDiff, Int.reduceLE, Int.reduceLT, Int.reduceNeg, Int.reduceEq, Nat.reduceMul, Nat.reduceAdd, Nat.reduceLeDiff, reduceCtorEq]
  refine Call_rd (rd_obj code p) (h65 code p 8 hp hc (by omega)) (fun a ha => by simp at ha; subst ha; exact ⟨rfl, rfl⟩) ?_
  have hp1 := blw_le 8 hp
  generalize (blw code p 8).2 = p1 at hp1
  generalize (blw code p 8).1 = m
  by_cases m0 : m = 0
  · have e0 : ((m : Int) == 0) = true := by simp [m0]
    simp -dsimp only [e0, go_sem, ↓reduceIte, Nat.reduceEqDiff, Int.reduceLE, Int.reduceLT, Int.reduceNeg, Int.reduceEq, Nat.reduceMul, Nat.reduceAdd, Nat.reduceLeDiff, reduceCtorEq]
    refine rd_finP (p' := p1) (i64 1) (l := [i64 1]) (by simp [hup_at]) (by simp [resM, resE, upd_at, yes]) trivial ?_ ?_ ⟨p1, hp1, rfl, 1, rfl⟩
    · simp [resOne, retA]
    · simp [resOne, ResOk]
  have e0 : ((m : Int) == 0) = false := by simp; omega
  by_cases m1 : m = 1
  · have e1 : ((m : Int) == 1) = true := by simp [m1]
    simp -dsimp only [e0, e1, go_sem, ↓reduceIte, Nat.reduceEqDiff, Int.reduceLE, Int.reduceLT, Int.reduceNeg, Int.reduceEq, Nat.reduceMul, Nat.reduceAdd, Nat.reduceLeDiff, reduceCtorEq]
    refine rd_finP (p' := p1) (i64 3) (l := [i64 3]) (by simp [hup_at]) (by simp [resM, resE, upd_at, yes]) trivial ?_ ?_ ⟨p1, hp1, rfl, 3, rfl⟩
    · simp [resOne, retA]
    · simp [resOne, ResOk]
  have e1 : ((m : Int) == 1) = false := by simp; omega
  have w1 : IntKind.i64.wrap (IntKind.i64.wrap (3 - 1) + 1) = 3 := by kernel_rfl
  have w2 : IntKind.u64.wrap 3 = 3 := by kernel_rfl
  have c3 : ¬ (3 : Int) < 1 := by omega
  simp -dsimp only [e0, e1, c3, go_sem, ↓reduceIte, Nat.reduceEqDiff, Int.reduceLE, Int.reduceLT, Int.reduceNeg, Int.reduceEq, Nat.reduceMul, Nat.reduceAdd, Nat.reduceLeDiff, reduceCtorEq]
  refine Call_rds (p := p1) (v := 0) (fx := true) (by simp [hup_at]) (h140 code p1 hp1 hc) (fun a ha => by cases ha) fun ret p' hp' ⟨x, e⟩ => ⟨by subst e; intros; simp [impA], ?_⟩
  subst e
  simp -dsimp only [w1, w2, go_sem, ↓reduceIte, Nat.reduceEqDiff, Int.reduceLE, Int.reduceLT, Int.reduceNeg, Int.reduceEq, Nat.reduceMul, Nat.reduceAdd, Nat.reduceLeDiff, reduceCtorEq]
  refine rd_finP (p' := p') _ (l := [_]) (by simp [hup_at]) (by simp [resM, resE, upd_at, yes]; rfl) trivial (by simp [resOne, retA]; rfl) (by simp [resOne, ResOk]) ⟨p', hp', rfl, _, rfl⟩
theorem h98 (code : List UInt8) (p : Nat) (hp : p ≤ code.length) (hc : code.length ≤ 1048576) : HC 98 [.ptr (.p 0) 0 0 0, i64 1, i64 3] [rdO code p] false (numΦ code .i64) := by
  refine holdsc_of (c := Try.f98.body.getD .skip) (k := k98.1) (cs := [(6, none)]) HOk mixedT hintT Try.func98 (by kernel_rfl) (by kernel_rfl) (by kernel_rfl) k98.2 (by kernel_rfl) (le_of 3 _ (by kernel_rfl)) ?_
  simp -dsimp only [k98, go_sem, ↓reduceIte, Nat.reduceEqDiff, Int.reduceLE, Int.reduceLT, Int.reduceNeg, Int.reduceEq, Nat.reduceMul, Nat.reduceAdd, Nat.reduceLeDiff, reduceCtorEq]
  refine Call_rd (rd_obj code p) (h101 code p 24 hp hc (by omega) (by omega)) (fun a ha => by simp at ha; subst ha; exact ⟨rfl, rfl⟩) ?_
  have hp1 := blw_le 24 hp
  generalize (blw code p 24).2 = p1 at hp1
  cases onc code p 24
  · simp -dsimp only [go_sem, ↓reduceIte, Nat.reduceEqDiff, Int.reduceLE, Int.reduceLT, Int.reduceNeg, Int.reduceEq, Nat.reduceMul, Nat.reduceAdd, Nat.reduceLeDiff, reduceCtorEq]
    refine Call_rds (p := p1) (v := 0) (fx := true) (by simp [hup_at]) (h128 code p1 hp1 hc) (fun a ha => by simp at ha; rcases ha with rfl | rfl <;> exact ⟨rfl, rfl⟩) fun ret p' hp' ⟨x, e⟩ => ⟨by subst e; intros; simp [impA], ?_⟩
    subst e
    simp -dsimp only [go_sem, ↓reduceIte, Nat.reduceEqDiff, Int.reduceLE, Int.reduceLT, Int.reduceNeg, Int.reduceEq, Nat.reduceMul, Nat.reduceAdd, Nat.reduceLeDiff, reduceCtorEq]
    refine rd_finP (p' := p') (i64 x) (l := [i64 x]) (by simp [hup_at]) (by simp [resM, resE, upd_at, yes]) trivial ?_ ?_ ⟨p', hp', rfl, x, rfl⟩
    · simp [resOne, retA]
    · simp [resOne, ResOk]
  · simp -dsimp only [chunk, go_sem, ↓reduceIte, Nat.reduceEqDiff, Int.reduceLE, Int.reduceLT, Int.reduceNeg, Int.reduceEq, Nat.reduceMul, Nat.reduceAdd, Nat.reduceLeDiff, reduceCtorEq]
    refine Call_rd (by simp [hup_at]; rfl) (h65 code p1 4 hp1 hc (by omega)) (fun a ha => by simp at ha; subst ha; exact ⟨rfl, rfl⟩) ?_
    have hl := blw_lt code p1 4 (by omega)
    have hp2 := blw_le 4 hp1
    generalize (blw code p1 4).2 = p2 at hp2
    generalize (blw code p1 4).1 = m at hl
    have hg : ∀ a b c d : Int, ∃ x : Int, [[AV.i .i64 a], [.i .i64 b], [.i .i64 c], [.i .i64 d]][m]? = some [.i .i64 x] := fun a b c d => by
      rcases (by omega : m = 0 ∨ m = 1 ∨ m = 2 ∨ m = 3) with rfl | rfl | rfl | rfl
      · exact ⟨a, rfl⟩
      · exact ⟨b, rfl⟩
      · exact ⟨c, rfl⟩
      · exact ⟨d, rfl⟩
    obtain ⟨x, hg⟩ := hg (IntKind.i64.wrap (1 - 1)) (IntKind.i64.wrap (3 + 1)) (-9223372036854775808) 9223372036854775807
    have c1 : (m : Int) < 4 := by omega
    simp -dsimp only [hg, c1, go_sem, ↓reduceIte, Nat.reduceEqDiff, Int.reduceLE, Int.reduceLT, Int.reduceNeg, Int.reduceEq, Nat.reduceMul, Nat.reduceAdd, Nat.reduceLeDiff, reduceCtorEq]
    refine VK_p (by omega) ?_
    simp -dsimp only [hg, c1, go_sem, ↓reduceIte, Nat.reduceEqDiff, Int.reduceLE, Int.reduceLT, Int.reduceNeg, Int.reduceEq, Nat.reduceMul, Nat.reduceAdd, Nat.reduceLeDiff, reduceCtorEq]
    refine rd_finP (p' := p2) (i64 x) (l := [i64 x]) (by simp [hup_at]) (by simp [resM, resE, upd_at, yes]) trivial ?_ ?_ ⟨p2, hp2, rfl, x, rfl⟩
    · simp [resOne, retA]
    · simp [resOne, ResOk]
end FrA

/-! RdI -/
open Go Go.AM
namespace FrA
open Go.Proofs
set_option maxRecDepth 100000
set_option linter.unusedSimpArgs false
theorem do_bd {L S : List File} {O : List Dop} {op : Dop} (b3 : BdO O) (hop : op.2.2.2.length ≤ 1000000000) (hk : diskB L S O = true) : BdF (doL L O op) ∧ BdO (doO L O op) := by
  obtain ⟨q1, q2, q3⟩ := diskB_ok hk
  have k := doL_ok (ops := O) (op := op) q1
  refine ⟨⟨by have := k.1; omega, fun f hf => by have := okP_le k f hf; omega⟩, ⟨by have := doO_le (live := L) (op := op) q3; omega, fun o ho => ?_⟩⟩
  unfold doO at ho
  split at ho
  · simp at ho; rcases ho with h | rfl
    · exact b3.2 o h
    · exact hop
  · exact b3.2 o ho
def drΦ (r : AV) (o' : List Ob) : Prop := o' = [] ∧ ∃ L S O op, BdF L ∧ BdF S ∧ BdO O ∧ op.2.2.2.length ≤ 3 ∧ r = .tup [disk L S O, .agg (opC op)]
theorem h45 (code : List UInt8) (hc : code.length ≤ 1048576) : HC 45 [.dat 1 (bts code)] [] false drΦ := by
  refine holdsc_of (c := Try.f45.body.getD .skip) (k := k45.1) (cs := [(2, some (true, 3)), (3, some (true, 4))]) HOk mixedT hintT Try.func45 (by kernel_rfl) (by kernel_rfl) (by kernel_rfl) k45.2 (by kernel_rfl) (le_of 1 _ (by kernel_rfl)) ?_
  have fin : ∀ (L S : List File) (O : List Dop) (op : Dop) (g : Slots) (h : Heap) (c : Nat), BdF L → BdF S → BdO O → op.2.2.2.length ≤ 3 → h (.l 2) = some { ver := 1, es := [[.dat 2 (fl L), .dat 2 (fl S), .dat 4 (ol O)]], esz := 3, own := False, fixed := true } → h (.l 3) = some { ver := 2, es := [[.i .i64 op.1, .s op.2.1, .s op.2.2.1, .s op.2.2.2]], esz := 4, own := False, fixed := true } → g 2 = .ptr (.l 2) 1 0 0 → g 3 = .ptr (.l 3) 2 0 0 →
      FinC [(2, some (true, 3)), (3, some (true, 4))] [] false drΦ .ret g h c := by
    intro L S O op g h c b1 b2 b3 hd m2 m3 q2 q3
    refine ⟨True, [.agg [.dat 2 (fl L), .dat 2 (fl S), .dat 4 (ol O)], .agg [.i .i64 op.1, .s op.2.1, .s op.2.2.1, .s op.2.2.2]], by simp [resM, resE, q2, q3, loadF, cur, m2, m3, yes], trivial, .tup [disk L S O, .agg (opC op)], [], ⟨rfl, L, S, O, op, b1, b2, b3, hd, rfl⟩, [], ⟨.nil, (fun o ho => by cases ho), rfl, fun k ob hk => by simp at hk⟩, ?_, ?_⟩
    · simp [resOne, retA, retL, disk, opC]
    · simp [resOne, ResOk, ResL]
  simp -dsimp only [k45, go_sem, ↓reduceIte, Nat.reduceEqDiff, Int.reduceLE, Int.reduceLT, Int.reduceNeg, Int.reduceEq, Nat.reduceMul, Nat.reduceAdd, Nat.reduceLeDiff, reduceCtorEq]
  refine Call_new (own := false) { rdO code 0 with ver := 1 } (h64 code) (by simp [ExpOk, AV.pure]) (rd_pure code 0) (.inr (by simp [AV.rooted, AV.ref1])) (by simp) ?_
  simp -dsimp only [impA, Option.getD_some, Nat.sub_self, go_sem, ↓reduceIte, Nat.reduceEqDiff, Int.reduceLE, Int.reduceLT, Int.reduceNeg, Int.reduceEq, Nat.reduceMul, Nat.reduceAdd, Nat.reduceLeDiff, reduceCtorEq]
  refine Call_rds (o := .r 11 0) (p := 0) (v := 3) (fx := true) (vals := []) (by simp [hup_at]; rfl) (h77d code 0 (by omega) hc) (fun a ha => by cases ha) fun ret p' hp' ⟨L, S, O, b1, b2, b3, e⟩ => ⟨by subst e; intros; simp [disk, impA, impL], ?_⟩
  subst e
  unfold disk
  simp -dsimp only [go_sem, ↓reduceIte, Nat.reduceEqDiff, Int.reduceLE, Int.reduceLT, Int.reduceNeg, Int.reduceEq, Nat.reduceMul, Nat.reduceAdd, Nat.reduceLeDiff, reduceCtorEq]
  refine Call_rd (p := p') (v := 3) (fx := true) (by simp [hup_at]) (h97 code p' hp' hc) (fun a ha => by cases ha) ?_
  have hp1 := dopF_le hp'
  have hd3 := dopF_d code p'
  obtain ⟨op, hop⟩ : ∃ op, op = (dopF code p').1 := ⟨_, rfl⟩
  rw [← hop] at hd3 ⊢
  generalize (dopF code p').2 = p1 at hp1
  have ec : opC op = [.i .i64 op.1, .s op.2.1, .s op.2.2.1, .s op.2.2.2] := rfl
  rw [ec]
  simp -dsimp only [go_sem, ↓reduceIte, Nat.reduceEqDiff, Int.reduceLE, Int.reduceLT, Int.reduceNeg, Int.reduceEq, Nat.reduceMul, Nat.reduceAdd, Nat.reduceLeDiff, reduceCtorEq]
  refine Call_rd (p := p1) (v := 3) (fx := true) (by simp [hup_at]) (h65 code p1 20 hp1 hc (by omega)) (fun a ha => by simp at ha; subst ha; exact ⟨rfl, rfl⟩) ?_
  have hp2 := blw_le 20 hp1
  generalize (blw code p1 20).2 = p2 at hp2
  generalize (blw code p1 20).1 = m
  by_cases m0 : m = 0
  · have e0 : ((m : Int) == 0) = true := by simp [m0]
    simp -dsimp only [e0, go_sem, ↓reduceIte, Nat.reduceEqDiff, Int.reduceLE, Int.reduceLT, Int.reduceNeg, Int.reduceEq, Nat.reduceMul, Nat.reduceAdd, Nat.reduceLeDiff, reduceCtorEq]
    refine Call_rds (p := p2) (v := 3) (fx := true) (by simp [hup_at]) (h98 code p2 hp2 hc) (fun a ha => by simp at ha; rcases ha with rfl | rfl <;> exact ⟨rfl, rfl⟩) fun ret p3 hp3 ⟨x, e⟩ => ⟨by subst e; intros; simp [impA], ?_⟩
    subst e
    simp -dsimp only [e0, go_sem, ↓reduceIte, Nat.reduceEqDiff, Int.reduceLE, Int.reduceLT, Int.reduceNeg, Int.reduceEq, Nat.reduceMul, Nat.reduceAdd, Nat.reduceLeDiff, reduceCtorEq]
    exact fin L S O (x, op.2.1, op.2.2.1, op.2.2.2) _ _ _ b1 b2 b3 hd3 (by simp only [hup_at, newObs, ↓reduceIte, Nat.reduceEqDiff, reduceCtorEq, Rid.r.injEq, Rid.l.injEq, Nat.reduceAdd, Nat.zero_add, and_self, and_true, and_false, false_and, true_and] <;> rfl) (by simp only [hup_at, newObs, ↓reduceIte, Nat.reduceEqDiff, reduceCtorEq, Rid.r.injEq, Rid.l.injEq, Nat.reduceAdd, Nat.zero_add, and_self, and_true, and_false, false_and, true_and] <;> rfl) (by simp [upd_at]) (by simp [upd_at])
  have e0 : ((m : Int) == 0) = false := by simp; omega
  by_cases m1 : m = 1
  · have e1 : ((m : Int) == 1) = true := by simp [m1]
    simp -dsimp only [e0, e1, go_sem, ↓reduceIte, Nat.reduceEqDiff, Int.reduceLE, Int.reduceLT, Int.reduceNeg, Int.reduceEq, Nat.reduceMul, Nat.reduceAdd, Nat.reduceLeDiff, reduceCtorEq]
    exact fin L S O (op.1, [], op.2.2.1, op.2.2.2) _ _ _ b1 b2 b3 hd3 (by simp only [hup_at, newObs, ↓reduceIte, Nat.reduceEqDiff, reduceCtorEq, Rid.r.injEq, Rid.l.injEq, Nat.reduceAdd, Nat.zero_add, and_self, and_true, and_false, false_and, true_and] <;> rfl) (by simp only [hup_at, newObs, ↓reduceIte, Nat.reduceEqDiff, reduceCtorEq, Rid.r.injEq, Rid.l.injEq, Nat.reduceAdd, Nat.zero_add, and_self, and_true, and_false, false_and, true_and] <;> rfl) (by simp [upd_at]) (by simp [upd_at])
  have e1 : ((m : Int) == 1) = false := by simp; omega
  by_cases m2 : m = 2
  · have e2 : ((m : Int) == 2) = true := by simp [m2]
    simp -dsimp only [e0, e1, e2, go_sem, ↓reduceIte, Nat.reduceEqDiff, Int.reduceLE, Int.reduceLT, Int.reduceNeg, Int.reduceEq, Nat.reduceMul, Nat.reduceAdd, Nat.reduceLeDiff, reduceCtorEq]
    exact fin L S O (op.1, op.2.1, [120], op.2.2.2) _ _ _ b1 b2 b3 hd3 (by simp only [hup_at, newObs, ↓reduceIte, Nat.reduceEqDiff, reduceCtorEq, Rid.r.injEq, Rid.l.injEq, Nat.reduceAdd, Nat.zero_add, and_self, and_true, and_false, false_and, true_and] <;> rfl) (by simp only [hup_at, newObs, ↓reduceIte, Nat.reduceEqDiff, reduceCtorEq, Rid.r.injEq, Rid.l.injEq, Nat.reduceAdd, Nat.zero_add, and_self, and_true, and_false, false_and, true_and] <;> rfl) (by simp [upd_at]) (by simp [upd_at])
  have e2 : ((m : Int) == 2) = false := by simp; omega
  by_cases m3 : m = 3
  case neg =>
    have e3 : ((m : Int) == 3) = false := by simp; omega
    simp -dsimp only [e0, e1, e2, e3, go_sem, ↓reduceIte, Nat.reduceEqDiff, Int.reduceLE, Int.reduceLT, Int.reduceNeg, Int.reduceEq, Nat.reduceMul, Nat.reduceAdd, Nat.reduceLeDiff, reduceCtorEq]
    exact fin L S O op _ _ _ b1 b2 b3 hd3 (by simp only [hup_at, newObs, ↓reduceIte, Nat.reduceEqDiff, reduceCtorEq, Rid.r.injEq, Rid.l.injEq, Nat.reduceAdd, Nat.zero_add, and_self, and_true, and_false, false_and, true_and] <;> rfl) (by simp only [hup_at, newObs, ↓reduceIte, Nat.reduceEqDiff, reduceCtorEq, Rid.r.injEq, Rid.l.injEq, Nat.reduceAdd, Nat.zero_add, and_self, and_true, and_false, false_and, true_and] <;> rfl) (by simp [upd_at]) (by simp [upd_at])
  have e3 : ((m : Int) == 3) = true := by simp [m3]
  simp -dsimp only [e0, e1, e2, e3, go_sem, ↓reduceIte, Nat.reduceEqDiff, Int.reduceLE, Int.reduceLT, Int.reduceNeg, Int.reduceEq, Nat.reduceMul, Nat.reduceAdd, Nat.reduceLeDiff, reduceCtorEq]
  refine K_loop (fun g h c => ∃ (i : Nat) (L S : List File) (O : List Dop) (p' : Nat), i ≤ 200 ∧ BdF L ∧ BdF S ∧ BdO O ∧ p' ≤ code.length ∧ g 2 = .ptr (.l 2) 1 0 0 ∧ g 3 = .ptr (.l 3) 2 0 0 ∧ g 4 = .ptr (.r 11 0) 3 0 0 ∧ g 5 = .ptr (.l 5) 4 0 0 ∧ g 6 = .ptr (.l 6) 5 0 0 ∧ g 7 = i64 i ∧
    h (.r 11 0) = some (rdV code p' 3 true) ∧ h (.l 2) = some { ver := 1, es := [[.nils, .nils, .nils]], esz := 3, own := False, fixed := true } ∧ h (.l 3) = some { ver := 2, es := [[.i .i64 0, .s [], .s [], .s []]], esz := 4, own := False, fixed := true } ∧
    h (.l 5) = some { ver := 4, es := [[.dat 2 (fl L), .dat 2 (fl S), .dat 4 (ol O)]], esz := 3, own := False, fixed := true } ∧ h (.l 6) = some { ver := 5, es := [[.i .i64 op.1, .s op.2.1, .s op.2.2.1, .s op.2.2.2]], esz := 4, own := False, fixed := true }) (fun g _ _ => match g 7 with | .i _ n => 200 - n.toNat | _ => 0) ?_ ?_
  · exact ⟨0, L, S, O, p2, by omega, b1, b2, b3, hp2, by simp [upd_at], by simp [upd_at], by simp [upd_at], by simp [upd_at], by simp [upd_at], by simp [upd_at], (by simp only [hup_at, newObs, ↓reduceIte, Nat.reduceEqDiff, reduceCtorEq, Rid.r.injEq, Rid.l.injEq, Nat.reduceAdd, Nat.zero_add, and_self, and_true, and_false, false_and, true_and] <;> rfl), (by simp only [hup_at, newObs, ↓reduceIte, Nat.reduceEqDiff, reduceCtorEq, Rid.r.injEq, Rid.l.injEq, Nat.reduceAdd, Nat.zero_add, and_self, and_true, and_false, false_and, true_and] <;> rfl), (by simp only [hup_at, newObs, ↓reduceIte, Nat.reduceEqDiff, reduceCtorEq, Rid.r.injEq, Rid.l.injEq, Nat.reduceAdd, Nat.zero_add, and_self, and_true, and_false, false_and, true_and] <;> rfl), (by simp only [hup_at, newObs, ↓reduceIte, Nat.reduceEqDiff, reduceCtorEq, Rid.r.injEq, Rid.l.injEq, Nat.reduceAdd, Nat.zero_add, and_self, and_true, and_false, false_and, true_and] <;> rfl), (by simp only [hup_at, newObs, ↓reduceIte, Nat.reduceEqDiff, reduceCtorEq, Rid.r.injEq, Rid.l.injEq, Nat.reduceAdd, Nat.zero_add, and_self, and_true, and_false, false_and, true_and] <;> rfl)⟩
  · rintro A n hA g h c ⟨i, L, S, O, p', hi, b1, b2, b3, hp', q2, q3, q4, q5, q6, q7, mr, n2, n3, n5, n6⟩ hn
    simp only [q7] at hn
    by_cases hi2 : i < 200
    case neg =>
      have c1 : ¬ ((i : Int) < 200) := by omega
      simp -dsimp only [q2, q3, q4, q5, q6, q7, mr, n2, n3, n5, n6, c1, go_sem, ↓reduceIte, Nat.reduceEqDiff, Int.reduceLE, Int.reduceLT, Int.reduceNeg, Int.reduceEq, Nat.reduceMul, Nat.reduceAdd, Nat.reduceLeDiff, reduceCtorEq]
      exact fin L S O op _ _ _ b1 b2 b3 hd3 (by simp [hup_at]) (by simp [hup_at]) (by simp [upd_at, q2]) (by simp [upd_at, q3])
    have c1 : (i : Int) < 200 := by omega
    have w1 : IntKind.i64.wrap ((i : Int) + 1) = ((i + 1 : Nat) : Int) := by rw [wr (by omega) (by omega)]; rfl
    simp -dsimp only [q2, q3, q4, q5, q6, q7, mr, n2, n3, n5, n6, c1, go_sem, ↓reduceIte, Nat.reduceEqDiff, Int.reduceLE, Int.reduceLT, Int.reduceNeg, Int.reduceEq, Nat.reduceMul, Nat.reduceAdd, Nat.reduceLeDiff, reduceCtorEq]
    refine Callh_rd rfl mr (h65 code p' 2 hp' hc (by omega)) (fun a ha => by simp at ha; subst ha; exact ⟨rfl, rfl⟩) ?_
    have hp3 := blw_le 2 hp'
    have hy := blw_lt code p' 2 (by omega)
    generalize (blw code p' 2).2 = p3 at hp3
    generalize (blw code p' 2).1 = y at hy
    have w2 : IntKind.i64.wrap (199 + (y : Int)) = ((199 + y : Nat) : Int) := by rw [wr (by omega) (by omega)]; omega
    by_cases hO : O.length < 199 + y
    case neg =>
      have c2 : ¬ ((O.length : Int) < ((199 + y : Nat) : Int)) := by omega
      simp -dsimp only [q2, q3, q4, q5, q6, q7, n2, n3, n5, n6, w2, ol_len, c2, go_sem, ↓reduceIte, Nat.reduceEqDiff, Int.reduceLE, Int.reduceLT, Int.reduceNeg, Int.reduceEq, Nat.reduceMul, Nat.reduceAdd, Nat.reduceLeDiff, reduceCtorEq]
      exact fin L S O op _ _ _ b1 b2 b3 hd3 (by simp [hup_at]) (by simp [hup_at]) (by simp [upd_at, q2]) (by simp [upd_at, q3])
    have c2 : (O.length : Int) < ((199 + y : Nat) : Int) := by omega
    cases hk : diskB L S O
    · have d47 := h47_no L S O (1, [98], [], []) b1 b2 b3 hk
      have eb : opC (1, [98], [], []) = [.i .i64 1, .s [98], .s [], .s []] := rfl
      rw [eb] at d47
      unfold disk nilA at d47
      have f10 : ((1 : Int) == 0) = false := rfl
      simp -dsimp only [q2, q3, q4, q5, q6, q7, n2, n3, n5, n6, w2, ol_len, c2, go_sem, ↓reduceIte, Nat.reduceEqDiff, Int.reduceLE, Int.reduceLT, Int.reduceNeg, Int.reduceEq, Nat.reduceMul, Nat.reduceAdd, Nat.reduceLeDiff, reduceCtorEq]
      refine Call_val (own := true) (d47) (by simp [ExpOk, AV.pure]) (.inl rfl) ?_
      simp -dsimp only [q2, q3, q4, q5, q6, q7, n2, n3, n5, n6, f10, w1, go_sem, ↓reduceIte, Nat.reduceEqDiff, Int.reduceLE, Int.reduceLT, Int.reduceNeg, Int.reduceEq, Nat.reduceMul, Nat.reduceAdd, Nat.reduceLeDiff, reduceCtorEq]
      refine hA _ _ _ ⟨i + 1, L, S, O, p3, by omega, b1, b2, b3, hp3, by simp [upd_at, q2], by simp [upd_at, q3], by simp [upd_at, q4], by simp [upd_at, q5], by simp [upd_at, q6], by simp [upd_at], by simp [hup_at], by simp [hup_at, n2], by simp [hup_at, n3], by simp [hup_at, n5], by simp [hup_at, n6]⟩ ?_
      rw [← hn]; simp [upd_at]; omega
    · have d47 := h47 L S O (1, [98], [], []) b1 b2 b3 (by simp) hk
      obtain ⟨b1', b3'⟩ := do_bd (op := (1, [98], [], [])) b3 (by simp) hk
      have eb : opC (1, [98], [], []) = [.i .i64 1, .s [98], .s [], .s []] := rfl
      rw [eb] at d47
      unfold doV disk at d47
      simp -dsimp only [q2, q3, q4, q5, q6, q7, n2, n3, n5, n6, w2, ol_len, c2, go_sem, ↓reduceIte, Nat.reduceEqDiff, Int.reduceLE, Int.reduceLT, Int.reduceNeg, Int.reduceEq, Nat.reduceMul, Nat.reduceAdd, Nat.reduceLeDiff, reduceCtorEq]
      refine Call_val (own := false) (d47) (by simp [ExpOk, AV.pure]) (.inr (by simp [AV.rooted, AV.ref1])) ?_
      by_cases e9 : doC L O (1, [98], [], []) = 0
      · have f0 : (doC L O (1, [98], [], []) == 0) = true := by simp [e9]
        simp -dsimp only [q2, q3, q4, q5, q6, q7, n2, n3, n5, n6, f0, w1, go_sem, ↓reduceIte, Nat.reduceEqDiff, Int.reduceLE, Int.reduceLT, Int.reduceNeg, Int.reduceEq, Nat.reduceMul, Nat.reduceAdd, Nat.reduceLeDiff, reduceCtorEq]
        refine hA _ _ _ ⟨i + 1, _, S, _, p3, by omega, b1', b2, b3', hp3, by simp [upd_at, q2], by simp [upd_at, q3], by simp [upd_at, q4], by simp [upd_at, q5], by simp [upd_at, q6], by simp [upd_at], by simp [hup_at], by simp [hup_at, n2], by simp [hup_at, n3], by simp [hup_at, n5], by simp [hup_at, n6]⟩ ?_
        rw [← hn]; simp [upd_at]; omega
      · have f0 : (doC L O (1, [98], [], []) == 0) = false := by simp [e9]
        simp -dsimp only [q2, q3, q4, q5, q6, q7, n2, n3, n5, n6, f0, w1, go_sem, ↓reduceIte, Nat.reduceEqDiff, Int.reduceLE, Int.reduceLT, Int.reduceNeg, Int.reduceEq, Nat.reduceMul, Nat.reduceAdd, Nat.reduceLeDiff, reduceCtorEq]
        refine hA _ _ _ ⟨i + 1, L, S, O, p3, by omega, b1, b2, b3, hp3, by simp [upd_at, q2], by simp [upd_at, q3], by simp [upd_at, q4], by simp [upd_at, q5], by simp [upd_at, q6], by simp [upd_at], by simp [hup_at], by simp [hup_at, n2], by simp [hup_at, n3], by simp [hup_at, n5], by simp [hup_at, n6]⟩ ?_
        rw [← hn]; simp [upd_at]; omega
end FrA

/-! DkLk -/
open Go Go.AM
namespace FrA
/-- What stands under a name. -/
def lk (n : List UInt8) : List File → Option (List UInt8)
  | [] => none
  | f :: l => if cmpB f.1 n < 0 then lk n l else if cmpB f.1 n = 0 then some f.2 else none
theorem lk_cons (n : List UInt8) (f : File) (l : List File) : lk n (f :: l) = if cmpB f.1 n < 0 then lk n l else if cmpB f.1 n = 0 then some f.2 else none := rfl
theorem has_lk (n : List UInt8) : ∀ l : List File, has n l = (lk n l).isSome
  | [] => rfl
  | f :: l => by
    rw [lk_cons, has]
    by_cases h1 : cmpB f.1 n < 0
    · rw [if_pos h1, if_pos h1]; exact has_lk n l
    · rw [if_neg h1, if_neg h1]
      by_cases h2 : cmpB f.1 n = 0 <;> simp [h2]
theorem olda_cons (n : List UInt8) (f : File) (l : List File) : olda (f :: l) n = if cmpB f.1 n < 0 then olda l n else if cmpB f.1 n = 0 then f.2 else [] := by
  unfold olda; simp only [has, pos]
  by_cases h1 : cmpB f.1 n < 0
  · simp only [h1, if_true]; split <;> simp
  · simp only [h1, if_false]
    by_cases h2 : cmpB f.1 n = 0 <;> simp [h2]
theorem olda_lk (n : List UInt8) : ∀ l : List File, olda l n = (lk n l).getD []
  | [] => rfl
  | f :: l => by
    rw [olda_cons, lk_cons]
    by_cases h1 : cmpB f.1 n < 0
    · rw [if_pos h1, if_pos h1]; exact olda_lk n l
    · rw [if_neg h1, if_neg h1]
      by_cases h2 : cmpB f.1 n = 0 <;> simp [h2]
theorem cmpB_ne {a b : List UInt8} (h : a ≠ b) : cmpB b a ≠ 0 := fun x => h (cmpB_eq _ _ x).symm
theorem lk_put (n d m : List UInt8) : ∀ l : List File, lk m (put l n d) = if m = n then some d else lk m l
  | [] => by
    have e : put [] n d = [(n, d)] := by simp [put, has, pos]
    rw [e, lk_cons]
    by_cases hm : m = n
    · subst hm; simp [cmpB_self]
    · have := cmpB_ne hm
      simp [this, hm, lk]
  | f :: l => by
    rw [put_cons]
    by_cases h1 : cmpB f.1 n < 0
    · rw [if_pos h1, lk_cons, lk_put n d m l, lk_cons]
      by_cases e : m = n
      · subst e; simp [h1]
      · simp [e]
    · rw [if_neg h1]
      by_cases h2 : cmpB f.1 n = 0
      · have e2 := cmpB_eq _ _ h2
        rw [if_pos h2, lk_cons, lk_cons, e2]
        by_cases e : m = n
        · subst e; simp [cmpB_self]
        · have := cmpB_ne e
          simp [e, this]
      · rw [if_neg h2, lk_cons]
        by_cases e : m = n
        · subst e; simp [cmpB_self]
        · have hne := cmpB_ne e
          simp only [e, hne, if_false]
          by_cases h3 : cmpB n m < 0
          · simp [h3]
          · have g1 : cmpB m n < 0 := by have := cmpB_flip n m; omega
            have g2 : cmpB n f.1 < 0 := by have := cmpB_flip f.1 n; omega
            have g3 := cmpB_trans _ _ _ g1 g2
            have g4 := cmpB_flip f.1 m
            rw [lk_cons, if_neg h3, if_neg (by omega), if_neg (by omega)]
theorem lk_gt {m : List UInt8} : ∀ {l : List File}, (∀ g ∈ l, ¬ cmpB g.1 m < 0 ∧ cmpB g.1 m ≠ 0) → lk m l = none
  | [], _ => rfl
  | f :: l, h => by
    obtain ⟨h1, h2⟩ := h f (by simp)
    rw [lk_cons, if_neg h1, if_neg h2]
theorem cut_cons (f : File) (l : List File) (n : List UInt8) : cut (f :: l) n = if cmpB f.1 n < 0 then f :: cut l n else if cmpB f.1 n = 0 then l else f :: l := by
  unfold cut
  simp only [has, pos]
  by_cases h1 : cmpB f.1 n < 0
  · simp only [h1, if_true]; split <;> simp
  · simp only [h1, if_false]
    by_cases h2 : cmpB f.1 n = 0 <;> simp [h2]
theorem lk_cut (n m : List UInt8) : ∀ l : List File, Srt l → lk m (cut l n) = if m = n then none else lk m l
  | [], _ => by
    have e : cut [] n = [] := by simp [cut, has]
    rw [e]; simp [lk]
  | f :: l, hs => by
    rw [cut_cons]
    by_cases h1 : cmpB f.1 n < 0
    · rw [if_pos h1, lk_cons, lk_cut n m l (List.pairwise_cons.1 hs).2, lk_cons]
      by_cases e : m = n
      · subst e; simp [h1]
      · simp [e]
    · rw [if_neg h1]
      have hg := srt_gt hs h1
      by_cases h2 : cmpB f.1 n = 0
      · have e2 := cmpB_eq _ _ h2
        rw [if_pos h2, lk_cons, e2]
        by_cases e : m = n
        · subst e; rw [lk_gt hg]; simp
        · have hne := cmpB_ne e
          by_cases h3 : cmpB n m < 0
          · simp [e, h3]
          · rw [lk_gt (srt_gt hs (by rw [e2]; exact h3))]; simp [e, h3, hne]
      · rw [if_neg h2]
        by_cases e : m = n
        · subst e; rw [lk_cons, if_neg h1, if_neg h2]; simp
        · simp [e]
theorem doC_0 {L : List File} {O : List Dop} {op : Dop} (h : doC L O op = 0) : form op = true ∧ actB L op = true ∧ O.length ≠ 200 ∧ okF (act L op) = true := by
  unfold doC at h
  split at h
  · cases h
  · next h1 =>
    split at h
    · cases h
    · next h2 =>
      split at h
      · cases h
      · next h3 =>
        refine ⟨by simpa using h1, by simpa using h2, fun e => h3 (.inl e), ?_⟩
        cases e : okF (act L op)
        · exact absurd (.inr e) h3
        · rfl
theorem doL_0 {L : List File} {O : List Dop} {op : Dop} (h : doC L O op = 0) : doL L O op = act L op ∧ doO L O op = O ++ [op] := by unfold doL doO; rw [if_pos h, if_pos h]; exact ⟨rfl, rfl⟩
theorem eqFs_self (a : List File) : eqFs a a = true := by unfold eqFs; exact @decide_eq_true _ (Classical.propDecidable _) rfl
theorem diskB_mk {L S : List File} {O : List Dop} (h1 : okF L = true) (h2 : okF S = true) (h3 : O.length ≤ 200) (h4 : runOps S O = some L) : diskB L S O = true := by
  unfold diskB; rw [h1, h2, h4]; simp [h3, eqFs_self]
theorem disk_done {L S : List File} {O : List Dop} {op : Dop} (hk : diskB L S O = true) (hc : doC L O op = 0) : diskB (act L op) S (O ++ [op]) = true := by
  obtain ⟨c1, c2, c3, c4⟩ := doC_0 hc
  obtain ⟨k1, k2, k3⟩ := diskB_ok hk
  refine diskB_mk c4 (okF_t.2 k2) (by simp; omega) ?_
  rw [run_app, diskB_run hk, Option.bind_some, runOps_yes c1 c2 c4, runOps]
/-- What is read behind an op. -/
theorem rd_append {L : List File} {op : Dop} (h1 : op.1 = 1) : has op.2.1 (act L op) = true ∧ olda (act L op) op.2.1 = olda L op.2.1 ++ op.2.2.2 := by
  have e : act L op = put L op.2.1 (olda L op.2.1 ++ op.2.2.2) := by unfold act; rw [if_pos h1]
  rw [e, has_lk, olda_lk op.2.1 (put _ _ _), lk_put]; simp
theorem rd_rename {L : List File} {op : Dop} (hs : Srt L) (h1 : op.1 = 2) (hb : actB L op = true) : has op.2.2.1 (act L op) = true ∧ olda (act L op) op.2.2.1 = olda L op.2.1 ∧ has op.2.1 (act L op) = (op.2.2.1 == op.2.1) := by
  have hh : has op.2.1 L = true := by unfold actB at hb; rw [h1] at hb; simpa using hb
  have e : act L op = put (cut L op.2.1) op.2.2.1 (olda L op.2.1) := by unfold act; rw [h1, hh]; simp
  refine ⟨?_, ?_, ?_⟩
  · rw [e, has_lk, lk_put]; simp
  · rw [e, olda_lk op.2.2.1 (put _ _ _), lk_put]; simp
  · rw [e, has_lk, lk_put, lk_cut _ _ _ hs]
    by_cases q : op.2.1 = op.2.2.1
    · simp [q]
    · simp [q, Ne.symm q]
theorem rd_remove {L : List File} {op : Dop} (hs : Srt L) (h1 : op.1 = 3) (hb : actB L op = true) : has op.2.1 (act L op) = false := by
  have hh : has op.2.1 L = true := by unfold actB at hb; rw [h1] at hb; simpa using hb
  have e : act L op = cut L op.2.1 := by unfold act; rw [h1, hh]; simp
  rw [e, has_lk, lk_cut _ _ _ hs]; simp
theorem form_kind {op : Dop} (h : form op = true) : op.1 = 1 ∨ op.1 = 2 ∨ op.1 = 3 := by
  unfold form at h
  split at h
  · next h1 => exact .inl h1
  · split at h
    · next h2 => exact .inr (.inl h2)
    · simp only [Bool.and_eq_true, beq_iff_eq] at h
      exact .inr (.inr h.1.1.1)
end FrA

/-! DnA -/
open Go Go.AM
namespace FrA
open Go.Proofs
set_option maxRecDepth 100000
set_option linter.unusedSimpArgs false
theorem olda_b {L : List File} (b : BdF L) (n : List UInt8) : (olda L n).length ≤ 1099511627776 := by
  unfold olda
  split
  · next h => exact b.2 _ (getD_mem (has_lt h))
  · simp
theorem h10 (code : List UInt8) : HT 10 [.dat 1 (bts code)] [] (.b true) true [] := by
  refine holds_of (c := Try.f10.body.getD .skip) (k := k10.1) (ts := [2]) HOk mixedT hintT Try.func10 (by kernel_rfl) (by kernel_rfl) (by kernel_rfl) k10.2 (by kernel_rfl) (le_of 1 _ (by kernel_rfl)) ?_
  by_cases hs : code.length ≤ 1048576
  case neg =>
    have c0 : (code.length : Int) > 1048576 := by omega
    simp -dsimp only [k10, go_sem, ↓reduceIte, Nat.reduceEqDiff, Int.reduceLE, Int.reduceLT, Int.reduceNeg, Int.reduceEq, Nat.reduceMul, Nat.reduceAdd, Nat.reduceLeDiff, reduceCtorEq]
    refine Call_val (own := true) (h23 code) (by simp [ExpOk, AV.pure]) (.inl rfl) ?_
    simp -dsimp only [c0, go_sem, ↓reduceIte, Nat.reduceEqDiff, Int.reduceLE, Int.reduceLT, Int.reduceNeg, Int.reduceEq, Nat.reduceMul, Nat.reduceAdd, Nat.reduceLeDiff, reduceCtorEq]
    exact Fin_val (by simp [resV, upd_at, retA]) (by simp [resV, upd_at, ResOk])
  have c0 : ¬ (code.length : Int) > 1048576 := by omega
  simp -dsimp only [k10, go_sem, ↓reduceIte, Nat.reduceEqDiff, Int.reduceLE, Int.reduceLT, Int.reduceNeg, Int.reduceEq, Nat.reduceMul, Nat.reduceAdd, Nat.reduceLeDiff, reduceCtorEq]
  refine Call_val (own := true) (h23 code) (by simp [ExpOk, AV.pure]) (.inl rfl) ?_
  simp -dsimp only [c0, go_sem, ↓reduceIte, Nat.reduceEqDiff, Int.reduceLE, Int.reduceLT, Int.reduceNeg, Int.reduceEq, Nat.reduceMul, Nat.reduceAdd, Nat.reduceLeDiff, reduceCtorEq]
  refine Call_vals (own := false) (h45 code hs) (by simp [ExpOk, AV.pure]) (.inr (by simp [AV.rooted, AV.ref1])) fun r o' ⟨eo, L, S, O, op, b1, b2, b3, hop, er⟩ => ⟨eo, by subst er; intros; simp [disk, opC, impA, impL], ?_⟩
  subst er
  have hop' : op.2.2.2.length ≤ 1000000000 := by omega
  have ec : opC op = [.i .i64 op.1, .s op.2.1, .s op.2.2.1, .s op.2.2.2] := rfl
  have d36 := h36 L S O b1 b2 b3
  rw [ec]
  cases hk : diskB L S O
  · have d46 := h46_no L S O op b1 b2 b3 hk
    have d47 := h47_no L S O op b1 b2 b3 hk
    rw [hk] at d36
    rw [ec] at d46 d47
    unfold disk at d36 d46 d47 ⊢
    unfold nilA at d46 d47
    have f11 : ((1 : Int) != 1) = false := rfl
    simp -dsimp only [go_sem, ↓reduceIte, Nat.reduceEqDiff, Int.reduceLE, Int.reduceLT, Int.reduceNeg, Int.reduceEq, Nat.reduceMul, Nat.reduceAdd, Nat.reduceLeDiff, reduceCtorEq]
    refine Call_val (own := true) (d46) (by simp [ExpOk, AV.pure]) (.inl rfl) ?_
    simp -dsimp only [go_sem, ↓reduceIte, Nat.reduceEqDiff, Int.reduceLE, Int.reduceLT, Int.reduceNeg, Int.reduceEq, Nat.reduceMul, Nat.reduceAdd, Nat.reduceLeDiff, reduceCtorEq]
    refine Call_val (own := true) (d47) (by simp [ExpOk, AV.pure]) (.inl rfl) ?_
    simp -dsimp only [f11, go_sem, ↓reduceIte, Nat.reduceEqDiff, Int.reduceLE, Int.reduceLT, Int.reduceNeg, Int.reduceEq, Nat.reduceMul, Nat.reduceAdd, Nat.reduceLeDiff, reduceCtorEq]
    refine Call_val (own := true) (d36) (by simp [ExpOk, AV.pure]) (.inl rfl) ?_
    simp -dsimp only [go_sem, ↓reduceIte, Nat.reduceEqDiff, Int.reduceLE, Int.reduceLT, Int.reduceNeg, Int.reduceEq, Nat.reduceMul, Nat.reduceAdd, Nat.reduceLeDiff, reduceCtorEq]
    exact Fin_val (by simp [resV, upd_at, retA]) (by simp [resV, upd_at, ResOk])
  have d46 := h46 L S O op b1 b2 b3 hop' hk
  have d47 := h47 L S O op b1 b2 b3 hop' hk
  obtain ⟨b1', b3'⟩ := do_bd (op := op) b3 hop' hk
  obtain ⟨k1, k2, k3⟩ := diskB_ok hk
  rw [hk] at d36
  have x1 : doC L O op ≠ 0 → doL L O op = L ∧ doO L O op = O := fun h => do_bad rfl h
  have x0 : doC L O op = 0 → diskB (doL L O op) S (doO L O op) = true ∧ (doO L O op).length = O.length + 1 ∧ (op.1 = 1 ∨ op.1 = 2 ∨ op.1 = 3) ∧
      (op.1 = 1 → has op.2.1 (doL L O op) = true ∧ olda (doL L O op) op.2.1 = olda L op.2.1 ++ op.2.2.2) ∧
      (op.1 = 2 → has op.2.2.1 (doL L O op) = true ∧ olda (doL L O op) op.2.2.1 = olda L op.2.1 ∧ has op.2.1 (doL L O op) = (op.2.2.1 == op.2.1)) ∧
      (op.1 = 3 → has op.2.1 (doL L O op) = false) := fun h => by
    obtain ⟨e1, e2⟩ := doL_0 h
    obtain ⟨c1, c2, _, _⟩ := doC_0 h
    rw [e1, e2]
    exact ⟨disk_done hk h, by simp, form_kind c1, rd_append, fun q => rd_rename (ok_srt k1) q c2, fun q => rd_remove (ok_srt k1) q c2⟩
  rw [ec] at d46 d47
  unfold doR doOb copyA at d46
  unfold doV at d47
  generalize doL L O op = L' at *
  generalize doO L O op = O' at *
  generalize doC L O op = e at *
  have d44 := fun n => h44 L S O n b1 b2 b3
  have d44' := fun n => h44 L' S O' n b1' b2 b3'
  have d35' := h35 L' S O' b1' b2 b3'
  have l39 := h39 L b1.1
  have s39 := h39 S b2.1
  simp only [rdR_yes hk] at d44
  have hO := b3.1
  have hO' := b3'.1
  unfold disk at d36 d44 d44' d35' d47 ⊢
  have f0 : (e != e) = false := by simp
  simp -dsimp only [go_sem, ↓reduceIte, Nat.reduceEqDiff, Int.reduceLE, Int.reduceLT, Int.reduceNeg, Int.reduceEq, Nat.reduceMul, Nat.reduceAdd, Nat.reduceLeDiff, reduceCtorEq]
  refine Call_news (own := true) (b := obF L') (obs' := [obF S, obO O']) d46 (by simp [ExpOk, AV.pure]) (by simp [obF, obO, fl_pure, ol_pure]) (.inl rfl) (by simp [obF, obO]) ?_
  simp -dsimp only [impA, impL, Option.getD_some, Nat.sub_self, Nat.sub_zero, obF, obO, go_sem, ↓reduceIte, Nat.reduceEqDiff, Int.reduceLE, Int.reduceLT, Int.reduceNeg, Int.reduceEq, Nat.reduceMul, Nat.reduceAdd, Nat.reduceLeDiff, reduceCtorEq]
  refine Call_val (own := false) (d47) (by simp [ExpOk, AV.pure]) (.inr (by simp [AV.rooted, AV.ref1])) ?_
  simp -dsimp only [f0, go_sem, ↓reduceIte, Nat.reduceEqDiff, Int.reduceLE, Int.reduceLT, Int.reduceNeg, Int.reduceEq, Nat.reduceMul, Nat.reduceAdd, Nat.reduceLeDiff, reduceCtorEq]
  refine Call_val (own := true) (d36) (by simp [ExpOk, AV.pure]) (.inl rfl) ?_
  simp -dsimp only [f0, go_sem, ↓reduceIte, Nat.reduceEqDiff, Int.reduceLE, Int.reduceLT, Int.reduceNeg, Int.reduceEq, Nat.reduceMul, Nat.reduceAdd, Nat.reduceLeDiff, reduceCtorEq]
  by_cases e0 : e = 0
  case neg =>
    obtain ⟨y1, y2⟩ := x1 e0
    subst y1; subst y2
    have f1 : (e != 0) = true := by simp [e0]
    have f2 : ((O'.length : Int) == (O'.length : Int)) = true := by simp
    simp -dsimp only [f1, go_sem, ↓reduceIte, Nat.reduceEqDiff, Int.reduceLE, Int.reduceLT, Int.reduceNeg, Int.reduceEq, Nat.reduceMul, Nat.reduceAdd, Nat.reduceLeDiff, reduceCtorEq]
    refine Call_val (own := true) (v := .b true) (by simpa [expL, expA, cur, hup_at, List.idxOf?_cons, List.idxOf?_nil, obM, subF, subO, subFm, subOm, fl_len, ol_len, mkF_len, mkO_len, objs_l, objs_r, objs_p] using l39) (by simp [ExpOk, AV.pure, cur, hup_at, List.idxOf?_cons, List.idxOf?_nil, obM, fl_len, ol_len, fl_pure, ol_pure, mkF_len, mkO_len, objs_l, objs_r, objs_p]) (.inl rfl) ?_
    simp -dsimp only [f1, go_sem, ↓reduceIte, Nat.reduceEqDiff, Int.reduceLE, Int.reduceLT, Int.reduceNeg, Int.reduceEq, Nat.reduceMul, Nat.reduceAdd, Nat.reduceLeDiff, reduceCtorEq]
    refine Call_val (own := true) (v := .b true) (by simpa [expL, expA, cur, hup_at, List.idxOf?_cons, List.idxOf?_nil, obM, subF, subO, subFm, subOm, fl_len, ol_len, mkF_len, mkO_len, objs_l, objs_r, objs_p] using s39) (by simp [ExpOk, AV.pure, cur, hup_at, List.idxOf?_cons, List.idxOf?_nil, obM, fl_len, ol_len, fl_pure, ol_pure, mkF_len, mkO_len, objs_l, objs_r, objs_p]) (.inl rfl) ?_
    simp -dsimp only [f1, ol_len, f2, go_sem, ↓reduceIte, Nat.reduceEqDiff, Int.reduceLE, Int.reduceLT, Int.reduceNeg, Int.reduceEq, Nat.reduceMul, Nat.reduceAdd, Nat.reduceLeDiff, reduceCtorEq]
    exact Fin_val (by simp [resV, upd_at, retA]) (by simp [resV, upd_at, ResOk])
  obtain ⟨y1, y2, y3, y4, y5, y6⟩ := x0 e0
  have f1 : (e != 0) = false := by simp [e0]
  simp only [rdR_yes y1] at d44'
  rw [y1] at d35'
  have w1 : IntKind.i64.wrap ((O.length : Int) + 1) = ((O.length + 1 : Nat) : Int) := by rw [wr (by omega) (by omega)]; rfl
  have f3 : ((O'.length : Int) == ((O.length + 1 : Nat) : Int)) = true := by rw [y2]; simp
  have ol1 := olda_b b1 op.2.1
  simp -dsimp only [f1, go_sem, ↓reduceIte, Nat.reduceEqDiff, Int.reduceLE, Int.reduceLT, Int.reduceNeg, Int.reduceEq, Nat.reduceMul, Nat.reduceAdd, Nat.reduceLeDiff, reduceCtorEq]
  refine Call_val (own := true) (v := .tup [.s (olda L' op.2.1), .b (has op.2.1 L')]) (by simpa [expL, expA, cur, hup_at, List.idxOf?_cons, List.idxOf?_nil, obM, subF, subO, subFm, subOm, fl_len, ol_len, mkF_len, mkO_len, objs_l, objs_r, objs_p] using d44' op.2.1) (by simp [ExpOk, AV.pure, cur, hup_at, List.idxOf?_cons, List.idxOf?_nil, obM, fl_len, ol_len, fl_pure, ol_pure, mkF_len, mkO_len, objs_l, objs_r, objs_p]) (.inl rfl) ?_
  simp -dsimp only [f1, go_sem, ↓reduceIte, Nat.reduceEqDiff, Int.reduceLE, Int.reduceLT, Int.reduceNeg, Int.reduceEq, Nat.reduceMul, Nat.reduceAdd, Nat.reduceLeDiff, reduceCtorEq]
  refine Call_val (own := true) (d44 op.2.1) (by simp [ExpOk, AV.pure]) (.inl rfl) ?_
  rcases y3 with z | z | z
  · obtain ⟨p1, p2⟩ := y4 z
    rw [p1, p2]
    have g1 : (op.1 == 1) = true := by simp [z]
    have g4 : ((olda L op.2.1 ++ op.2.2.2) == (olda L op.2.1 ++ op.2.2.2)) = true := by simp
    simp -dsimp only [f1, g1, go_sem, ↓reduceIte, Nat.reduceEqDiff, Int.reduceLE, Int.reduceLT, Int.reduceNeg, Int.reduceEq, Nat.reduceMul, Nat.reduceAdd, Nat.reduceLeDiff, reduceCtorEq]
    refine VK_p (by omega) ?_
    simp -dsimp only [f1, g1, g4, Bool.not_true, go_sem, ↓reduceIte, Nat.reduceEqDiff, Int.reduceLE, Int.reduceLT, Int.reduceNeg, Int.reduceEq, Nat.reduceMul, Nat.reduceAdd, Nat.reduceLeDiff, reduceCtorEq]
    refine Call_val (own := true) (v := .b true) (by simpa [expL, expA, cur, hup_at, List.idxOf?_cons, List.idxOf?_nil, obM, subF, subO, subFm, subOm, fl_len, ol_len, mkF_len, mkO_len, objs_l, objs_r, objs_p] using d35') (by simp [ExpOk, AV.pure, cur, hup_at, List.idxOf?_cons, List.idxOf?_nil, obM, fl_len, ol_len, fl_pure, ol_pure, mkF_len, mkO_len, objs_l, objs_r, objs_p]) (.inl rfl) ?_
    simp -dsimp only [f1, g1, g4, go_sem, ↓reduceIte, Nat.reduceEqDiff, Int.reduceLE, Int.reduceLT, Int.reduceNeg, Int.reduceEq, Nat.reduceMul, Nat.reduceAdd, Nat.reduceLeDiff, reduceCtorEq]
    refine Call_val (own := true) (v := .b true) (by simpa [expL, expA, cur, hup_at, List.idxOf?_cons, List.idxOf?_nil, obM, subF, subO, subFm, subOm, fl_len, ol_len, mkF_len, mkO_len, objs_l, objs_r, objs_p] using s39) (by simp [ExpOk, AV.pure, cur, hup_at, List.idxOf?_cons, List.idxOf?_nil, obM, fl_len, ol_len, fl_pure, ol_pure, mkF_len, mkO_len, objs_l, objs_r, objs_p]) (.inl rfl) ?_
    simp -dsimp only [ol_len, w1, f3, go_sem, ↓reduceIte, Nat.reduceEqDiff, Int.reduceLE, Int.reduceLT, Int.reduceNeg, Int.reduceEq, Nat.reduceMul, Nat.reduceAdd, Nat.reduceLeDiff, reduceCtorEq]
    exact Fin_val (by simp [resV, upd_at, retA]) (by simp [resV, upd_at, ResOk])
  · obtain ⟨p1, p2, p3⟩ := y5 z
    rw [p3]
    have g1 : (op.1 == 1) = false := by simp [z]
    have g2 : (op.1 == 2) = true := by simp [z]
    have g4 : (olda L op.2.1 == olda L op.2.1) = true := by simp
    have g6 : (!true) = false := rfl
    have g8 : (true != true) = false := rfl
    have dt := d44' op.2.2.1
    rw [p1, p2] at dt
    have g5 : ((op.2.2.1 == op.2.1) == (op.2.2.1 == op.2.1)) = true := by simp
    have g7 : ((op.2.2.1 == op.2.1) != (op.2.2.1 == op.2.1)) = false := by simp
    simp -dsimp only [f1, g1, g2, go_sem, ↓reduceIte, Nat.reduceEqDiff, Int.reduceLE, Int.reduceLT, Int.reduceNeg, Int.reduceEq, Nat.reduceMul, Nat.reduceAdd, Nat.reduceLeDiff, reduceCtorEq]
    refine Call_val (own := true) (v := .tup [.s (olda L op.2.1), .b true]) (by simpa [expL, expA, cur, hup_at, List.idxOf?_cons, List.idxOf?_nil, obM, subF, subO, subFm, subOm, fl_len, ol_len, mkF_len, mkO_len, objs_l, objs_r, objs_p] using dt) (by simp [ExpOk, AV.pure, cur, hup_at, List.idxOf?_cons, List.idxOf?_nil, obM, fl_len, ol_len, fl_pure, ol_pure, mkF_len, mkO_len, objs_l, objs_r, objs_p]) (.inl rfl) ?_
    simp -dsimp only [f1, g1, g2, g4, g5, g6, g7, g8, go_sem, ↓reduceIte, Nat.reduceEqDiff, Int.reduceLE, Int.reduceLT, Int.reduceNeg, Int.reduceEq, Nat.reduceMul, Nat.reduceAdd, Nat.reduceLeDiff, reduceCtorEq]
    refine Call_val (own := true) (v := .b true) (by simpa [expL, expA, cur, hup_at, List.idxOf?_cons, List.idxOf?_nil, obM, subF, subO, subFm, subOm, fl_len, ol_len, mkF_len, mkO_len, objs_l, objs_r, objs_p] using d35') (by simp [ExpOk, AV.pure, cur, hup_at, List.idxOf?_cons, List.idxOf?_nil, obM, fl_len, ol_len, fl_pure, ol_pure, mkF_len, mkO_len, objs_l, objs_r, objs_p]) (.inl rfl) ?_
    simp -dsimp only [f1, g1, g4, go_sem, ↓reduceIte, Nat.reduceEqDiff, Int.reduceLE, Int.reduceLT, Int.reduceNeg, Int.reduceEq, Nat.reduceMul, Nat.reduceAdd, Nat.reduceLeDiff, reduceCtorEq]
    refine Call_val (own := true) (v := .b true) (by simpa [expL, expA, cur, hup_at, List.idxOf?_cons, List.idxOf?_nil, obM, subF, subO, subFm, subOm, fl_len, ol_len, mkF_len, mkO_len, objs_l, objs_r, objs_p] using s39) (by simp [ExpOk, AV.pure, cur, hup_at, List.idxOf?_cons, List.idxOf?_nil, obM, fl_len, ol_len, fl_pure, ol_pure, mkF_len, mkO_len, objs_l, objs_r, objs_p]) (.inl rfl) ?_
    simp -dsimp only [ol_len, w1, f3, go_sem, ↓reduceIte, Nat.reduceEqDiff, Int.reduceLE, Int.reduceLT, Int.reduceNeg, Int.reduceEq, Nat.reduceMul, Nat.reduceAdd, Nat.reduceLeDiff, reduceCtorEq]
    exact Fin_val (by simp [resV, upd_at, retA]) (by simp [resV, upd_at, ResOk])
  · have p3 := y6 z
    rw [p3]
    have g1 : (op.1 == 1) = false := by simp [z]
    have g2 : (op.1 == 2) = false := by simp [z]
    have g3 : (op.1 == 3) = true := by simp [z]
    simp -dsimp only [f1, g1, g2, g3, go_sem, ↓reduceIte, Nat.reduceEqDiff, Int.reduceLE, Int.reduceLT, Int.reduceNeg, Int.reduceEq, Nat.reduceMul, Nat.reduceAdd, Nat.reduceLeDiff, reduceCtorEq]
    refine Call_val (own := true) (v := .b true) (by simpa [expL, expA, cur, hup_at, List.idxOf?_cons, List.idxOf?_nil, obM, subF, subO, subFm, subOm, fl_len, ol_len, mkF_len, mkO_len, objs_l, objs_r, objs_p] using d35') (by simp [ExpOk, AV.pure, cur, hup_at, List.idxOf?_cons, List.idxOf?_nil, obM, fl_len, ol_len, fl_pure, ol_pure, mkF_len, mkO_len, objs_l, objs_r, objs_p]) (.inl rfl) ?_
    simp -dsimp only [f1, g1, go_sem, ↓reduceIte, Nat.reduceEqDiff, Int.reduceLE, Int.reduceLT, Int.reduceNeg, Int.reduceEq, Nat.reduceMul, Nat.reduceAdd, Nat.reduceLeDiff, reduceCtorEq]
    refine Call_val (own := true) (v := .b true) (by simpa [expL, expA, cur, hup_at, List.idxOf?_cons, List.idxOf?_nil, obM, subF, subO, subFm, subOm, fl_len, ol_len, mkF_len, mkO_len, objs_l, objs_r, objs_p] using s39) (by simp [ExpOk, AV.pure, cur, hup_at, List.idxOf?_cons, List.idxOf?_nil, obM, fl_len, ol_len, fl_pure, ol_pure, mkF_len, mkO_len, objs_l, objs_r, objs_p]) (.inl rfl) ?_
    simp -dsimp only [ol_len, w1, f3, go_sem, ↓reduceIte, Nat.reduceEqDiff, Int.reduceLE, Int.reduceLT, Int.reduceNeg, Int.reduceEq, Nat.reduceMul, Nat.reduceAdd, Nat.reduceLeDiff, reduceCtorEq]
    exact Fin_val (by simp [resV, upd_at, retA]) (by simp [resV, upd_at, ResOk])
end FrA

