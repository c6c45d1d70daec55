/- Marks: what they say, plain and walked. No condition. -/
import Derived.Test.YtpiegccohgdkdaaAmDk4
import Derived.Test.YtpiegccohgdkdaaAmDk6
set_option linter.all false
set_option linter.unusedSimpArgs false
set_option linter.unusedVariables false
set_option linter.deprecated false
/-! DkV -/
open Go Go.AM
namespace FrA
open Go.Proofs
set_option maxRecDepth 100000
set_option linter.unusedSimpArgs false
def mtail (k : Nat) (out : List UInt8) : List UInt8 := if h : k = 0 then out else mtail (k / 10) (UInt8.ofNat (48 + k % 10) :: out)
termination_by k
decreasing_by exact Nat.div_lt_self (by omega) (by omega)
theorem mtail_zero (out : List UInt8) : mtail 0 out = out := by unfold mtail; simp
theorem mtail_pos {k : Nat} (h : k ≠ 0) (out : List UInt8) : mtail k out = mtail (k / 10) (UInt8.ofNat (48 + k % 10) :: out) := by
  conv => lhs; unfold mtail
  rw [dif_neg h]
def mark (k : Nat) : List UInt8 := 109 :: mtail k []
theorem mtail_len : ∀ (k : Nat) (out : List UInt8), (mtail k out).length ≤ k + out.length
  | 0, out => by rw [mtail_zero]; omega
  | k + 1, out => by
    rw [mtail_pos (by omega)]
    have := mtail_len ((k + 1) / 10) (UInt8.ofNat (48 + (k + 1) % 10) :: out)
    simp only [List.length_cons] at this
    omega
termination_by k => k
decreasing_by omega
theorem h63 (k : Nat) (hk : k ≤ 1000000000) (h0 : 0 < k) : HT 63 [i64 k] [] (.s (mark k)) true [] := by
  refine holds_of (c := Try.f63.body.getD .skip) (k := k63.1) (ts := [2]) HOk mixedT hintT Try.func63 (by kernel_rfl) (by kernel_rfl) (by kernel_rfl) k63.2 (by kernel_rfl) (le_of 1 _ (by kernel_rfl)) ?_
  have hc : ¬ (k : Int) ≤ 0 := by omega
  simp -dsimp only [k63, hc, go_sem, ↓reduceIte, Nat.reduceEqDiff, Int.reduceLE, Int.reduceLT, Int.reduceNeg, Int.reduceEq, Nat.reduceMul, Nat.reduceAdd, Nat.reduceLeDiff, reduceCtorEq]
  refine K_loop (fun g h _ => ∃ (j : Nat) (out : List UInt8), j ≤ k ∧ j + out.length ≤ k ∧ mtail j out = mtail k [] ∧ g 0 = i64 j ∧ g 3 = .s out) (fun g _ _ => match g 0 with | .i _ n => n.toNat | _ => 0) ?_ ?_
  · exact ⟨k, [], by omega, by simp, rfl, by simp [upd_at, S_0], by simp [upd_at]⟩
  · rintro A n hA g h c ⟨j, out, hj, hjo, hm, q0, q3⟩ hn
    by_cases hz : j = 0
    · subst hz
      have hc : ¬ ((0 : Nat) : Int) > 0 := by omega
      rw [mtail_zero] at hm
      simp -dsimp only [q0, q3, hc, go_sem, ↓reduceIte, Nat.reduceEqDiff, Int.reduceLE, Int.reduceLT, Int.reduceNeg, Int.reduceEq, Nat.reduceMul, Nat.reduceAdd, Nat.reduceLeDiff, reduceCtorEq]
      refine VK_p (by first | omega | (simp; omega)) ?_
      simp -dsimp only [q0, q3, go_sem, ↓reduceIte, Nat.reduceEqDiff, Int.reduceLE, Int.reduceLT, Int.reduceNeg, Int.reduceEq, Nat.reduceMul, Nat.reduceAdd, Nat.reduceLeDiff, reduceCtorEq]
      refine Fin_val ?_ ?_
      · simp [resV, upd_at, retA, mark, hm]
      · simp [resV, upd_at, ResOk]
    · have hc : (j : Int) > 0 := by omega
      have t1 : (j : Int).tmod 10 = ((j % 10 : Nat) : Int) := by rw [Int.tmod_eq_emod_of_nonneg (by omega)]; omega
      have t2 : (j : Int).tdiv 10 = ((j / 10 : Nat) : Int) := by rw [Int.tdiv_eq_ediv_of_nonneg (by omega)]; omega
      have w1 : IntKind.i64.wrap (48 + ((j % 10 : Nat) : Int)) = ((48 + j % 10 : Nat) : Int) := by rw [wr (by omega) (by omega)]; omega
      have w2 : IntKind.u8.wrap ((48 + j % 10 : Nat) : Int) = ((48 + j % 10 : Nat) : Int) := by
        have e3 : ∀ m : Int, IntKind.u8.wrap m = m % 256 := fun m => by simp [IntKind.wrap, IntKind.signed, IntKind.bits]
        rw [e3]; omega
      have w3 : IntKind.i64.wrap ((j / 10 : Nat) : Int) = ((j / 10 : Nat) : Int) := wr (by omega) (by omega)
      simp -dsimp only [q0, q3, hc, t1, t2, w1, w2, w3, go_sem, ↓reduceIte, Nat.reduceEqDiff, Int.reduceLE, Int.reduceLT, Int.reduceNeg, Int.reduceEq, Nat.reduceMul, Nat.reduceAdd, Nat.reduceLeDiff, reduceCtorEq]
      refine VK_p (by first | omega | (simp; omega)) ?_
      simp -dsimp only [q0, q3, hc, t1, t2, w1, w2, w3, go_sem, ↓reduceIte, Nat.reduceEqDiff, Int.reduceLE, Int.reduceLT, Int.reduceNeg, Int.reduceEq, Nat.reduceMul, Nat.reduceAdd, Nat.reduceLeDiff, reduceCtorEq]
      refine hA _ _ _ ⟨j / 10, UInt8.ofNat (48 + j % 10) :: out, by omega, by simp; omega, by rw [← hm, ← mtail_pos hz], by simp [upd_at], by simp [upd_at]⟩ ?_
      rw [q0] at hn; simp [upd_at] at hn ⊢; omega
/-- Elements that bear marks. -/
def mkF (k n : Nat) : List File := (List.range n).map fun i => (mark (k + 2 * i), mark (k + 2 * i + 1))
theorem mkF_len (k n : Nat) : (mkF k n).length = n := by simp [mkF]
theorem mkF_succ (k n : Nat) : mkF k (n + 1) = mkF k n ++ [(mark (k + 2 * n), mark (k + 2 * n + 1))] := by simp [mkF, List.range_succ]
theorem mkF_get {k n i : Nat} (h : i < n) : (mkF k n).getD i ([], []) = (mark (k + 2 * i), mark (k + 2 * i + 1)) := by
  rw [List.getD_eq_getElem?_getD]; simp [mkF, h]
def mkO (k n : Nat) : List Dop := (List.range n).map fun i => (((k + 4 * i : Nat) : Int), mark (k + 4 * i + 1), mark (k + 4 * i + 2), mark (k + 4 * i + 3))
theorem mkO_len (k n : Nat) : (mkO k n).length = n := by simp [mkO]
theorem mkO_succ (k n : Nat) : mkO k (n + 1) = mkO k n ++ [(((k + 4 * n : Nat) : Int), mark (k + 4 * n + 1), mark (k + 4 * n + 2), mark (k + 4 * n + 3))] := by simp [mkO, List.range_succ]
theorem mkO_get {k n i : Nat} (h : i < n) : (mkO k n).getD i dop0 = (((k + 4 * i : Nat) : Int), mark (k + 4 * i + 1), mark (k + 4 * i + 2), mark (k + 4 * i + 3)) := by
  rw [List.getD_eq_getElem?_getD]; simp [mkO, h]
theorem pre_set {α : Type} {a b : List α} {i : Nat} (x : α) (h : a.length = i) (hb : b ≠ []) : (a ++ b).set i x = a ++ x :: b.drop 1 := by
  subst h
  cases b with
  | nil => exact absurd rfl hb
  | cons y b => simp
def obM (z : Nat) (es : List (List AV)) (q : Prop) : Ob := { ver := 0, es := es, esz := z, own := q, fixed := true }
theorem h105 (l : List File) (k : Nat) (cap : Option Nat) (q : Prop) (hk : 0 < k) (hkl : k + 2 * l.length ≤ 1000000000) : HT 105 [.sl (.p 0) 0 0 l.length cap, i64 k] [obM 2 (fl l) q] (i64 (k + 2 * l.length : Nat)) true [obM 2 (fl (mkF k l.length)) True] := by
  refine holds_of (c := Try.f105.body.getD .skip) (k := k105.1) (ts := [4]) HOk mixedT hintT Try.func105 (by kernel_rfl) (by kernel_rfl) (by kernel_rfl) k105.2 (by kernel_rfl) (le_of 2 _ (by kernel_rfl)) ?_
  simp -dsimp only [k105, go_sem, ↓reduceIte, Nat.reduceEqDiff, Int.reduceLE, Int.reduceLT, Int.reduceNeg, Int.reduceEq, Nat.reduceMul, Nat.reduceAdd, Nat.reduceLeDiff, reduceCtorEq]
  refine K_for l.length (fun i g h c => g 0 = .sl (.p 0) 0 0 l.length cap ∧ g 1 = i64 (k + 2 * i : Nat) ∧ g 5 = i64 i ∧ ∃ q, h (.p 0) = some (obM 2 (fl (mkF k i ++ l.drop i)) q)) ?_ ?_ ?_
  · exact ⟨by simp [upd_at, S_0], by simp [upd_at, S_1], by simp [upd_at], q, by simp [mkF]; rfl⟩
  · rintro i A hi hA g h c ⟨q0, q1, q5, q', hh⟩
    have hc : (i : Int) < (l.length : Int) := by omega
    unfold obM at hh
    have gi : (fl (mkF k i ++ l.drop i))[i]? = some [.s (l.getD i ([], [])).1, .s (l.getD i ([], [])).2] := by
      rw [fl_get (by simp [mkF_len]; omega), drop_get hi]
      rw [List.getD_eq_getElem?_getD, List.getElem?_append_right (by simp [mkF_len]), mkF_len]; simp
    have w1 : IntKind.i64.wrap ((i : Int) + 1) = ((i + 1 : Nat) : Int) := by rw [wr (by omega) (by omega)]; rfl
    have w2 : IntKind.i64.wrap (((k + 2 * i : Nat) : Int) + 1) = ((k + 2 * i + 1 : Nat) : Int) := by rw [wr (by omega) (by omega)]; rfl
    have w3 : IntKind.i64.wrap (((k + 2 * i + 1 : Nat) : Int) + 1) = ((k + 2 * (i + 1) : Nat) : Int) := by rw [wr (by omega) (by omega)]; omega
    have hlt : i < (fl (mkF k i ++ l.drop i)).length := (List.getElem?_eq_some_iff.1 gi).1
    simp -dsimp only [q0, q1, q5, hc, hh, go_sem, ↓reduceIte, Nat.reduceEqDiff, Int.reduceLE, Int.reduceLT, Int.reduceNeg, Int.reduceEq, Nat.reduceMul, Nat.reduceAdd, Nat.reduceLeDiff, reduceCtorEq]
    refine Call_val (own := true) (h63 (k + 2 * i) (by omega) (by omega)) (by simp [ExpOk, AV.pure]) (.inl rfl) ?_
    simp -dsimp only [q0, q1, q5, hc, hh, gi, w1, w2, w3, go_sem, ↓reduceIte, Nat.reduceEqDiff, Int.reduceLE, Int.reduceLT, Int.reduceNeg, Int.reduceEq, Nat.reduceMul, Nat.reduceAdd, Nat.reduceLeDiff, reduceCtorEq]
    refine Call_val (own := true) (h63 (k + 2 * i + 1) (by omega) (by omega)) (by simp [ExpOk, AV.pure]) (.inl rfl) ?_
    simp -dsimp only [q0, q1, q5, hc, hh, gi, w1, w2, w3, List.getElem?_set_self hlt, List.set_set, go_sem, ↓reduceIte, Nat.reduceEqDiff, Int.reduceLE, Int.reduceLT, Int.reduceNeg, Int.reduceEq, Nat.reduceMul, Nat.reduceAdd, Nat.reduceLeDiff, reduceCtorEq]
    have e : (fl (mkF k i ++ l.drop i)).set i [.s (mark (k + 2 * i)), .s (mark (k + 2 * i + 1))] = fl (mkF k (i + 1) ++ l.drop (i + 1)) := by
      rw [fl_set _ _ (mark (k + 2 * i), mark (k + 2 * i + 1)), pre_set _ (mkF_len k i) (by rw [drop_get hi]; simp), mkF_succ, List.drop_drop, Nat.add_comm i 1]; simp
    exact hA _ _ _ ⟨by simp [upd_at, q0], by simp [upd_at], by simp [upd_at], _, (by rw [hup_at, if_pos rfl, e]; rfl)⟩
  · rintro A g h c ⟨q0, q1, q5, q', hh⟩
    have hc : ¬ (l.length : Int) < (l.length : Int) := by omega
    rw [List.drop_length, List.append_nil] at hh
    unfold obM at hh
    simp -dsimp only [q0, q1, q5, hc, hh, go_sem, ↓reduceIte, Nat.reduceEqDiff, Int.reduceLE, Int.reduceLT, Int.reduceNeg, Int.reduceEq, Nat.reduceMul, Nat.reduceAdd, Nat.reduceLeDiff, reduceCtorEq]
    refine Fin_obs (by simp [resV, upd_at, retA]) (by simp [resV, upd_at, ResOk]) rfl fun j ob hj => ?_
    match j, hj with
    | 0, hj => simp at hj; subst hj; exact ⟨fl_pure _, q', .inl (fl_flat _), by rw [hh]; rfl, rfl⟩
    | j + 1, hj => simp at hj
theorem h107 (k n : Nat) (hk : 0 < k) (hkn : k + 2 * n ≤ 1000000000) : HT 107 [.dat 2 (fl (mkF k n)), i64 k] [] (i64 (k + 2 * n : Nat)) true [] := by
  refine holds_of (c := Try.f107.body.getD .skip) (k := k107.1) (ts := [4]) HOk mixedT hintT Try.func107 (by kernel_rfl) (by kernel_rfl) (by kernel_rfl) k107.2 (by kernel_rfl) (le_of 2 _ (by kernel_rfl)) ?_
  simp -dsimp only [k107, go_sem, ↓reduceIte, Nat.reduceEqDiff, Int.reduceLE, Int.reduceLT, Int.reduceNeg, Int.reduceEq, Nat.reduceMul, Nat.reduceAdd, Nat.reduceLeDiff, reduceCtorEq]
  refine K_for n (fun i g h c => g 0 = .dat 2 (fl (mkF k n)) ∧ g 1 = i64 (k + 2 * i : Nat) ∧ g 5 = i64 i) ?_ ?_ ?_
  · exact ⟨by simp [upd_at, S_0], by simp [upd_at, S_1], by simp [upd_at]⟩
  · rintro i A hi hA g h c ⟨q0, q1, q5⟩
    have hc : (i : Int) < (n : Int) := by omega
    have gi := fl_get (l := mkF k n) (i := i) (by rw [mkF_len]; exact hi)
    rw [mkF_get hi] at gi
    have w1 : IntKind.i64.wrap ((i : Int) + 1) = ((i + 1 : Nat) : Int) := by rw [wr (by omega) (by omega)]; rfl
    have w2 : IntKind.i64.wrap (((k + 2 * i : Nat) : Int) + 1) = ((k + 2 * i + 1 : Nat) : Int) := by rw [wr (by omega) (by omega)]; rfl
    have w3 : IntKind.i64.wrap (((k + 2 * i + 1 : Nat) : Int) + 1) = ((k + 2 * (i + 1) : Nat) : Int) := by rw [wr (by omega) (by omega)]; omega
    have e1 : ∀ s : List UInt8, (!(s == s)) = false := fun s => by simp
    simp -dsimp only [q0, q1, q5, hc, gi, fl_len, mkF_len, go_sem, ↓reduceIte, Nat.reduceEqDiff, Int.reduceLE, Int.reduceLT, Int.reduceNeg, Int.reduceEq, Nat.reduceMul, Nat.reduceAdd, Nat.reduceLeDiff, reduceCtorEq]
    refine Call0_val true (h63 (k + 2 * i) (by omega) (by omega)) (by simp [AV.free, AV.pure]) (.inl rfl) ?_
    simp -dsimp only [q0, q1, q5, hc, gi, w1, w2, w3, e1, go_sem, ↓reduceIte, Nat.reduceEqDiff, Int.reduceLE, Int.reduceLT, Int.reduceNeg, Int.reduceEq, Nat.reduceMul, Nat.reduceAdd, Nat.reduceLeDiff, reduceCtorEq]
    refine Call0_val true (h63 (k + 2 * i + 1) (by omega) (by omega)) (by simp [AV.free, AV.pure]) (.inl rfl) ?_
    simp -dsimp only [q0, q1, q5, hc, gi, w1, w2, w3, e1, go_sem, ↓reduceIte, Nat.reduceEqDiff, Int.reduceLE, Int.reduceLT, Int.reduceNeg, Int.reduceEq, Nat.reduceMul, Nat.reduceAdd, Nat.reduceLeDiff, reduceCtorEq]
    exact hA _ _ _ ⟨by simp [upd_at, q0], by simp [upd_at], by simp [upd_at]⟩
  · rintro A g h c ⟨q0, q1, q5⟩
    have hc : ¬ (n : Int) < (n : Int) := by omega
    simp -dsimp only [q0, q1, q5, hc, fl_len, mkF_len, go_sem, ↓reduceIte, Nat.reduceEqDiff, Int.reduceLE, Int.reduceLT, Int.reduceNeg, Int.reduceEq, Nat.reduceMul, Nat.reduceAdd, Nat.reduceLeDiff, reduceCtorEq]
    exact Fin_val (by simp [resV, upd_at, retA]) (by simp [resV, upd_at, ResOk])
theorem h106 (l : List Dop) (k : Nat) (cap : Option Nat) (q : Prop) (hk : 0 < k) (hkl : k + 4 * l.length ≤ 1000000000) : HT 106 [.sl (.p 0) 0 0 l.length cap, i64 k] [obM 4 (ol l) q] (i64 (k + 4 * l.length : Nat)) true [obM 4 (ol (mkO k l.length)) True] := by
  refine holds_of (c := Try.f106.body.getD .skip) (k := k106.1) (ts := [4]) HOk mixedT hintT Try.func106 (by kernel_rfl) (by kernel_rfl) (by kernel_rfl) k106.2 (by kernel_rfl) (le_of 2 _ (by kernel_rfl)) ?_
  simp -dsimp only [k106, go_sem, ↓reduceIte, Nat.reduceEqDiff, Int.reduceLE, Int.reduceLT, Int.reduceNeg, Int.reduceEq, Nat.reduceMul, Nat.reduceAdd, Nat.reduceLeDiff, reduceCtorEq]
  refine K_for l.length (fun i g h c => g 0 = .sl (.p 0) 0 0 l.length cap ∧ g 1 = i64 (k + 4 * i : Nat) ∧ g 5 = i64 i ∧ ∃ q, h (.p 0) = some (obM 4 (ol (mkO k i ++ l.drop i)) q)) ?_ ?_ ?_
  · exact ⟨by simp [upd_at, S_0], by simp [upd_at, S_1], by simp [upd_at], q, by simp [mkO]; rfl⟩
  · rintro i A hi hA g h c ⟨q0, q1, q5, q', hh⟩
    have hc : (i : Int) < (l.length : Int) := by omega
    unfold obM at hh
    obtain ⟨op, hop⟩ : ∃ op, op = l.getD i dop0 := ⟨_, rfl⟩
    have gi : (ol (mkO k i ++ l.drop i))[i]? = some (opC op) := by
      rw [ol_get (by simp [mkO_len]; omega), dropo_get hi, hop]
      rw [List.getD_eq_getElem?_getD, List.getElem?_append_right (by simp [mkO_len]), mkO_len]; simp
    have ec : opC op = [.i .i64 op.1, .s op.2.1, .s op.2.2.1, .s op.2.2.2] := rfl
    rw [ec] at gi
    have w1 : IntKind.i64.wrap ((i : Int) + 1) = ((i + 1 : Nat) : Int) := by rw [wr (by omega) (by omega)]; rfl
    have w0 : IntKind.i64.wrap ((k + 4 * i : Nat) : Int) = ((k + 4 * i : Nat) : Int) := wr (by omega) (by omega)
    have w2 : IntKind.i64.wrap (((k + 4 * i : Nat) : Int) + 1) = ((k + 4 * i + 1 : Nat) : Int) := by rw [wr (by omega) (by omega)]; rfl
    have w3 : IntKind.i64.wrap (((k + 4 * i + 1 : Nat) : Int) + 1) = ((k + 4 * i + 2 : Nat) : Int) := by rw [wr (by omega) (by omega)]; omega
    have w4 : IntKind.i64.wrap (((k + 4 * i + 2 : Nat) : Int) + 1) = ((k + 4 * i + 3 : Nat) : Int) := by rw [wr (by omega) (by omega)]; omega
    have w5 : IntKind.i64.wrap (((k + 4 * i + 3 : Nat) : Int) + 1) = ((k + 4 * (i + 1) : Nat) : Int) := by rw [wr (by omega) (by omega)]; omega
    have hlt : i < (ol (mkO k i ++ l.drop i)).length := (List.getElem?_eq_some_iff.1 gi).1
    simp -dsimp only [q0, q1, q5, hc, hh, gi, w0, w1, w2, w3, w4, w5, List.getElem?_set_self hlt, List.set_set, go_sem, ↓reduceIte, Nat.reduceEqDiff, Int.reduceLE, Int.reduceLT, Int.reduceNeg, Int.reduceEq, Nat.reduceMul, Nat.reduceAdd, Nat.reduceLeDiff, reduceCtorEq]
    refine Call_val (own := true) (h63 (k + 4 * i + 1) (by omega) (by omega)) (by simp [ExpOk, AV.pure]) (.inl rfl) ?_
    simp -dsimp only [q0, q1, q5, hc, hh, gi, w0, w1, w2, w3, w4, w5, List.getElem?_set_self hlt, List.set_set, go_sem, ↓reduceIte, Nat.reduceEqDiff, Int.reduceLE, Int.reduceLT, Int.reduceNeg, Int.reduceEq, Nat.reduceMul, Nat.reduceAdd, Nat.reduceLeDiff, reduceCtorEq]
    refine Call_val (own := true) (h63 (k + 4 * i + 2) (by omega) (by omega)) (by simp [ExpOk, AV.pure]) (.inl rfl) ?_
    simp -dsimp only [q0, q1, q5, hc, hh, gi, w0, w1, w2, w3, w4, w5, List.getElem?_set_self hlt, List.set_set, go_sem, ↓reduceIte, Nat.reduceEqDiff, Int.reduceLE, Int.reduceLT, Int.reduceNeg, Int.reduceEq, Nat.reduceMul, Nat.reduceAdd, Nat.reduceLeDiff, reduceCtorEq]
    refine Call_val (own := true) (h63 (k + 4 * i + 3) (by omega) (by omega)) (by simp [ExpOk, AV.pure]) (.inl rfl) ?_
    simp -dsimp only [q0, q1, q5, hc, hh, gi, w0, w1, w2, w3, w4, w5, List.getElem?_set_self hlt, List.set_set, go_sem, ↓reduceIte, Nat.reduceEqDiff, Int.reduceLE, Int.reduceLT, Int.reduceNeg, Int.reduceEq, Nat.reduceMul, Nat.reduceAdd, Nat.reduceLeDiff, reduceCtorEq]
    have e : (ol (mkO k i ++ l.drop i)).set i [.i .i64 (k + 4 * i : Nat), .s (mark (k + 4 * i + 1)), .s (mark (k + 4 * i + 2)), .s (mark (k + 4 * i + 3))] = ol (mkO k (i + 1) ++ l.drop (i + 1)) := by
      rw [show [AV.i .i64 (k + 4 * i : Nat), .s (mark (k + 4 * i + 1)), .s (mark (k + 4 * i + 2)), .s (mark (k + 4 * i + 3))] = opC (((k + 4 * i : Nat) : Int), mark (k + 4 * i + 1), mark (k + 4 * i + 2), mark (k + 4 * i + 3)) from rfl, ol_set, pre_set _ (mkO_len k i) (by rw [dropo_get hi]; simp), mkO_succ, List.drop_drop, Nat.add_comm i 1]; simp
    exact hA _ _ _ ⟨by simp [upd_at, q0], by simp [upd_at], by simp [upd_at], _, (by rw [hup_at, if_pos rfl, e]; rfl)⟩
  · rintro A g h c ⟨q0, q1, q5, q', hh⟩
    have hc : ¬ (l.length : Int) < (l.length : Int) := by omega
    rw [List.drop_length, List.append_nil] at hh
    unfold obM at hh
    simp -dsimp only [q0, q1, q5, hc, hh, go_sem, ↓reduceIte, Nat.reduceEqDiff, Int.reduceLE, Int.reduceLT, Int.reduceNeg, Int.reduceEq, Nat.reduceMul, Nat.reduceAdd, Nat.reduceLeDiff, reduceCtorEq]
    refine Fin_obs (by simp [resV, upd_at, retA]) (by simp [resV, upd_at, ResOk]) rfl fun j ob hj => ?_
    match j, hj with
    | 0, hj => simp at hj; subst hj; exact ⟨ol_pure _, q', .inl (ol_flat _), by rw [hh]; rfl, rfl⟩
    | j + 1, hj => simp at hj
theorem h108 (k n : Nat) (hk : 0 < k) (hkn : k + 4 * n ≤ 1000000000) : HT 108 [.dat 4 (ol (mkO k n)), i64 k] [] (i64 (k + 4 * n : Nat)) true [] := by
  refine holds_of (c := Try.f108.body.getD .skip) (k := k108.1) (ts := [4]) HOk mixedT hintT Try.func108 (by kernel_rfl) (by kernel_rfl) (by kernel_rfl) k108.2 (by kernel_rfl) (le_of 2 _ (by kernel_rfl)) ?_
  simp -dsimp only [k108, go_sem, ↓reduceIte, Nat.reduceEqDiff, Int.reduceLE, Int.reduceLT, Int.reduceNeg, Int.reduceEq, Nat.reduceMul, Nat.reduceAdd, Nat.reduceLeDiff, reduceCtorEq]
  refine K_for n (fun i g h c => g 0 = .dat 4 (ol (mkO k n)) ∧ g 1 = i64 (k + 4 * i : Nat) ∧ g 5 = i64 i) ?_ ?_ ?_
  · exact ⟨by simp [upd_at, S_0], by simp [upd_at, S_1], by simp [upd_at]⟩
  · rintro i A hi hA g h c ⟨q0, q1, q5⟩
    have hc : (i : Int) < (n : Int) := by omega
    have gi := ol_get (ops := mkO k n) (i := i) (by rw [mkO_len]; exact hi)
    rw [mkO_get hi] at gi
    unfold opC at gi
    have w1 : IntKind.i64.wrap ((i : Int) + 1) = ((i + 1 : Nat) : Int) := by rw [wr (by omega) (by omega)]; rfl
    have w0 : IntKind.i64.wrap ((k + 4 * i : Nat) : Int) = ((k + 4 * i : Nat) : Int) := wr (by omega) (by omega)
    have w2 : IntKind.i64.wrap (((k + 4 * i : Nat) : Int) + 1) = ((k + 4 * i + 1 : Nat) : Int) := by rw [wr (by omega) (by omega)]; rfl
    have w3 : IntKind.i64.wrap (((k + 4 * i + 1 : Nat) : Int) + 1) = ((k + 4 * i + 2 : Nat) : Int) := by rw [wr (by omega) (by omega)]; omega
    have w4 : IntKind.i64.wrap (((k + 4 * i + 2 : Nat) : Int) + 1) = ((k + 4 * i + 3 : Nat) : Int) := by rw [wr (by omega) (by omega)]; omega
    have w5 : IntKind.i64.wrap (((k + 4 * i + 3 : Nat) : Int) + 1) = ((k + 4 * (i + 1) : Nat) : Int) := by rw [wr (by omega) (by omega)]; omega
    have e1 : ∀ s : List UInt8, (!(s == s)) = false := fun s => by simp
    have e2 : (((k + 4 * i : Nat) : Int) != ((k + 4 * i : Nat) : Int)) = false := by simp
    simp -dsimp only [q0, q1, q5, hc, gi, ol_len, mkO_len, w0, w1, w2, w3, w4, w5, e1, e2, go_sem, ↓reduceIte, Nat.reduceEqDiff, Int.reduceLE, Int.reduceLT, Int.reduceNeg, Int.reduceEq, Nat.reduceMul, Nat.reduceAdd, Nat.reduceLeDiff, reduceCtorEq]
    refine Call0_val true (h63 (k + 4 * i + 1) (by omega) (by omega)) (by simp [AV.free, AV.pure]) (.inl rfl) ?_
    simp -dsimp only [q0, q1, q5, hc, gi, w0, w1, w2, w3, w4, w5, e1, e2, go_sem, ↓reduceIte, Nat.reduceEqDiff, Int.reduceLE, Int.reduceLT, Int.reduceNeg, Int.reduceEq, Nat.reduceMul, Nat.reduceAdd, Nat.reduceLeDiff, reduceCtorEq]
    refine Call0_val true (h63 (k + 4 * i + 2) (by omega) (by omega)) (by simp [AV.free, AV.pure]) (.inl rfl) ?_
    simp -dsimp only [q0, q1, q5, hc, gi, w0, w1, w2, w3, w4, w5, e1, e2, go_sem, ↓reduceIte, Nat.reduceEqDiff, Int.reduceLE, Int.reduceLT, Int.reduceNeg, Int.reduceEq, Nat.reduceMul, Nat.reduceAdd, Nat.reduceLeDiff, reduceCtorEq]
    refine Call0_val true (h63 (k + 4 * i + 3) (by omega) (by omega)) (by simp [AV.free, AV.pure]) (.inl rfl) ?_
    simp -dsimp only [q0, q1, q5, hc, gi, w0, w1, w2, w3, w4, w5, e1, e2, go_sem, ↓reduceIte, Nat.reduceEqDiff, Int.reduceLE, Int.reduceLT, Int.reduceNeg, Int.reduceEq, Nat.reduceMul, Nat.reduceAdd, Nat.reduceLeDiff, reduceCtorEq]
    exact hA _ _ _ ⟨by simp [upd_at, q0], by simp [upd_at], by simp [upd_at]⟩
  · rintro A g h c ⟨q0, q1, q5⟩
    have hc : ¬ (n : Int) < (n : Int) := by omega
    simp -dsimp only [q0, q1, q5, hc, ol_len, mkO_len, go_sem, ↓reduceIte, Nat.reduceEqDiff, Int.reduceLE, Int.reduceLT, Int.reduceNeg, Int.reduceEq, Nat.reduceMul, Nat.reduceAdd, Nat.reduceLeDiff, reduceCtorEq]
    exact Fin_val (by simp [resV, upd_at, retA]) (by simp [resV, upd_at, ResOk])
end FrA

