/- Marks: what they say, plain and walked. No condition. -/
import Derived.Test.YtpiegccohgdkdaaAmDk4
import Derived.Test.YtpiegccohgdkdaaAmDk6
set_option linter.all false
set_option linter.unusedSimpArgs false
set_option linter.unusedVariables false
set_option linter.deprecated false
/-! DkV -/
open Go Go.AM
namespace FrA
open Go.Proofs
set_option maxRecDepth 100000
set_option linter.unusedSimpArgs false
def mtail (k : Nat) (out : List UInt8) : List UInt8 := if h : k = 0 then out else mtail (k / 10) (UInt8.ofNat (48 + k % 10) :: out)
termination_by k
decreasing_by exact Nat.div_lt_self (by omega) (by omega)
theorem mtail_zero (out : List UInt8) : mtail 0 out = out := by unfold mtail; simp
theorem mtail_pos {k : Nat} (h : k ≠ 0) (out : List UInt8) : mtail k out = mtail (k / 10) (UInt8.ofNat (48 + k % 10) :: out) := by
  conv => lhs; unfold mtail
  rw [dif_neg h]
def mark (k : Nat) : List UInt8 := 109 :: mtail k []
theorem mtail_len : ∀ (k : Nat) (out : List UInt8), (mtail k out).length ≤ k + out.length
  | 0, out => by rw [mtail_zero]; omega
  | k + 1, out => by
    rw [mtail_pos (by omega)]
    have := mtail_len ((k + 1) / 10) (UInt8.ofNat (48 + (k + 1) % 10) :: out)
    simp only [List.length_cons] at this
    omega
termination_by k => k
decreasing_by omega
theorem h63 (k : Nat) (hk : k ≤ 1000000000) (h0 : 0 < k) : HT 63 [i64 k] [] (.s (mark k)) true [] := by
  refine holds_of (c := Try.f63.body.getD .skip) (k := k63.1) (ts := [2]) HOk mixedT hintT Try.func63 (by kernel_rfl) (by kernel_rfl) (by kernel_rfl) k63.2 (by kernel_rfl) (le_of 1 _ (by kernel_rfl)) ?_
  have hc : ¬ (k : Int) ≤ 0 := by omega
  simp -dsimp only [k63, hc, go_sem, ↓reduceIte, Nat.reduceEqDiff, Int.reduceLE, Int.reduceLT, Int.reduceNeg, Int.reduceEq, Nat.reduceMul, Nat.reduceAdd, Nat.reduceLeDiff, reduceCtorEq]
  refine K_loop (fun g h _ => ∃ (j : Nat) (out : List UInt8), j ≤ k ∧ j + out.length ≤ k ∧ mtail j out = mtail k [] ∧ g 0 = i64 j ∧ g 3 = .s out) (fun g _ _ => match g 0 with | .i _ n => n.toNat | _ => 0) ?_ ?_
  · exact ⟨k, [], by omega, by simp, rfl, by simp [upd_at, S_0], by simp [upd_at]⟩
  · rintro A n hA g h c ⟨j, out, hj, hjo, hm, q0, q3⟩ hn
    by_cases hz : j = 0
    · subst hz
      have hc : ¬ ((0 : Nat) : Int) > 0 := by omega
      rw [mtail_zero] at hm
      simp -dsimp only [q0, q3, hc, go_sem, ↓reduceIte, Nat.reduceEqDiff, Int.reduceLE, Int.reduceLT, Int.reduceNeg, Int.reduceEq, Nat.reduceMul, Nat.reduceAdd, Nat.reduceLeDiff, reduceCtorEq]
      refine VK_p (by first | omega | (simp; omega)) ?_
      simp -dsimp only [q0, q3, go_sem, ↓reduceIte, Nat.reduceEqDiff, Int.reduceLE, Int.reduceLT, Int.reduceNeg, Int.reduceEq, Nat.reduceMul, Nat.reduceAdd, Nat.reduceLeDiff, reduceCtorEq]
      refine Fin_val ?_ ?_
      · simp [resV, upd_at, retA, mark, hm]
      · simp [resV, upd_at, ResOk]
    · have hc : (j : Int) > 0 := by omega
      have t1 : (j : Int).tmod 10 = ((j % 10 : Nat) : Int) := by rw [Int.tmod_eq_emod_of_nonneg (by omega)]; omega
      have t2 : (j : Int).tdiv 10 = ((j / 10 : Nat) : Int) := by rw [Int.tdiv_eq_ediv_of_nonneg (by omega)]; omega
      have w1 : IntKind.i64.wrap (48 + ((j % 10 : Nat) : Int)) = ((48 + j % 10 : Nat) : Int) := by rw [wr (by omega) (by omega)]; omega
      have w2 : IntKind.u8.wrap ((48 + j % 10 : Nat) : Int) = ((48 + j % 10 : Nat) : Int) := by
        have e3 : ∀ m : Int, IntKind.u8.wrap m = m % 256 := fun m => by simp [IntKind.wrap, IntKind.signed, IntKind.bits]
        rw [e3]; omega
      have w3 : IntKind.i64.wrap ((j / 10 : Nat) : Int) = ((j / 10 : Nat) : Int) := wr (by omega) (by omega)
      simp -dsimp only [q0, q3, hc, t1, t2, w1, w2, w3, go_sem, ↓reduceIte, Nat.reduceEqDiff, Int.reduceLE, Int.reduceLT, Int.reduceNeg, Int.reduceEq, Nat.reduceMul, Nat.reduceAdd, Nat.reduceLeDiff, reduceCtorEq]
      refine VK_p (by first | omega | (simp; omega)) ?_
      simp -dsimp only [q0, q3, hc, t1, t2, w1, w2, w3, go_sem, ↓reduceIte, Nat.reduceEqDiff, Int.reduceLE, Int.reduceLT, Int.reduceNeg, Int.reduceEq, Nat.reduceMul, Nat.reduceAdd, Nat.reduceLeDiff, reduceCtorEq]
      refine hA _ _ _ ⟨j / 10, UInt8.ofNat (48 + j % 10) :: out, by omega, by simp; omega, by rw [← hm, ← mtail_pos hz], by simp [upd_at], by simp [upd_at]⟩ ?_
      rw [q0] at hn; simp [upd_at] at hn ⊢; omega
/-- Elements that bear marks. -/
def mkF (k n : Nat) : List File := (List.range n).map fun i => (mark (k + 2 * i), mark (k + 2 * i + 1))
theorem mkF_len (k n : Nat) : (mkF k n).length = n := by simp [mkF]
theorem mkF_succ (k n : Nat) : mkF k (n + 1) = mkF k n ++ [(mark (k + 2 * n), mark (k + 2 * n + 1))] := by simp [mkF, List.range_succ]
theorem mkF_get {k n i : Nat} (h : i < n) : (mkF k n).getD i ([], []) = (mark (k + 2 * i), mark (k + 2 * i + 1)) := by
  rw [List.getD_eq_getElem?_getD]; simp [mkF, h]
def mkO (k n : Nat) : List Dop := (List.range n).map fun i => (((k + 4 * i : Nat) : Int), mark (k + 4 * i + 1), mark (k + 4 * i + 2), mark (k + 4 * i + 3))
theorem mkO_len (k n : Nat) : (mkO k n).length = n := by simp [mkO]
theorem mkO_succ (k n : Nat) : mkO k (n + 1) = mkO k n ++ [(((k + 4 * n : Nat) : Int), mark (k + 4 * n + 1), mark (k + 4 * n + 2), mark (k + 4 * n + 3))] := by simp [mkO, List.range_succ]
theorem mkO_get {k n i : Nat} (h : i < n) : (mkO k n).getD i dop0 = (((k + 4 * i : Nat) : Int), mark (k + 4 * i + 1), mark (k + 4 * i + 2), mark (k + 4 * i + 3)) := by
  rw [List.getD_eq_getElem?_getD]; simp [mkO, h]
theorem pre_set {α : Type} {a b : List α} {i : Nat} (x : α) (h : a.length = i) (hb : b ≠ []) : (a ++ b).set i x = a ++ x :: b.drop 1 := by
  subst h
  cases b with
  | nil => exact absurd rfl hb
  | cons y b => simp
def obM (z : Nat) (es : List (List AV)) (q : Prop) : Ob := { ver := 0, es := es, esz := z, own := q, fixed := true }
theorem h105 (l : List File) (k : Nat) (cap : Option Nat) (q : Prop) (hk : 0 < k) (hkl : k + 2 * l.length ≤ 1000000000) : HT 105 [.sl (.p 0) 0 0 l.length cap, i64 k] [obM 2 (fl l) q] (i64 (k + 2 * l.length : Nat)) true [obM 2 (fl (mkF k l.length)) True] := by
  refine holds_of (c := Try.f105.body.getD .skip) (k := k105.1) (ts := [4]) HOk mixedT hintT Try.func105 (by kernel_rfl) (by kernel_rfl) (by kernel_rfl) k105.2 (by kernel_rfl) (le_of 2 _ (by kernel_rfl)) ?_
  simp -dsimp only [k105, go_sem, ↓reduceIte, Nat.reduceEqDiff, Int.reduceLE, Int.reduceLT, Int.reduceNeg, Int.reduceEq, Nat.reduceMul, Nat.reduceAdd, Nat.reduceLeDiff, reduceCtorEq]
  refine K_for l.length (fun i g h c => g 0 = .sl (.p 0) 0 0 l.length cap ∧ g 1 = i64 (k + 2 * i : Nat) ∧ g 5 = i64 i ∧ ∃ q, h (.p 0) = some (obM 2 (fl (mkF k i ++ l.drop i)) q)) ?_ ?_ ?_
  · exact ⟨by simp [upd_at, S_0], by simp [upd_at, S_1], by simp [upd_at], q, by simp [mkF]; rfl⟩
  · rintro i A hi hA g h c ⟨q0, q1, q5, q', hh⟩
    have hc : (i : Int) < (l.length : Int) := by omega
    unfold obM at hh
    have gi : (fl (mkF k i ++ l.drop i))[i]? = some [.s (l.getD i ([], [])).1, .s (l.getD i ([], [])).2] := by
      rw [fl_get (by simp [mkF_len]; omega), drop_get hi]
      rw [List.getD_eq_getElem?_getD, List.getElem?_append_right (by simp [mkF_len]), mkF_len]; simp
    have w1 : IntKind.i64.wrap ((i : Int) + 1) = ((i + 1 : Nat) : Int) := by rw [wr (by omega) (by omega)]; rfl
    have w2 : IntKind.i64.wrap (((k + 2 * i : Nat) : Int) + 1) = ((k + 2 * i + 1 : Nat) : Int) := by rw [wr (by omega) (by omega)]; rfl
    have w3 : IntKind.i64.wrap (((k + 2 * i + 1 : Nat) : Int) + 1) = ((k + 2 * (i + 1) : Nat) : Int) := by rw [wr (by omega) (by omega)]; omega
    have hlt : i < (fl (mkF k i ++ l.drop i)).length := (List.getElem?_eq_some_iff.1 gi).1
    simp -dsimp only [q0, q1, q5, hc, hh, go_sem, ↓reduceIte, Nat.reduceEqDiff, Int.reduceLE, Int.reduceLT, Int.reduceNeg, Int.reduceEq, Nat.reduceMul, Nat.reduceAdd, Nat.reduceLeDiff, reduceCtorEq]
    refine Call_val (own := true) (h63 (k + 2 * i) (by omega) (by omega)) (by simp [ExpOk, AV.pure]) (.inl rfl) ?_
    simp -dsimp only [q0, q1, q5, hc, hh, gi, w1, w2, w3, go_sem, ↓reduceIte, Nat.reduceEqDiff, Int.reduceLE, Int.reduceLT, Int.reduceNeg, Int.reduceEq, Nat.reduceMul, Nat.reduceAdd, Nat.reduceLeDiff, reduceCtorEq]
    refine Call_val (own := true) (h63 (k + 2 * i + 1) (by omega) (by omega)) (by simp [ExpOk, AV.pure]) (.inl rfl) ?_
    simp -dsimp only [q0, q1, q5, hc, hh, gi, w1, w2, w3, List.getElem?_set_self hlt, List.set_set, go_sem, ↓reduceIte, Nat.reduceEqDiff, Int.reduceLE, Int.reduceLT, Int.reduceNeg, Int.reduceEq, Nat.reduceMul, Nat.reduceAdd, Nat.reduceLeDiff, reduceCtorEq]
    have e : (fl (mkF k i ++ l.drop i)).set i [.s (mark (k + 2 * i)), .s (mark (k + 2 * i + 1))] = fl (mkF k (i + 1) ++ l.drop (i + 1)) := by
      rw [fl_set _ _ (mark (k + 2 * i), mark (k + 2 * i + 1)), pre_set _ (mkF_len k i) (by rw [drop_get hi]; simp), mkF_succ, List.drop_drop, Nat.add_comm i 1]; simp
    exact hA _ _ _ ⟨by simp [upd_at, q0], by simp [upd_at], by simp [upd_at], _, (by rw [hup_at, if_pos rfl, e]; rfl)⟩
  · rintro A g h c ⟨q0, q1, q5, q', hh⟩
    have hc : ¬ (l.length : Int) < (l.length : Int) := by omega
    rw [List.drop_length, List.append_nil] at hh
    unfold obM at hh
    simp -dsimp only [q0, q1, q5, hc, hh, go_sem, ↓reduceIte, Nat.reduceEqDiff, Int.reduceLE, Int.reduceLT, Int.reduceNeg, Int.reduceEq, Nat.reduceMul, Nat.reduceAdd, Nat.reduceLeDiff, reduceCtorEq]
    refine Fin_obs (by simp [resV, upd_at, retA]) (by simp [resV, upd_at, ResOk]) rfl fun j ob hj => ?_
    match j, hj with
    | 0, hj => simp at hj; subst hj; exact ⟨fl_pure _, q', .inl (fl_flat _), by rw [hh]; rfl, rfl⟩
    | j + 1, hj => simp at hj
theorem h107 (k n : Nat) (hk : 0 < k) (hkn : k + 2 * n ≤ 1000000000) : HT 107 [.dat 2 (fl (mkF k n)), i64 k] [] (i64 (k + 2 * n : Nat)) true [] := by
  refine holds_of (c := Try.f107.body.getD .skip) (k := k107.1) (ts := [4]) HOk mixedT hintT Try.func107 (by kernel_rfl) (by kernel_rfl) (by kernel_rfl) k107.2 (by kernel_rfl) (le_of 2 _ (by kernel_rfl)) ?_
  simp -dsimp only [k107, go_sem, ↓reduceIte, Nat.reduceEqDiff, Int.reduceLE, Int.reduceLT, Int.reduceNeg, Int.reduceEq, Nat.reduceMul, Nat.reduceAdd, Nat.reduceLeDiff, reduceCtorEq]
  refine K_for n (fun i g h c => g 0 = .dat 2 (fl (mkF k n)) ∧ g 1 = i64 (k + 2 * i : Nat) ∧ g 5 = i64 i) ?_ ?_ ?_
  · exact ⟨by simp [upd_at, S_0], by simp [upd_at, S_1], by simp [upd_at]⟩
  · rintro i A hi hA g h c ⟨q0, q1, q5⟩
    have hc : (i : Int) < (n : Int) := by omega
    have gi := fl_get (l := mkF k n) (i := i) (by rw [mkF_len]; exact hi)
    rw [mkF_get hi] at gi
    have w1 : IntKind.i64.wrap ((i : Int) + 1) = ((i + 1 : Nat) : Int) := by rw [wr (by omega) (by omega)]; rfl
    have w2 : IntKind.i64.wrap (((k + 2 * i : Nat) : Int) + 1) = ((k + 2 * i + 1 : Nat) : Int) := by rw [wr (by omega) (by omega)]; rfl
    have w3 : IntKind.i64.wrap (((k + 2 * i + 1 : Nat) : Int) + 1) = ((k + 2 * (i + 1) : Nat) : Int) := by rw [wr (by omega) (by omega)]; omega
    have e1 : ∀ s : List UInt8, (!(s == s)) = false := fun s => by simp
    simp -dsimp only [q0, q1, q5, hc, gi, fl_len, mkF_len, go_sem, ↓reduceIte, Nat.reduceEqDiff, Int.reduceLE, Int.reduceLT, Int.reduceNeg, Int.reduceEq, Nat.reduceMul, Nat.reduceAdd, Nat.reduceLeDiff, reduceCtorEq]
    refine Call0_val true (h63 (k + 2 * i) (by omega) (by omega)) (by simp [AV.free, AV.pure]) (.inl rfl) ?_
    simp -dsimp only [q0, q1, q5, hc, gi, w1, w2, w3, e1, go_sem, ↓reduceIte, Nat.reduceEqDiff, Int.reduceLE, Int.reduceLT, Int.reduceNeg, Int.reduceEq, Nat.reduceMul, Nat.reduceAdd, Nat.reduceLeDiff, reduceCtorEq]
    refine Call0_val true (h63 (k + 2 * i + 1) (by omega) (by omega)) (by simp [AV.free, AV.pure]) (.inl rfl) ?_
    simp -dsimp only [q0, q1, q5, hc, gi, w1, w2, w3, e1, go_sem, ↓reduceIte, Nat.reduceEqDiff, Int.reduceLE, Int.reduceLT, Int.reduceNeg, Int.reduceEq, Nat.reduceMul, Nat.reduceAdd, Nat.reduceLeDiff, reduceCtorEq]
    exact hA _ _ _ ⟨by simp [upd_at, q0], by simp [upd_at], by simp [upd_at]⟩
  · rintro A g h c ⟨q0, q1, q5⟩
    have hc : ¬ (n : Int) < (n : Int) := by omega
    simp -dsimp only [q0, q1, q5, hc, fl_len, mkF_len, go_sem, ↓reduceIte, Nat.reduceEqDiff, Int.reduceLE, Int.reduceLT, Int.reduceNeg, Int.reduceEq, Nat.reduceMul, Nat.reduceAdd, Nat.reduceLeDiff, reduceCtorEq]
    exact Fin_val (by simp [resV, upd_at, retA]) (by simp [resV, upd_at, ResOk])
theorem h106 (l : List Dop) (k : Nat) (cap : Option Nat) (q : Prop) (hk : 0 < k) (hkl : k + 4 * l.length ≤ 1000000000) : HT 106 [.sl (.p 0) 0 0 l.length cap, i64 k] [obM 4 (ol l) q] (i64 (k + 4 * l.length : Nat)) true [obM 4 (ol (mkO k l.length)) True] := by
  refine holds_of (c := Try.f106.body.getD .skip) (k := k106.1) (ts := [4]) HOk mixedT hintT Try.func106 (by kernel_rfl) (by kernel_rfl) (by kernel_rfl) k106.2 (by kernel_rfl) (le_of 2 _ (by kernel_rfl)) ?_
  simp -dsimp only [k106, go_sem, ↓reduceIte, Nat.reduceEqDiff, Int.reduceLE, Int.reduceLT, Int.reduceNeg, Int.reduceEq, Nat.reduceMul, Nat.reduceAdd, Nat.reduceLeDiff, reduceCtorEq]
  refine K_for l.length (fun i g h c => g 0 = .sl (.p 0) 0 0 l.length cap ∧ g 1 = i64 (k + 4 * i : Nat) ∧ g 5 = i64 i ∧ ∃ q, h (.p 0) = some (obM 4 (ol (mkO k i ++ l.drop i)) q)) ?_ ?_ ?_
  · exact ⟨by simp [upd_at, S_0], by simp [upd_at, S_1], by simp [upd_at], q, by simp [mkO]; rfl⟩
  · rintro i A hi hA g h c ⟨q0, q1, q5, q', hh⟩
    have hc : (i : Int) < (l.length : Int) := by omega
    unfold obM at hh
    obtain ⟨op, hop⟩ : ∃ op, op = l.getD i dop0 := ⟨_, rfl⟩
    have gi : (ol (mkO k i ++ l.drop i))[i]? = some (opC op) := by
      rw [ol_get (by simp [mkO_len]; omega), dropo_get hi, hop]
      rw [List.getD_eq_getElem?_getD, List.getElem?_append_right (by simp [mkO_len]), mkO_len]; simp
    have ec : opC op = [.i .i64 op.1, .s op.2.1, .s op.2.2.1, .s op.2.2.2] := rfl
    rw [ec] at gi
    have w1 : IntKind.i64.wrap ((i : Int) + 1) = ((i + 1 : Nat) : Int) := by rw [wr (by omega) (by omega)]; rfl
    have w0 : IntKind.i64.wrap ((k + 4 * i : Nat) : Int) = ((k + 4 * i : Nat) : Int) := wr (by omega) (by omega)
    have w2 : IntKind.i64.wrap (((k + 4 * i : Nat) : Int) + 1) = ((k + 4 * i + 1 : Nat) : Int) := by rw [wr (by omega) (by omega)]; rfl
    have w3 : IntKind.i64.wrap (((k + 4 * i + 1 : Nat) : Int) + 1) = ((k + 4 * i + 2 : Nat) : Int) := by rw [wr (by omega) (by omega)]; omega
    have w4 : IntKind.i64.wrap (((k + 4 * i + 2 : Nat) : Int) + 1) = ((k + 4 * i + 3 : Nat) : Int) := by rw [wr (by omega) (by omega)]; omega
    have w5 : IntKind.i64.wrap (((k + 4 * i + 3 : Nat) : Int) + 1) = ((k + 4 * (i + 1) : Nat) : Int) := by rw [wr (by omega) (by omega)]; omega
    have hlt : i < (ol (mkO k i ++ l.drop i)).length := (List.getElem?_eq_some_iff.1 gi).1
    simp -dsimp only [q0, q1, q5, hc, hh, gi, w0, w1, w2, w3, w4, w5, List.getElem?_set_self hlt, List.set_set, go_sem, ↓reduceIte, Nat.reduceEqDiff, Int.reduceLE, Int.reduceLT, Int.reduceNeg, Int.reduceEq, Nat.reduceMul, Nat.reduceAdd, Nat.reduceLeDiff, reduceCtorEq]
    refine Call_val (own := true) (h63 (k + 4 * i + 1) (by omega) (by omega)) (by simp [ExpOk, AV.pure]) (.inl rfl) ?_
    simp -dsimp only [q0, q1, q5, hc, hh, gi, w0, w1, w2, w3, w4, w5, List.getElem?_set_self hlt, List.set_set, go_sem, ↓reduceIte, Nat.reduceEqDiff, Int.reduceLE, Int.reduceLT, Int.reduceNeg, Int.reduceEq, Nat.reduceMul, Nat.reduceAdd, Nat.reduceLeDiff, reduceCtorEq]
    refine Call_val (own := true) (h63 (k + 4 * i + 2) (by omega) (by omega)) (by simp [ExpOk, AV.pure]) (.inl rfl) ?_
    simp -dsimp only [q0, q1, q5, hc, hh, gi, w0, w1, w2, w3, w4, w5, List.getElem?_set_self hlt, List.set_set, go_sem, ↓reduceIte, Nat.reduceEqDiff, Int.reduceLE, Int.reduceLT, Int.reduceNeg, Int.reduceEq, Nat.reduceMul, Nat.reduceAdd, Nat.reduceLeDiff, reduceCtorEq]
    refine Call_val (own := true) (h63 (k + 4 * i + 3) (by omega) (by omega)) (by simp [ExpOk, AV.pure]) (.inl rfl) ?_
    simp -dsimp only [q0, q1, q5, hc, hh, gi, w0, w1, w2, w3, w4, w5, List.getElem?_set_self hlt, List.set_set, go_sem, ↓reduceIte, Nat.reduceEqDiff, Int.reduceLE, Int.reduceLT, Int.reduceNeg, Int.reduceEq, Nat.reduceMul, Nat.reduceAdd, Nat.reduceLeDiff, reduceCtorEq]
    have e : (ol (mkO k i ++ l.drop i)).set i [.i .i64 (k + 4 * i : Nat), .s (mark (k + 4 * i + 1)), .s (mark (k + 4 * i + 2)), .s (mark (k + 4 * i + 3))] = ol (mkO k (i + 1) ++ l.drop (i + 1)) := by
      rw [show [AV.i .i64 (k + 4 * i : Nat), .s (mark (k + 4 * i + 1)), .s (mark (k + 4 * i + 2)), .s (mark (k + 4 * i + 3))] = opC (((k + 4 * i : Nat) : Int), mark (k + 4 * i + 1), mark (k + 4 * i + 2), mark (k + 4 * i + 3)) from rfl, ol_set, pre_set _ (mkO_len k i) (by rw [dropo_get hi]; simp), mkO_succ, List.drop_drop, Nat.add_comm i 1]; simp
    exact hA _ _ _ ⟨by simp [upd_at, q0], by simp [upd_at], by simp [upd_at], _, (by rw [hup_at, if_pos rfl, e]; rfl)⟩
  · rintro A g h c ⟨q0, q1, q5, q', hh⟩
    have hc : ¬ (l.length : Int) < (l.length : Int) := by omega
    rw [List.drop_length, List.append_nil] at hh
    unfold obM at hh
    simp -dsimp only [q0, q1, q5, hc, hh, go_sem, ↓reduceIte, Nat.reduceEqDiff, Int.reduceLE, Int.reduceLT, Int.reduceNeg, Int.reduceEq, Nat.reduceMul, Nat.reduceAdd, Nat.reduceLeDiff, reduceCtorEq]
    refine Fin_obs (by simp [resV, upd_at, retA]) (by simp [resV, upd_at, ResOk]) rfl fun j ob hj => ?_
    match j, hj with
    | 0, hj => simp at hj; subst hj; exact ⟨ol_pure _, q', .inl (ol_flat _), by rw [hh]; rfl, rfl⟩
    | j + 1, hj => simp at hj
theorem h108 (k n : Nat) (hk : 0 < k) (hkn : k + 4 * n ≤ 1000000000) : HT 108 [.dat 4 (ol (mkO k n)), i64 k] [] (i64 (k + 4 * n : Nat)) true [] := by
  refine holds_of (c := Try.f108.body.getD .skip) (k := k108.1) (ts := [4]) HOk mixedT hintT Try.func108 (by kernel_rfl) (by kernel_rfl) (by kernel_rfl) k108.2 (by kernel_rfl) (le_of 2 _ (by kernel_rfl)) ?_
  simp -dsimp only [k108, go_sem, ↓reduceIte, Nat.reduceEqDiff, Int.reduceLE, Int.reduceLT, Int.reduceNeg, Int.reduceEq, Nat.reduceMul, Nat.reduceAdd, Nat.reduceLeDiff, reduceCtorEq]
  refine K_for n (fun i g h c => g 0 = .dat 4 (ol (mkO k n)) ∧ g 1 = i64 (k + 4 * i : Nat) ∧ g 5 = i64 i) ?_ ?_ ?_
  · exact ⟨by simp [upd_at, S_0], by simp [upd_at, S_1], by simp [upd_at]⟩
  · rintro i A hi hA g h c ⟨q0, q1, q5⟩
    have hc : (i : Int) < (n : Int) := by omega
    have gi := ol_get (ops := mkO k n) (i := i) (by rw [mkO_len]; exact hi)
    rw [mkO_get hi] at gi
    unfold opC at gi
    have w1 : IntKind.i64.wrap ((i : Int) + 1) = ((i + 1 : Nat) : Int) := by rw [wr (by omega) (by omega)]; rfl
    have w0 : IntKind.i64.wrap ((k + 4 * i : Nat) : Int) = ((k + 4 * i : Nat) : Int) := wr (by omega) (by omega)
    have w2 : IntKind.i64.wrap (((k + 4 * i : Nat) : Int) + 1) = ((k + 4 * i + 1 : Nat) : Int) := by rw [wr (by omega) (by omega)]; rfl
    have w3 : IntKind.i64.wrap (((k + 4 * i + 1 : Nat) : Int) + 1) = ((k + 4 * i + 2 : Nat) : Int) := by rw [wr (by omega) (by omega)]; omega
    have w4 : IntKind.i64.wrap (((k + 4 * i + 2 : Nat) : Int) + 1) = ((k + 4 * i + 3 : Nat) : Int) := by rw [wr (by omega) (by omega)]; omega
    have w5 : IntKind.i64.wrap (((k + 4 * i + 3 : Nat) : Int) + 1) = ((k + 4 * (i + 1) : Nat) : Int) := by rw [wr (by omega) (by omega)]; omega
    have e1 : ∀ s : List UInt8, (!(s == s)) = false := fun s => by simp
    have e2 : (((k + 4 * i : Nat) : Int) != ((k + 4 * i : Nat) : Int)) = false := by simp
    simp -dsimp only [q0, q1, q5, hc, gi, ol_len, mkO_len, w0, w1, w2, w3, w4, w5, e1, e2, go_sem, ↓reduceIte, Nat.reduceEqDiff, Int.reduceLE, Int.reduceLT, Int.reduceNeg, Int.reduceEq, Nat.reduceMul, Nat.reduceAdd, Nat.reduceLeDiff, reduceCtorEq]
    refine Call0_val true (h63 (k + 4 * i + 1) (by omega) (by omega)) (by simp [AV.free, AV.pure]) (.inl rfl) ?_
    simp -dsimp only [q0, q1, q5, hc, gi, w0, w1, w2, w3, w4, w5, e1, e2, go_sem, ↓reduceIte, Nat.reduceEqDiff, Int.reduceLE, Int.reduceLT, Int.reduceNeg, Int.reduceEq, Nat.reduceMul, Nat.reduceAdd, Nat.reduceLeDiff, reduceCtorEq]
    refine Call0_val true (h63 (k + 4 * i + 2) (by omega) (by omega)) (by simp [AV.free, AV.pure]) (.inl rfl) ?_
    simp -dsimp only [q0, q1, q5, hc, gi, w0, w1, w2, w3, w4, w5, e1, e2, go_sem, ↓reduceIte, Nat.reduceEqDiff, Int.reduceLE, Int.reduceLT, Int.reduceNeg, Int.reduceEq, Nat.reduceMul, Nat.reduceAdd, Nat.reduceLeDiff, reduceCtorEq]
    refine Call0_val true (h63 (k + 4 * i + 3) (by omega) (by omega)) (by simp [AV.free, AV.pure]) (.inl rfl) ?_
    simp -dsimp only [q0, q1, q5, hc, gi, w0, w1, w2, w3, w4, w5, e1, e2, go_sem, ↓reduceIte, Nat.reduceEqDiff, Int.reduceLE, Int.reduceLT, Int.reduceNeg, Int.reduceEq, Nat.reduceMul, Nat.reduceAdd, Nat.reduceLeDiff, reduceCtorEq]
    exact hA _ _ _ ⟨by simp [upd_at, q0], by simp [upd_at], by simp [upd_at]⟩
  · rintro A g h c ⟨q0, q1, q5⟩
    have hc : ¬ (n : Int) < (n : Int) := by omega
    simp -dsimp only [q0, q1, q5, hc, ol_len, mkO_len, go_sem, ↓reduceIte, Nat.reduceEqDiff, Int.reduceLE, Int.reduceLT, Int.reduceNeg, Int.reduceEq, Nat.reduceMul, Nat.reduceAdd, Nat.reduceLeDiff, reduceCtorEq]
    exact Fin_val (by simp [resV, upd_at, retA]) (by simp [resV, upd_at, ResOk])
end FrA

/-! DkW -/
open Go Go.AM
namespace FrA
open Go.Proofs
set_option maxRecDepth 100000
set_option linter.unusedSimpArgs false
theorem h91o (l : List File) (hn : l.length ≤ 1048576) : HT 91 [.dat 2 (fl l)] [] (.sl (.p 0) 1 0 l.length none) true [obF l] := by
  refine holds_of (c := Try.f91.body.getD .skip) (k := k91.1) (ts := [2]) HOk mixedT hintT Try.func91 (by kernel_rfl) (by kernel_rfl) (by kernel_rfl) k91.2 (by kernel_rfl) (le_of 1 _ (by kernel_rfl)) ?_
  simp -dsimp only [k91, fl_len, go_sem, ↓reduceIte, Nat.reduceEqDiff, Int.reduceLE, Int.reduceLT, Int.reduceNeg, Int.reduceEq, Nat.reduceMul, Nat.reduceAdd, Nat.reduceLeDiff, reduceCtorEq]
  refine EK_p ?_ ?_
  · simp [bigOk]; omega
  simp -dsimp only [Int.toNat_natCast, zs_fl, go_sem, ↓reduceIte, Nat.reduceEqDiff, Int.reduceLE, Int.reduceLT, Int.reduceNeg, Int.reduceEq, Nat.reduceMul, Nat.reduceAdd, Nat.reduceLeDiff, reduceCtorEq]
  refine K_loop (fun g h c => ∃ (i : Nat) (q : Prop), i ≤ l.length ∧ g 0 = .dat 2 (fl l) ∧ g 3 = .sl (.l 7) 1 0 l.length none ∧ g 4 = i64 i ∧ h (.l 7) = some { ver := 1, es := fl (l.take i ++ List.replicate (l.length - i) ([], [])), esz := 2, own := q }) (fun g _ _ => match g 4 with | .i _ n => l.length - n.toNat | _ => 0) ?_ ?_
  · exact ⟨0, _, by omega, by simp [upd_at, S_0], by simp [upd_at], by simp [upd_at], by simp [hup_at, zs]; rfl⟩
  · rintro A n hA g h c ⟨i, q, hi, q0, q3, q4, hh⟩ hm
    by_cases hlt : i < l.length
    · have hc : (i : Int) < (l.length : Int) := by omega
      have w2 : IntKind.i64.wrap ((i : Int) + 1) = ((i + 1 : Nat) : Int) := by rw [wr (by omega) (by omega)]; rfl
      simp -dsimp only [q0, q3, q4, hc, fl_get hlt, fl_len, go_sem, ↓reduceIte, Nat.reduceEqDiff, Int.reduceLE, Int.reduceLT, Int.reduceNeg, Int.reduceEq, Nat.reduceMul, Nat.reduceAdd, Nat.reduceLeDiff, reduceCtorEq]
      refine Call_val (own := true) (h125 _ _) (by simp [ExpOk, AV.pure]) (.inl rfl) ?_
      simp -dsimp only [q0, q3, q4, hh, go_sem, ↓reduceIte, Nat.reduceEqDiff, Int.reduceLE, Int.reduceLT, Int.reduceNeg, Int.reduceEq, Nat.reduceMul, Nat.reduceAdd, Nat.reduceLeDiff, reduceCtorEq]
      refine VK_p (by omega) ?_
      have gz := fl_get (l := l.take i ++ List.replicate (l.length - i) ([], [])) (i := i) (by rw [tz_len _ _ _ hi]; exact hlt)
      have st := fl_set (l.take i ++ List.replicate (l.length - i) ([], [])) i (l.getD i ([], []))
      simp -dsimp only [q0, q3, q4, hh, gz, Nat.zero_add, st, w2, go_sem, ↓reduceIte, Nat.reduceEqDiff, Int.reduceLE, Int.reduceLT, Int.reduceNeg, Int.reduceEq, Nat.reduceMul, Nat.reduceAdd, Nat.reduceLeDiff, reduceCtorEq]
      refine hA _ _ _ ?_ ?_
      · exact ⟨i + 1, _, by omega, by simp [upd_at, q0], by simp [upd_at, q3], by simp [upd_at], by rw [hup_at, if_pos rfl, tz_set _ _ _ hlt]⟩
      · rw [q4] at hm; simp [upd_at] at hm ⊢; omega
    · have hc : ¬ (i : Int) < (l.length : Int) := by omega
      rw [tz_end _ _ _ (by omega)] at hh
      simp -dsimp only [q0, q3, q4, hc, fl_len, go_sem, ↓reduceIte, Nat.reduceEqDiff, Int.reduceLE, Int.reduceLT, Int.reduceNeg, Int.reduceEq, Nat.reduceMul, Nat.reduceAdd, Nat.reduceLeDiff, reduceCtorEq]
      have fin := @fin_clone (fl l) 2 2
      rw [fl_len] at fin
      exact fin (.l 7) 1 l.length _ _ q rfl (by simp [upd_at, q3]) hh rfl (fl_flat _) (fl_pure _)
theorem h92o (l : List Dop) (hn : l.length ≤ 1048576) : HT 92 [.dat 4 (ol l)] [] (.sl (.p 0) 1 0 l.length none) true [obO l] := by
  refine holds_of (c := Try.f92.body.getD .skip) (k := k92.1) (ts := [2]) HOk mixedT hintT Try.func92 (by kernel_rfl) (by kernel_rfl) (by kernel_rfl) k92.2 (by kernel_rfl) (le_of 1 _ (by kernel_rfl)) ?_
  simp -dsimp only [k92, ol_len, go_sem, ↓reduceIte, Nat.reduceEqDiff, Int.reduceLE, Int.reduceLT, Int.reduceNeg, Int.reduceEq, Nat.reduceMul, Nat.reduceAdd, Nat.reduceLeDiff, reduceCtorEq]
  refine EK_p ?_ ?_
  · simp [bigOk]; omega
  simp -dsimp only [Int.toNat_natCast, zo_ol, go_sem, ↓reduceIte, Nat.reduceEqDiff, Int.reduceLE, Int.reduceLT, Int.reduceNeg, Int.reduceEq, Nat.reduceMul, Nat.reduceAdd, Nat.reduceLeDiff, reduceCtorEq]
  refine K_loop (fun g h c => ∃ (i : Nat) (q : Prop), i ≤ l.length ∧ g 0 = .dat 4 (ol l) ∧ g 3 = .sl (.l 7) 1 0 l.length none ∧ g 4 = i64 i ∧ h (.l 7) = some { ver := 1, es := ol (l.take i ++ List.replicate (l.length - i) dop0), esz := 4, own := q }) (fun g _ _ => match g 4 with | .i _ n => l.length - n.toNat | _ => 0) ?_ ?_
  · exact ⟨0, _, by omega, by simp [upd_at, S_0], by simp [upd_at], by simp [upd_at], by simp [hup_at]; rfl⟩
  · rintro A n hA g h c ⟨i, q, hi, q0, q3, q4, hh⟩ hm
    by_cases hlt : i < l.length
    · have hc : (i : Int) < (l.length : Int) := by omega
      have w2 : IntKind.i64.wrap ((i : Int) + 1) = ((i + 1 : Nat) : Int) := by rw [wr (by omega) (by omega)]; rfl
      obtain ⟨op, hop⟩ : ∃ op, op = l.getD i dop0 := ⟨_, rfl⟩
      have hgo := ol_get hlt
      rw [← hop] at hgo
      have ec : opC op = [.i .i64 op.1, .s op.2.1, .s op.2.2.1, .s op.2.2.2] := rfl
      have h55' := h55 op
      rw [ec] at h55'
      simp -dsimp only [q0, q3, q4, hc, hgo, ec, ol_len, go_sem, ↓reduceIte, Nat.reduceEqDiff, Int.reduceLE, Int.reduceLT, Int.reduceNeg, Int.reduceEq, Nat.reduceMul, Nat.reduceAdd, Nat.reduceLeDiff, reduceCtorEq]
      refine Call_val (own := true) (h55') (by simp [ExpOk, AV.pure]) (.inl rfl) ?_
      simp -dsimp only [q0, q3, q4, hh, go_sem, ↓reduceIte, Nat.reduceEqDiff, Int.reduceLE, Int.reduceLT, Int.reduceNeg, Int.reduceEq, Nat.reduceMul, Nat.reduceAdd, Nat.reduceLeDiff, reduceCtorEq]
      refine VK_p (by omega) ?_
      obtain ⟨oz, hoz⟩ : ∃ oz, oz = (l.take i ++ List.replicate (l.length - i) dop0).getD i dop0 := ⟨_, rfl⟩
      have gz := ol_get (ops := l.take i ++ List.replicate (l.length - i) dop0) (i := i) (by rw [tz_len _ _ _ hi]; exact hlt)
      rw [← hoz] at gz
      have ecz : opC oz = [.i .i64 oz.1, .s oz.2.1, .s oz.2.2.1, .s oz.2.2.2] := rfl
      have st := ol_set (l.take i ++ List.replicate (l.length - i) dop0) i op
      rw [ec] at st
      simp -dsimp only [q0, q3, q4, hh, gz, ecz, Nat.zero_add, st, w2, go_sem, ↓reduceIte, Nat.reduceEqDiff, Int.reduceLE, Int.reduceLT, Int.reduceNeg, Int.reduceEq, Nat.reduceMul, Nat.reduceAdd, Nat.reduceLeDiff, reduceCtorEq]
      refine hA _ _ _ ?_ ?_
      · exact ⟨i + 1, _, by omega, by simp [upd_at, q0], by simp [upd_at, q3], by simp [upd_at], by rw [hup_at, if_pos rfl, hop, tz_set _ _ _ hlt]⟩
      · rw [q4] at hm; simp [upd_at] at hm ⊢; omega
    · have hc : ¬ (i : Int) < (l.length : Int) := by omega
      rw [tz_end _ _ _ (by omega)] at hh
      simp -dsimp only [q0, q3, q4, hc, ol_len, go_sem, ↓reduceIte, Nat.reduceEqDiff, Int.reduceLE, Int.reduceLT, Int.reduceNeg, Int.reduceEq, Nat.reduceMul, Nat.reduceAdd, Nat.reduceLeDiff, reduceCtorEq]
      have fin := @fin_clone (ol l) 4 2
      rw [ol_len] at fin
      exact fin (.l 7) 1 l.length _ _ q rfl (by simp [upd_at, q3]) hh rfl (ol_flat _) (ol_pure _)
theorem obF_p (l : List File) : ∀ x ∈ [obF l], Pure x.es := by simp [obF, fl_pure]
theorem obO_p (l : List Dop) : ∀ x ∈ [obO l], Pure x.es := by simp [obO, ol_pure]
theorem h41o (live safe : List File) (ops : List Dop) (h1 : live.length ≤ 1048576) (h2 : safe.length ≤ 1048576) (h3 : ops.length ≤ 1048576) : HT 41 [disk live safe ops] [] (copyA live safe ops) true [obF live, obF safe, obO ops] := by
  refine holdsc_of (c := Try.f41.body.getD .skip) (k := k41.1) (cs := [(2, some (true, 3))]) HOk mixedT hintT Try.func41 (by kernel_rfl) (by kernel_rfl) (by kernel_rfl) k41.2 (by kernel_rfl) (le_of 1 _ (by kernel_rfl)) ?_
  unfold disk
  simp -dsimp only [k41, go_sem, ↓reduceIte, Nat.reduceEqDiff, Int.reduceLE, Int.reduceLT, Int.reduceNeg, Int.reduceEq, Nat.reduceMul, Nat.reduceAdd, Nat.reduceLeDiff, reduceCtorEq]
  refine Call_news (own := true) (h91o live h1) (by simp [ExpOk, AV.pure]) (obF_p _) (.inl rfl) (by simp [obF]) ?_
  simp -dsimp only [impA, impL, Option.getD_some, Nat.sub_self, Nat.sub_zero, obF, go_sem, ↓reduceIte, Nat.reduceEqDiff, Int.reduceLE, Int.reduceLT, Int.reduceNeg, Int.reduceEq, Nat.reduceMul, Nat.reduceAdd, Nat.reduceLeDiff, reduceCtorEq]
  refine Call_news (own := true) (h91o safe h2) (by simp [ExpOk, AV.pure]) (obF_p _) (.inl rfl) (by simp [obF]) ?_
  simp -dsimp only [impA, impL, Option.getD_some, Nat.sub_self, Nat.sub_zero, obF, go_sem, ↓reduceIte, Nat.reduceEqDiff, Int.reduceLE, Int.reduceLT, Int.reduceNeg, Int.reduceEq, Nat.reduceMul, Nat.reduceAdd, Nat.reduceLeDiff, reduceCtorEq]
  refine Call_news (own := true) (h92o ops h3) (by simp [ExpOk, AV.pure]) (obO_p _) (.inl rfl) (by simp [obO]) ?_
  simp -dsimp only [impA, impL, Option.getD_some, Nat.sub_self, Nat.sub_zero, obO, go_sem, ↓reduceIte, Nat.reduceEqDiff, Int.reduceLE, Int.reduceLT, Int.reduceNeg, Int.reduceEq, Nat.reduceMul, Nat.reduceAdd, Nat.reduceLeDiff, reduceCtorEq]
  refine finC_outs [.r 6 0, .r 10 0, .r 14 0] (p := True) (l := [.agg [.sl (.r 6 0) 4 0 live.length none, .sl (.r 10 0) 5 0 safe.length none, .sl (.r 14 0) 6 0 ops.length none]]) (by simp [resM, resE, upd_at, loadF, cur, hup_at]) trivial (by simp) (by simp [Rid.isP]) ?_ ?_ ?_
  · exact .flat (by simp only [hup_at, newObs, ↓reduceIte, Nat.reduceEqDiff, reduceCtorEq, Rid.r.injEq, Rid.l.injEq, Nat.reduceAdd, Nat.zero_add, and_self, and_true, and_false, false_and, true_and] <;> rfl) (fl_flat _) (fl_pure _) (.flat (by simp only [hup_at, newObs, ↓reduceIte, Nat.reduceEqDiff, reduceCtorEq, Rid.r.injEq, Rid.l.injEq, Nat.reduceAdd, Nat.zero_add, and_self, and_true, and_false, false_and, true_and] <;> rfl) (fl_flat _) (fl_pure _) (.flat (by simp only [hup_at, newObs, ↓reduceIte, Nat.reduceEqDiff, reduceCtorEq, Rid.r.injEq, Rid.l.injEq, Nat.reduceAdd, Nat.zero_add, and_self, and_true, and_false, false_and, true_and] <;> rfl) (ol_flat _) (ol_pure _) trivial))
  · simp [resOne, retA, retL, cur, hup_at, List.idxOf?_cons, copyA]
  · simp [resOne, ResOk, ResL, cur, hup_at]
theorem h52 (live safe : List File) (ops : List Dop) (k : Nat) (c0 c1 c2 : Option Nat) (q0 q1 q2 : Prop) (hk : 0 < k) (hkl : k + 2 * live.length + 2 * safe.length + 4 * ops.length ≤ 1000000000) :
    HT 52 [.agg [.sl (.p 0) 0 0 live.length c0, .sl (.p 1) 0 0 safe.length c1, .sl (.p 2) 0 0 ops.length c2], i64 k] [obM 2 (fl live) q0, obM 2 (fl safe) q1, obM 4 (ol ops) q2] (i64 (k + 2 * live.length + 2 * safe.length + 4 * ops.length : Nat)) true
      [obM 2 (fl (mkF k live.length)) True, obM 2 (fl (mkF (k + 2 * live.length) safe.length)) True, obM 4 (ol (mkO (k + 2 * live.length + 2 * safe.length) ops.length)) True] := by
  refine holds_of (c := Try.f52.body.getD .skip) (k := k52.1) (ts := [4]) HOk mixedT hintT Try.func52 (by kernel_rfl) (by kernel_rfl) (by kernel_rfl) k52.2 (by kernel_rfl) (le_of 2 _ (by kernel_rfl)) ?_
  simp -dsimp only [k52, go_sem, ↓reduceIte, Nat.reduceEqDiff, Int.reduceLE, Int.reduceLT, Int.reduceNeg, Int.reduceEq, Nat.reduceMul, Nat.reduceAdd, Nat.reduceLeDiff, reduceCtorEq]
  refine Call_many (own := true) (v := i64 (k + 2 * live.length : Nat)) [.p 0] [obM 2 (fl live) q0] [obM 2 (fl (mkF k live.length)) True] (by simp [hup_at, objs]) (by simp) (by simpa [expL, expA, cur, hup_at, objs, List.idxOf?_cons, obM] using h105 live k c0 q0 hk (by omega)) rfl (by simp [ExpOk, cur, hup_at, objs, List.idxOf?_cons, AV.pure, obM]) (by simp [obM, fl_pure]) (by simp [obM, fl_pure]) (.inl rfl) (by simp [obM]) ?_
  simp -dsimp only [obM, go_sem, ↓reduceIte, Nat.reduceEqDiff, Int.reduceLE, Int.reduceLT, Int.reduceNeg, Int.reduceEq, Nat.reduceMul, Nat.reduceAdd, Nat.reduceLeDiff, reduceCtorEq]
  refine Call_many (own := true) (v := i64 (k + 2 * live.length + 2 * safe.length : Nat)) [.p 1] [obM 2 (fl safe) q1] [obM 2 (fl (mkF (k + 2 * live.length) safe.length)) True] (by simp [hup_at, objs, obM]) (by simp) (by simpa [expL, expA, cur, hup_at, objs, List.idxOf?_cons, obM] using h105 safe (k + 2 * live.length) c1 q1 (by omega) (by omega)) rfl (by simp [ExpOk, cur, hup_at, objs, List.idxOf?_cons, AV.pure, obM]) (by simp [obM, fl_pure]) (by simp [obM, fl_pure]) (.inl rfl) (by simp [obM]) ?_
  simp -dsimp only [obM, go_sem, ↓reduceIte, Nat.reduceEqDiff, Int.reduceLE, Int.reduceLT, Int.reduceNeg, Int.reduceEq, Nat.reduceMul, Nat.reduceAdd, Nat.reduceLeDiff, reduceCtorEq]
  refine Call_many (own := true) (v := i64 (k + 2 * live.length + 2 * safe.length + 4 * ops.length : Nat)) [.p 2] [obM 4 (ol ops) q2] [obM 4 (ol (mkO (k + 2 * live.length + 2 * safe.length) ops.length)) True] (by simp [hup_at, objs, obM]) (by simp) (by simpa [expL, expA, cur, hup_at, objs, List.idxOf?_cons, obM] using h106 ops (k + 2 * live.length + 2 * safe.length) c2 q2 (by omega) (by omega)) rfl (by simp [ExpOk, cur, hup_at, objs, List.idxOf?_cons, AV.pure, obM]) (by simp [obM, ol_pure]) (by simp [obM, ol_pure]) (.inl rfl) (by simp [obM]) ?_
  simp -dsimp only [obM, go_sem, ↓reduceIte, Nat.reduceEqDiff, Int.reduceLE, Int.reduceLT, Int.reduceNeg, Int.reduceEq, Nat.reduceMul, Nat.reduceAdd, Nat.reduceLeDiff, reduceCtorEq]
  refine Fin_obs (by simp [resV, upd_at, retA]) (by simp [resV, upd_at, ResOk]) rfl fun j ob hj => ?_
  match j, hj with
  | 0, hj => simp at hj; subst hj; exact ⟨fl_pure _, True, .inl (fl_flat _), by simp [hup_at], rfl⟩
  | 1, hj => simp at hj; subst hj; exact ⟨fl_pure _, True, .inl (fl_flat _), by simp [hup_at], rfl⟩
  | 2, hj => simp at hj; subst hj; exact ⟨ol_pure _, True, .inl (ol_flat _), by simp [hup_at], rfl⟩
  | j + 3, hj => simp at hj
theorem h53 (k n1 n2 n3 : Nat) (hk : 0 < k) (hkl : k + 2 * n1 + 2 * n2 + 4 * n3 ≤ 1000000000) :
    HT 53 [disk (mkF k n1) (mkF (k + 2 * n1) n2) (mkO (k + 2 * n1 + 2 * n2) n3), i64 k] [] (i64 (k + 2 * n1 + 2 * n2 + 4 * n3 : Nat)) true [] := by
  refine holds_of (c := Try.f53.body.getD .skip) (k := k53.1) (ts := [4]) HOk mixedT hintT Try.func53 (by kernel_rfl) (by kernel_rfl) (by kernel_rfl) k53.2 (by kernel_rfl) (le_of 2 _ (by kernel_rfl)) ?_
  unfold disk
  have f1 : ¬ ((k + 2 * n1 : Nat) : Int) < 0 := by omega
  have f2 : ¬ ((k + 2 * n1 + 2 * n2 : Nat) : Int) < 0 := by omega
  have f3 : ¬ ((k + 2 * n1 + 2 * n2 + 4 * n3 : Nat) : Int) < 0 := by omega
  simp -dsimp only [k53, go_sem, ↓reduceIte, Nat.reduceEqDiff, Int.reduceLE, Int.reduceLT, Int.reduceNeg, Int.reduceEq, Nat.reduceMul, Nat.reduceAdd, Nat.reduceLeDiff, reduceCtorEq]
  refine Call_val (own := true) (h107 k n1 hk (by omega)) (by simp [ExpOk, AV.pure]) (.inl rfl) ?_
  simp -dsimp only [f1, go_sem, ↓reduceIte, Nat.reduceEqDiff, Int.reduceLE, Int.reduceLT, Int.reduceNeg, Int.reduceEq, Nat.reduceMul, Nat.reduceAdd, Nat.reduceLeDiff, reduceCtorEq]
  refine Call_val (own := true) (h107 (k + 2 * n1) n2 (by omega) (by omega)) (by simp [ExpOk, AV.pure]) (.inl rfl) ?_
  simp -dsimp only [f2, go_sem, ↓reduceIte, Nat.reduceEqDiff, Int.reduceLE, Int.reduceLT, Int.reduceNeg, Int.reduceEq, Nat.reduceMul, Nat.reduceAdd, Nat.reduceLeDiff, reduceCtorEq]
  refine Call_val (own := true) (h108 (k + 2 * n1 + 2 * n2) n3 (by omega) (by omega)) (by simp [ExpOk, AV.pure]) (.inl rfl) ?_
  simp -dsimp only [f3, go_sem, ↓reduceIte, Nat.reduceEqDiff, Int.reduceLE, Int.reduceLT, Int.reduceNeg, Int.reduceEq, Nat.reduceMul, Nat.reduceAdd, Nat.reduceLeDiff, reduceCtorEq]
  exact Fin_val (by simp [resV, upd_at, retA]) (by simp [resV, upd_at, ResOk])
end FrA

/-! DkX -/
open Go Go.AM
namespace FrA
open Go.Proofs
set_option maxRecDepth 100000
set_option linter.unusedSimpArgs false
theorem lt00 : ((0 : Int) < 0) = False := by simp
theorem ne00 : ((0 : Int) != 0) = false := rfl
theorem h105n (k : Nat) : HT 105 [.nils, i64 k] [] (i64 k) true [] := by
  refine holds_of (c := Try.f105.body.getD .skip) (k := k105.1) (ts := [4]) HOk mixedT hintT Try.func105 (by kernel_rfl) (by kernel_rfl) (by kernel_rfl) k105.2 (by kernel_rfl) (le_of 2 _ (by kernel_rfl)) ?_
  simp -dsimp only [k105, go_sem, ↓reduceIte, Nat.reduceEqDiff, Int.reduceLE, Int.reduceLT, Int.reduceNeg, Int.reduceEq, Nat.reduceMul, Nat.reduceAdd, Nat.reduceLeDiff, reduceCtorEq]
  refine K_for 0 (fun i g h c => g 0 = .nils ∧ g 1 = i64 k ∧ g 5 = i64 0) ?_ (fun i A hi => absurd hi (Nat.not_lt_zero _)) ?_
  · exact ⟨by simp [upd_at, S_0], by simp [upd_at, S_1], by simp [upd_at]⟩
  · rintro A g h c ⟨q0, q1, q5⟩
    simp -dsimp only [q0, q1, q5, lt00, go_sem, ↓reduceIte, Nat.reduceEqDiff, Int.reduceLE, Int.reduceLT, Int.reduceNeg, Int.reduceEq, Nat.reduceMul, Nat.reduceAdd, Nat.reduceLeDiff, reduceCtorEq]
    exact Fin_val (by simp [resV, upd_at, retA]) (by simp [resV, upd_at, ResOk])
theorem h106n (k : Nat) : HT 106 [.nils, i64 k] [] (i64 k) true [] := by
  refine holds_of (c := Try.f106.body.getD .skip) (k := k106.1) (ts := [4]) HOk mixedT hintT Try.func106 (by kernel_rfl) (by kernel_rfl) (by kernel_rfl) k106.2 (by kernel_rfl) (le_of 2 _ (by kernel_rfl)) ?_
  simp -dsimp only [k106, go_sem, ↓reduceIte, Nat.reduceEqDiff, Int.reduceLE, Int.reduceLT, Int.reduceNeg, Int.reduceEq, Nat.reduceMul, Nat.reduceAdd, Nat.reduceLeDiff, reduceCtorEq]
  refine K_for 0 (fun i g h c => g 0 = .nils ∧ g 1 = i64 k ∧ g 5 = i64 0) ?_ (fun i A hi => absurd hi (Nat.not_lt_zero _)) ?_
  · exact ⟨by simp [upd_at, S_0], by simp [upd_at, S_1], by simp [upd_at]⟩
  · rintro A g h c ⟨q0, q1, q5⟩
    simp -dsimp only [q0, q1, q5, lt00, go_sem, ↓reduceIte, Nat.reduceEqDiff, Int.reduceLE, Int.reduceLT, Int.reduceNeg, Int.reduceEq, Nat.reduceMul, Nat.reduceAdd, Nat.reduceLeDiff, reduceCtorEq]
    exact Fin_val (by simp [resV, upd_at, retA]) (by simp [resV, upd_at, ResOk])
theorem h107n (k : Nat) : HT 107 [.nils, i64 k] [] (i64 k) true [] := by
  refine holds_of (c := Try.f107.body.getD .skip) (k := k107.1) (ts := [4]) HOk mixedT hintT Try.func107 (by kernel_rfl) (by kernel_rfl) (by kernel_rfl) k107.2 (by kernel_rfl) (le_of 2 _ (by kernel_rfl)) ?_
  simp -dsimp only [k107, go_sem, ↓reduceIte, Nat.reduceEqDiff, Int.reduceLE, Int.reduceLT, Int.reduceNeg, Int.reduceEq, Nat.reduceMul, Nat.reduceAdd, Nat.reduceLeDiff, reduceCtorEq]
  refine K_for 0 (fun i g h c => g 0 = .nils ∧ g 1 = i64 k ∧ g 5 = i64 0) ?_ (fun i A hi => absurd hi (Nat.not_lt_zero _)) ?_
  · exact ⟨by simp [upd_at, S_0], by simp [upd_at, S_1], by simp [upd_at]⟩
  · rintro A g h c ⟨q0, q1, q5⟩
    simp -dsimp only [q0, q1, q5, lt00, go_sem, ↓reduceIte, Nat.reduceEqDiff, Int.reduceLE, Int.reduceLT, Int.reduceNeg, Int.reduceEq, Nat.reduceMul, Nat.reduceAdd, Nat.reduceLeDiff, reduceCtorEq]
    exact Fin_val (by simp [resV, upd_at, retA]) (by simp [resV, upd_at, ResOk])
theorem h108n (k : Nat) : HT 108 [.nils, i64 k] [] (i64 k) true [] := by
  refine holds_of (c := Try.f108.body.getD .skip) (k := k108.1) (ts := [4]) HOk mixedT hintT Try.func108 (by kernel_rfl) (by kernel_rfl) (by kernel_rfl) k108.2 (by kernel_rfl) (le_of 2 _ (by kernel_rfl)) ?_
  simp -dsimp only [k108, go_sem, ↓reduceIte, Nat.reduceEqDiff, Int.reduceLE, Int.reduceLT, Int.reduceNeg, Int.reduceEq, Nat.reduceMul, Nat.reduceAdd, Nat.reduceLeDiff, reduceCtorEq]
  refine K_for 0 (fun i g h c => g 0 = .nils ∧ g 1 = i64 k ∧ g 5 = i64 0) ?_ (fun i A hi => absurd hi (Nat.not_lt_zero _)) ?_
  · exact ⟨by simp [upd_at, S_0], by simp [upd_at, S_1], by simp [upd_at]⟩
  · rintro A g h c ⟨q0, q1, q5⟩
    simp -dsimp only [q0, q1, q5, lt00, go_sem, ↓reduceIte, Nat.reduceEqDiff, Int.reduceLE, Int.reduceLT, Int.reduceNeg, Int.reduceEq, Nat.reduceMul, Nat.reduceAdd, Nat.reduceLeDiff, reduceCtorEq]
    exact Fin_val (by simp [resV, upd_at, retA]) (by simp [resV, upd_at, ResOk])
theorem h93n : HT 93 [.nils, .nils] [] (.b true) true [] := by
  refine holds_of (c := Try.f93.body.getD .skip) (k := k93.1) (ts := [4]) HOk mixedT hintT Try.func93 (by kernel_rfl) (by kernel_rfl) (by kernel_rfl) k93.2 (by kernel_rfl) (le_of 2 _ (by kernel_rfl)) ?_
  simp -dsimp only [k93, ne00, go_sem, ↓reduceIte, Nat.reduceEqDiff, Int.reduceLE, Int.reduceLT, Int.reduceNeg, Int.reduceEq, Nat.reduceMul, Nat.reduceAdd, Nat.reduceLeDiff, reduceCtorEq]
  refine K_for 0 (fun i g h c => g 0 = .nils ∧ g 1 = .nils ∧ g 5 = i64 0) ?_ (fun i A hi => absurd hi (Nat.not_lt_zero _)) ?_
  · exact ⟨by simp [upd_at, S_0], by simp [upd_at, S_1], by simp [upd_at]⟩
  · rintro A g h c ⟨q0, q1, q5⟩
    simp -dsimp only [q0, q1, q5, lt00, go_sem, ↓reduceIte, Nat.reduceEqDiff, Int.reduceLE, Int.reduceLT, Int.reduceNeg, Int.reduceEq, Nat.reduceMul, Nat.reduceAdd, Nat.reduceLeDiff, reduceCtorEq]
    exact Fin_val (by simp [resV, upd_at, retA]) (by simp [resV, upd_at, ResOk])
theorem h94n : HT 94 [.nils, .nils] [] (.b true) true [] := by
  refine holds_of (c := Try.f94.body.getD .skip) (k := k94.1) (ts := [4]) HOk mixedT hintT Try.func94 (by kernel_rfl) (by kernel_rfl) (by kernel_rfl) k94.2 (by kernel_rfl) (le_of 2 _ (by kernel_rfl)) ?_
  simp -dsimp only [k94, ne00, go_sem, ↓reduceIte, Nat.reduceEqDiff, Int.reduceLE, Int.reduceLT, Int.reduceNeg, Int.reduceEq, Nat.reduceMul, Nat.reduceAdd, Nat.reduceLeDiff, reduceCtorEq]
  refine K_for 0 (fun i g h c => g 0 = .nils ∧ g 1 = .nils ∧ g 5 = i64 0) ?_ (fun i A hi => absurd hi (Nat.not_lt_zero _)) ?_
  · exact ⟨by simp [upd_at, S_0], by simp [upd_at, S_1], by simp [upd_at]⟩
  · rintro A g h c ⟨q0, q1, q5⟩
    simp -dsimp only [q0, q1, q5, lt00, go_sem, ↓reduceIte, Nat.reduceEqDiff, Int.reduceLE, Int.reduceLT, Int.reduceNeg, Int.reduceEq, Nat.reduceMul, Nat.reduceAdd, Nat.reduceLeDiff, reduceCtorEq]
    exact Fin_val (by simp [resV, upd_at, retA]) (by simp [resV, upd_at, ResOk])
theorem h42n : HT 42 [nilA, nilA] [] (.b true) true [] := by
  refine holds_of (c := Try.f42.body.getD .skip) (k := k42.1) (ts := [4]) HOk mixedT hintT Try.func42 (by kernel_rfl) (by kernel_rfl) (by kernel_rfl) k42.2 (by kernel_rfl) (le_of 2 _ (by kernel_rfl)) ?_
  unfold nilA
  simp -dsimp only [k42, go_sem, ↓reduceIte, Nat.reduceEqDiff, Int.reduceLE, Int.reduceLT, Int.reduceNeg, Int.reduceEq, Nat.reduceMul, Nat.reduceAdd, Nat.reduceLeDiff, reduceCtorEq]
  refine Call_val (own := true) (h93n) (by simp [ExpOk, AV.pure]) (.inl rfl) ?_
  simp -dsimp only [go_sem, ↓reduceIte, Nat.reduceEqDiff, Int.reduceLE, Int.reduceLT, Int.reduceNeg, Int.reduceEq, Nat.reduceMul, Nat.reduceAdd, Nat.reduceLeDiff, reduceCtorEq]
  refine Call_val (own := true) (h93n) (by simp [ExpOk, AV.pure]) (.inl rfl) ?_
  simp -dsimp only [go_sem, ↓reduceIte, Nat.reduceEqDiff, Int.reduceLE, Int.reduceLT, Int.reduceNeg, Int.reduceEq, Nat.reduceMul, Nat.reduceAdd, Nat.reduceLeDiff, reduceCtorEq]
  refine Call_val (own := true) (h94n) (by simp [ExpOk, AV.pure]) (.inl rfl) ?_
  simp -dsimp only [go_sem, ↓reduceIte, Nat.reduceEqDiff, Int.reduceLE, Int.reduceLT, Int.reduceNeg, Int.reduceEq, Nat.reduceMul, Nat.reduceAdd, Nat.reduceLeDiff, reduceCtorEq]
  exact Fin_val (by simp [resV, upd_at, retA]) (by simp [resV, upd_at, ResOk])
/-- A synced disk, by value. -/
def syncD (l : List File) : AV := .agg [.dat 2 (fl l), .dat 2 (fl l), .nils]
theorem h42s (l : List File) (hn : l.length ≤ 1048576) : HT 42 [syncD l, syncD l] [] (.b true) true [] := by
  refine holds_of (c := Try.f42.body.getD .skip) (k := k42.1) (ts := [4]) HOk mixedT hintT Try.func42 (by kernel_rfl) (by kernel_rfl) (by kernel_rfl) k42.2 (by kernel_rfl) (le_of 2 _ (by kernel_rfl)) ?_
  unfold syncD
  simp -dsimp only [k42, go_sem, ↓reduceIte, Nat.reduceEqDiff, Int.reduceLE, Int.reduceLT, Int.reduceNeg, Int.reduceEq, Nat.reduceMul, Nat.reduceAdd, Nat.reduceLeDiff, reduceCtorEq]
  refine Call_val (own := true) (h93 l hn) (by simp [ExpOk, AV.pure]) (.inl rfl) ?_
  simp -dsimp only [go_sem, ↓reduceIte, Nat.reduceEqDiff, Int.reduceLE, Int.reduceLT, Int.reduceNeg, Int.reduceEq, Nat.reduceMul, Nat.reduceAdd, Nat.reduceLeDiff, reduceCtorEq]
  refine Call_val (own := true) (h93 l hn) (by simp [ExpOk, AV.pure]) (.inl rfl) ?_
  simp -dsimp only [go_sem, ↓reduceIte, Nat.reduceEqDiff, Int.reduceLE, Int.reduceLT, Int.reduceNeg, Int.reduceEq, Nat.reduceMul, Nat.reduceAdd, Nat.reduceLeDiff, reduceCtorEq]
  refine Call_val (own := true) (h94n) (by simp [ExpOk, AV.pure]) (.inl rfl) ?_
  simp -dsimp only [go_sem, ↓reduceIte, Nat.reduceEqDiff, Int.reduceLE, Int.reduceLT, Int.reduceNeg, Int.reduceEq, Nat.reduceMul, Nat.reduceAdd, Nat.reduceLeDiff, reduceCtorEq]
  exact Fin_val (by simp [resV, upd_at, retA]) (by simp [resV, upd_at, ResOk])
theorem h52n (k : Nat) : HT 52 [nilA, i64 k] [] (i64 k) true [] := by
  refine holds_of (c := Try.f52.body.getD .skip) (k := k52.1) (ts := [4]) HOk mixedT hintT Try.func52 (by kernel_rfl) (by kernel_rfl) (by kernel_rfl) k52.2 (by kernel_rfl) (le_of 2 _ (by kernel_rfl)) ?_
  unfold nilA
  simp -dsimp only [k52, go_sem, ↓reduceIte, Nat.reduceEqDiff, Int.reduceLE, Int.reduceLT, Int.reduceNeg, Int.reduceEq, Nat.reduceMul, Nat.reduceAdd, Nat.reduceLeDiff, reduceCtorEq]
  refine Call_val (own := true) (h105n k) (by simp [ExpOk, AV.pure]) (.inl rfl) ?_
  simp -dsimp only [go_sem, ↓reduceIte, Nat.reduceEqDiff, Int.reduceLE, Int.reduceLT, Int.reduceNeg, Int.reduceEq, Nat.reduceMul, Nat.reduceAdd, Nat.reduceLeDiff, reduceCtorEq]
  refine Call_val (own := true) (h105n k) (by simp [ExpOk, AV.pure]) (.inl rfl) ?_
  simp -dsimp only [go_sem, ↓reduceIte, Nat.reduceEqDiff, Int.reduceLE, Int.reduceLT, Int.reduceNeg, Int.reduceEq, Nat.reduceMul, Nat.reduceAdd, Nat.reduceLeDiff, reduceCtorEq]
  refine Call_val (own := true) (h106n k) (by simp [ExpOk, AV.pure]) (.inl rfl) ?_
  simp -dsimp only [go_sem, ↓reduceIte, Nat.reduceEqDiff, Int.reduceLE, Int.reduceLT, Int.reduceNeg, Int.reduceEq, Nat.reduceMul, Nat.reduceAdd, Nat.reduceLeDiff, reduceCtorEq]
  exact Fin_val (by simp [resV, upd_at, retA]) (by simp [resV, upd_at, ResOk])
theorem h53n (k : Nat) : HT 53 [nilA, i64 k] [] (i64 k) true [] := by
  refine holds_of (c := Try.f53.body.getD .skip) (k := k53.1) (ts := [4]) HOk mixedT hintT Try.func53 (by kernel_rfl) (by kernel_rfl) (by kernel_rfl) k53.2 (by kernel_rfl) (le_of 2 _ (by kernel_rfl)) ?_
  unfold nilA
  have f1 : ¬ ((k : Nat) : Int) < 0 := by omega
  simp -dsimp only [k53, go_sem, ↓reduceIte, Nat.reduceEqDiff, Int.reduceLE, Int.reduceLT, Int.reduceNeg, Int.reduceEq, Nat.reduceMul, Nat.reduceAdd, Nat.reduceLeDiff, reduceCtorEq]
  refine Call_val (own := true) (h107n k) (by simp [ExpOk, AV.pure]) (.inl rfl) ?_
  simp -dsimp only [f1, go_sem, ↓reduceIte, Nat.reduceEqDiff, Int.reduceLE, Int.reduceLT, Int.reduceNeg, Int.reduceEq, Nat.reduceMul, Nat.reduceAdd, Nat.reduceLeDiff, reduceCtorEq]
  refine Call_val (own := true) (h107n k) (by simp [ExpOk, AV.pure]) (.inl rfl) ?_
  simp -dsimp only [f1, go_sem, ↓reduceIte, Nat.reduceEqDiff, Int.reduceLE, Int.reduceLT, Int.reduceNeg, Int.reduceEq, Nat.reduceMul, Nat.reduceAdd, Nat.reduceLeDiff, reduceCtorEq]
  refine Call_val (own := true) (h108n k) (by simp [ExpOk, AV.pure]) (.inl rfl) ?_
  simp -dsimp only [f1, go_sem, ↓reduceIte, Nat.reduceEqDiff, Int.reduceLE, Int.reduceLT, Int.reduceNeg, Int.reduceEq, Nat.reduceMul, Nat.reduceAdd, Nat.reduceLeDiff, reduceCtorEq]
  exact Fin_val (by simp [resV, upd_at, retA]) (by simp [resV, upd_at, ResOk])
theorem h52s (live safe : List File) (k : Nat) (c0 c1 : Option Nat) (q0 q1 : Prop) (hk : 0 < k) (hkl : k + 2 * live.length + 2 * safe.length ≤ 1000000000) :
    HT 52 [.agg [.sl (.p 0) 0 0 live.length c0, .sl (.p 1) 0 0 safe.length c1, .nils], i64 k] [obM 2 (fl live) q0, obM 2 (fl safe) q1] (i64 (k + 2 * live.length + 2 * safe.length : Nat)) true
      [obM 2 (fl (mkF k live.length)) True, obM 2 (fl (mkF (k + 2 * live.length) safe.length)) True] := by
  refine holds_of (c := Try.f52.body.getD .skip) (k := k52.1) (ts := [4]) HOk mixedT hintT Try.func52 (by kernel_rfl) (by kernel_rfl) (by kernel_rfl) k52.2 (by kernel_rfl) (le_of 2 _ (by kernel_rfl)) ?_
  simp -dsimp only [k52, go_sem, ↓reduceIte, Nat.reduceEqDiff, Int.reduceLE, Int.reduceLT, Int.reduceNeg, Int.reduceEq, Nat.reduceMul, Nat.reduceAdd, Nat.reduceLeDiff, reduceCtorEq]
  refine Call_many (own := true) (v := i64 (k + 2 * live.length : Nat)) [.p 0] [obM 2 (fl live) q0] [obM 2 (fl (mkF k live.length)) True] (by simp [hup_at, objs]) (by simp) (by simpa [expL, expA, cur, hup_at, objs, List.idxOf?_cons, obM] using h105 live k c0 q0 hk (by omega)) rfl (by simp [ExpOk, cur, hup_at, objs, List.idxOf?_cons, AV.pure, obM]) (by simp [obM, fl_pure]) (by simp [obM, fl_pure]) (.inl rfl) (by simp [obM]) ?_
  simp -dsimp only [obM, go_sem, ↓reduceIte, Nat.reduceEqDiff, Int.reduceLE, Int.reduceLT, Int.reduceNeg, Int.reduceEq, Nat.reduceMul, Nat.reduceAdd, Nat.reduceLeDiff, reduceCtorEq]
  refine Call_many (own := true) (v := i64 (k + 2 * live.length + 2 * safe.length : Nat)) [.p 1] [obM 2 (fl safe) q1] [obM 2 (fl (mkF (k + 2 * live.length) safe.length)) True] (by simp [hup_at, objs, obM]) (by simp) (by simpa [expL, expA, cur, hup_at, objs, List.idxOf?_cons, obM] using h105 safe (k + 2 * live.length) c1 q1 (by omega) (by omega)) rfl (by simp [ExpOk, cur, hup_at, objs, List.idxOf?_cons, AV.pure, obM]) (by simp [obM, fl_pure]) (by simp [obM, fl_pure]) (.inl rfl) (by simp [obM]) ?_
  simp -dsimp only [obM, go_sem, ↓reduceIte, Nat.reduceEqDiff, Int.reduceLE, Int.reduceLT, Int.reduceNeg, Int.reduceEq, Nat.reduceMul, Nat.reduceAdd, Nat.reduceLeDiff, reduceCtorEq]
  refine Call_val (own := true) (h106n (k + 2 * live.length + 2 * safe.length)) (by simp [ExpOk, AV.pure]) (.inl rfl) ?_
  simp -dsimp only [obM, go_sem, ↓reduceIte, Nat.reduceEqDiff, Int.reduceLE, Int.reduceLT, Int.reduceNeg, Int.reduceEq, Nat.reduceMul, Nat.reduceAdd, Nat.reduceLeDiff, reduceCtorEq]
  refine Fin_obs (by simp [resV, upd_at, retA]) (by simp [resV, upd_at, ResOk]) rfl fun j ob hj => ?_
  match j, hj with
  | 0, hj => simp at hj; subst hj; exact ⟨fl_pure _, True, .inl (fl_flat _), by simp [hup_at], rfl⟩
  | 1, hj => simp at hj; subst hj; exact ⟨fl_pure _, True, .inl (fl_flat _), by simp [hup_at], rfl⟩
  | j + 2, hj => simp at hj
theorem h53s (k n1 n2 : Nat) (hk : 0 < k) (hkl : k + 2 * n1 + 2 * n2 ≤ 1000000000) :
    HT 53 [.agg [.dat 2 (fl (mkF k n1)), .dat 2 (fl (mkF (k + 2 * n1) n2)), .nils], i64 k] [] (i64 (k + 2 * n1 + 2 * n2 : Nat)) true [] := by
  refine holds_of (c := Try.f53.body.getD .skip) (k := k53.1) (ts := [4]) HOk mixedT hintT Try.func53 (by kernel_rfl) (by kernel_rfl) (by kernel_rfl) k53.2 (by kernel_rfl) (le_of 2 _ (by kernel_rfl)) ?_
  have f1 : ¬ ((k + 2 * n1 : Nat) : Int) < 0 := by omega
  have f2 : ¬ ((k + 2 * n1 + 2 * n2 : Nat) : Int) < 0 := by omega
  simp -dsimp only [k53, go_sem, ↓reduceIte, Nat.reduceEqDiff, Int.reduceLE, Int.reduceLT, Int.reduceNeg, Int.reduceEq, Nat.reduceMul, Nat.reduceAdd, Nat.reduceLeDiff, reduceCtorEq]
  refine Call_val (own := true) (h107 k n1 hk (by omega)) (by simp [ExpOk, AV.pure]) (.inl rfl) ?_
  simp -dsimp only [f1, go_sem, ↓reduceIte, Nat.reduceEqDiff, Int.reduceLE, Int.reduceLT, Int.reduceNeg, Int.reduceEq, Nat.reduceMul, Nat.reduceAdd, Nat.reduceLeDiff, reduceCtorEq]
  refine Call_val (own := true) (h107 (k + 2 * n1) n2 (by omega) (by omega)) (by simp [ExpOk, AV.pure]) (.inl rfl) ?_
  simp -dsimp only [f2, go_sem, ↓reduceIte, Nat.reduceEqDiff, Int.reduceLE, Int.reduceLT, Int.reduceNeg, Int.reduceEq, Nat.reduceMul, Nat.reduceAdd, Nat.reduceLeDiff, reduceCtorEq]
  refine Call_val (own := true) (h108n (k + 2 * n1 + 2 * n2)) (by simp [ExpOk, AV.pure]) (.inl rfl) ?_
  simp -dsimp only [f2, go_sem, ↓reduceIte, Nat.reduceEqDiff, Int.reduceLE, Int.reduceLT, Int.reduceNeg, Int.reduceEq, Nat.reduceMul, Nat.reduceAdd, Nat.reduceLeDiff, reduceCtorEq]
  exact Fin_val (by simp [resV, upd_at, retA]) (by simp [resV, upd_at, ResOk])
end FrA

/-! DkY -/
open Go Go.AM
namespace FrA
open Go.Proofs
set_option maxRecDepth 100000
set_option linter.unusedSimpArgs false
theorem subF (l : List File) : sub (fl l) 0 l.length = fl l := sub_all (fl_len l).symm
theorem subO (l : List Dop) : sub (ol l) 0 l.length = ol l := sub_all (ol_len l).symm
theorem subFm (k n : Nat) : sub (fl (mkF k n)) 0 n = fl (mkF k n) := sub_all (by rw [fl_len, mkF_len])
theorem subOm (k n : Nat) : sub (ol (mkO k n)) 0 n = ol (mkO k n) := sub_all (by rw [ol_len, mkO_len])
theorem h12 (live safe : List File) (ops : List Dop) (hL : LgD live safe ops) : HT 12 [disk live safe ops] [] (.b true) true [] := by
  refine holds_of (c := Try.f12.body.getD .skip) (k := k12.1) (ts := [2]) HOk mixedT hintT Try.func12 (by kernel_rfl) (by kernel_rfl) (by kernel_rfl) k12.2 (by kernel_rfl) (le_of 1 _ (by kernel_rfl)) ?_
  have d40 := h40 live safe ops 1048576 (by omega) hL.n1 hL.n2 hL.n3 hL.b1 hL.b2 hL.b3
  by_cases hs : szd live safe ops ≤ 1048576
  · obtain ⟨B1, B2, B3⟩ := bds hs
    have d41 := h41o live safe ops B1.1 B2.1 B3.1
    have d41v := h41 live safe ops B1.1 B2.1 B3.1
    have d42 := h42 live safe ops B1.1 B2.1 B3.1
    have hb1 := B1.1
    have hb2 := B2.1
    have hb3 := B3.1
    have d52 := h52 live safe ops 1 none none none True True True (by omega) (by omega)
    rw [lefts_yes hs] at d40
    have c1 : ¬ ((1048576 - szd live safe ops : Nat) : Int) < 0 := by omega
    cases hd : diskB live safe ops
    · have d51 := h51_no live safe ops B1 B2 B3 hd
      have d38 := h38_no live safe ops B1 B2 B3 hd
      have s42 := h42n
      have s52 := h52n 1
      have s53 := h53n 1
      unfold disk at d40 d41 d41v d42 d51 d38 ⊢
      unfold nilA at s42 s52 s53 d51 d38
      simp -dsimp only [k12, go_sem, ↓reduceIte, Nat.reduceEqDiff, Int.reduceLE, Int.reduceLT, Int.reduceNeg, Int.reduceEq, Nat.reduceMul, Nat.reduceAdd, Nat.reduceLeDiff, reduceCtorEq]
      refine Call_val (own := true) (d40) (by simp [ExpOk, AV.pure]) (.inl rfl) ?_
      simp -dsimp only [c1, go_sem, ↓reduceIte, Nat.reduceEqDiff, Int.reduceLE, Int.reduceLT, Int.reduceNeg, Int.reduceEq, Nat.reduceMul, Nat.reduceAdd, Nat.reduceLeDiff, reduceCtorEq]
      refine Call_val (own := false) (d41v) (by simp [ExpOk, AV.pure]) (.inr (by simp [AV.rooted, AV.ref1])) ?_
      simp -dsimp only [go_sem, ↓reduceIte, Nat.reduceEqDiff, Int.reduceLE, Int.reduceLT, Int.reduceNeg, Int.reduceEq, Nat.reduceMul, Nat.reduceAdd, Nat.reduceLeDiff, reduceCtorEq]
      refine Call_val (own := true) (d51) (by simp [ExpOk, AV.pure]) (.inl rfl) ?_
      simp -dsimp only [go_sem, ↓reduceIte, Nat.reduceEqDiff, Int.reduceLE, Int.reduceLT, Int.reduceNeg, Int.reduceEq, Nat.reduceMul, Nat.reduceAdd, Nat.reduceLeDiff, reduceCtorEq]
      refine Call_news (own := true) (d41) (by simp [ExpOk, AV.pure, cur, hup_at, List.idxOf?_cons, List.idxOf?_nil, obM, fl_len, ol_len, fl_pure, ol_pure, mkF_len, mkO_len, objs_l, objs_r, objs_p]) (by simp [obF, obO, fl_pure, ol_pure]) (.inl rfl) (by simp [obF, obO]) ?_
      simp -dsimp only [copyA, impA, impL, Option.getD_some, Nat.sub_self, Nat.sub_zero, obF, obO, go_sem, ↓reduceIte, Nat.reduceEqDiff, Int.reduceLE, Int.reduceLT, Int.reduceNeg, Int.reduceEq, Nat.reduceMul, Nat.reduceAdd, Nat.reduceLeDiff, reduceCtorEq]
      refine Call_val (own := true) (v := .agg [.nils, .nils, .nils]) (by simpa [expL, expA, cur, hup_at, List.idxOf?_cons, List.idxOf?_nil, obM, subF, subO, subFm, subOm, fl_len, ol_len, mkF_len, mkO_len, objs_l, objs_r, objs_p] using d38) (by simp [ExpOk, AV.pure, cur, hup_at, List.idxOf?_cons, List.idxOf?_nil, obM, fl_len, ol_len, fl_pure, ol_pure, mkF_len, mkO_len, objs_l, objs_r, objs_p]) (.inl rfl) ?_
      simp -dsimp only [go_sem, ↓reduceIte, Nat.reduceEqDiff, Int.reduceLE, Int.reduceLT, Int.reduceNeg, Int.reduceEq, Nat.reduceMul, Nat.reduceAdd, Nat.reduceLeDiff, reduceCtorEq]
      refine Call_val (own := true) (v := .b true) (by simpa [expL, expA, cur, hup_at, List.idxOf?_cons, List.idxOf?_nil, obM, subF, subO, subFm, subOm, fl_len, ol_len, mkF_len, mkO_len, objs_l, objs_r, objs_p] using s42) (by simp [ExpOk, AV.pure, cur, hup_at, List.idxOf?_cons, List.idxOf?_nil, obM, fl_len, ol_len, fl_pure, ol_pure, mkF_len, mkO_len, objs_l, objs_r, objs_p]) (.inl rfl) ?_
      simp -dsimp only [go_sem, ↓reduceIte, Nat.reduceEqDiff, Int.reduceLE, Int.reduceLT, Int.reduceNeg, Int.reduceEq, Nat.reduceMul, Nat.reduceAdd, Nat.reduceLeDiff, reduceCtorEq]
      refine Call0_val false d41v (by simp [AV.free, AV.pure]) (.inr (by simp [AV.rooted, AV.ref1])) ?_
      simp -dsimp only [go_sem, ↓reduceIte, Nat.reduceEqDiff, Int.reduceLE, Int.reduceLT, Int.reduceNeg, Int.reduceEq, Nat.reduceMul, Nat.reduceAdd, Nat.reduceLeDiff, reduceCtorEq]
      refine Callv_val (v := .b true) true (by simpa [expL, expA, cur, hup_at, List.idxOf?_cons, List.idxOf?_nil, obM, subF, subO, subFm, subOm, fl_len, ol_len, mkF_len, mkO_len, objs_l, objs_r, objs_p] using d42) (by simp [ExpOk, AV.pure, cur, hup_at, List.idxOf?_cons, List.idxOf?_nil, obM, fl_len, ol_len, fl_pure, ol_pure, mkF_len, mkO_len, objs_l, objs_r, objs_p]) (.inl rfl) ?_
      simp -dsimp only [go_sem, ↓reduceIte, Nat.reduceEqDiff, Int.reduceLE, Int.reduceLT, Int.reduceNeg, Int.reduceEq, Nat.reduceMul, Nat.reduceAdd, Nat.reduceLeDiff, reduceCtorEq]
      refine Call_many (own := true) (v := i64 (1 + 2 * live.length + 2 * safe.length + 4 * ops.length : Nat)) [.r 20 0, .r 20 1, .r 20 2] [{ ver := 3, es := fl live, esz := 2 }, { ver := 3, es := fl safe, esz := 2 }, { ver := 3, es := ol ops, esz := 4 }] [obM 2 (fl (mkF 1 live.length)) True, obM 2 (fl (mkF (1 + 2 * live.length) safe.length)) True, obM 4 (ol (mkO (1 + 2 * live.length + 2 * safe.length) ops.length)) True] (by simp [hup_at, objs_l, objs_r, objs_p, obM]) (by simp) (by simpa [expL, expA, cur, hup_at, List.idxOf?_cons, List.idxOf?_nil, obM, subF, subO, subFm, subOm, fl_len, ol_len, mkF_len, mkO_len, objs_l, objs_r, objs_p] using d52) rfl (by simp [ExpOk, AV.pure, cur, hup_at, List.idxOf?_cons, List.idxOf?_nil, obM, fl_len, ol_len, fl_pure, ol_pure, mkF_len, mkO_len, objs_l, objs_r, objs_p]) (by simp [obM, fl_pure, ol_pure]) (by simp [obM, fl_pure, ol_pure]) (.inl rfl) (by simp [obM]) ?_
      have f1 : ¬ ((1 + 2 * live.length + 2 * safe.length + 4 * ops.length : Nat) : Int) < 0 := by omega
      have f2 : ¬ ((1 : Nat) : Int) < 0 := by omega
      have f3 : (((1 : Nat) : Int) != ((1 : Nat) : Int)) = false := by simp
      simp -dsimp only [obM, f1, go_sem, ↓reduceIte, Nat.reduceEqDiff, Int.reduceLE, Int.reduceLT, Int.reduceNeg, Int.reduceEq, Nat.reduceMul, Nat.reduceAdd, Nat.reduceLeDiff, reduceCtorEq]
      refine Call_val (own := true) (s42) (by simp [ExpOk, AV.pure]) (.inl rfl) ?_
      simp -dsimp only [go_sem, ↓reduceIte, Nat.reduceEqDiff, Int.reduceLE, Int.reduceLT, Int.reduceNeg, Int.reduceEq, Nat.reduceMul, Nat.reduceAdd, Nat.reduceLeDiff, reduceCtorEq]
      refine Call_val (own := true) (s52) (by simp [ExpOk, AV.pure]) (.inl rfl) ?_
      simp -dsimp only [go_sem, ↓reduceIte, Nat.reduceEqDiff, Int.reduceLE, Int.reduceLT, Int.reduceNeg, Int.reduceEq, Nat.reduceMul, Nat.reduceAdd, Nat.reduceLeDiff, reduceCtorEq]
      refine Call_val (own := true) (s53) (by simp [ExpOk, AV.pure]) (.inl rfl) ?_
      simp -dsimp only [f2, f3, go_sem, ↓reduceIte, Nat.reduceEqDiff, Int.reduceLE, Int.reduceLT, Int.reduceNeg, Int.reduceEq, Nat.reduceMul, Nat.reduceAdd, Nat.reduceLeDiff, reduceCtorEq]
      refine Call_val (own := false) (d41v) (by simp [ExpOk, AV.pure]) (.inr (by simp [AV.rooted, AV.ref1])) ?_
      simp -dsimp only [go_sem, ↓reduceIte, Nat.reduceEqDiff, Int.reduceLE, Int.reduceLT, Int.reduceNeg, Int.reduceEq, Nat.reduceMul, Nat.reduceAdd, Nat.reduceLeDiff, reduceCtorEq]
      refine Call_val (own := true) (d38) (by simp [ExpOk, AV.pure]) (.inl rfl) ?_
      simp -dsimp only [go_sem, ↓reduceIte, Nat.reduceEqDiff, Int.reduceLE, Int.reduceLT, Int.reduceNeg, Int.reduceEq, Nat.reduceMul, Nat.reduceAdd, Nat.reduceLeDiff, reduceCtorEq]
      refine Call_val (own := true) (s42) (by simp [ExpOk, AV.pure]) (.inl rfl) ?_
      simp -dsimp only [go_sem, ↓reduceIte, Nat.reduceEqDiff, Int.reduceLE, Int.reduceLT, Int.reduceNeg, Int.reduceEq, Nat.reduceMul, Nat.reduceAdd, Nat.reduceLeDiff, reduceCtorEq]
      refine Call_val (own := true) (s53) (by simp [ExpOk, AV.pure]) (.inl rfl) ?_
      simp -dsimp only [f2, f3, go_sem, ↓reduceIte, Nat.reduceEqDiff, Int.reduceLE, Int.reduceLT, Int.reduceNeg, Int.reduceEq, Nat.reduceMul, Nat.reduceAdd, Nat.reduceLeDiff, reduceCtorEq]
      exact Fin_val (by simp [resV, upd_at, retA]) (by simp [resV, upd_at, ResOk])
    · have d51 := h51 live safe ops B1 B2 B3 hd
      have d38 := h38 live safe ops B1 B2 B3 hd
      have s42 := h42s live B1.1
      have s52 := h52s live live 1 none none True True (by omega) (by omega)
      have s53 := h53s 1 live.length live.length (by omega) (by omega)
      unfold disk at d40 d41 d41v d42 d51 d38 ⊢
      unfold syncD at s42
      simp -dsimp only [k12, go_sem, ↓reduceIte, Nat.reduceEqDiff, Int.reduceLE, Int.reduceLT, Int.reduceNeg, Int.reduceEq, Nat.reduceMul, Nat.reduceAdd, Nat.reduceLeDiff, reduceCtorEq]
      refine Call_val (own := true) (d40) (by simp [ExpOk, AV.pure]) (.inl rfl) ?_
      simp -dsimp only [c1, go_sem, ↓reduceIte, Nat.reduceEqDiff, Int.reduceLE, Int.reduceLT, Int.reduceNeg, Int.reduceEq, Nat.reduceMul, Nat.reduceAdd, Nat.reduceLeDiff, reduceCtorEq]
      refine Call_news (own := true) (d41) (by simp [ExpOk, AV.pure, cur, hup_at, List.idxOf?_cons, List.idxOf?_nil, obM, fl_len, ol_len, fl_pure, ol_pure, mkF_len, mkO_len, objs_l, objs_r, objs_p]) (by simp [obF, obO, fl_pure, ol_pure]) (.inl rfl) (by simp [obF, obO]) ?_
      simp -dsimp only [copyA, impA, impL, Option.getD_some, Nat.sub_self, Nat.sub_zero, obF, obO, go_sem, ↓reduceIte, Nat.reduceEqDiff, Int.reduceLE, Int.reduceLT, Int.reduceNeg, Int.reduceEq, Nat.reduceMul, Nat.reduceAdd, Nat.reduceLeDiff, reduceCtorEq]
      refine Call_news (own := true) (by simpa [expL, expA, cur, hup_at, List.idxOf?_nil, subF, subO] using d51) (by simp [ExpOk, AV.pure, cur, hup_at, List.idxOf?_nil, fl_pure, ol_pure, fl_len, ol_len]) (by simp [obF, fl_pure]) (.inl rfl) (by simp [obF]) ?_
      simp -dsimp only [syncA, impA, impL, Option.getD_some, Nat.sub_self, Nat.sub_zero, obF, obO, go_sem, ↓reduceIte, Nat.reduceEqDiff, Int.reduceLE, Int.reduceLT, Int.reduceNeg, Int.reduceEq, Nat.reduceMul, Nat.reduceAdd, Nat.reduceLeDiff, reduceCtorEq]
      refine Call_news (own := true) (d41) (by simp [ExpOk, AV.pure, cur, hup_at, List.idxOf?_cons, List.idxOf?_nil, obM, fl_len, ol_len, fl_pure, ol_pure, mkF_len, mkO_len, objs_l, objs_r, objs_p]) (by simp [obF, obO, fl_pure, ol_pure]) (.inl rfl) (by simp [obF, obO]) ?_
      simp -dsimp only [copyA, impA, impL, Option.getD_some, Nat.sub_self, Nat.sub_zero, obF, obO, go_sem, ↓reduceIte, Nat.reduceEqDiff, Int.reduceLE, Int.reduceLT, Int.reduceNeg, Int.reduceEq, Nat.reduceMul, Nat.reduceAdd, Nat.reduceLeDiff, reduceCtorEq]
      refine Call_news (own := true) (by simpa [expL, expA, cur, hup_at, List.idxOf?_nil, subF, subO] using d38) (by simp [ExpOk, AV.pure, cur, hup_at, List.idxOf?_nil, fl_pure, ol_pure, fl_len, ol_len]) (by simp [obF, fl_pure]) (.inl rfl) (by simp [obF]) ?_
      simp -dsimp only [syncA, impA, impL, Option.getD_some, Nat.sub_self, Nat.sub_zero, obF, obO, go_sem, ↓reduceIte, Nat.reduceEqDiff, Int.reduceLE, Int.reduceLT, Int.reduceNeg, Int.reduceEq, Nat.reduceMul, Nat.reduceAdd, Nat.reduceLeDiff, reduceCtorEq]
      refine Call_val (own := true) (v := .b true) (by simpa [expL, expA, cur, hup_at, List.idxOf?_cons, List.idxOf?_nil, obM, subF, subO, subFm, subOm, fl_len, ol_len, mkF_len, mkO_len, objs_l, objs_r, objs_p] using s42) (by simp [ExpOk, AV.pure, cur, hup_at, List.idxOf?_cons, List.idxOf?_nil, obM, fl_len, ol_len, fl_pure, ol_pure, mkF_len, mkO_len, objs_l, objs_r, objs_p]) (.inl rfl) ?_
      simp -dsimp only [go_sem, ↓reduceIte, Nat.reduceEqDiff, Int.reduceLE, Int.reduceLT, Int.reduceNeg, Int.reduceEq, Nat.reduceMul, Nat.reduceAdd, Nat.reduceLeDiff, reduceCtorEq]
      refine Call0_val false d41v (by simp [AV.free, AV.pure]) (.inr (by simp [AV.rooted, AV.ref1])) ?_
      simp -dsimp only [go_sem, ↓reduceIte, Nat.reduceEqDiff, Int.reduceLE, Int.reduceLT, Int.reduceNeg, Int.reduceEq, Nat.reduceMul, Nat.reduceAdd, Nat.reduceLeDiff, reduceCtorEq]
      refine Callv_val (v := .b true) true (by simpa [expL, expA, cur, hup_at, List.idxOf?_cons, List.idxOf?_nil, obM, subF, subO, subFm, subOm, fl_len, ol_len, mkF_len, mkO_len, objs_l, objs_r, objs_p] using d42) (by simp [ExpOk, AV.pure, cur, hup_at, List.idxOf?_cons, List.idxOf?_nil, obM, fl_len, ol_len, fl_pure, ol_pure, mkF_len, mkO_len, objs_l, objs_r, objs_p]) (.inl rfl) ?_
      simp -dsimp only [go_sem, ↓reduceIte, Nat.reduceEqDiff, Int.reduceLE, Int.reduceLT, Int.reduceNeg, Int.reduceEq, Nat.reduceMul, Nat.reduceAdd, Nat.reduceLeDiff, reduceCtorEq]
      refine Call_many (own := true) (v := i64 (1 + 2 * live.length + 2 * safe.length + 4 * ops.length : Nat)) [.r 20 0, .r 20 1, .r 20 2] [{ ver := 5, es := fl live, esz := 2 }, { ver := 5, es := fl safe, esz := 2 }, { ver := 5, es := ol ops, esz := 4 }] [obM 2 (fl (mkF 1 live.length)) True, obM 2 (fl (mkF (1 + 2 * live.length) safe.length)) True, obM 4 (ol (mkO (1 + 2 * live.length + 2 * safe.length) ops.length)) True] (by simp [hup_at, objs_l, objs_r, objs_p, obM]) (by simp) (by simpa [expL, expA, cur, hup_at, List.idxOf?_cons, List.idxOf?_nil, obM, subF, subO, subFm, subOm, fl_len, ol_len, mkF_len, mkO_len, objs_l, objs_r, objs_p] using d52) rfl (by simp [ExpOk, AV.pure, cur, hup_at, List.idxOf?_cons, List.idxOf?_nil, obM, fl_len, ol_len, fl_pure, ol_pure, mkF_len, mkO_len, objs_l, objs_r, objs_p]) (by simp [obM, fl_pure, ol_pure]) (by simp [obM, fl_pure, ol_pure]) (.inl rfl) (by simp [obM]) ?_
      have f1 : ¬ ((1 + 2 * live.length + 2 * safe.length + 4 * ops.length : Nat) : Int) < 0 := by omega
      have f2 : ¬ ((1 + 2 * live.length + 2 * live.length : Nat) : Int) < 0 := by omega
      have f3 : (((1 + 2 * live.length + 2 * live.length : Nat) : Int) != ((1 + 2 * live.length + 2 * live.length : Nat) : Int)) = false := by simp
      simp -dsimp only [obM, f1, go_sem, ↓reduceIte, Nat.reduceEqDiff, Int.reduceLE, Int.reduceLT, Int.reduceNeg, Int.reduceEq, Nat.reduceMul, Nat.reduceAdd, Nat.reduceLeDiff, reduceCtorEq]
      refine Call_val (own := true) (v := .b true) (by simpa [expL, expA, cur, hup_at, List.idxOf?_cons, List.idxOf?_nil, obM, subF, subO, subFm, subOm, fl_len, ol_len, mkF_len, mkO_len, objs_l, objs_r, objs_p] using s42) (by simp [ExpOk, AV.pure, cur, hup_at, List.idxOf?_cons, List.idxOf?_nil, obM, fl_len, ol_len, fl_pure, ol_pure, mkF_len, mkO_len, objs_l, objs_r, objs_p]) (.inl rfl) ?_
      simp -dsimp only [go_sem, ↓reduceIte, Nat.reduceEqDiff, Int.reduceLE, Int.reduceLT, Int.reduceNeg, Int.reduceEq, Nat.reduceMul, Nat.reduceAdd, Nat.reduceLeDiff, reduceCtorEq]
      refine Call_many (own := true) (v := i64 (1 + 2 * live.length + 2 * live.length : Nat)) [.r 22 0, .r 22 1] [{ ver := 7, es := fl live, esz := 2 }, { ver := 7, es := fl live, esz := 2 }] [obM 2 (fl (mkF 1 live.length)) True, obM 2 (fl (mkF (1 + 2 * live.length) live.length)) True] (by simp [hup_at, objs_l, objs_r, objs_p, obM]) (by simp) (by simpa [expL, expA, cur, hup_at, List.idxOf?_cons, List.idxOf?_nil, obM, subF, subO, subFm, subOm, fl_len, ol_len, mkF_len, mkO_len, objs_l, objs_r, objs_p] using s52) rfl (by simp [ExpOk, AV.pure, cur, hup_at, List.idxOf?_cons, List.idxOf?_nil, obM, fl_len, ol_len, fl_pure, ol_pure, mkF_len, mkO_len, objs_l, objs_r, objs_p]) (by simp [obM, fl_pure, ol_pure]) (by simp [obM, fl_pure, ol_pure]) (.inl rfl) (by simp [obM]) ?_
      simp -dsimp only [obM, go_sem, ↓reduceIte, Nat.reduceEqDiff, Int.reduceLE, Int.reduceLT, Int.reduceNeg, Int.reduceEq, Nat.reduceMul, Nat.reduceAdd, Nat.reduceLeDiff, reduceCtorEq]
      refine Call_val (own := true) (v := i64 (1 + 2 * live.length + 2 * live.length : Nat)) (by simpa [expL, expA, cur, hup_at, List.idxOf?_cons, List.idxOf?_nil, obM, subF, subO, subFm, subOm, fl_len, ol_len, mkF_len, mkO_len, objs_l, objs_r, objs_p] using s53) (by simp [ExpOk, AV.pure, cur, hup_at, List.idxOf?_cons, List.idxOf?_nil, obM, fl_len, ol_len, fl_pure, ol_pure, mkF_len, mkO_len, objs_l, objs_r, objs_p]) (.inl rfl) ?_
      simp -dsimp only [f2, f3, go_sem, ↓reduceIte, Nat.reduceEqDiff, Int.reduceLE, Int.reduceLT, Int.reduceNeg, Int.reduceEq, Nat.reduceMul, Nat.reduceAdd, Nat.reduceLeDiff, reduceCtorEq]
      refine Call_news (own := true) (d41) (by simp [ExpOk, AV.pure, cur, hup_at, List.idxOf?_cons, List.idxOf?_nil, obM, fl_len, ol_len, fl_pure, ol_pure, mkF_len, mkO_len, objs_l, objs_r, objs_p]) (by simp [obF, obO, fl_pure, ol_pure]) (.inl rfl) (by simp [obF, obO]) ?_
      simp -dsimp only [copyA, impA, impL, Option.getD_some, Nat.sub_self, Nat.sub_zero, obF, obO, go_sem, ↓reduceIte, Nat.reduceEqDiff, Int.reduceLE, Int.reduceLT, Int.reduceNeg, Int.reduceEq, Nat.reduceMul, Nat.reduceAdd, Nat.reduceLeDiff, reduceCtorEq]
      refine Call_news (own := true) (by simpa [expL, expA, cur, hup_at, List.idxOf?_nil, subF, subO] using d38) (by simp [ExpOk, AV.pure, cur, hup_at, List.idxOf?_nil, fl_pure, ol_pure, fl_len, ol_len]) (by simp [obF, fl_pure]) (.inl rfl) (by simp [obF]) ?_
      simp -dsimp only [syncA, impA, impL, Option.getD_some, Nat.sub_self, Nat.sub_zero, obF, obO, go_sem, ↓reduceIte, Nat.reduceEqDiff, Int.reduceLE, Int.reduceLT, Int.reduceNeg, Int.reduceEq, Nat.reduceMul, Nat.reduceAdd, Nat.reduceLeDiff, reduceCtorEq]
      refine Call_val (own := true) (v := .b true) (by simpa [expL, expA, cur, hup_at, List.idxOf?_cons, List.idxOf?_nil, obM, subF, subO, subFm, subOm, fl_len, ol_len, mkF_len, mkO_len, objs_l, objs_r, objs_p] using s42) (by simp [ExpOk, AV.pure, cur, hup_at, List.idxOf?_cons, List.idxOf?_nil, obM, fl_len, ol_len, fl_pure, ol_pure, mkF_len, mkO_len, objs_l, objs_r, objs_p]) (.inl rfl) ?_
      simp -dsimp only [go_sem, ↓reduceIte, Nat.reduceEqDiff, Int.reduceLE, Int.reduceLT, Int.reduceNeg, Int.reduceEq, Nat.reduceMul, Nat.reduceAdd, Nat.reduceLeDiff, reduceCtorEq]
      refine Call_val (own := true) (v := i64 (1 + 2 * live.length + 2 * live.length : Nat)) (by simpa [expL, expA, cur, hup_at, List.idxOf?_cons, List.idxOf?_nil, obM, subF, subO, subFm, subOm, fl_len, ol_len, mkF_len, mkO_len, objs_l, objs_r, objs_p] using s53) (by simp [ExpOk, AV.pure, cur, hup_at, List.idxOf?_cons, List.idxOf?_nil, obM, fl_len, ol_len, fl_pure, ol_pure, mkF_len, mkO_len, objs_l, objs_r, objs_p]) (.inl rfl) ?_
      simp -dsimp only [f2, f3, go_sem, ↓reduceIte, Nat.reduceEqDiff, Int.reduceLE, Int.reduceLT, Int.reduceNeg, Int.reduceEq, Nat.reduceMul, Nat.reduceAdd, Nat.reduceLeDiff, reduceCtorEq]
      exact Fin_val (by simp [resV, upd_at, retA]) (by simp [resV, upd_at, ResOk])
  · unfold disk at d40 ⊢
    rw [lefts_no hs] at d40
    simp -dsimp only [k12, go_sem, ↓reduceIte, Nat.reduceEqDiff, Int.reduceLE, Int.reduceLT, Int.reduceNeg, Int.reduceEq, Nat.reduceMul, Nat.reduceAdd, Nat.reduceLeDiff, reduceCtorEq]
    refine Call_val (own := true) (d40) (by simp [ExpOk, AV.pure]) (.inl rfl) ?_
    simp -dsimp only [neg1, go_sem, ↓reduceIte, Nat.reduceEqDiff, Int.reduceLE, Int.reduceLT, Int.reduceNeg, Int.reduceEq, Nat.reduceMul, Nat.reduceAdd, Nat.reduceLeDiff, reduceCtorEq]
    exact Fin_val (by simp [resV, upd_at, retA]) (by simp [resV, upd_at, ResOk])
end FrA

