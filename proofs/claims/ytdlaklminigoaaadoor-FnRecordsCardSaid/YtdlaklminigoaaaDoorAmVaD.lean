/- Values, read from their texts by the reference. Walked. No condition. -/
import Derived.Test.YtdlaklminigoaaaDoorAmVaC
import Derived.Test.YtdlaklminigoaaaDoorAmPvF
import Derived.Test.YtdlaklminigoaaaDoorAmBtA
set_option linter.all false
set_option linter.unusedSimpArgs false
set_option linter.unusedVariables false
set_option linter.deprecated false
/-! VaD -/
open Go Go.AM
namespace FrA
open Go.Proofs
set_option maxRecDepth 100000
set_option linter.unusedSimpArgs false
theorem h41 (b : UInt8) : HT 41 [.i .u8 b.toNat] [] (i64 (dg b)) true [] := by
  refine holds_of (c := Tryd.f41.body.getD .skip) (k := k41.1) (ts := [2]) HOk mixedT hintT Tryd.func41 (by kernel_rfl) (by kernel_rfl) (by kernel_rfl) k41.2 (by kernel_rfl) (le_of 1 _ (by kernel_rfl)) ?_
  have hb := b.toNat_lt
  by_cases h1 : 48 ≤ b.toNat ∧ b.toNat ≤ 57
  · have c1 : (b.toNat : Int) ≥ 48 := by omega
    have c2 : (b.toNat : Int) ≤ 57 := by omega
    have w1 : IntKind.u8.wrap ((b.toNat : Int) - 48) = ((b.toNat - 48 : Nat) : Int) := by rw [w8 (by omega) (by omega)]; omega
    have w2 : IntKind.i64.wrap ((b.toNat - 48 : Nat) : Int) = ((b.toNat - 48 : Nat) : Int) := wr (by omega) (by omega)
    have e : dg b = b.toNat - 48 := by unfold dg; rw [if_pos h1]
    simp -dsimp only [k41, c1, c2, w1, w2, go_sem, ↓reduceIte, Nat.reduceEqDiff, Int.reduceLE, Int.reduceLT, Int.reduceNeg, Int.reduceEq, Int.reduceBEq, Int.reduceBNe, Nat.reduceMul, Nat.reduceAdd, Nat.reduceLeDiff, reduceCtorEq, Int.reduceToNat]
    exact Fin_val (by simp [resV, upd_at, retA, e]) (by simp [resV, upd_at, ResOk])
  · have c12 : ((b.toNat : Int) ≥ 48 ∧ ¬ (b.toNat : Int) ≤ 57) ∨ ¬ (b.toNat : Int) ≥ 48 := by omega
    by_cases h2 : 97 ≤ b.toNat ∧ b.toNat ≤ 102
    · have c1 : (b.toNat : Int) ≥ 48 := by omega
      have c2 : ¬ (b.toNat : Int) ≤ 57 := by omega
      have c3 : (b.toNat : Int) ≥ 97 := by omega
      have c4 : (b.toNat : Int) ≤ 102 := by omega
      have w1 : IntKind.u8.wrap ((b.toNat : Int) - 97) = ((b.toNat - 97 : Nat) : Int) := by rw [w8 (by omega) (by omega)]; omega
      have w2 : IntKind.i64.wrap ((b.toNat - 97 : Nat) : Int) = ((b.toNat - 97 : Nat) : Int) := wr (by omega) (by omega)
      have w3 : IntKind.i64.wrap (((b.toNat - 97 : Nat) : Int) + 10) = ((b.toNat - 87 : Nat) : Int) := by rw [wr (by omega) (by omega)]; omega
      have e : dg b = b.toNat - 87 := by unfold dg; rw [if_neg h1, if_pos h2]
      simp -dsimp only [k41, c1, c2, c3, c4, w1, w2, w3, go_sem, ↓reduceIte, Nat.reduceEqDiff, Int.reduceLE, Int.reduceLT, Int.reduceNeg, Int.reduceEq, Int.reduceBEq, Int.reduceBNe, Nat.reduceMul, Nat.reduceAdd, Nat.reduceLeDiff, reduceCtorEq, Int.reduceToNat]
      exact Fin_val (by simp [resV, upd_at, retA, e]) (by simp [resV, upd_at, ResOk])
    · have e : dg b = 16 := by unfold dg; rw [if_neg h1, if_neg h2]
      rcases c12 with ⟨c1, c2⟩ | c1
      · by_cases c3 : (b.toNat : Int) ≥ 97
        · have c4 : ¬ (b.toNat : Int) ≤ 102 := by omega
          simp -dsimp only [k41, c1, c2, c3, c4, go_sem, ↓reduceIte, Nat.reduceEqDiff, Int.reduceLE, Int.reduceLT, Int.reduceNeg, Int.reduceEq, Int.reduceBEq, Int.reduceBNe, Nat.reduceMul, Nat.reduceAdd, Nat.reduceLeDiff, reduceCtorEq, Int.reduceToNat]
          exact Fin_val (by simp [resV, upd_at, retA, e]) (by simp [resV, upd_at, ResOk])
        · simp -dsimp only [k41, c1, c2, c3, go_sem, ↓reduceIte, Nat.reduceEqDiff, Int.reduceLE, Int.reduceLT, Int.reduceNeg, Int.reduceEq, Int.reduceBEq, Int.reduceBNe, Nat.reduceMul, Nat.reduceAdd, Nat.reduceLeDiff, reduceCtorEq, Int.reduceToNat]
          exact Fin_val (by simp [resV, upd_at, retA, e]) (by simp [resV, upd_at, ResOk])
      · have c3 : ¬ (b.toNat : Int) ≥ 97 := by omega
        simp -dsimp only [k41, c1, c3, go_sem, ↓reduceIte, Nat.reduceEqDiff, Int.reduceLE, Int.reduceLT, Int.reduceNeg, Int.reduceEq, Int.reduceBEq, Int.reduceBNe, Nat.reduceMul, Nat.reduceAdd, Nat.reduceLeDiff, reduceCtorEq, Int.reduceToNat]
        exact Fin_val (by simp [resV, upd_at, retA, e]) (by simp [resV, upd_at, ResOk])
theorem h42 (s : List UInt8) : HT 42 [.s s] [] (.agg (vC (2, 0, s))) true [] := by
  refine holdsc_of (c := Tryd.f42.body.getD .skip) (k := k42.1) (cs := [(2, some (true, 3))]) HOk mixedT hintT Tryd.func42 (by kernel_rfl) (by kernel_rfl) (by kernel_rfl) k42.2 (by kernel_rfl) (le_of 1 _ (by kernel_rfl)) ?_
  simp -dsimp only [k42, go_sem, ↓reduceIte, Nat.reduceEqDiff, Int.reduceLE, Int.reduceLT, Int.reduceNeg, Int.reduceEq, Int.reduceBEq, Int.reduceBNe, Nat.reduceMul, Nat.reduceAdd, Nat.reduceLeDiff, reduceCtorEq, Int.reduceToNat]
  refine finC_val (p := True) (l := [.agg [i64 2, i64 0, .s s]]) (by simp [resM, resE, upd_at, loadF, cur, hup_at, yes]) trivial ?_ ?_
  · simp [resOne, retA, retL, vC]
  · simp [resOne, ResOk, ResL]
theorem h44 (n : Int) : HT 44 [i64 n] [] (.agg (vC (1, n, []))) true [] := by
  refine holdsc_of (c := Tryd.f44.body.getD .skip) (k := k44.1) (cs := [(2, some (true, 3))]) HOk mixedT hintT Tryd.func44 (by kernel_rfl) (by kernel_rfl) (by kernel_rfl) k44.2 (by kernel_rfl) (le_of 1 _ (by kernel_rfl)) ?_
  simp -dsimp only [k44, go_sem, ↓reduceIte, Nat.reduceEqDiff, Int.reduceLE, Int.reduceLT, Int.reduceNeg, Int.reduceEq, Int.reduceBEq, Int.reduceBNe, Nat.reduceMul, Nat.reduceAdd, Nat.reduceLeDiff, reduceCtorEq, Int.reduceToNat]
  refine finC_val (p := True) (l := [.agg [i64 1, i64 n, .s []]]) (by simp [resM, resE, upd_at, loadF, cur, hup_at, yes]) trivial ?_ ?_
  · simp [resOne, retA, retL, vC]
  · simp [resOne, ResOk, ResL]
def snd (k : K) : K := match k with | .seq _ b => b | _ => .skip
def fst (k : K) : K := match k with | .seq a _ => a | _ => .skip
theorem dig_iff {s : List UInt8} : digits s = true ↔ ∀ c ∈ s, 48 ≤ c.toNat ∧ c.toNat ≤ 57 := by simp [digits]
theorem mem_getD {s : List UInt8} {i : Nat} (h : i < s.length) : s.getD i 0 ∈ s := by
  rw [List.getD_eq_getElem?_getD, List.getElem?_eq_getElem h]; simp
theorem take_lt {s : List UInt8} {i : Nat} (h : i ≤ s.length) (h10 : s.length ≤ 10) (hd : ∀ c ∈ s.take i, 48 ≤ c.toNat ∧ c.toNat ≤ 57) : dval (s.take i) < 10000000000 := by
  have h1 := dval_lt hd
  have h2 : (s.take i).length ≤ 10 := by rw [List.length_take]; omega
  have h3 : 10 ^ (s.take i).length ≤ 10 ^ 10 := Nat.pow_le_pow_right (by omega) h2
  omega
/-- Behind the sign. -/
theorem num_tail (s : List UInt8) (g : Slots) (h : Heap) (c : Nat) (q0 : g 0 = .s s) :
    RunK HC (snd (snd k43.1)) (.done (FinP [2, 3] [] true fun r' o' => r' = .tup [i64 (numP s).1, .b (numP s).2] ∧ o' = [])) g h c := by
  by_cases c1 : s.length < 1
  · have b1 : (s.length : Int) < 1 := by omega
    have e : numP s = (0, false) := by unfold numP; rw [if_pos (.inl c1)]
    simp -dsimp only [snd, k43, q0, b1, go_sem, ↓reduceIte, Nat.reduceEqDiff, Int.reduceLE, Int.reduceLT, Int.reduceNeg, Int.reduceEq, Int.reduceBEq, Int.reduceBNe, Nat.reduceMul, Nat.reduceAdd, Nat.reduceLeDiff, reduceCtorEq, Int.reduceToNat]
    exact Fin_val (by simp [resV, upd_at, retA, retL, e]) (by simp [resV, upd_at, ResOk, ResL])
  have b1 : ¬ (s.length : Int) < 1 := by omega
  by_cases c2 : 10 < s.length
  · have b2 : (s.length : Int) > 10 := by omega
    have e : numP s = (0, false) := by unfold numP; rw [if_pos (.inr (.inl c2))]
    simp -dsimp only [snd, k43, q0, b1, b2, go_sem, ↓reduceIte, Nat.reduceEqDiff, Int.reduceLE, Int.reduceLT, Int.reduceNeg, Int.reduceEq, Int.reduceBEq, Int.reduceBNe, Nat.reduceMul, Nat.reduceAdd, Nat.reduceLeDiff, reduceCtorEq, Int.reduceToNat]
    exact Fin_val (by simp [resV, upd_at, retA, retL, e]) (by simp [resV, upd_at, ResOk, ResL])
  have b2 : ¬ (s.length : Int) > 10 := by omega
  have hg0 := sget (s := s) (i := 0) (by omega)
  have hh : s.head? = some (s.getD 0 0) := by rw [List.head?_eq_getElem?, hg0]
  have main : ¬ (s.head? = some 48 ∧ 1 < s.length) → numP s = if digits s then (((dval s : Nat) : Int), true) else (0, false) := fun h3 => by
    unfold numP; rw [if_neg (by rintro (h4 | h4 | h4) <;> first | exact c1 h4 | exact c2 h4 | exact h3 h4)]
  have loop : ∀ (g : Slots) (h : Heap) (c : Nat), g 0 = .s s → numP s = (if digits s then (((dval s : Nat) : Int), true) else (0, false)) →
      RunK HC (snd (snd (snd k43.1))) (.done (FinP [2, 3] [] true fun r' o' => r' = .tup [i64 (numP s).1, .b (numP s).2] ∧ o' = [])) g h c := by
    intro g h c q0 hnum
    rw [hnum]
    simp -dsimp only [snd, k43, q0, go_sem, ↓reduceIte, Nat.reduceEqDiff, Int.reduceLE, Int.reduceLT, Int.reduceNeg, Int.reduceEq, Int.reduceBEq, Int.reduceBNe, Nat.reduceMul, Nat.reduceAdd, Nat.reduceLeDiff, reduceCtorEq, Int.reduceToNat]
    refine K_for s.length (fun i g h c => (∀ c ∈ s.take i, 48 ≤ c.toNat ∧ c.toNat ≤ 57) ∧ g 0 = .s s ∧ g 6 = i64 (dval (s.take i) : Nat) ∧ g 7 = i64 i) ?_ ?_ ?_
    · exact ⟨by simp, by simp [upd_at, q0], by simp [upd_at, dval], by simp [upd_at]⟩
    · rintro i A hi hA g h c ⟨hd, q0, q6, q7⟩
      have hc : (i : Int) < (s.length : Int) := by omega
      have hg := sget hi
      have hm := mem_getD hi
      have hb := (s.getD i 0).toNat_lt
      have w1 : IntKind.i64.wrap ((i : Int) + 1) = ((i + 1 : Nat) : Int) := by rw [wr (by omega) (by omega)]; rfl
      by_cases d1 : (s.getD i 0).toNat < 48
      · have b3 : ((s.getD i 0).toNat : Int) < 48 := by omega
        have e : digits s = false := by
          rw [Bool.eq_false_iff]; intro h3; have := dig_iff.1 h3 _ hm; omega
        simp -dsimp only [q0, q6, q7, hc, hg, b3, go_sem, ↓reduceIte, Nat.reduceEqDiff, Int.reduceLE, Int.reduceLT, Int.reduceNeg, Int.reduceEq, Int.reduceBEq, Int.reduceBNe, Nat.reduceMul, Nat.reduceAdd, Nat.reduceLeDiff, reduceCtorEq, Int.reduceToNat]
        exact Fin_val (by simp [resV, upd_at, retA, retL, e]) (by simp [resV, upd_at, ResOk, ResL])
      have b3 : ¬ ((s.getD i 0).toNat : Int) < 48 := by omega
      by_cases d2 : 57 < (s.getD i 0).toNat
      · have b4 : ((s.getD i 0).toNat : Int) > 57 := by omega
        have e : digits s = false := by
          rw [Bool.eq_false_iff]; intro h3; have := dig_iff.1 h3 _ hm; omega
        simp -dsimp only [q0, q6, q7, hc, hg, b3, b4, go_sem, ↓reduceIte, Nat.reduceEqDiff, Int.reduceLE, Int.reduceLT, Int.reduceNeg, Int.reduceEq, Int.reduceBEq, Int.reduceBNe, Nat.reduceMul, Nat.reduceAdd, Nat.reduceLeDiff, reduceCtorEq, Int.reduceToNat]
        exact Fin_val (by simp [resV, upd_at, retA, retL, e]) (by simp [resV, upd_at, ResOk, ResL])
      have b4 : ¬ ((s.getD i 0).toNat : Int) > 57 := by omega
      have hlt := take_lt (by omega) (by omega) hd
      have ht := dval_take hi
      have w2 : IntKind.i64.wrap (10 * ((dval (s.take i) : Nat) : Int)) = ((10 * dval (s.take i) : Nat) : Int) := by rw [wr (by omega) (by omega)]; omega
      have w3 : IntKind.u8.wrap (((s.getD i 0).toNat : Int) - 48) = (((s.getD i 0).toNat - 48 : Nat) : Int) := by rw [w8 (by omega) (by omega)]; omega
      have w4 : IntKind.i64.wrap (((s.getD i 0).toNat - 48 : Nat) : Int) = (((s.getD i 0).toNat - 48 : Nat) : Int) := wr (by omega) (by omega)
      have w5 : IntKind.i64.wrap (((10 * dval (s.take i) : Nat) : Int) + (((s.getD i 0).toNat - 48 : Nat) : Int)) = ((dval (s.take (i + 1)) : Nat) : Int) := by rw [ht, wr (by omega) (by omega)]; omega
      simp -dsimp only [q0, q6, q7, hc, hg, b3, b4, w1, w2, w3, w4, w5, go_sem, ↓reduceIte, Nat.reduceEqDiff, Int.reduceLE, Int.reduceLT, Int.reduceNeg, Int.reduceEq, Int.reduceBEq, Int.reduceBNe, Nat.reduceMul, Nat.reduceAdd, Nat.reduceLeDiff, reduceCtorEq, Int.reduceToNat]
      refine hA _ _ _ ⟨?_, by simp [upd_at, q0], by simp [upd_at], by simp [upd_at]⟩
      intro x hx
      rw [s_take_succ hi, List.mem_append, List.mem_singleton] at hx
      rcases hx with hx | rfl
      · exact hd x hx
      · omega
    · rintro A g h c ⟨hd, q0, q6, q7⟩
      have hc : ¬ (s.length : Int) < (s.length : Int) := by omega
      rw [List.take_length] at hd q6
      have e : digits s = true := dig_iff.2 hd
      simp -dsimp only [q0, q6, q7, hc, go_sem, ↓reduceIte, Nat.reduceEqDiff, Int.reduceLE, Int.reduceLT, Int.reduceNeg, Int.reduceEq, Int.reduceBEq, Int.reduceBNe, Nat.reduceMul, Nat.reduceAdd, Nat.reduceLeDiff, reduceCtorEq, Int.reduceToNat]
      exact Fin_val (by simp [resV, upd_at, retA, retL, e]) (by simp [resV, upd_at, ResOk, ResL])
  by_cases c3 : s.getD 0 0 = 48
  · have b3 : (((s.getD 0 0).toNat : Int) == 48) = true := by rw [c3]; rfl
    by_cases c4 : 1 < s.length
    · have b4 : (s.length : Int) > 1 := by omega
      have e : numP s = (0, false) := by unfold numP; rw [if_pos (.inr (.inr ⟨by rw [hh, c3], c4⟩))]
      simp -dsimp only [snd, k43, q0, b1, b2, hg0, b3, b4, go_sem, ↓reduceIte, Nat.reduceEqDiff, Int.reduceLE, Int.reduceLT, Int.reduceNeg, Int.reduceEq, Int.reduceBEq, Int.reduceBNe, Nat.reduceMul, Nat.reduceAdd, Nat.reduceLeDiff, reduceCtorEq, Int.reduceToNat]
      exact Fin_val (by simp [resV, upd_at, retA, retL, e]) (by simp [resV, upd_at, ResOk, ResL])
    · have b4 : ¬ (s.length : Int) > 1 := by omega
      have hl := loop
      show RunK HC (.seq (fst (snd (snd k43.1))) (snd (snd (snd k43.1)))) _ g h c
      generalize snd (snd (snd k43.1)) = kc at hl ⊢
      simp -dsimp only [fst, snd, k43, q0, b1, b2, hg0, b3, b4, go_sem, ↓reduceIte, Nat.reduceEqDiff, Int.reduceLE, Int.reduceLT, Int.reduceNeg, Int.reduceEq, Int.reduceBEq, Int.reduceBNe, Nat.reduceMul, Nat.reduceAdd, Nat.reduceLeDiff, reduceCtorEq, Int.reduceToNat]
      exact hl _ _ _ (by simp [upd_at, q0]) (main fun h3 => c4 h3.2)
  · have b3 : (((s.getD 0 0).toNat : Int) == 48) = false := by
      simp only [beq_eq_false_iff_ne, ne_eq]
      intro h3; exact c3 (UInt8.toNat_inj.1 (by show _ = 48; omega))
    have hl := loop
    show RunK HC (.seq (fst (snd (snd k43.1))) (snd (snd (snd k43.1)))) _ g h c
    generalize snd (snd (snd k43.1)) = kc at hl ⊢
    simp -dsimp only [fst, snd, k43, q0, b1, b2, hg0, b3, go_sem, ↓reduceIte, Nat.reduceEqDiff, Int.reduceLE, Int.reduceLT, Int.reduceNeg, Int.reduceEq, Int.reduceBEq, Int.reduceBNe, Nat.reduceMul, Nat.reduceAdd, Nat.reduceLeDiff, reduceCtorEq, Int.reduceToNat]
    exact hl _ _ _ (by simp [upd_at, q0]) (main fun h3 => c3 (by have := h3.1; rw [hh] at this; simpa using this))
theorem numP_lt (s : List UInt8) : 0 ≤ (numP s).1 ∧ (numP s).1 < 10000000000 := by
  unfold numP
  split
  · simp
  · rename_i h
    split
    · rename_i hd
      have := take_lt (s := s) (i := s.length) (Nat.le_refl _) (by omega) (by rw [List.take_length]; exact dig_iff.1 hd)
      rw [List.take_length] at this
      simp only
      omega
    · simp
/-- A sign that counts. -/
def sgn (s : List UInt8) : Prop := 1 < s.length ∧ s.getD 0 0 = 45 ∧ s.getD 1 0 ≠ 48 ∧ s.getD 1 0 ≠ 45
theorem numS_no {s : List UInt8} (h : ¬ sgn s) : numS s = numP s := by
  unfold numS
  split
  · rename_i c r
    split
    · rename_i hc
      exact absurd ⟨by simp, by simp, by simpa using hc⟩ h
    · rfl
  · rfl
theorem numS_yes {s : List UInt8} (h : sgn s) : numS s = (-(numP (s.drop 1)).1, (numP (s.drop 1)).2) := by
  obtain ⟨h1, h2, h3, h4⟩ := h
  match s, h1 with
  | a :: b :: r, _ =>
    simp at h2 h3 h4
    subst h2
    simp only [numS, List.drop_succ_cons, List.drop_zero]
    rw [if_pos ⟨h3, h4⟩]
theorem num_plain (s : List UInt8) (hs : ¬ sgn s) : HT 43 [.s s] [] (.tup [i64 (numP s).1, .b (numP s).2]) true [] := by
  refine holds_of (c := Tryd.f43.body.getD .skip) (k := k43.1) (ts := [2, 3]) HOk mixedT hintT Tryd.func43 (by kernel_rfl) (by kernel_rfl) (by kernel_rfl) k43.2 (by kernel_rfl) (le_of 1 _ (by kernel_rfl)) ?_
  have hl := num_tail s
  show RunK HC (.seq (fst k43.1) (.seq (fst (snd k43.1)) (snd (snd k43.1)))) _ _ _ _
  generalize snd (snd k43.1) = kc at hl ⊢
  by_cases c1 : 1 < s.length
  · have b1 : (s.length : Int) > 1 := by omega
    have hg0 := sget (s := s) (i := 0) (by omega)
    have hg1 := sget (s := s) (i := 1) (by omega)
    by_cases c2 : s.getD 0 0 = 45
    · have b2 : (((s.getD 0 0).toNat : Int) == 45) = true := by rw [c2]; rfl
      by_cases c3 : s.getD 1 0 = 48
      · have b3 : (((s.getD 1 0).toNat : Int) != 48) = false := by rw [c3]; rfl
        simp -dsimp only [fst, snd, k43, b1, hg0, b2, hg1, b3, go_sem, ↓reduceIte, Nat.reduceEqDiff, Int.reduceLE, Int.reduceLT, Int.reduceNeg, Int.reduceEq, Int.reduceBEq, Int.reduceBNe, Nat.reduceMul, Nat.reduceAdd, Nat.reduceLeDiff, reduceCtorEq, Int.reduceToNat]
        exact hl _ _ _ (by simp [upd_at, S_0])
      · have b3 : (((s.getD 1 0).toNat : Int) != 48) = true := by
          rw [ne_bne]; simp only [ne_eq, decide_eq_true_eq]
          intro h3; exact c3 (UInt8.toNat_inj.1 (by show _ = 48; omega))
        have c4 : s.getD 1 0 = 45 := Classical.byContradiction fun h4 => hs ⟨c1, c2, c3, h4⟩
        have b4 : (((s.getD 1 0).toNat : Int) != 45) = false := by rw [c4]; rfl
        simp -dsimp only [fst, snd, k43, b1, hg0, b2, hg1, b3, b4, go_sem, ↓reduceIte, Nat.reduceEqDiff, Int.reduceLE, Int.reduceLT, Int.reduceNeg, Int.reduceEq, Int.reduceBEq, Int.reduceBNe, Nat.reduceMul, Nat.reduceAdd, Nat.reduceLeDiff, reduceCtorEq, Int.reduceToNat]
        exact hl _ _ _ (by simp [upd_at, S_0])
    · have b2 : (((s.getD 0 0).toNat : Int) == 45) = false := by
        simp only [beq_eq_false_iff_ne, ne_eq]
        intro h3; exact c2 (UInt8.toNat_inj.1 (by show _ = 45; omega))
      simp -dsimp only [fst, snd, k43, b1, hg0, b2, go_sem, ↓reduceIte, Nat.reduceEqDiff, Int.reduceLE, Int.reduceLT, Int.reduceNeg, Int.reduceEq, Int.reduceBEq, Int.reduceBNe, Nat.reduceMul, Nat.reduceAdd, Nat.reduceLeDiff, reduceCtorEq, Int.reduceToNat]
      exact hl _ _ _ (by simp [upd_at, S_0])
  · have b1 : ¬ (s.length : Int) > 1 := by omega
    simp -dsimp only [fst, snd, k43, b1, go_sem, ↓reduceIte, Nat.reduceEqDiff, Int.reduceLE, Int.reduceLT, Int.reduceNeg, Int.reduceEq, Int.reduceBEq, Int.reduceBNe, Nat.reduceMul, Nat.reduceAdd, Nat.reduceLeDiff, reduceCtorEq, Int.reduceToNat]
    exact hl _ _ _ (by simp [upd_at, S_0])
theorem h43 (s : List UInt8) : HT 43 [.s s] [] (.tup [i64 (numS s).1, .b (numS s).2]) true [] := by
  by_cases hs : sgn s
  · have hs' := hs
    obtain ⟨c1, c2, c3, c4⟩ := hs'
    refine holds_of (c := Tryd.f43.body.getD .skip) (k := k43.1) (ts := [2, 3]) HOk mixedT hintT Tryd.func43 (by kernel_rfl) (by kernel_rfl) (by kernel_rfl) k43.2 (by kernel_rfl) (le_of 1 _ (by kernel_rfl)) ?_
    have b1 : (s.length : Int) > 1 := by omega
    have hg0 := sget (s := s) (i := 0) (by omega)
    have hg1 := sget (s := s) (i := 1) (by omega)
    have b2 : (((s.getD 0 0).toNat : Int) == 45) = true := by rw [c2]; rfl
    have b3 : (((s.getD 1 0).toNat : Int) != 48) = true := by
      rw [ne_bne]; simp only [ne_eq, decide_eq_true_eq]
      intro h3; exact c3 (UInt8.toNat_inj.1 (by show _ = 48; omega))
    have b4 : (((s.getD 1 0).toNat : Int) != 45) = true := by
      rw [ne_bne]; simp only [ne_eq, decide_eq_true_eq]
      intro h3; exact c4 (UInt8.toNat_inj.1 (by show _ = 45; omega))
    have hrec := num_plain (s.drop 1) (fun h5 => by
      have h6 := h5.2.1
      rw [show (s.drop 1).getD 0 0 = s.getD 1 0 by simp [List.getD_eq_getElem?_getD]] at h6
      exact c4 h6)
    have s1 : ((s.length : Int) - 1).toNat = s.length - 1 := by omega
    have t1 : (s.drop 1).take (s.length - 1) = s.drop 1 := List.take_of_length_le (by simp)
    have hb := numP_lt (s.drop 1)
    have w1 : IntKind.i64.wrap (0 - (numP (s.drop 1)).1) = -(numP (s.drop 1)).1 := by rw [wz (by omega) (by omega)]; omega
    simp -dsimp only [k43, b1, hg0, b2, hg1, b3, b4, go_sem, ↓reduceIte, Nat.reduceEqDiff, Int.reduceLE, Int.reduceLT, Int.reduceNeg, Int.reduceEq, Int.reduceBEq, Int.reduceBNe, Nat.reduceMul, Nat.reduceAdd, Nat.reduceLeDiff, reduceCtorEq, Int.reduceToNat]
    refine VK_p (by omega) ?_
    simp -dsimp only [s1, t1, go_sem, ↓reduceIte, Nat.reduceEqDiff, Int.reduceLE, Int.reduceLT, Int.reduceNeg, Int.reduceEq, Int.reduceBEq, Int.reduceBNe, Nat.reduceMul, Nat.reduceAdd, Nat.reduceLeDiff, reduceCtorEq, Int.reduceToNat]
    refine Call_val (own := true) (hrec) (by simp [ExpOk, AV.pure]) (.inl rfl) ?_
    simp -dsimp only [w1, go_sem, ↓reduceIte, Nat.reduceEqDiff, Int.reduceLE, Int.reduceLT, Int.reduceNeg, Int.reduceEq, Int.reduceBEq, Int.reduceBNe, Nat.reduceMul, Nat.reduceAdd, Nat.reduceLeDiff, reduceCtorEq, Int.reduceToNat]
    exact Fin_val (by simp [resV, upd_at, retA, retL, numS_yes hs]) (by simp [resV, upd_at, ResOk, ResL])
  · rw [numS_no hs]
    exact num_plain s hs
end FrA

