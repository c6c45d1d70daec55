/- Texts of values by the reference; cuts and words. Walked. No condition. -/
import Derived.Test.YtdlaklminigoaaaDoorAmVaB
import Derived.Test.YtdlaklminigoaaaDoorAmWsA
set_option linter.all false
set_option linter.unusedSimpArgs false
set_option linter.unusedVariables false
set_option linter.deprecated false
/-! VaC -/
open Go Go.AM
namespace FrA
open Go.Proofs
set_option maxRecDepth 100000
set_option linter.unusedSimpArgs false
theorem sget {s : List UInt8} {i : Nat} (h : i < s.length) : s[i]? = some (s.getD i 0) := by
  rw [List.getD_eq_getElem?_getD, List.getElem?_eq_getElem h]; rfl
theorem s_take_succ {s : List UInt8} {i : Nat} (h : i < s.length) : s.take (i + 1) = s.take i ++ [s.getD i 0] := by
  rw [List.take_add_one, sget h]; rfl
theorem s_one {s : List UInt8} {i : Nat} (h : i < s.length) : (s.drop i).take (i + 1 - i) = [s.getD i 0] := by
  rw [show i + 1 - i = 1 by omega, List.take_one, List.head?_drop, sget h]; rfl
theorem h39 (v : Vl) : HT 39 [.agg (vC v)] [] (.s (vText v)) true [] := by
  have d37 := h37 v
  refine holds_of (c := Tryd.f39.body.getD .skip) (k := k39.1) (ts := [2]) HOk mixedT hintT Tryd.func39 (by kernel_rfl) (by kernel_rfl) (by kernel_rfl) k39.2 (by kernel_rfl) (le_of 1 _ (by kernel_rfl)) ?_
  obtain ⟨k, n, s⟩ := v
  simp only [vC] at d37 ⊢
  simp -dsimp only [k39, go_sem, ↓reduceIte, Nat.reduceEqDiff, Int.reduceLE, Int.reduceLT, Int.reduceNeg, Int.reduceEq, Int.reduceBEq, Int.reduceBNe, Nat.reduceMul, Nat.reduceAdd, Nat.reduceLeDiff, reduceCtorEq, Int.reduceToNat]
  refine Call_val (own := true) (d37) (by simp [ExpOk, AV.pure]) (.inl rfl) ?_
  by_cases hv : vOk (k, n, s)
  · have hv' := hv
    unfold vOk at hv'
    simp only at hv'
    have e0 : decide (vOk (k, n, s)) = true := by simp [hv]
    rcases hv' with ⟨rfl, e1, e2⟩ | ⟨rfl, e1, e2⟩ | ⟨rfl, e1, e2⟩
    · simp -dsimp only [e0, go_sem, ↓reduceIte, Nat.reduceEqDiff, Int.reduceLE, Int.reduceLT, Int.reduceNeg, Int.reduceEq, Int.reduceBEq, Int.reduceBNe, Nat.reduceMul, Nat.reduceAdd, Nat.reduceLeDiff, reduceCtorEq, Int.reduceToNat]
      exact Fin_val (by simp [resV, upd_at, retA, vText, hv, nullT]) (by simp [resV, upd_at, ResOk])
    · simp -dsimp only [e0, go_sem, ↓reduceIte, Nat.reduceEqDiff, Int.reduceLE, Int.reduceLT, Int.reduceNeg, Int.reduceEq, Int.reduceBEq, Int.reduceBNe, Nat.reduceMul, Nat.reduceAdd, Nat.reduceLeDiff, reduceCtorEq, Int.reduceToNat]
      refine Call_val (own := true) (h38 n (by omega) (by omega)) (by simp [ExpOk, AV.pure]) (.inl rfl) ?_
      simp -dsimp only [go_sem, ↓reduceIte, Nat.reduceEqDiff, Int.reduceLE, Int.reduceLT, Int.reduceNeg, Int.reduceEq, Int.reduceBEq, Int.reduceBNe, Nat.reduceMul, Nat.reduceAdd, Nat.reduceLeDiff, reduceCtorEq, Int.reduceToNat]
      exact Fin_val (by simp [resV, upd_at, retA, vText, hv]) (by simp [resV, upd_at, ResOk])
    · simp -dsimp only [e0, go_sem, ↓reduceIte, Nat.reduceEqDiff, Int.reduceLE, Int.reduceLT, Int.reduceNeg, Int.reduceEq, Int.reduceBEq, Int.reduceBNe, Nat.reduceMul, Nat.reduceAdd, Nat.reduceLeDiff, reduceCtorEq, Int.reduceToNat]
      refine K_for s.length (fun i g h c => g 1 = .ptr (.l 1) 1 0 0 ∧ g 3 = .s (39 :: (s.take i).flatMap enc) ∧ g 4 = i64 i ∧ h (.l 1) = some { ver := 1, es := [[.i .i64 2, .i .i64 n, .s s]], esz := 3, own := False, fixed := true }) ?_ ?_ ?_
      · exact ⟨by simp [upd_at], by simp [upd_at], by simp [upd_at], by simp [hup_at]⟩
      · rintro i A hi hA g h c ⟨q1, q3, q4, m1⟩
        have hc : (i : Int) < (s.length : Int) := by omega
        have hg := sget hi
        have ho := s_one hi
        have ht := s_take_succ hi
        have hl12 : s.length ≤ 12 := e2
        have hE := (encs_len (s.take i)).2
        have hE2 : (s.take i).length ≤ 12 := by rw [List.length_take]; omega
        generalize s.getD i 0 = b at hg ho ht
        have hb := b.toNat_lt
        have w1 : IntKind.i64.wrap ((i : Int) + 1) = ((i + 1 : Nat) : Int) := by rw [wr (by omega) (by omega)]; rfl
        have s1 : (((i + 1 : Nat) : Int) - (i : Int)).toNat = i + 1 - i := by omega
        have hen : (s.take (i + 1)).flatMap enc = (s.take i).flatMap enc ++ enc b := by rw [ht]; simp
        have d57 := h57 b
        have fin : ∀ (g' : Slots) (h' : Heap) (c' : Nat), g' 1 = .ptr (.l 1) 1 0 0 → g' 3 = .s ((39 :: (s.take i).flatMap enc) ++ enc b) → g' 4 = i64 (i + 1 : Nat) → h' (.l 1) = some { ver := 1, es := [[.i .i64 2, .i .i64 n, .s s]], esz := 3, own := False, fixed := true } → A g' h' c' := fun g' h' c' r1 r3 r4 r5 =>
          hA _ _ _ ⟨r1, by rw [r3, hen]; rfl, r4, r5⟩
        by_cases hp : plainB b = true
        · obtain ⟨p1, p2, p3, p4, p5⟩ := plain_ne hp
          have c1 : ¬ ((b.toNat : Nat) : Int) < 33 := by omega
          have c2 : ¬ ((b.toNat : Nat) : Int) > 126 := by omega
          have ne : ∀ k : UInt8, b ≠ k → ((b.toNat : Int) == (k.toNat : Int)) = false := fun k hk => by
            simp only [beq_eq_false_iff_ne, ne_eq]
            intro h3; exact hk (UInt8.toNat_inj.1 (by omega))
          have c3 := ne 39 p3
          have c4 := ne 37 p4
          have c5 := ne 44 p5
          have t39 : ((39 : UInt8).toNat : Int) = 39 := rfl
          have t37 : ((37 : UInt8).toNat : Int) = 37 := rfl
          have t44 : ((44 : UInt8).toNat : Int) = 44 := rfl
          rw [t39] at c3; rw [t37] at c4; rw [t44] at c5
          have ec : enc b = [b] := by unfold enc; rw [if_pos hp]
          simp -dsimp only [q1, q3, q4, m1, hc, hg, c1, c2, c3, c4, c5, w1, go_sem, ↓reduceIte, Nat.reduceEqDiff, Int.reduceLE, Int.reduceLT, Int.reduceNeg, Int.reduceEq, Int.reduceBEq, Int.reduceBNe, Nat.reduceMul, Nat.reduceAdd, Nat.reduceLeDiff, reduceCtorEq, Int.reduceToNat]
          refine VK_p (by first | omega | (simp only [List.length_cons, List.length_nil, List.length_append]; omega) | (refine ⟨by omega, by omega, ?_⟩; first | omega | (simp only [List.length_cons, List.length_nil, List.length_append]; omega)) | (simp; omega) | (simp; done)) ?_
          simp -dsimp only [s1, ho, go_sem, ↓reduceIte, Nat.reduceEqDiff, Int.reduceLE, Int.reduceLT, Int.reduceNeg, Int.reduceEq, Int.reduceBEq, Int.reduceBNe, Nat.reduceMul, Nat.reduceAdd, Nat.reduceLeDiff, reduceCtorEq, Int.reduceToNat]
          refine VK_p (by first | omega | (simp only [List.length_cons, List.length_nil, List.length_append]; omega) | (refine ⟨by omega, by omega, ?_⟩; first | omega | (simp only [List.length_cons, List.length_nil, List.length_append]; omega)) | (simp; omega) | (simp; done)) ?_
          simp -dsimp only [q4, w1, go_sem, ↓reduceIte, Nat.reduceEqDiff, Int.reduceLE, Int.reduceLT, Int.reduceNeg, Int.reduceEq, Int.reduceBEq, Int.reduceBNe, Nat.reduceMul, Nat.reduceAdd, Nat.reduceLeDiff, reduceCtorEq, Int.reduceToNat]
          exact fin _ _ _ (by simp [upd_at, q1]) (by simp [upd_at, ec]) (by simp [upd_at]) m1
        · have hp2 : ((b.toNat : Int) < 33) ∨ ((b.toNat : Int) > 126) ∨ ((b.toNat : Int) = 39) ∨ ((b.toNat : Int) = 37) ∨ ((b.toNat : Int) = 44) := by
            unfold plainB at hp
            simp only [decide_eq_true_eq] at hp
            by_cases z1 : 33 ≤ b.toNat
            · by_cases z2 : b.toNat ≤ 126
              · by_cases z3 : b = 39
                · subst z3; exact .inr (.inr (.inl rfl))
                · by_cases z4 : b = 37
                  · subst z4; exact .inr (.inr (.inr (.inl rfl)))
                  · by_cases z5 : b = 44
                    · subst z5; exact .inr (.inr (.inr (.inr rfl)))
                    · exact absurd ⟨z1, z2, z3, z4, z5⟩ hp
              · exact .inr (.inl (by omega))
            · exact .inl (by omega)
          have ec : enc b = [37, hexd (b.toNat / 16), hexd (b.toNat % 16)] := by unfold enc; rw [if_neg hp]
          by_cases z1 : (b.toNat : Int) < 33
          · simp -dsimp only [q1, q3, q4, m1, hc, hg, z1, w1, go_sem, ↓reduceIte, Nat.reduceEqDiff, Int.reduceLE, Int.reduceLT, Int.reduceNeg, Int.reduceEq, Int.reduceBEq, Int.reduceBNe, Nat.reduceMul, Nat.reduceAdd, Nat.reduceLeDiff, reduceCtorEq, Int.reduceToNat]
            refine VK_p (by first | omega | (simp only [List.length_cons, List.length_nil, List.length_append]; omega) | (refine ⟨by omega, by omega, ?_⟩; first | omega | (simp only [List.length_cons, List.length_nil, List.length_append]; omega)) | (simp; omega) | (simp; done)) ?_
            simp -dsimp only [go_sem, ↓reduceIte, Nat.reduceEqDiff, Int.reduceLE, Int.reduceLT, Int.reduceNeg, Int.reduceEq, Int.reduceBEq, Int.reduceBNe, Nat.reduceMul, Nat.reduceAdd, Nat.reduceLeDiff, reduceCtorEq, Int.reduceToNat]
            refine Call_val (own := true) (d57) (by simp [ExpOk, AV.pure]) (.inl rfl) ?_
            simp -dsimp only [go_sem, ↓reduceIte, Nat.reduceEqDiff, Int.reduceLE, Int.reduceLT, Int.reduceNeg, Int.reduceEq, Int.reduceBEq, Int.reduceBNe, Nat.reduceMul, Nat.reduceAdd, Nat.reduceLeDiff, reduceCtorEq, Int.reduceToNat]
            refine VK_p (by first | omega | (simp only [List.length_cons, List.length_nil, List.length_append]; omega) | (refine ⟨by omega, by omega, ?_⟩; first | omega | (simp only [List.length_cons, List.length_nil, List.length_append]; omega)) | (simp; omega) | (simp; done)) ?_
            simp -dsimp only [q4, w1, go_sem, ↓reduceIte, Nat.reduceEqDiff, Int.reduceLE, Int.reduceLT, Int.reduceNeg, Int.reduceEq, Int.reduceBEq, Int.reduceBNe, Nat.reduceMul, Nat.reduceAdd, Nat.reduceLeDiff, reduceCtorEq, Int.reduceToNat]
            exact fin _ _ _ (by simp [upd_at, q1]) (by simp [upd_at, ec]) (by simp [upd_at]) m1
          by_cases z2 : (b.toNat : Int) > 126
          · simp -dsimp only [q1, q3, q4, m1, hc, hg, z1, z2, w1, go_sem, ↓reduceIte, Nat.reduceEqDiff, Int.reduceLE, Int.reduceLT, Int.reduceNeg, Int.reduceEq, Int.reduceBEq, Int.reduceBNe, Nat.reduceMul, Nat.reduceAdd, Nat.reduceLeDiff, reduceCtorEq, Int.reduceToNat]
            refine VK_p (by first | omega | (simp only [List.length_cons, List.length_nil, List.length_append]; omega) | (refine ⟨by omega, by omega, ?_⟩; first | omega | (simp only [List.length_cons, List.length_nil, List.length_append]; omega)) | (simp; omega) | (simp; done)) ?_
            simp -dsimp only [go_sem, ↓reduceIte, Nat.reduceEqDiff, Int.reduceLE, Int.reduceLT, Int.reduceNeg, Int.reduceEq, Int.reduceBEq, Int.reduceBNe, Nat.reduceMul, Nat.reduceAdd, Nat.reduceLeDiff, reduceCtorEq, Int.reduceToNat]
            refine Call_val (own := true) (d57) (by simp [ExpOk, AV.pure]) (.inl rfl) ?_
            simp -dsimp only [go_sem, ↓reduceIte, Nat.reduceEqDiff, Int.reduceLE, Int.reduceLT, Int.reduceNeg, Int.reduceEq, Int.reduceBEq, Int.reduceBNe, Nat.reduceMul, Nat.reduceAdd, Nat.reduceLeDiff, reduceCtorEq, Int.reduceToNat]
            refine VK_p (by first | omega | (simp only [List.length_cons, List.length_nil, List.length_append]; omega) | (refine ⟨by omega, by omega, ?_⟩; first | omega | (simp only [List.length_cons, List.length_nil, List.length_append]; omega)) | (simp; omega) | (simp; done)) ?_
            simp -dsimp only [q4, w1, go_sem, ↓reduceIte, Nat.reduceEqDiff, Int.reduceLE, Int.reduceLT, Int.reduceNeg, Int.reduceEq, Int.reduceBEq, Int.reduceBNe, Nat.reduceMul, Nat.reduceAdd, Nat.reduceLeDiff, reduceCtorEq, Int.reduceToNat]
            exact fin _ _ _ (by simp [upd_at, q1]) (by simp [upd_at, ec]) (by simp [upd_at]) m1
          by_cases z3 : (b.toNat : Int) = 39
          · have z3' : ((b.toNat : Int) == 39) = true := by simp [z3]
            simp -dsimp only [q1, q3, q4, m1, hc, hg, z1, z2, z3', w1, go_sem, ↓reduceIte, Nat.reduceEqDiff, Int.reduceLE, Int.reduceLT, Int.reduceNeg, Int.reduceEq, Int.reduceBEq, Int.reduceBNe, Nat.reduceMul, Nat.reduceAdd, Nat.reduceLeDiff, reduceCtorEq, Int.reduceToNat]
            refine VK_p (by first | omega | (simp only [List.length_cons, List.length_nil, List.length_append]; omega) | (refine ⟨by omega, by omega, ?_⟩; first | omega | (simp only [List.length_cons, List.length_nil, List.length_append]; omega)) | (simp; omega) | (simp; done)) ?_
            simp -dsimp only [go_sem, ↓reduceIte, Nat.reduceEqDiff, Int.reduceLE, Int.reduceLT, Int.reduceNeg, Int.reduceEq, Int.reduceBEq, Int.reduceBNe, Nat.reduceMul, Nat.reduceAdd, Nat.reduceLeDiff, reduceCtorEq, Int.reduceToNat]
            refine Call_val (own := true) (d57) (by simp [ExpOk, AV.pure]) (.inl rfl) ?_
            simp -dsimp only [go_sem, ↓reduceIte, Nat.reduceEqDiff, Int.reduceLE, Int.reduceLT, Int.reduceNeg, Int.reduceEq, Int.reduceBEq, Int.reduceBNe, Nat.reduceMul, Nat.reduceAdd, Nat.reduceLeDiff, reduceCtorEq, Int.reduceToNat]
            refine VK_p (by first | omega | (simp only [List.length_cons, List.length_nil, List.length_append]; omega) | (refine ⟨by omega, by omega, ?_⟩; first | omega | (simp only [List.length_cons, List.length_nil, List.length_append]; omega)) | (simp; omega) | (simp; done)) ?_
            simp -dsimp only [q4, w1, go_sem, ↓reduceIte, Nat.reduceEqDiff, Int.reduceLE, Int.reduceLT, Int.reduceNeg, Int.reduceEq, Int.reduceBEq, Int.reduceBNe, Nat.reduceMul, Nat.reduceAdd, Nat.reduceLeDiff, reduceCtorEq, Int.reduceToNat]
            exact fin _ _ _ (by simp [upd_at, q1]) (by simp [upd_at, ec]) (by simp [upd_at]) m1
          have z3' : ((b.toNat : Int) == 39) = false := by simpa using z3
          by_cases z4 : (b.toNat : Int) = 37
          · have z4' : ((b.toNat : Int) == 37) = true := by simp [z4]
            simp -dsimp only [q1, q3, q4, m1, hc, hg, z1, z2, z3', z4', w1, go_sem, ↓reduceIte, Nat.reduceEqDiff, Int.reduceLE, Int.reduceLT, Int.reduceNeg, Int.reduceEq, Int.reduceBEq, Int.reduceBNe, Nat.reduceMul, Nat.reduceAdd, Nat.reduceLeDiff, reduceCtorEq, Int.reduceToNat]
            refine VK_p (by first | omega | (simp only [List.length_cons, List.length_nil, List.length_append]; omega) | (refine ⟨by omega, by omega, ?_⟩; first | omega | (simp only [List.length_cons, List.length_nil, List.length_append]; omega)) | (simp; omega) | (simp; done)) ?_
            simp -dsimp only [go_sem, ↓reduceIte, Nat.reduceEqDiff, Int.reduceLE, Int.reduceLT, Int.reduceNeg, Int.reduceEq, Int.reduceBEq, Int.reduceBNe, Nat.reduceMul, Nat.reduceAdd, Nat.reduceLeDiff, reduceCtorEq, Int.reduceToNat]
            refine Call_val (own := true) (d57) (by simp [ExpOk, AV.pure]) (.inl rfl) ?_
            simp -dsimp only [go_sem, ↓reduceIte, Nat.reduceEqDiff, Int.reduceLE, Int.reduceLT, Int.reduceNeg, Int.reduceEq, Int.reduceBEq, Int.reduceBNe, Nat.reduceMul, Nat.reduceAdd, Nat.reduceLeDiff, reduceCtorEq, Int.reduceToNat]
            refine VK_p (by first | omega | (simp only [List.length_cons, List.length_nil, List.length_append]; omega) | (refine ⟨by omega, by omega, ?_⟩; first | omega | (simp only [List.length_cons, List.length_nil, List.length_append]; omega)) | (simp; omega) | (simp; done)) ?_
            simp -dsimp only [q4, w1, go_sem, ↓reduceIte, Nat.reduceEqDiff, Int.reduceLE, Int.reduceLT, Int.reduceNeg, Int.reduceEq, Int.reduceBEq, Int.reduceBNe, Nat.reduceMul, Nat.reduceAdd, Nat.reduceLeDiff, reduceCtorEq, Int.reduceToNat]
            exact fin _ _ _ (by simp [upd_at, q1]) (by simp [upd_at, ec]) (by simp [upd_at]) m1
          have z4' : ((b.toNat : Int) == 37) = false := by simpa using z4
          have z5 : (b.toNat : Int) = 44 := by omega
          have z5' : ((b.toNat : Int) == 44) = true := by simp [z5]
          simp -dsimp only [q1, q3, q4, m1, hc, hg, z1, z2, z3', z4', z5', w1, go_sem, ↓reduceIte, Nat.reduceEqDiff, Int.reduceLE, Int.reduceLT, Int.reduceNeg, Int.reduceEq, Int.reduceBEq, Int.reduceBNe, Nat.reduceMul, Nat.reduceAdd, Nat.reduceLeDiff, reduceCtorEq, Int.reduceToNat]
          refine VK_p (by first | omega | (simp only [List.length_cons, List.length_nil, List.length_append]; omega) | (refine ⟨by omega, by omega, ?_⟩; first | omega | (simp only [List.length_cons, List.length_nil, List.length_append]; omega)) | (simp; omega) | (simp; done)) ?_
          simp -dsimp only [go_sem, ↓reduceIte, Nat.reduceEqDiff, Int.reduceLE, Int.reduceLT, Int.reduceNeg, Int.reduceEq, Int.reduceBEq, Int.reduceBNe, Nat.reduceMul, Nat.reduceAdd, Nat.reduceLeDiff, reduceCtorEq, Int.reduceToNat]
          refine Call_val (own := true) (d57) (by simp [ExpOk, AV.pure]) (.inl rfl) ?_
          simp -dsimp only [go_sem, ↓reduceIte, Nat.reduceEqDiff, Int.reduceLE, Int.reduceLT, Int.reduceNeg, Int.reduceEq, Int.reduceBEq, Int.reduceBNe, Nat.reduceMul, Nat.reduceAdd, Nat.reduceLeDiff, reduceCtorEq, Int.reduceToNat]
          refine VK_p (by first | omega | (simp only [List.length_cons, List.length_nil, List.length_append]; omega) | (refine ⟨by omega, by omega, ?_⟩; first | omega | (simp only [List.length_cons, List.length_nil, List.length_append]; omega)) | (simp; omega) | (simp; done)) ?_
          simp -dsimp only [q4, w1, go_sem, ↓reduceIte, Nat.reduceEqDiff, Int.reduceLE, Int.reduceLT, Int.reduceNeg, Int.reduceEq, Int.reduceBEq, Int.reduceBNe, Nat.reduceMul, Nat.reduceAdd, Nat.reduceLeDiff, reduceCtorEq, Int.reduceToNat]
          exact fin _ _ _ (by simp [upd_at, q1]) (by simp [upd_at, ec]) (by simp [upd_at]) m1
      · rintro A g h c ⟨q1, q3, q4, m1⟩
        have hc : ¬ (s.length : Int) < (s.length : Int) := by omega
        have hE := (encs_len s).2
        have hl12 : s.length ≤ 12 := e2
        rw [List.take_length] at q3
        simp -dsimp only [q1, q3, q4, m1, hc, go_sem, ↓reduceIte, Nat.reduceEqDiff, Int.reduceLE, Int.reduceLT, Int.reduceNeg, Int.reduceEq, Int.reduceBEq, Int.reduceBNe, Nat.reduceMul, Nat.reduceAdd, Nat.reduceLeDiff, reduceCtorEq, Int.reduceToNat]
        refine VK_p (by first | omega | (simp only [List.length_cons, List.length_nil, List.length_append]; omega) | (refine ⟨by omega, by omega, ?_⟩; first | omega | (simp only [List.length_cons, List.length_nil, List.length_append]; omega)) | (simp; omega) | (simp; done)) ?_
        simp -dsimp only [go_sem, ↓reduceIte, Nat.reduceEqDiff, Int.reduceLE, Int.reduceLT, Int.reduceNeg, Int.reduceEq, Int.reduceBEq, Int.reduceBNe, Nat.reduceMul, Nat.reduceAdd, Nat.reduceLeDiff, reduceCtorEq, Int.reduceToNat]
        exact Fin_val (by simp [resV, upd_at, retA, vText, hv]) (by simp [resV, upd_at, ResOk])
  · have e0 : decide (vOk (k, n, s)) = false := by simp [hv]
    simp -dsimp only [e0, go_sem, ↓reduceIte, Nat.reduceEqDiff, Int.reduceLE, Int.reduceLT, Int.reduceNeg, Int.reduceEq, Int.reduceBEq, Int.reduceBNe, Nat.reduceMul, Nat.reduceAdd, Nat.reduceLeDiff, reduceCtorEq, Int.reduceToNat]
    exact Fin_val (by simp [resV, upd_at, retA, vText, hv]) (by simp [resV, upd_at, ResOk])
theorem h40 (s : List UInt8) (b : UInt8) (hs : s.length ≤ 9000000000000000000) : HT 40 [.s s, .i .u8 b.toNat] [] (.tup [.s (cutR b s).1, .s (cutR b s).2.1, .b (cutR b s).2.2]) true [] := by
  refine holds_of (c := Tryd.f40.body.getD .skip) (k := k40.1) (ts := [4, 5, 6]) HOk mixedT hintT Tryd.func40 (by kernel_rfl) (by kernel_rfl) (by kernel_rfl) k40.2 (by kernel_rfl) (le_of 2 _ (by kernel_rfl)) ?_
  simp -dsimp only [k40, go_sem, ↓reduceIte, Nat.reduceEqDiff, Int.reduceLE, Int.reduceLT, Int.reduceNeg, Int.reduceEq, Int.reduceBEq, Int.reduceBNe, Nat.reduceMul, Nat.reduceAdd, Nat.reduceLeDiff, reduceCtorEq, Int.reduceToNat]
  refine K_for s.length (fun i g h c => (∀ j, j < i → s.getD j 0 ≠ b) ∧ g 0 = .s s ∧ g 1 = .i .u8 b.toNat ∧ g 7 = i64 i) ?_ ?_ ?_
  · exact ⟨fun j hj => by omega, by simp [upd_at, S_0], by simp [upd_at, S_1], by simp [upd_at]⟩
  · rintro i A hi hA g h c ⟨hb, q0, q1, q7⟩
    have hc : (i : Int) < (s.length : Int) := by omega
    have hg := sget hi
    have w1 : IntKind.i64.wrap ((i : Int) + 1) = ((i + 1 : Nat) : Int) := by rw [wr (by omega) (by omega)]; rfl
    by_cases he : s.getD i 0 = b
    · have hcut : cutR b s = (s.take i, s.drop (i + 1), true) := by unfold cutR; rw [cut_at i hb hi he]
      have e1 : (((s.getD i 0).toNat : Int) == (b.toNat : Int)) = true := by rw [he]; simp
      have s1 : ((s.length : Int) - ((i + 1 : Nat) : Int)).toNat = s.length - (i + 1) := by omega
      simp -dsimp only [q0, q1, q7, hc, hg, e1, w1, go_sem, ↓reduceIte, Nat.reduceEqDiff, Int.reduceLE, Int.reduceLT, Int.reduceNeg, Int.reduceEq, Int.reduceBEq, Int.reduceBNe, Nat.reduceMul, Nat.reduceAdd, Nat.reduceLeDiff, reduceCtorEq, Int.reduceToNat]
      refine VK_p (by first | omega | (simp only [List.length_cons, List.length_nil, List.length_append]; omega) | (refine ⟨by omega, by omega, ?_⟩; first | omega | (simp only [List.length_cons, List.length_nil, List.length_append]; omega)) | (simp; omega) | (simp; done)) ?_
      simp -dsimp only [q0, q7, w1, go_sem, ↓reduceIte, Nat.reduceEqDiff, Int.reduceLE, Int.reduceLT, Int.reduceNeg, Int.reduceEq, Int.reduceBEq, Int.reduceBNe, Nat.reduceMul, Nat.reduceAdd, Nat.reduceLeDiff, reduceCtorEq, Int.reduceToNat]
      refine VK_p (by first | omega | (simp only [List.length_cons, List.length_nil, List.length_append]; omega) | (refine ⟨by omega, by omega, ?_⟩; first | omega | (simp only [List.length_cons, List.length_nil, List.length_append]; omega)) | (simp; omega) | (simp; done)) ?_
      simp -dsimp only [go_sem, ↓reduceIte, Nat.reduceEqDiff, Int.reduceLE, Int.reduceLT, Int.reduceNeg, Int.reduceEq, Int.reduceBEq, Int.reduceBNe, Nat.reduceMul, Nat.reduceAdd, Nat.reduceLeDiff, reduceCtorEq, Int.reduceToNat]
      refine Fin_val ?_ (by simp [resV, upd_at, ResOk, ResL])
      simp [resV, upd_at, retA, retL, hcut]
      exact List.take_of_length_le (by rw [List.length_drop]; omega)
    · have e1 : (((s.getD i 0).toNat : Int) == (b.toNat : Int)) = false := by
        simp only [beq_eq_false_iff_ne, ne_eq]
        intro h3; exact he (UInt8.toNat_inj.1 (by omega))
      simp -dsimp only [q0, q1, q7, hc, hg, e1, w1, go_sem, ↓reduceIte, Nat.reduceEqDiff, Int.reduceLE, Int.reduceLT, Int.reduceNeg, Int.reduceEq, Int.reduceBEq, Int.reduceBNe, Nat.reduceMul, Nat.reduceAdd, Nat.reduceLeDiff, reduceCtorEq, Int.reduceToNat]
      refine hA _ _ _ ⟨fun j hj => ?_, by simp [upd_at, q0], by simp [upd_at, q1], by simp [upd_at]⟩
      rcases Nat.lt_succ_iff_lt_or_eq.1 hj with h1 | rfl
      · exact hb j h1
      · exact he
  · rintro A g h c ⟨hb, q0, q1, q7⟩
    have hc : ¬ (s.length : Int) < (s.length : Int) := by omega
    have hcut : cutR b s = (s, [], false) := by unfold cutR; rw [cut_none hb]
    simp -dsimp only [q0, q1, q7, hc, go_sem, ↓reduceIte, Nat.reduceEqDiff, Int.reduceLE, Int.reduceLT, Int.reduceNeg, Int.reduceEq, Int.reduceBEq, Int.reduceBNe, Nat.reduceMul, Nat.reduceAdd, Nat.reduceLeDiff, reduceCtorEq, Int.reduceToNat]
    exact Fin_val (by simp [resV, upd_at, retA, retL, hcut]) (by simp [resV, upd_at, ResOk, ResL])
theorem h24 (s : List UInt8) (b : UInt8) (hs : s.length ≤ 1000000000000) : HT 24 [.s s, .i .u8 b.toNat] [] (.sl (.p 0) 1 0 (words b s).length none) true [wsO (words b s)] := by
  refine holds_of (c := Tryd.f24.body.getD .skip) (k := k24.1) (ts := [4]) HOk mixedT hintT Tryd.func24 (by kernel_rfl) (by kernel_rfl) (by kernel_rfl) k24.2 (by kernel_rfl) (le_of 2 _ (by kernel_rfl)) ?_
  have hwl := words_len b s
  simp -dsimp only [k24, go_sem, ↓reduceIte, Nat.reduceEqDiff, Int.reduceLE, Int.reduceLT, Int.reduceNeg, Int.reduceEq, Int.reduceBEq, Int.reduceBNe, Nat.reduceMul, Nat.reduceAdd, Nat.reduceLeDiff, reduceCtorEq, Int.reduceToNat]
  refine K_loop (fun g h c => ∃ (out : List (List UInt8)) (t : List UInt8) (more : Bool) (cap : Option Nat) (v : Nat) (q : Prop), (more = true → words b s = out ++ words b t) ∧ (more = false → words b s = out) ∧ t.length ≤ s.length ∧ cap = capE out.length ∧ g 0 = .s t ∧ g 1 = .i .u8 b.toNat ∧ g 5 = .sl (.l 8) v 0 out.length cap ∧ g 6 = .b more ∧ h (.l 8) = some { ver := v, es := ws out, esz := 1, own := q })
    (fun g _ _ => match g 0, g 6 with | .s t, .b more => t.length + (if more then 1 else 0) | _, _ => 0) ?_ ?_
  · exact ⟨[], s, true, some 0, 1, _, by simp, by simp, Nat.le_refl _, rfl, by simp [upd_at, S_0], by simp [upd_at, S_1], by simp [upd_at], by simp [upd_at], (by simp only [hup_at, newObs, ↓reduceIte, Nat.reduceEqDiff, reduceCtorEq, Rid.r.injEq, Rid.l.injEq, Nat.reduceAdd, Nat.zero_add, and_self, and_true, and_false, false_and, true_and] <;> rfl)⟩
  · rintro A k hA g h c ⟨out, t, more, cap, v, q, hI1, hI2, htl, hcap, q0, q1, q5, q6, m8⟩ hm
    cases more with
    | false =>
      have e := hI2 rfl
      have hcn : cap = none := by
        rw [hcap, capE, if_neg]
        rw [← e]; intro h3; exact words_ne b s (List.length_eq_zero_iff.1 h3)
      subst hcn
      simp -dsimp only [q0, q1, q5, q6, m8, go_sem, ↓reduceIte, Nat.reduceEqDiff, Int.reduceLE, Int.reduceLT, Int.reduceNeg, Int.reduceEq, Int.reduceBEq, Int.reduceBNe, Nat.reduceMul, Nat.reduceAdd, Nat.reduceLeDiff, reduceCtorEq, Int.reduceToNat]
      rw [e]
      refine Fin_one (obs := []) (.l 8) { ver := v, es := ws out, esz := 1, own := q } (wsO out) rfl m8 rfl (.inr (ws_flat _)) (ws_pure _) (fun k x hk => by simp at hk) ?_ ?_
      · simp [resV, upd_at, retA, cur, m8, List.idxOf?_cons]
      · simp [resV, upd_at, ResOk, cur, m8]
    | true =>
      have e := hI1 rfl
      have d40 := h40 t b (by omega)
      have hwt := words_cut b t
      have hlen := congrArg List.length e
      simp only [List.length_append] at hlen
      have hw1 : 1 ≤ (words b t).length := by
        have := words_ne b t
        cases h3 : words b t with
        | nil => exact absurd h3 this
        | cons x y => simp
      have fw : AM.Flat [[AV.s (cutR b t).1]] := ws_flat [(cutR b t).1]
      have gw : AM.Good [[AV.s (cutR b t).1]] 1 := ws_good [(cutR b t).1]
      simp -dsimp only [q0, q1, q5, q6, m8, go_sem, ↓reduceIte, Nat.reduceEqDiff, Int.reduceLE, Int.reduceLT, Int.reduceNeg, Int.reduceEq, Int.reduceBEq, Int.reduceBNe, Nat.reduceMul, Nat.reduceAdd, Nat.reduceLeDiff, reduceCtorEq, Int.reduceToNat]
      refine Call_val (own := true) (d40) (by simp [ExpOk, AV.pure]) (.inl rfl) ?_
      simp -dsimp only [q0, q1, q5, q6, m8, ws_len, go_sem, ↓reduceIte, Nat.reduceEqDiff, Int.reduceLE, Int.reduceLT, Int.reduceNeg, Int.reduceEq, Int.reduceBEq, Int.reduceBNe, Nat.reduceMul, Nat.reduceAdd, Nat.reduceLeDiff, reduceCtorEq, Int.reduceToNat]
      refine EK_p ⟨⟨fun _ => fw, gw⟩, by unfold bigOk; omega, by omega⟩ ?_
      simp -dsimp only [go_sem, ↓reduceIte, Nat.reduceEqDiff, Int.reduceLE, Int.reduceLT, Int.reduceNeg, Int.reduceEq, Int.reduceBEq, Int.reduceBNe, Nat.reduceMul, Nat.reduceAdd, Nat.reduceLeDiff, reduceCtorEq, Int.reduceToNat]
      refine hA _ _ _ ⟨out ++ [(cutR b t).1], (cutR b t).2.1, (cutR b t).2.2, none, c + 1, _, ?_, ?_, ?_, by simp [capE], by simp [upd_at], by simp [upd_at, q1], by simp [upd_at], by simp [upd_at], (by rw [ws_app]; simp only [hup_at, newObs, updObs, ↓reduceIte, Nat.reduceEqDiff, reduceCtorEq, Rid.r.injEq, Rid.l.injEq, Rid.p.injEq, Nat.reduceAdd, Nat.zero_add, and_self, and_true, and_false, false_and, true_and] <;> rfl)⟩ ?_
      · intro hc
        unfold cutR at hc ⊢
        cases hk : cutA b t with
        | none => rw [hk] at hc; cases hc
        | some x => rw [hk] at hwt; rw [e, hwt]; simp
      · intro hc
        unfold cutR at hc ⊢
        cases hk : cutA b t with
        | some x => rw [hk] at hc; cases hc
        | none => rw [hk] at hwt; rw [e, hwt]
      · unfold cutR
        cases hk : cutA b t with
        | none => simp
        | some x => have := cut_len (a := x.1) (b := x.2) hk; simp; omega
      · rw [q0, q6] at hm
        simp only [upd_at, ↓reduceIte] at hm ⊢
        simp
        unfold cutR
        cases hk : cutA b t with
        | none => simp at hm ⊢; omega
        | some x => have := cut_len (a := x.1) (b := x.2) hk; simp at hm ⊢; omega
end FrA

