/- Numerals, words and texts of values by the reference. Walked. No condition. -/
import Derived.Test.YtdlaklminigoaaaDoorAmKsV
import Derived.Test.YtdlaklminigoaaaDoorAmSeat
import Derived.Test.YtdlaklminigoaaaDoorAmVaA
import Derived.Test.YtdlaklminigoaaaDoorAmPvE
set_option linter.all false
set_option linter.unusedSimpArgs false
set_option linter.unusedVariables false
set_option linter.deprecated false
/-! VaB -/
open Go Go.AM
namespace FrA
open Go.Proofs
set_option maxRecDepth 100000
set_option linter.unusedSimpArgs false
theorem wz {n : Int} (h1 : -9223372036854775808 ≤ n) (h2 : n ≤ 9223372036854775807) : IntKind.i64.wrap n = n := IntWalk.i64_in _ ⟨by omega, by omega⟩
theorem w8 {n : Int} (h1 : 0 ≤ n) (h2 : n ≤ 255) : IntKind.u8.wrap n = n := by
  unfold IntKind.wrap; simp [IntKind.signed, IntKind.bits]; omega
theorem nil_beq (s : List UInt8) : (s == []) = decide (s = []) := by cases s <;> simp
theorem ne_bne (n m : Int) : (n != m) = decide (n ≠ m) := by by_cases h : n = m <;> simp [h]
theorem tmod_abs (m : Int) : (m.tmod 10).natAbs = m.natAbs % 10 := by rw [Int.natAbs_tmod]; rfl
theorem h38 (n : Int) (h0 : -9223372036854775808 < n) (h1 : n ≤ 9223372036854775807) : HT 38 [i64 n] [] (.s (Lib.itoa n)) true [] := by
  refine holds_of (c := Tryd.f38.body.getD .skip) (k := k38.1) (ts := [2]) HOk mixedT hintT Tryd.func38 (by kernel_rfl) (by kernel_rfl) (by kernel_rfl) k38.2 (by kernel_rfl) (le_of 1 _ (by kernel_rfl)) ?_
  simp -dsimp only [k38, go_sem, ↓reduceIte, Nat.reduceEqDiff, Int.reduceLE, Int.reduceLT, Int.reduceNeg, Int.reduceEq, Int.reduceBEq, Int.reduceBNe, Nat.reduceMul, Nat.reduceAdd, Nat.reduceLeDiff, reduceCtorEq, Int.reduceToNat]
  have hd20 : (Lib.decDigits n.natAbs).length ≤ 20 := dec_len20 (by omega)
  refine K_loop (fun g h c => ∃ (m : Int) (s : List UInt8), decI n m s ∧ m.natAbs ≤ n.natAbs ∧ g 0 = i64 m ∧ g 3 = .b (decide (n < 0)) ∧ g 4 = .s s) (fun g _ _ => match g 0, g 4 with | .i _ m, .s s => m.natAbs + (if s = [] then 1 else 0) | _, _ => 0) ?_ ?_
  · exact ⟨n, [], .inl ⟨rfl, rfl⟩, Nat.le_refl _, by simp [upd_at, S_0], by simp [upd_at], by simp [upd_at]⟩
  · rintro A k hA g h c ⟨m, s, hI, hle, q0, q3, q4⟩ hm
    have hs20 := decI_nat hI h0 h1 hd20
    have hq : (m.tdiv 10).natAbs = m.natAbs / 10 := by rw [Int.natAbs_tdiv]; rfl
    have hmod := tmod_abs m
    have fin : ∀ (g' : Slots) (h' : Heap) (c' : Nat), g' 0 = i64 (m.tdiv 10) → g' 3 = .b (decide (n < 0)) → g' 4 = .s (UInt8.ofNat (48 + m.natAbs % 10) :: s) → (s = [] ∨ m ≠ 0) → A g' h' c' := fun g' h' c' r0 r3 r4 hs => by
      refine hA _ _ _ ⟨_, _, decI_step hI hs, by omega, r0, r3, r4⟩ ?_
      rw [q0, q4] at hm
      rw [r0, r4]
      simp only [i64] at hm ⊢
      rw [if_neg (by simp)]
      rcases hs with hs | hs
      · rw [if_pos hs] at hm; omega
      · split at hm <;> omega
    have wq : IntKind.i64.wrap (m.tdiv 10) = m.tdiv 10 := wz (by omega) (by omega)
    have wdig : IntKind.i64.wrap (48 + ((m.natAbs % 10 : Nat) : Int)) = ((48 + m.natAbs % 10 : Nat) : Int) := by rw [wz (by omega) (by omega)]; omega
    have w8d : IntKind.u8.wrap ((48 + m.natAbs % 10 : Nat) : Int) = ((48 + m.natAbs % 10 : Nat) : Int) := w8 (by omega) (by omega)
    by_cases he : s ≠ [] ∧ m = 0
    · have e1 : (s == []) = false := by rw [nil_beq]; simp [he.1]
      have e2 : (m != 0) = false := by simp [he.2]
      have es := decI_end hI he.1 he.2
      by_cases hn : n < 0
      · simp -dsimp only [q0, q3, q4, e1, e2, hn, go_sem, ↓reduceIte, Nat.reduceEqDiff, Int.reduceLE, Int.reduceLT, Int.reduceNeg, Int.reduceEq, Int.reduceBEq, Int.reduceBNe, Nat.reduceMul, Nat.reduceAdd, Nat.reduceLeDiff, reduceCtorEq, Int.reduceToNat]
        refine VK_p (by first | omega | (simp only [List.length_cons, List.length_nil, List.length_append]; omega) | (refine ⟨by omega, by omega, ?_⟩; first | omega | (simp only [List.length_cons, List.length_nil, List.length_append]; omega)) | (simp; omega) | (simp; done)) ?_
        simp -dsimp only [go_sem, ↓reduceIte, Nat.reduceEqDiff, Int.reduceLE, Int.reduceLT, Int.reduceNeg, Int.reduceEq, Int.reduceBEq, Int.reduceBNe, Nat.reduceMul, Nat.reduceAdd, Nat.reduceLeDiff, reduceCtorEq, Int.reduceToNat]
        exact Fin_val (by simp [resV, upd_at, retA, itoa_dec, hn, es]) (by simp [resV, upd_at, ResOk])
      · simp -dsimp only [q0, q3, q4, e1, e2, hn, go_sem, ↓reduceIte, Nat.reduceEqDiff, Int.reduceLE, Int.reduceLT, Int.reduceNeg, Int.reduceEq, Int.reduceBEq, Int.reduceBNe, Nat.reduceMul, Nat.reduceAdd, Nat.reduceLeDiff, reduceCtorEq, Int.reduceToNat]
        exact Fin_val (by simp [resV, upd_at, retA, itoa_dec, hn, es]) (by simp [resV, upd_at, ResOk])
    · have hs : s = [] ∨ m ≠ 0 := by
        by_cases h2 : s = []
        · exact .inl h2
        · exact .inr fun h3 => he ⟨h2, h3⟩
      have e : (s == []) = true ∨ ((s == []) = false ∧ (m != 0) = true) := by
        by_cases h2 : s = []
        · exact .inl (by rw [nil_beq]; simp [h2])
        · exact .inr ⟨by rw [nil_beq]; simp [h2], by simpa using hs.resolve_left h2⟩
      by_cases hd : m.tmod 10 < 0
      · have wneg : IntKind.i64.wrap (0 - m.tmod 10) = ((m.natAbs % 10 : Nat) : Int) := by rw [wz (by omega) (by omega)]; omega
        rcases e with e1 | ⟨e1, e2⟩
        · simp -dsimp only [q0, q3, q4, e1, hd, wneg, wdig, w8d, wq, go_sem, ↓reduceIte, Nat.reduceEqDiff, Int.reduceLE, Int.reduceLT, Int.reduceNeg, Int.reduceEq, Int.reduceBEq, Int.reduceBNe, Nat.reduceMul, Nat.reduceAdd, Nat.reduceLeDiff, reduceCtorEq, Int.reduceToNat]
          refine VK_p (by first | omega | (simp only [List.length_cons, List.length_nil, List.length_append]; omega) | (refine ⟨by omega, by omega, ?_⟩; first | omega | (simp only [List.length_cons, List.length_nil, List.length_append]; omega)) | (simp; omega) | (simp; done)) ?_
          simp -dsimp only [q0, wq, go_sem, ↓reduceIte, Nat.reduceEqDiff, Int.reduceLE, Int.reduceLT, Int.reduceNeg, Int.reduceEq, Int.reduceBEq, Int.reduceBNe, Nat.reduceMul, Nat.reduceAdd, Nat.reduceLeDiff, reduceCtorEq, Int.reduceToNat]
          exact fin _ _ _ (by simp [upd_at]) (by simp [upd_at, q3]) (by simp [upd_at]) hs
        · simp -dsimp only [q0, q3, q4, e1, e2, hd, wneg, wdig, w8d, wq, go_sem, ↓reduceIte, Nat.reduceEqDiff, Int.reduceLE, Int.reduceLT, Int.reduceNeg, Int.reduceEq, Int.reduceBEq, Int.reduceBNe, Nat.reduceMul, Nat.reduceAdd, Nat.reduceLeDiff, reduceCtorEq, Int.reduceToNat]
          refine VK_p (by first | omega | (simp only [List.length_cons, List.length_nil, List.length_append]; omega) | (refine ⟨by omega, by omega, ?_⟩; first | omega | (simp only [List.length_cons, List.length_nil, List.length_append]; omega)) | (simp; omega) | (simp; done)) ?_
          simp -dsimp only [q0, wq, go_sem, ↓reduceIte, Nat.reduceEqDiff, Int.reduceLE, Int.reduceLT, Int.reduceNeg, Int.reduceEq, Int.reduceBEq, Int.reduceBNe, Nat.reduceMul, Nat.reduceAdd, Nat.reduceLeDiff, reduceCtorEq, Int.reduceToNat]
          exact fin _ _ _ (by simp [upd_at]) (by simp [upd_at, q3]) (by simp [upd_at]) hs
      · have ht : m.tmod 10 = ((m.natAbs % 10 : Nat) : Int) := by omega
        have hd' : ¬ ((m.natAbs % 10 : Nat) : Int) < 0 := by omega
        rcases e with e1 | ⟨e1, e2⟩
        · simp -dsimp only [q0, q3, q4, e1, ht, hd', wdig, w8d, wq, go_sem, ↓reduceIte, Nat.reduceEqDiff, Int.reduceLE, Int.reduceLT, Int.reduceNeg, Int.reduceEq, Int.reduceBEq, Int.reduceBNe, Nat.reduceMul, Nat.reduceAdd, Nat.reduceLeDiff, reduceCtorEq, Int.reduceToNat]
          refine VK_p (by first | omega | (simp only [List.length_cons, List.length_nil, List.length_append]; omega) | (refine ⟨by omega, by omega, ?_⟩; first | omega | (simp only [List.length_cons, List.length_nil, List.length_append]; omega)) | (simp; omega) | (simp; done)) ?_
          simp -dsimp only [q0, wq, go_sem, ↓reduceIte, Nat.reduceEqDiff, Int.reduceLE, Int.reduceLT, Int.reduceNeg, Int.reduceEq, Int.reduceBEq, Int.reduceBNe, Nat.reduceMul, Nat.reduceAdd, Nat.reduceLeDiff, reduceCtorEq, Int.reduceToNat]
          exact fin _ _ _ (by simp [upd_at]) (by simp [upd_at, q3]) (by simp [upd_at]) hs
        · simp -dsimp only [q0, q3, q4, e1, e2, ht, hd', wdig, w8d, wq, go_sem, ↓reduceIte, Nat.reduceEqDiff, Int.reduceLE, Int.reduceLT, Int.reduceNeg, Int.reduceEq, Int.reduceBEq, Int.reduceBNe, Nat.reduceMul, Nat.reduceAdd, Nat.reduceLeDiff, reduceCtorEq, Int.reduceToNat]
          refine VK_p (by first | omega | (simp only [List.length_cons, List.length_nil, List.length_append]; omega) | (refine ⟨by omega, by omega, ?_⟩; first | omega | (simp only [List.length_cons, List.length_nil, List.length_append]; omega)) | (simp; omega) | (simp; done)) ?_
          simp -dsimp only [q0, wq, go_sem, ↓reduceIte, Nat.reduceEqDiff, Int.reduceLE, Int.reduceLT, Int.reduceNeg, Int.reduceEq, Int.reduceBEq, Int.reduceBNe, Nat.reduceMul, Nat.reduceAdd, Nat.reduceLeDiff, reduceCtorEq, Int.reduceToNat]
          exact fin _ _ _ (by simp [upd_at]) (by simp [upd_at, q3]) (by simp [upd_at]) hs
def hexL : List UInt8 := [48, 49, 50, 51, 52, 53, 54, 55, 56, 57, 97, 98, 99, 100, 101, 102]
theorem hex_cut : ∀ n, n < 16 → (hexL.drop n).take (n + 1 - n) = [hexd n] := by decide
theorem h57 (b : UInt8) : HT 57 [.i .u8 b.toNat] [] (.s [hexd (b.toNat / 16), hexd (b.toNat % 16)]) true [] := by
  refine holds_of (c := Tryd.f57.body.getD .skip) (k := k57.1) (ts := [2]) HOk mixedT hintT Tryd.func57 (by kernel_rfl) (by kernel_rfl) (by kernel_rfl) k57.2 (by kernel_rfl) (le_of 1 _ (by kernel_rfl)) ?_
  have hb := b.toNat_lt
  have e1 : ((b.toNat : Int)).tdiv 16 = ((b.toNat / 16 : Nat) : Int) := by rw [Int.tdiv_eq_ediv_of_nonneg (by omega)]; rfl
  have e2 : ((b.toNat : Int)).tmod 16 = ((b.toNat % 16 : Nat) : Int) := by rw [Int.tmod_eq_emod_of_nonneg (by omega)]; rfl
  have d1 : b.toNat / 16 < 16 := by omega
  have d2 : b.toNat % 16 < 16 := by omega
  have c1 := hex_cut _ d1
  have c2 := hex_cut _ d2
  unfold hexL at c1 c2
  generalize b.toNat / 16 = x at e1 d1 c1
  generalize b.toNat % 16 = y at e2 d2 c2
  have w1 : IntKind.u8.wrap (x : Int) = (x : Int) := w8 (by omega) (by omega)
  have w2 : IntKind.u8.wrap ((x : Int) + 1) = ((x + 1 : Nat) : Int) := by rw [w8 (by omega) (by omega)]; rfl
  have w3 : IntKind.u8.wrap ((y : Int) + 1) = ((y + 1 : Nat) : Int) := by rw [w8 (by omega) (by omega)]; rfl
  have s1 : (((x + 1 : Nat) : Int) - (x : Int)).toNat = x + 1 - x := by omega
  have s2 : (((y + 1 : Nat) : Int) - (y : Int)).toNat = y + 1 - y := by omega
  simp -dsimp only [k57, e1, e2, w1, w2, w3, go_sem, ↓reduceIte, Nat.reduceEqDiff, Int.reduceLE, Int.reduceLT, Int.reduceNeg, Int.reduceEq, Int.reduceBEq, Int.reduceBNe, Nat.reduceMul, Nat.reduceAdd, Nat.reduceLeDiff, reduceCtorEq, Int.reduceToNat]
  refine VK_p (by first | omega | (simp only [List.length_cons, List.length_nil, List.length_append]; omega) | (refine ⟨by omega, by omega, ?_⟩; first | omega | (simp only [List.length_cons, List.length_nil, List.length_append]; omega)) | (simp; omega) | (simp; done)) ?_
  simp -dsimp only [e2, w3, go_sem, ↓reduceIte, Nat.reduceEqDiff, Int.reduceLE, Int.reduceLT, Int.reduceNeg, Int.reduceEq, Int.reduceBEq, Int.reduceBNe, Nat.reduceMul, Nat.reduceAdd, Nat.reduceLeDiff, reduceCtorEq, Int.reduceToNat]
  refine VK_p (by first | omega | (simp only [List.length_cons, List.length_nil, List.length_append]; omega) | (refine ⟨by omega, by omega, ?_⟩; first | omega | (simp only [List.length_cons, List.length_nil, List.length_append]; omega)) | (simp; omega) | (simp; done)) ?_
  simp -dsimp only [s1, s2, c1, c2, go_sem, ↓reduceIte, Nat.reduceEqDiff, Int.reduceLE, Int.reduceLT, Int.reduceNeg, Int.reduceEq, Int.reduceBEq, Int.reduceBNe, Nat.reduceMul, Nat.reduceAdd, Nat.reduceLeDiff, reduceCtorEq, Int.reduceToNat]
  refine Fin_val ?_ (by simp [resV, upd_at, ResOk])
  simp [resV, upd_at, retA, s1, s2, c1, c2]
end FrA

