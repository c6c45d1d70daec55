/- Values: right ones, and their texts by the reference. Walked. No condition. -/
import Derived.Test.YtdlaklminigoaaaDoorAmKsV
import Derived.Test.YtdlaklminigoaaaDoorAmSeat
import Derived.Test.YtdlaklminigoaaaDoorAmPvC
set_option linter.all false
set_option linter.unusedSimpArgs false
set_option linter.unusedVariables false
set_option linter.deprecated false
/-! VaA -/
open Go Go.AM
namespace FrA
open Go.Proofs
set_option maxRecDepth 100000
set_option linter.unusedSimpArgs false
def vC (v : Vl) : List AV := [.i .i64 v.1, .i .i64 v.2.1, .s v.2.2]
def vl (l : List Vl) : List (List AV) := l.map vC
theorem vl_len (l : List Vl) : (vl l).length = l.length := by simp [vl]
def v0 : Vl := (0, 0, [])
theorem vl_get {l : List Vl} {i : Nat} (h : i < l.length) : (vl l)[i]? = some (vC (l.getD i v0)) := by simp [vl, List.getElem?_eq_getElem h]
theorem vl_pure (l : List Vl) : AM.Pure (vl l) := by
  intro e he c hc
  simp only [vl, List.mem_map] at he
  obtain ⟨v, _, rfl⟩ := he
  simp [vC] at hc; rcases hc with rfl | rfl | rfl <;> rfl
theorem vl_flat (l : List Vl) : AM.Flat (vl l) := by
  intro e he c hc
  simp only [vl, List.mem_map] at he
  obtain ⟨v, _, rfl⟩ := he
  simp [vC] at hc; rcases hc with rfl | rfl | rfl <;> rfl
theorem vl_good (l : List Vl) : AM.Good (vl l) 3 := by
  intro e he
  simp only [vl, List.mem_map] at he
  obtain ⟨v, _, rfl⟩ := he
  simp [vC, AV.storable]
theorem vl_app (a b : List Vl) : vl (a ++ b) = vl a ++ vl b := by simp [vl]
theorem h45 (x lo hi : Int) : HT 45 [i64 x, i64 lo, i64 hi] [] (.b (decide (lo ≤ x ∧ x ≤ hi))) true [] := by
  refine holds_of (c := Tryd.f45.body.getD .skip) (k := k45.1) (ts := [6]) HOk mixedT hintT Tryd.func45 (by kernel_rfl) (by kernel_rfl) (by kernel_rfl) k45.2 (by kernel_rfl) (le_of 3 _ (by kernel_rfl)) ?_
  by_cases h1 : lo ≤ x <;> by_cases h2 : x ≤ hi <;> simp -dsimp only [k45, h1, h2, go_sem, ↓reduceIte, Nat.reduceEqDiff, Int.reduceLE, Int.reduceLT, Int.reduceNeg, Int.reduceEq, Int.reduceBEq, Int.reduceBNe, Nat.reduceMul, Nat.reduceAdd, Nat.reduceLeDiff, reduceCtorEq, Int.reduceToNat] <;> exact Fin_val (by simp [resV, upd_at, retA, h1, h2]) (by simp [resV, upd_at, ResOk])
theorem h56 (x lo hi : Int) : HT 56 [i64 x, i64 lo, i64 hi] [] (.b (decide (lo ≤ x ∧ x ≤ hi))) true [] := by
  refine holds_of (c := Tryd.f56.body.getD .skip) (k := k56.1) (ts := [6]) HOk mixedT hintT Tryd.func56 (by kernel_rfl) (by kernel_rfl) (by kernel_rfl) k56.2 (by kernel_rfl) (le_of 3 _ (by kernel_rfl)) ?_
  by_cases h1 : lo ≤ x <;> by_cases h2 : x ≤ hi <;> simp -dsimp only [k56, h1, h2, go_sem, ↓reduceIte, Nat.reduceEqDiff, Int.reduceLE, Int.reduceLT, Int.reduceNeg, Int.reduceEq, Int.reduceBEq, Int.reduceBNe, Nat.reduceMul, Nat.reduceAdd, Nat.reduceLeDiff, reduceCtorEq, Int.reduceToNat] <;> exact Fin_val (by simp [resV, upd_at, retA, h1, h2]) (by simp [resV, upd_at, ResOk])
theorem emp (s : List UInt8) : s.isEmpty = decide (s = []) := by cases s <;> simp
theorem beq_d (n m : Int) : (n == m) = decide (n = m) := by by_cases h : n = m <;> simp [h]
theorem nle (s : List UInt8) : ((s.length : Int) ≤ 12) ↔ s.length ≤ 12 := by omega
theorem h28 (v : Vl) : HT 28 [.agg (vC v)] [] (.b (decide (vOk v))) true [] := by
  obtain ⟨k, n, s⟩ := v
  refine holds_of (c := Tryd.f28.body.getD .skip) (k := k28.1) (ts := [2]) HOk mixedT hintT Tryd.func28 (by kernel_rfl) (by kernel_rfl) (by kernel_rfl) k28.2 (by kernel_rfl) (le_of 1 _ (by kernel_rfl)) ?_
  simp only [vC, vOk]
  by_cases a0 : k = 0
  · subst a0
    simp -dsimp only [k28, go_sem, ↓reduceIte, Nat.reduceEqDiff, Int.reduceLE, Int.reduceLT, Int.reduceNeg, Int.reduceEq, Int.reduceBEq, Int.reduceBNe, Nat.reduceMul, Nat.reduceAdd, Nat.reduceLeDiff, reduceCtorEq, Int.reduceToNat]
    refine Fin_val ?_ (by simp [resV, upd_at, ResOk])
    simp [resV, upd_at, retA, emp, beq_d]
  · have e0 : (k == 0) = false := by simp [a0]
    by_cases a1 : k = 1
    · subst a1
      have d := h45 n (-1000000000) 1000000000
      simp -dsimp only [k28, e0, go_sem, ↓reduceIte, Nat.reduceEqDiff, Int.reduceLE, Int.reduceLT, Int.reduceNeg, Int.reduceEq, Int.reduceBEq, Int.reduceBNe, Nat.reduceMul, Nat.reduceAdd, Nat.reduceLeDiff, reduceCtorEq, Int.reduceToNat]
      refine Call_val (own := true) (d) (by simp [ExpOk, AV.pure]) (.inl rfl) ?_
      by_cases h1 : -1000000000 ≤ n ∧ n ≤ 1000000000
      · simp -dsimp only [h1, go_sem, ↓reduceIte, Nat.reduceEqDiff, Int.reduceLE, Int.reduceLT, Int.reduceNeg, Int.reduceEq, Int.reduceBEq, Int.reduceBNe, Nat.reduceMul, Nat.reduceAdd, Nat.reduceLeDiff, reduceCtorEq, Int.reduceToNat]
        refine Fin_val ?_ (by simp [resV, upd_at, ResOk])
        simp [resV, upd_at, retA, h1, emp]
      · simp -dsimp only [h1, go_sem, ↓reduceIte, Nat.reduceEqDiff, Int.reduceLE, Int.reduceLT, Int.reduceNeg, Int.reduceEq, Int.reduceBEq, Int.reduceBNe, Nat.reduceMul, Nat.reduceAdd, Nat.reduceLeDiff, reduceCtorEq, Int.reduceToNat]
        refine Fin_val ?_ (by simp [resV, upd_at, ResOk])
        simp [resV, upd_at, retA, h1]
    · have e1 : (k == 1) = false := by simp [a1]
      by_cases a2 : k = 2
      · subst a2
        by_cases hn : n = 0
        · subst hn
          simp -dsimp only [k28, e0, e1, go_sem, ↓reduceIte, Nat.reduceEqDiff, Int.reduceLE, Int.reduceLT, Int.reduceNeg, Int.reduceEq, Int.reduceBEq, Int.reduceBNe, Nat.reduceMul, Nat.reduceAdd, Nat.reduceLeDiff, reduceCtorEq, Int.reduceToNat]
          refine Fin_val ?_ (by simp [resV, upd_at, ResOk])
          simp [resV, upd_at, retA, nle]
        · have hn' : (n == 0) = false := by simp [hn]
          simp -dsimp only [k28, e0, e1, hn', go_sem, ↓reduceIte, Nat.reduceEqDiff, Int.reduceLE, Int.reduceLT, Int.reduceNeg, Int.reduceEq, Int.reduceBEq, Int.reduceBNe, Nat.reduceMul, Nat.reduceAdd, Nat.reduceLeDiff, reduceCtorEq, Int.reduceToNat]
          refine Fin_val ?_ (by simp [resV, upd_at, ResOk])
          simp [resV, upd_at, retA, hn]
      · have e2 : (k == 2) = false := by simp [a2]
        simp -dsimp only [k28, e0, e1, e2, go_sem, ↓reduceIte, Nat.reduceEqDiff, Int.reduceLE, Int.reduceLT, Int.reduceNeg, Int.reduceEq, Int.reduceBEq, Int.reduceBNe, Nat.reduceMul, Nat.reduceAdd, Nat.reduceLeDiff, reduceCtorEq, Int.reduceToNat]
        refine Fin_val ?_ (by simp [resV, upd_at, ResOk])
        simp [resV, upd_at, retA, a0, a1, a2]
theorem h37 (v : Vl) : HT 37 [.agg (vC v)] [] (.b (decide (vOk v))) true [] := by
  obtain ⟨k, n, s⟩ := v
  refine holds_of (c := Tryd.f37.body.getD .skip) (k := k37.1) (ts := [2]) HOk mixedT hintT Tryd.func37 (by kernel_rfl) (by kernel_rfl) (by kernel_rfl) k37.2 (by kernel_rfl) (le_of 1 _ (by kernel_rfl)) ?_
  simp only [vC, vOk]
  by_cases a0 : k = 0
  · subst a0
    simp -dsimp only [k37, go_sem, ↓reduceIte, Nat.reduceEqDiff, Int.reduceLE, Int.reduceLT, Int.reduceNeg, Int.reduceEq, Int.reduceBEq, Int.reduceBNe, Nat.reduceMul, Nat.reduceAdd, Nat.reduceLeDiff, reduceCtorEq, Int.reduceToNat]
    refine Fin_val ?_ (by simp [resV, upd_at, ResOk])
    simp [resV, upd_at, retA, emp, beq_d]
  · have e0 : (k == 0) = false := by simp [a0]
    by_cases a1 : k = 1
    · subst a1
      have d := h56 n (-1000000000) 1000000000
      simp -dsimp only [k37, e0, go_sem, ↓reduceIte, Nat.reduceEqDiff, Int.reduceLE, Int.reduceLT, Int.reduceNeg, Int.reduceEq, Int.reduceBEq, Int.reduceBNe, Nat.reduceMul, Nat.reduceAdd, Nat.reduceLeDiff, reduceCtorEq, Int.reduceToNat]
      refine Call_val (own := true) (d) (by simp [ExpOk, AV.pure]) (.inl rfl) ?_
      by_cases h1 : -1000000000 ≤ n ∧ n ≤ 1000000000
      · simp -dsimp only [h1, go_sem, ↓reduceIte, Nat.reduceEqDiff, Int.reduceLE, Int.reduceLT, Int.reduceNeg, Int.reduceEq, Int.reduceBEq, Int.reduceBNe, Nat.reduceMul, Nat.reduceAdd, Nat.reduceLeDiff, reduceCtorEq, Int.reduceToNat]
        refine Fin_val ?_ (by simp [resV, upd_at, ResOk])
        simp [resV, upd_at, retA, h1, emp]
      · simp -dsimp only [h1, go_sem, ↓reduceIte, Nat.reduceEqDiff, Int.reduceLE, Int.reduceLT, Int.reduceNeg, Int.reduceEq, Int.reduceBEq, Int.reduceBNe, Nat.reduceMul, Nat.reduceAdd, Nat.reduceLeDiff, reduceCtorEq, Int.reduceToNat]
        refine Fin_val ?_ (by simp [resV, upd_at, ResOk])
        simp [resV, upd_at, retA, h1]
    · have e1 : (k == 1) = false := by simp [a1]
      by_cases a2 : k = 2
      · subst a2
        by_cases hn : n = 0
        · subst hn
          simp -dsimp only [k37, e0, e1, go_sem, ↓reduceIte, Nat.reduceEqDiff, Int.reduceLE, Int.reduceLT, Int.reduceNeg, Int.reduceEq, Int.reduceBEq, Int.reduceBNe, Nat.reduceMul, Nat.reduceAdd, Nat.reduceLeDiff, reduceCtorEq, Int.reduceToNat]
          refine Fin_val ?_ (by simp [resV, upd_at, ResOk])
          simp [resV, upd_at, retA, nle]
        · have hn' : (n == 0) = false := by simp [hn]
          simp -dsimp only [k37, e0, e1, hn', go_sem, ↓reduceIte, Nat.reduceEqDiff, Int.reduceLE, Int.reduceLT, Int.reduceNeg, Int.reduceEq, Int.reduceBEq, Int.reduceBNe, Nat.reduceMul, Nat.reduceAdd, Nat.reduceLeDiff, reduceCtorEq, Int.reduceToNat]
          refine Fin_val ?_ (by simp [resV, upd_at, ResOk])
          simp [resV, upd_at, retA, hn]
      · have e2 : (k == 2) = false := by simp [a2]
        simp -dsimp only [k37, e0, e1, e2, go_sem, ↓reduceIte, Nat.reduceEqDiff, Int.reduceLE, Int.reduceLT, Int.reduceNeg, Int.reduceEq, Int.reduceBEq, Int.reduceBNe, Nat.reduceMul, Nat.reduceAdd, Nat.reduceLeDiff, reduceCtorEq, Int.reduceToNat]
        refine Fin_val ?_ (by simp [resV, upd_at, ResOk])
        simp [resV, upd_at, retA, a0, a1, a2]
end FrA

