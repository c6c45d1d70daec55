/- The library's pieces are the words. No condition. -/
import Derived.Test.YtdlaklminigoaaaDoorAmPvA
import Derived.Lib.SplitLaws
set_option linter.all false
set_option linter.unusedSimpArgs false
set_option linter.unusedVariables false
set_option linter.deprecated false
/-! PvD -/
namespace FrA
open Go
theorem splitK_words (c : UInt8) : ∀ s : List UInt8, Lib.splitK [c] 0 (s.count c) s = words c s
  | [] => rfl
  | b :: s => by
    have ih := splitK_words c s
    by_cases hb : b = c
    · subst hb
      have hi : Lib.index (b :: s) [b] = 0 := by simp [Lib.index]
      rw [List.count_cons_self]
      unfold Lib.splitK words
      rw [hi, if_neg (by decide), if_pos rfl]
      simp only [Int.toNat_zero, Nat.add_zero, List.take_zero, List.length_singleton, Nat.zero_add, List.drop_succ_cons, List.drop_zero]
      rw [ih]
    · have hp : ([c].isPrefixOf (b :: s)) = false := by simp [List.isPrefixOf, Ne.symm hb]
      rw [List.count_cons_of_ne hb]
      have hw : words c (b :: s) = match words c s with | w :: r => (b :: w) :: r | [] => [[b]] := by
        conv => lhs; unfold words
        rw [if_neg hb]
        cases words c s <;> rfl
      rw [hw, ← ih]
      cases hk : s.count c with
      | zero => rfl
      | succ k =>
        unfold Lib.splitK
        have hi : Lib.index (b :: s) [c] = if Lib.index s [c] == -1 then -1 else Lib.index s [c] + 1 := by
          conv => lhs; unfold Lib.index
          rw [hp]; simp
        by_cases h1 : Lib.index s [c] == -1
        · rw [hi, if_pos h1, if_pos h1]; rfl
        · have h2 : ¬ Lib.index s [c] = -1 := by simpa using h1
          have h3 := Lib.index_ge s [c]
          rw [hi, if_neg h1, if_neg h1]
          have h4 : ¬ (Lib.index s [c] + 1 == -1) = true := by
            simp only [beq_iff_eq]; omega
          rw [if_neg h4]
          have h5 : (Lib.index s [c] + 1).toNat = (Lib.index s [c]).toNat + 1 := by omega
          simp only [h5, Nat.add_zero, List.length_singleton, List.take_succ_cons, List.drop_succ_cons]
end FrA

