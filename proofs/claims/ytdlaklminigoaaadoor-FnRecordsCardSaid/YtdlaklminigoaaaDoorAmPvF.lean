/- What stands between quotation marks, byte by byte; numerals, digit by digit. No condition. -/
import Derived.Test.YtdlaklminigoaaaDoorAmPvE
set_option linter.all false
set_option linter.unusedSimpArgs false
set_option linter.unusedVariables false
set_option linter.deprecated false
/-! PvF -/
namespace FrA
open Go
theorem drop2 {s : List UInt8} {i : Nat} (h : i + 1 < s.length) : s.drop i = s.getD i 0 :: s.getD (i + 1) 0 :: s.drop (i + 2) := by
  rw [List.drop_eq_getElem_cons (by omega), List.drop_eq_getElem_cons (by omega)]
  simp [List.getD_eq_getElem?_getD, List.getElem?_eq_getElem h, List.getElem?_eq_getElem (show i < s.length by omega)]
theorem drop1 {s : List UInt8} {i : Nat} (h : i < s.length) : s.drop i = s.getD i 0 :: s.drop (i + 1) := by
  rw [List.drop_eq_getElem_cons (by omega)]
  simp [List.getD_eq_getElem?_getD, List.getElem?_eq_getElem h]
theorem rtL_end {s : List UInt8} {i : Nat} (h : ¬ i + 1 < s.length) : rtL (s.drop i) = [] := by
  have hl : (s.drop i).length ≤ 1 := by rw [List.length_drop]; omega
  match s.drop i, hl with
  | [], _ => rfl
  | [c], _ => rfl
theorem rtL_hex {s : List UInt8} {i : Nat} (h : i + 2 < s.length) (hc : s.getD i 0 = 37) : rtL (s.drop i) = UInt8.ofNat (hx (s.getD (i + 1) 0) * 16 + hx (s.getD (i + 2) 0)) :: rtL (s.drop (i + 3)) := by
  rw [drop2 (show i + 1 < s.length by omega), drop1 h, rtL, if_pos hc]
theorem rtL_one {s : List UInt8} {i : Nat} (h : i + 1 < s.length) (hc : ¬ (s.getD i 0 = 37 ∧ i + 2 < s.length)) : rtL (s.drop i) = s.getD i 0 :: rtL (s.drop (i + 1)) := by
  rw [drop2 h]
  by_cases h2 : i + 2 < s.length
  · rw [drop1 h2, rtL, if_neg (fun h3 => hc ⟨h3, h2⟩), drop1 (show i + 1 < s.length by omega), drop1 h2]
  · rw [List.drop_eq_nil_of_le (show s.length ≤ i + 2 by omega), rtL, drop1 (show i + 1 < s.length by omega), List.drop_eq_nil_of_le (show s.length ≤ i + 1 + 1 by omega)]; rfl
theorem rsL_end {s : List UInt8} {i : Nat} (h : ¬ i + 1 < s.length) : rsL (s.drop i) = [] := by
  have hl : (s.drop i).length ≤ 1 := by rw [List.length_drop]; omega
  match s.drop i, hl with
  | [], _ => rfl
  | [c], _ => rfl
theorem rsL_hex {s : List UInt8} {i : Nat} (h : i + 3 < s.length) (hc : s.getD i 0 = 37 ∧ dg (s.getD (i + 1) 0) < 16 ∧ dg (s.getD (i + 2) 0) < 16) : rsL (s.drop i) = UInt8.ofNat (16 * dg (s.getD (i + 1) 0) + dg (s.getD (i + 2) 0)) :: rsL (s.drop (i + 3)) := by
  rw [drop2 (show i + 1 < s.length by omega), drop2 (show i + 2 + 1 < s.length by omega), rsL, if_pos hc, drop1 h]
theorem rsL_one {s : List UInt8} {i : Nat} (h : i + 1 < s.length) (hc : ¬ (i + 3 < s.length ∧ s.getD i 0 = 37 ∧ dg (s.getD (i + 1) 0) < 16 ∧ dg (s.getD (i + 2) 0) < 16)) : rsL (s.drop i) = s.getD i 0 :: rsL (s.drop (i + 1)) := by
  rw [drop2 h]
  by_cases h2 : i + 2 < s.length
  · by_cases h3 : i + 3 < s.length
    · rw [drop2 (show i + 2 + 1 < s.length by omega), rsL, if_neg (fun h4 => hc ⟨h3, h4⟩), drop1 (show i + 1 < s.length by omega), drop2 (show i + 1 + 1 + 1 < s.length by omega)]
    · rw [drop1 h2, List.drop_eq_nil_of_le (show s.length ≤ i + 2 + 1 by omega), rsL, drop1 (show i + 1 < s.length by omega), drop1 (show i + 1 + 1 < s.length by omega), List.drop_eq_nil_of_le (show s.length ≤ i + 1 + 1 + 1 by omega)]; rfl
  · rw [List.drop_eq_nil_of_le (show s.length ≤ i + 2 by omega), rsL, drop1 (show i + 1 < s.length by omega), List.drop_eq_nil_of_le (show s.length ≤ i + 1 + 1 by omega)]; rfl
theorem dg_le (b : UInt8) : dg b ≤ 16 := by
  unfold dg; split
  · have := b.toNat_lt; omega
  · split <;> omega
theorem hx_lt (b : UInt8) : hx b ≤ 15 := by
  have key : ∀ n : Fin 256, hx (UInt8.ofNat n.1) ≤ 15 := by decide +kernel
  have := key ⟨b.toNat, b.toNat_lt⟩
  simpa using this
theorem dval_take {s : List UInt8} {i : Nat} (h : i < s.length) : dval (s.take (i + 1)) = 10 * dval (s.take i) + ((s.getD i 0).toNat - 48) := by
  rw [List.take_add_one, List.getElem?_eq_getElem h, Option.toList_some, dval_snoc, List.getD_eq_getElem?_getD, List.getElem?_eq_getElem h]; rfl
theorem dval_lt {s : List UInt8} (h : ∀ c ∈ s, 48 ≤ c.toNat ∧ c.toNat ≤ 57) : dval s < 10 ^ s.length := by
  have key : ∀ (l : List UInt8), (∀ c ∈ l, 48 ≤ c.toNat ∧ c.toNat ≤ 57) → ∀ n, n ≤ l.length → dval (l.take n) < 10 ^ n := by
    intro l hl n
    induction n with
    | zero => intro _; simp [dval]
    | succ n ih =>
      intro hn
      rw [dval_take (by omega), Nat.pow_succ]
      have h1 := ih (by omega)
      have hm : l.getD n 0 ∈ l := by
        rw [List.getD_eq_getElem?_getD, List.getElem?_eq_getElem (show n < l.length by omega)]; simp
      have h2 := hl _ hm
      omega
  have := key s h s.length (Nat.le_refl _)
  rwa [List.take_length] at this
end FrA

