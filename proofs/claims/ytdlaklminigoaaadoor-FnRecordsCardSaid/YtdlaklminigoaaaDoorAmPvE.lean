/- Numerals, digit by digit; texts, cut at a byte. No condition. -/
import Derived.Test.YtdlaklminigoaaaDoorAmPvC
set_option linter.all false
set_option linter.unusedSimpArgs false
set_option linter.unusedVariables false
set_option linter.deprecated false
/-! PvE -/
namespace FrA
open Go
/-- The reference's numeral, under way: what is left, and the digits that stand. -/
def decI (n m : Int) (s : List UInt8) : Prop := (s = [] ∧ m = n) ∨ (s ≠ [] ∧ (0 < m → 0 < n) ∧ (m < 0 → n < 0) ∧ Lib.decDigits n.natAbs = (if m = 0 then [] else Lib.decDigits m.natAbs) ++ s)
theorem dec_split (u : Nat) : Lib.decDigits u = (if u / 10 = 0 then [] else Lib.decDigits (u / 10)) ++ [UInt8.ofNat (48 + u % 10)] := by
  conv => lhs; rw [Lib.decDigits]
  by_cases h : u < 10
  · rw [dif_pos h, if_pos (by omega), List.nil_append, Nat.mod_eq_of_lt h]
  · rw [dif_neg h, if_neg (by omega)]
theorem decI_step {n m : Int} {s : List UInt8} (h : decI n m s) (hm : s = [] ∨ m ≠ 0) : decI n (m.tdiv 10) (UInt8.ofNat (48 + m.natAbs % 10) :: s) := by
  have hd : (m.tdiv 10).natAbs = m.natAbs / 10 := by rw [Int.natAbs_tdiv]; rfl
  have hp : 0 < m.tdiv 10 → 0 < m := fun hq => by
    rcases Int.lt_or_le 0 m with h1 | h1
    · exact h1
    · have : m.tdiv 10 = -((-m).tdiv 10) := by rw [Int.neg_tdiv]; omega
      have h2 : 0 ≤ (-m).tdiv 10 := Int.tdiv_nonneg (by omega) (by omega)
      omega
  have hn : m.tdiv 10 < 0 → m < 0 := fun hq => by
    rcases Int.lt_or_le m 0 with h1 | h1
    · exact h1
    · have h2 : 0 ≤ m.tdiv 10 := Int.tdiv_nonneg h1 (by omega)
      omega
  have hz : m.tdiv 10 = 0 ↔ m.natAbs / 10 = 0 := by rw [← hd]; omega
  have key : Lib.decDigits m.natAbs = (if m.tdiv 10 = 0 then [] else Lib.decDigits (m.tdiv 10).natAbs) ++ [UInt8.ofNat (48 + m.natAbs % 10)] := by
    rw [dec_split m.natAbs, hd]
    by_cases h1 : m.natAbs / 10 = 0
    · rw [if_pos h1, if_pos (hz.2 h1)]
    · rw [if_neg h1, if_neg (fun h2 => h1 (hz.1 h2))]
  rcases h with ⟨rfl, rfl⟩ | ⟨h1, h2, h3, h4⟩
  · exact .inr ⟨by simp, hp, hn, key⟩
  · have h5 : m ≠ 0 := hm.resolve_left h1
    refine .inr ⟨by simp, fun h => h2 (hp h), fun h => h3 (hn h), ?_⟩
    rw [h4, if_neg h5, key, List.append_assoc]; rfl
theorem decI_end {n m : Int} {s : List UInt8} (h : decI n m s) (hs : s ≠ []) (hm : m = 0) : s = Lib.decDigits n.natAbs := by
  rcases h with ⟨h1, _⟩ | ⟨_, _, _, h4⟩
  · exact absurd h1 hs
  · rw [h4, if_pos hm, List.nil_append]
theorem itoa_dec (n : Int) : Lib.itoa n = if n < 0 then 45 :: Lib.decDigits n.natAbs else Lib.decDigits n.natAbs := by
  unfold Lib.itoa
  split
  · rfl
  · rw [show n.toNat = n.natAbs by omega]
theorem decI_nat {n m : Int} {s : List UInt8} (h : decI n m s) (h0 : -9223372036854775808 < n) (h1 : n ≤ 9223372036854775807) (hl : (Lib.decDigits n.natAbs).length ≤ 20) : s.length ≤ 20 := by
  rcases h with ⟨h1, _⟩ | ⟨_, _, _, h4⟩
  · simp [h1]
  · rw [h4] at hl; simp at hl; omega
theorem dec_len20 {u : Nat} (h : u < 10 ^ 20) : (Lib.decDigits u).length ≤ 20 := dec_len 20 u (by omega) h
/-- What stands ahead of the first such byte, and behind it. -/
def cutA (c : UInt8) : List UInt8 → Option (List UInt8 × List UInt8)
  | [] => none
  | b :: s => if b = c then some ([], s) else (cutA c s).map fun (x, y) => (b :: x, y)
def cutR (c : UInt8) (s : List UInt8) : List UInt8 × List UInt8 × Bool := match cutA c s with
  | some (a, b) => (a, b, true)
  | none => (s, [], false)
theorem cut_at {c : UInt8} : ∀ {s : List UInt8} (i : Nat), (∀ j, j < i → s.getD j 0 ≠ c) → i < s.length → s.getD i 0 = c → cutA c s = some (s.take i, s.drop (i + 1))
  | [], i, _, h, _ => by simp at h
  | b :: s, 0, _, _, h => by simp at h; simp [cutA, h]
  | b :: s, i + 1, h1, h2, h3 => by
    have h0 := h1 0 (by omega)
    simp at h0
    rw [cutA, if_neg h0, cut_at i (fun j hj => by have := h1 (j + 1) (by omega); simpa using this) (by simpa using h2) (by simpa using h3)]
    rfl
theorem cut_none {c : UInt8} : ∀ {s : List UInt8}, (∀ j, j < s.length → s.getD j 0 ≠ c) → cutA c s = none
  | [], _ => rfl
  | b :: s, h => by
    have h0 := h 0 (by simp)
    simp at h0
    rw [cutA, if_neg h0, cut_none (fun j hj => by have := h (j + 1) (by simpa using hj); simpa using this)]
    rfl
theorem words_cut (c : UInt8) : ∀ s, words c s = match cutA c s with | some (a, b) => a :: words c b | none => [s]
  | [] => rfl
  | b :: s => by
    by_cases h : b = c
    · rw [words, if_pos h, cutA, if_pos h]
    · rw [words, if_neg h, cutA, if_neg h, words_cut c s]
      cases cutA c s with
      | none => rfl
      | some x => rfl
theorem cut_len {c : UInt8} : ∀ {s a b : List UInt8}, cutA c s = some (a, b) → a.length + b.length + 1 = s.length
  | [], _, _, h => by simp [cutA] at h
  | x :: s, a, b, h => by
    unfold cutA at h
    split at h
    · simp only [Option.some.injEq, Prod.mk.injEq] at h; obtain ⟨rfl, rfl⟩ := h; simp
    · cases hc : cutA c s with
      | none => rw [hc] at h; cases h
      | some y =>
        rw [hc] at h
        simp only [Option.map_some, Option.some.injEq, Prod.mk.injEq] at h
        obtain ⟨rfl, rfl⟩ := h
        have := cut_len (s := s) (a := y.1) (b := y.2) hc
        simp; omega
theorem words_len (c : UInt8) : ∀ s : List UInt8, (words c s).length ≤ s.length + 1
  | [] => by simp [words]
  | b :: s => by
    have ih := words_len c s
    by_cases h : b = c
    · rw [words, if_pos h]; simp; omega
    · rw [words, if_neg h]
      cases hw : words c s with
      | nil => simp
      | cons w r => rw [hw] at ih; simp at ih ⊢; omega
end FrA

