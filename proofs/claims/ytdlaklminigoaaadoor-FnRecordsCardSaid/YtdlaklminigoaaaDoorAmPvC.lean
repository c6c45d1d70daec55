/- What impl and spec read, is what is written. No condition. -/
import Derived.Test.YtdlaklminigoaaaDoorAmPvB
import Derived.Lib.AtoiAll
import Derived.Lib.ParseIntBTie
set_option linter.all false
set_option linter.unusedSimpArgs false
set_option linter.unusedVariables false
set_option linter.deprecated false
/-! PvC -/
namespace FrA
open Go
theorem fold_ge : ∀ (l : List UInt8) (a : Nat), a ≤ l.foldl (fun a c => 10 * a + (c.toNat - 48)) a
  | [], a => Nat.le_refl _
  | c :: l, a => Nat.le_trans (by simp only; omega) (fold_ge l _)
theorem pu_ok : ∀ (l : List UInt8) (a : Nat), (∀ c ∈ l, 48 ≤ c.toNat ∧ c.toNat ≤ 57) → l.foldl (fun a c => 10 * a + (c.toNat - 48)) a ≤ 10000000000 → Lib.parseUint10 a l = .ok (l.foldl (fun a c => 10 * a + (c.toNat - 48)) a)
  | [], a, _, _ => rfl
  | c :: l, a, hc, hl => by
    have h1 := hc c (by simp)
    have h2 := fold_ge l (10 * a + (c.toNat - 48))
    simp only [List.foldl_cons] at hl ⊢
    unfold Lib.parseUint10
    rw [if_pos h1, if_neg (by omega), if_neg (by omega), Nat.mul_comm a 10]
    exact pu_ok l _ (fun x hx => hc x (by simp [hx])) hl
theorem mag_dec {u : Nat} (h : u ≤ 1000000000) : Lib.parseMag (Lib.decDigits u) = .ok u := by
  unfold Lib.parseMag
  rw [if_neg (dec_ne u)]
  have := pu_ok (Lib.decDigits u) 0 (dec_chars u)
  have hd := dval_dec u
  unfold dval at hd
  rw [hd] at this
  exact this (by omega)
theorem atoi_itoa {k : Int} (h : -1000000000 ≤ k ∧ k ≤ 1000000000) : Lib.parseIntB 64 (Lib.itoa k) = .ok k := by
  rw [Lib.parseIntB_64]
  unfold Lib.itoa
  split
  · rename_i h0
    have hp := mag_dec (u := k.natAbs) (by omega)
    unfold Lib.atoiAll
    have e : (45 : UInt8).toNat = 45 := rfl
    simp only [e, or_true, if_true, hp]
    rw [if_neg (by simp), if_neg (by omega)]
    congr 1; omega
  · rename_i h0
    have hp := mag_dec (u := k.toNat) (by omega)
    have hc := dec_chars k.toNat
    cases hd : Lib.decDigits k.toNat with
    | nil => exact absurd hd (dec_ne _)
    | cons c r =>
      rw [hd] at hp hc
      have h1 := hc c (by simp)
      unfold Lib.atoiAll
      have e1 : ¬ (c.toNat = 43 ∨ c.toNat = 45) := by omega
      have e2 : ¬ c.toNat = 45 := by omega
      have e4 : ¬ c.toNat = 43 := by omega
      have e3 : ¬ (9223372036854775808 ≤ k.toNat) := by omega
      simp only [e4, e2, or_false, if_false, hp, not_false_eq_true, true_and, false_and, e3]
      congr 1; omega
/-- What impl takes a text for. -/
def candI (s : List UInt8) (n : Int) : Vl := if s = nullT then (0, 0, []) else if s.head? = some 39 then (2, 0, rtL (s.drop 1)) else (1, n, [])
def endI (s : List UInt8) (n : Int) : Option Vl := if s = [] ∨ vText (candI s n) ≠ s then none else some (candI s n)
theorem ok_of_text {v : Vl} {s : List UInt8} (h : vText v = s) (hs : s ≠ []) : vOk v := by
  unfold vText at h
  split at h
  · assumption
  · exact absurd h.symm hs
theorem itoa_head (n : Int) : (Lib.itoa n).head? ≠ some 39 := by
  cases h : Lib.itoa n with
  | nil => simp
  | cons c r =>
    have := itoa_chars n c (by rw [h]; simp)
    simp only [List.head?_cons, ne_eq, Option.some.injEq]
    intro e; subst e; revert this; decide
theorem itoa_null (n : Int) : Lib.itoa n ≠ nullT := fun h => by
  have := itoa_chars n 110 (by rw [h]; decide)
  revert this; decide
theorem endI_eq (s : List UInt8) (n : Int) (hn : ∀ k, (-1000000000 ≤ k ∧ k ≤ 1000000000) → s = Lib.itoa k → n = k) : endI s n = vRd s := by
  cases h : vRd s with
  | some v =>
    obtain ⟨hv, ht⟩ := vRd_some h
    have hc : candI s n = v := by
      subst ht
      obtain ⟨k, m, t⟩ := v
      have hv' := hv
      unfold vOk at hv
      unfold candI vText
      rw [if_pos hv']
      rcases hv with ⟨h0, h1, h2⟩ | ⟨h0, h1, h2⟩ | ⟨h0, h1, h2⟩ <;> simp only at h0 h1 h2 <;> subst h0
      · subst h1; subst h2; simp
      · subst h2
        have := hn m h1 (by unfold vText; rw [if_pos hv']; simp)
        subst this
        simp [itoa_null, itoa_head]
      · subst h1
        simp only [show ¬ ((2 : Int) = 0) by decide, show ¬ ((2 : Int) = 1) by decide, if_false]
        rw [if_neg (by simp [nullT]), if_pos (by simp)]
        simp [rtL_enc]
    unfold endI
    rw [hc, if_neg]
    rintro (h1 | h1)
    · exact vText_ne hv (ht.trans h1)
    · exact h1 ht
  | none =>
    unfold endI
    split
    · rfl
    · rename_i h1
      simp only [ne_eq, not_or, Decidable.not_not] at h1
      exact absurd h1.2 (vRd_none h _ (ok_of_text h1.2 h1.1))
/-- What spec does. -/
def endS (s : List UInt8) : Option Vl :=
  if s = nullT then some (0, 0, []) else if 1 < s.length ∧ s.head? = some 39 ∧ s.getLast? = some 39 then (if vText (2, 0, rsL (s.drop 1)) = s then some (2, 0, rsL (s.drop 1)) else none)
  else if (numS s).2 = true then (if vText (1, (numS s).1, []) = s then some (1, (numS s).1, []) else none) else none
theorem endS_eq (s : List UInt8) : endS s = vRd s := by
  cases h : vRd s with
  | some v =>
    obtain ⟨hv, ht⟩ := vRd_some h
    obtain ⟨k, m, t⟩ := v
    have hv' := hv
    unfold vOk at hv
    have hs := ht
    unfold vText at hs
    rw [if_pos hv'] at hs
    unfold endS
    rcases hv with ⟨h0, h1, h2⟩ | ⟨h0, h1, h2⟩ | ⟨h0, h1, h2⟩ <;> simp only at h0 h1 h2 hs <;> subst h0
    · subst h1; subst h2
      rw [if_pos (by rw [← hs]; simp)]
    · subst h2
      simp only [show ¬ ((1 : Int) = 0) by decide, if_false, if_true] at hs
      subst hs
      rw [if_neg (itoa_null m), if_neg (fun hh => itoa_head m hh.2.1), numS_itoa h1]
      simp only [if_true]
      rw [if_pos ht]
    · subst h1
      simp only [show ¬ ((2 : Int) = 0) by decide, show ¬ ((2 : Int) = 1) by decide, if_false] at hs
      have e : rsL (s.drop 1) = t := by rw [← hs]; simp [rsL_enc]
      rw [if_neg (by rw [← hs]; simp [nullT]), if_pos ⟨by rw [← hs]; simp, by rw [← hs]; rfl, by rw [← hs, ← List.cons_append, List.getLast?_append]; rfl⟩, e, if_pos ht]
  | none =>
    have no : ∀ v, vText v = s → s ≠ [] → False := fun v hv hs => vRd_none h v (ok_of_text hv hs) hv
    unfold endS
    split
    · rename_i h1; exact (no (0, 0, []) (by rw [h1]; decide) (by rw [h1]; decide)).elim
    · split
      · rename_i h1
        split
        · rename_i h2; exact (no _ h2 (by intro h3; rw [h3] at h1; simp at h1)).elim
        · rfl
      · split
        · rename_i h1
          split
          · rename_i h2
            exact (no _ h2 (by intro h3; rw [h3] at h1; revert h1; decide)).elim
          · rfl
        · rfl
end FrA

