/- Values, rows of values, and their texts. No condition. -/
import Derived.Lib.ItoaNum
import Derived.Lib.ItoaMem
import Derived.Lib.ItoaLen
set_option linter.all false
set_option linter.unusedSimpArgs false
set_option linter.unusedVariables false
set_option linter.deprecated false
/-! PvA -/
namespace FrA
open Go
abbrev Vl := Int × Int × List UInt8
def vOk (v : Vl) : Prop := (v.1 = 0 ∧ v.2.1 = 0 ∧ v.2.2 = []) ∨ (v.1 = 1 ∧ (-1000000000 ≤ v.2.1 ∧ v.2.1 ≤ 1000000000) ∧ v.2.2 = []) ∨ (v.1 = 2 ∧ v.2.1 = 0 ∧ v.2.2.length ≤ 12)
instance (v : Vl) : Decidable (vOk v) := by unfold vOk; infer_instance
def hexd (n : Nat) : UInt8 := if n < 10 then UInt8.ofNat (48 + n) else UInt8.ofNat (87 + n)
def plainB (b : UInt8) : Bool := decide (33 ≤ b.toNat ∧ b.toNat ≤ 126 ∧ b ≠ 39 ∧ b ≠ 37 ∧ b ≠ 44)
def enc (b : UInt8) : List UInt8 := if plainB b then [b] else [37, hexd (b.toNat / 16), hexd (b.toNat % 16)]
def nullT : List UInt8 := [110, 117, 108, 108]
def vText (v : Vl) : List UInt8 := if vOk v then (if v.1 = 0 then nullT else if v.1 = 1 then Lib.itoa v.2.1 else 39 :: (v.2.2.flatMap enc ++ [39])) else []
/-! ### numerals -/
theorem dec_chars (u : Nat) : ∀ c ∈ Lib.decDigits u, 48 ≤ c.toNat ∧ c.toNat ≤ 57 := by
  induction u using Nat.strongRecOn with
  | ind u ih =>
    intro c hc
    rw [Lib.decDigits] at hc
    have one : ∀ k, k < 10 → 48 ≤ (UInt8.ofNat (48 + k)).toNat ∧ (UInt8.ofNat (48 + k)).toNat ≤ 57 := fun k hk => by
      have : (UInt8.ofNat (48 + k)).toNat = 48 + k := by simp; omega
      omega
    split at hc
    · rename_i h; rw [List.mem_singleton] at hc; subst hc; exact one u h
    · rename_i h
      rw [List.mem_append] at hc
      rcases hc with hc | hc
      · exact ih (u / 10) (by omega) c hc
      · rw [List.mem_singleton] at hc; subst hc; exact one (u % 10) (by omega)
theorem dec_ne (u : Nat) : Lib.decDigits u ≠ [] := by
  rw [Lib.decDigits]; split <;> simp
/-- A numeral's value. -/
def dval (l : List UInt8) : Nat := l.foldl (fun a c => 10 * a + (c.toNat - 48)) 0
theorem dval_snoc (l : List UInt8) (c : UInt8) : dval (l ++ [c]) = 10 * dval l + (c.toNat - 48) := by simp [dval]
theorem dval_dec (u : Nat) : dval (Lib.decDigits u) = u := by
  induction u using Nat.strongRecOn with
  | ind u ih =>
    rw [Lib.decDigits]
    split
    · rename_i h
      have : (UInt8.ofNat (48 + u)).toNat = 48 + u := by simp; omega
      simp only [dval, List.foldl_cons, List.foldl_nil, this]; omega
    · rename_i h
      have : (UInt8.ofNat (48 + u % 10)).toNat = 48 + u % 10 := by simp; omega
      rw [dval_snoc, ih (u / 10) (by omega), this]; omega
theorem dec_inj {a b : Nat} (h : Lib.decDigits a = Lib.decDigits b) : a = b := by rw [← dval_dec a, ← dval_dec b, h]
theorem itoa_chars (n : Int) : ∀ c ∈ Lib.itoa n, c.toNat = 45 ∨ (48 ≤ c.toNat ∧ c.toNat ≤ 57) := by
  intro c hc
  unfold Lib.itoa at hc
  split at hc
  · rcases List.mem_cons.1 hc with rfl | hc
    · exact .inl rfl
    · exact .inr (dec_chars _ c hc)
  · exact .inr (dec_chars _ c hc)
theorem itoa_ne (n : Int) : Lib.itoa n ≠ [] := by
  unfold Lib.itoa; split
  · simp
  · exact dec_ne _
theorem itoa_inj {a b : Int} (h : Lib.itoa a = Lib.itoa b) : a = b := by
  have neg : ∀ {x y : Nat}, Lib.decDigits x = 45 :: Lib.decDigits y → False := fun {x y} h => by
    have := dec_chars x 45 (by rw [h]; simp)
    exact absurd this.1 (by decide)
  unfold Lib.itoa at h
  split at h <;> split at h
  · have := dec_inj (List.cons.inj h).2; omega
  · exact (neg h.symm).elim
  · exact (neg h).elim
  · have := dec_inj h; omega
/-! ### texts -/
theorem hexd_val {n : Nat} (h : n < 16) : (48 ≤ (hexd n).toNat ∧ (hexd n).toNat ≤ 57 ∧ n = (hexd n).toNat - 48) ∨ (97 ≤ (hexd n).toNat ∧ (hexd n).toNat ≤ 102 ∧ n = (hexd n).toNat - 87) := by
  unfold hexd
  split
  · have : (UInt8.ofNat (48 + n)).toNat = 48 + n := by simp; omega
    omega
  · have : (UInt8.ofNat (87 + n)).toNat = 87 + n := by simp; omega
    omega
theorem plain_ne {b : UInt8} (h : plainB b = true) : 33 ≤ b.toNat ∧ b.toNat ≤ 126 ∧ b ≠ 39 ∧ b ≠ 37 ∧ b ≠ 44 := by simpa [plainB] using h
theorem enc_ne (b : UInt8) : ∀ c ∈ enc b, c ≠ 44 ∧ c ≠ 39 := by
  intro c hc
  unfold enc at hc
  split at hc
  · rename_i h
    simp at hc; subst hc
    exact ⟨(plain_ne h).2.2.2.2, (plain_ne h).2.2.1⟩
  · have k : ∀ n, n < 16 → hexd n ≠ 44 ∧ hexd n ≠ 39 := fun n hn => by
      have := hexd_val hn
      constructor <;> (intro e; rw [e] at this; simp at this)
    have hb := b.toNat_lt
    simp at hc
    rcases hc with rfl | rfl | rfl
    · decide
    · exact k _ (by omega)
    · exact k _ (by omega)
theorem enc_len (b : UInt8) : 1 ≤ (enc b).length ∧ (enc b).length ≤ 3 := by unfold enc; split <;> simp
theorem encs_len : ∀ s : List UInt8, s.length ≤ (s.flatMap enc).length ∧ (s.flatMap enc).length ≤ 3 * s.length
  | [] => by simp
  | b :: s => by have := encs_len s; have := enc_len b; simp only [List.flatMap_cons, List.length_append, List.length_cons]; omega
theorem vText_ne {v : Vl} (h : vOk v) : vText v ≠ [] := by
  unfold vText; rw [if_pos h]
  split
  · decide
  · split
    · exact itoa_ne _
    · simp
theorem vText_comma (v : Vl) : ∀ c ∈ vText v, c ≠ 44 := by
  intro c hc
  unfold vText at hc
  split at hc
  · split at hc
    · intro e; subst e; revert hc; decide
    · split at hc
      · have := itoa_chars _ c hc
        intro e; subst e; revert this; decide
      · rcases List.mem_cons.1 hc with rfl | hc
        · decide
        · rcases List.mem_append.1 hc with hc | hc
          · obtain ⟨b, _, hb⟩ := List.mem_flatMap.1 hc
            exact (enc_ne b c hb).1
          · simp at hc; subst hc; decide
  · cases hc
theorem vText_len {v : Vl} (hv : v.2.1 ≤ 9223372036854775807 ∧ -9223372036854775808 ≤ v.2.1) : (vText v).length ≤ 38 := by
  unfold vText
  split
  · rename_i h
    split
    · decide
    · split
      · have := Lib.itoa_length_le v.2.1 hv.2 hv.1; omega
      · rename_i h0 h1
        have h2 : v.2.2.length ≤ 12 := by
          rcases h with h | h | h
          · exact absurd h.1 h0
          · exact absurd h.1 h1
          · exact h.2.2
        have := (encs_len v.2.2).2
        simp only [List.length_cons, List.length_append, List.length_nil]; omega
  · simp
/-! ### words -/
def words (c : UInt8) : List UInt8 → List (List UInt8)
  | [] => [[]]
  | b :: s => if b = c then [] :: words c s else match words c s with
    | w :: r => (b :: w) :: r
    | [] => [[b]]
theorem words_ne (c : UInt8) : ∀ s, words c s ≠ []
  | [] => by simp [words]
  | b :: s => by
    unfold words
    split
    · simp
    · cases words c s <;> simp
theorem words_one {c : UInt8} : ∀ {w : List UInt8}, (∀ b ∈ w, b ≠ c) → words c w = [w]
  | [], _ => rfl
  | b :: w, h => by
    unfold words
    rw [if_neg (h b (by simp)), words_one (fun x hx => h x (by simp [hx]))]
theorem words_app {c : UInt8} : ∀ {w : List UInt8} (s : List UInt8), (∀ b ∈ w, b ≠ c) → words c (w ++ c :: s) = w :: words c s
  | [], s, _ => by simp [words]
  | b :: w, s, h => by
    have := words_app s (fun x hx => h x (by simp [hx]) : ∀ x ∈ w, x ≠ c)
    simp only [List.cons_append, words]
    rw [if_neg (h b (by simp)), this]
/-! ### rows -/
def rRaw (l : List Vl) : List UInt8 := Lib.itoa (l.length : Int) ++ l.flatMap (fun v => 44 :: vText v)
def rOk (l : List Vl) : Prop := l.length ≤ 16 ∧ ∀ v ∈ l, vOk v
instance (l : List Vl) : Decidable (rOk l) := by unfold rOk; infer_instance
def rText (l : List Vl) : List UInt8 := if rOk l then rRaw l else []
theorem words_tail : ∀ (l : List Vl) (w : List UInt8), (∀ b ∈ w, b ≠ 44) → words 44 (w ++ l.flatMap (fun v => 44 :: vText v)) = w :: l.map vText
  | [], w, h => by simp [words_one h]
  | v :: l, w, h => by
    simp only [List.flatMap_cons, List.cons_append, List.map_cons]
    rw [words_app _ h, words_tail l _ (vText_comma v)]
theorem words_rRaw (l : List Vl) : words 44 (rRaw l) = Lib.itoa (l.length : Int) :: l.map vText :=
  words_tail l _ fun b hb e => by subst e; have := itoa_chars _ _ hb; revert this; decide
theorem rRaw_ne (l : List Vl) : rRaw l ≠ [] := by
  unfold rRaw; intro h; exact itoa_ne _ (List.append_eq_nil_iff.1 h).1
end FrA

