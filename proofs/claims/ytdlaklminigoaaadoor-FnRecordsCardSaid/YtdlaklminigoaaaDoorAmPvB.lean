/- Texts of values, read. No condition. -/
import Derived.Test.YtdlaklminigoaaaDoorAmPvA
import Derived.Lib.Bytealg
set_option linter.all false
set_option linter.unusedSimpArgs false
set_option linter.unusedVariables false
set_option linter.deprecated false
/-! PvB -/
namespace FrA
open Go
def hexs : List UInt8 := [48, 49, 50, 51, 52, 53, 54, 55, 56, 57, 97, 98, 99, 100, 101, 102]
def hx (d : UInt8) : Nat := (max 0 (Lib.indexByte hexs d)).toNat
def dg (d : UInt8) : Nat := if 48 ≤ d.toNat ∧ d.toNat ≤ 57 then d.toNat - 48 else if 97 ≤ d.toNat ∧ d.toNat ≤ 102 then d.toNat - 87 else 16
theorem hx_hexd : ∀ n, n < 16 → hx (hexd n) = n := by decide
theorem dg_hexd : ∀ n, n < 16 → dg (hexd n) = n := by decide
/-- As impl reads what stands between quotation marks. -/
def rtL : List UInt8 → List UInt8
  | c :: d :: e :: r => if c = 37 then UInt8.ofNat (hx d * 16 + hx e) :: rtL r else c :: rtL (d :: e :: r)
  | [c, _] => [c]
  | _ => []
/-- As spec does. -/
def rsL : List UInt8 → List UInt8
  | c :: d :: e :: f :: r => if c = 37 ∧ dg d < 16 ∧ dg e < 16 then UInt8.ofNat (16 * dg d + dg e) :: rsL (f :: r) else c :: rsL (d :: e :: f :: r)
  | [c, d, _] => [c, d]
  | [c, _] => [c]
  | _ => []
theorem enc_cases (b : UInt8) : (enc b = [b] ∧ b ≠ 37) ∨ (∃ n m, n < 16 ∧ m < 16 ∧ n * 16 + m = b.toNat ∧ enc b = [37, hexd n, hexd m]) := by
  unfold enc
  split
  · rename_i h; exact .inl ⟨rfl, (plain_ne h).2.2.2.1⟩
  · have := b.toNat_lt
    exact .inr ⟨b.toNat / 16, b.toNat % 16, by omega, by omega, by omega, rfl⟩
theorem rest_ne (s : List UInt8) : ∃ x y, s.flatMap enc ++ [39] = x :: y := by
  cases h : s.flatMap enc ++ [39] with
  | nil => simp at h
  | cons x y => exact ⟨x, y, rfl⟩
theorem rtL_enc : ∀ s : List UInt8, rtL (s.flatMap enc ++ [39]) = s
  | [] => rfl
  | b :: s => by
    have ih := rtL_enc s
    obtain ⟨x, y, hxy⟩ := rest_ne s
    simp only [List.flatMap_cons, List.append_assoc]
    rcases enc_cases b with ⟨h, hb⟩ | ⟨n, m, hn, hm, hs, h⟩
    · rw [h, List.singleton_append]
      rw [hxy] at ih ⊢
      cases y with
      | nil =>
        have : s = [] := by rw [← ih]; rfl
        subst this; rfl
      | cons y z => simp only [rtL]; rw [if_neg hb, ih]
    · rw [h]
      simp only [List.cons_append, List.nil_append, rtL, if_true]
      rw [hx_hexd n hn, hx_hexd m hm, hs, ih]; simp
theorem rsL_enc : ∀ s : List UInt8, rsL (s.flatMap enc ++ [39]) = s
  | [] => rfl
  | b :: s => by
    have ih := rsL_enc s
    obtain ⟨x, y, hxy⟩ := rest_ne s
    simp only [List.flatMap_cons, List.append_assoc]
    rcases enc_cases b with ⟨h, hb⟩ | ⟨n, m, hn, hm, hs, h⟩
    · rw [h, List.singleton_append]
      rw [hxy] at ih ⊢
      match y, ih with
      | [], ih => have : s = [] := by rw [← ih]; rfl
                  subst this; rfl
      | [z], ih => simp only [rsL] at ih ⊢; rw [← ih]
      | z :: z2 :: z3, ih => simp only [rsL]; rw [if_neg (fun h => hb h.1), ih]
    · rw [h]
      rw [hxy] at ih ⊢
      simp only [List.cons_append, List.nil_append, rsL]
      rw [dg_hexd n hn, dg_hexd m hm, if_pos ⟨trivial, hn, hm⟩, ih, show 16 * n + m = b.toNat by omega]; simp
theorem vText_inj {v v' : Vl} (h : vOk v) (h' : vOk v') (e : vText v = vText v') : v = v' := by
  have dig : ∀ n : Int, ∀ (c : UInt8) (r : List UInt8), Lib.itoa n = c :: r → c ≠ 110 ∧ c ≠ 39 := fun n c r hc => by
    have := itoa_chars n c (by rw [hc]; simp)
    constructor <;> (intro e; subst e; revert this; decide)
  obtain ⟨k, n, s⟩ := v
  obtain ⟨k', n', s'⟩ := v'
  unfold vText at e
  rw [if_pos h, if_pos h'] at e
  unfold vOk at h h'
  simp only at h h' e
  rcases h with ⟨rfl, rfl, rfl⟩ | ⟨rfl, _, rfl⟩ | ⟨rfl, rfl, _⟩ <;> rcases h' with ⟨rfl, rfl, rfl⟩ | ⟨rfl, _, rfl⟩ | ⟨rfl, rfl, _⟩ <;> simp at e
  · rfl
  · exact ((dig n' _ _ e.symm).1 rfl).elim
  · simp [nullT] at e
  · exact ((dig n _ _ e).1 rfl).elim
  · rw [itoa_inj e]
  · exact ((dig n _ _ e).2 rfl).elim
  · simp [nullT] at e
  · exact ((dig n' _ _ e.symm).2 rfl).elim
  · have := congrArg (fun l => rtL (l ++ [39])) e
    simp only [rtL_enc] at this
    rw [this]
open Classical in
/-- The value whose text it is. -/
noncomputable def vRd (s : List UInt8) : Option Vl := if h : ∃ v, vOk v ∧ vText v = s then some h.choose else none
theorem vRd_some {s : List UInt8} {v : Vl} (h : vRd s = some v) : vOk v ∧ vText v = s := by
  unfold vRd at h
  split at h
  · rename_i hh; cases h; exact hh.choose_spec
  · cases h
theorem vRd_text {v : Vl} (h : vOk v) : vRd (vText v) = some v := by
  have hh : ∃ v', vOk v' ∧ vText v' = vText v := ⟨v, h, rfl⟩
  unfold vRd
  rw [dif_pos hh]
  exact congrArg some (vText_inj hh.choose_spec.1 h hh.choose_spec.2)
theorem vRd_none {s : List UInt8} (h : vRd s = none) : ∀ v, vOk v → vText v ≠ s := by
  rintro v hv rfl
  rw [vRd_text hv] at h; cases h
open Classical in
/-- The row whose text it is. -/
noncomputable def rRd (s : List UInt8) : Option (List Vl) := if h : ∃ l, rOk l ∧ rRaw l = s then some h.choose else none
theorem rRaw_inj {l l' : List Vl} (h : rOk l) (h' : rOk l') (e : rRaw l = rRaw l') : l = l' := by
  have := congrArg (words 44) e
  rw [words_rRaw, words_rRaw] at this
  have e2 := (List.cons.inj this).2
  have key : ∀ (a b : List Vl), (∀ v ∈ a, vOk v) → (∀ v ∈ b, vOk v) → a.map vText = b.map vText → a = b := by
    intro a
    induction a with
    | nil => intro b _ _ e; cases b <;> simp at e ⊢
    | cons v a ih =>
      intro b ha hb e
      cases b with
      | nil => simp at e
      | cons w b =>
        simp only [List.map_cons, List.cons.injEq] at e
        rw [vText_inj (ha v (by simp)) (hb w (by simp)) e.1, ih b (fun x hx => ha x (by simp [hx])) (fun x hx => hb x (by simp [hx])) e.2]
  exact key l l' h.2 h'.2 e2
theorem rRd_some {s : List UInt8} {l : List Vl} (h : rRd s = some l) : rOk l ∧ rRaw l = s := by
  unfold rRd at h
  split at h
  · rename_i hh; cases h; exact hh.choose_spec
  · cases h
theorem rRd_raw {l : List Vl} (h : rOk l) : rRd (rRaw l) = some l := by
  have hh : ∃ v', rOk v' ∧ rRaw v' = rRaw l := ⟨l, h, rfl⟩
  unfold rRd
  rw [dif_pos hh]
  exact congrArg some (rRaw_inj hh.choose_spec.1 h hh.choose_spec.2)
theorem rRd_none {s : List UInt8} (h : ∀ l, rOk l → rRaw l ≠ s) : rRd s = none := by
  unfold rRd; rw [dif_neg]; rintro ⟨l, h1, h2⟩; exact h l h1 h2
/-! ### numerals, read -/
theorem dec_len : ∀ (k u : Nat), 1 ≤ k → u < 10 ^ k → (Lib.decDigits u).length ≤ k
  | k + 1, u, _, h => by
    rw [Lib.decDigits]
    split
    · simp
    · rename_i h1
      cases k with
      | zero => simp at h; omega
      | succ k =>
        have := dec_len (k + 1) (u / 10) (by omega) (by rw [Nat.pow_succ] at h; omega)
        simp; omega
theorem dec_head (u : Nat) : 1 ≤ u → (Lib.decDigits u).head? ≠ some 48 := by
  induction u using Nat.strongRecOn with
  | ind u ih =>
    intro h
    rw [Lib.decDigits]
    split
    · rename_i h1
      have : (UInt8.ofNat (48 + u)).toNat = 48 + u := by simp; omega
      intro e
      simp only [List.head?_cons, Option.some.injEq] at e
      rw [e] at this; simp at this; omega
    · rename_i h1
      have := ih (u / 10) (by omega) (by omega)
      cases hd : Lib.decDigits (u / 10) with
      | nil => exact absurd hd (dec_ne _)
      | cons c r => rw [hd] at this; simpa using this
def digits (s : List UInt8) : Bool := s.all fun c => decide (48 ≤ c.toNat ∧ c.toNat ≤ 57)
def numP (s : List UInt8) : Int × Bool := if s.length < 1 ∨ 10 < s.length ∨ (s.head? = some 48 ∧ 1 < s.length) then (0, false) else if digits s then ((dval s : Nat), true) else (0, false)
def numS : List UInt8 → Int × Bool
  | 45 :: c :: r => if c ≠ 48 ∧ c ≠ 45 then (-(numP (c :: r)).1, (numP (c :: r)).2) else numP (45 :: c :: r)
  | s => numP s
theorem numP_dec {u : Nat} (h : u ≤ 1000000000) : numP (Lib.decDigits u) = ((u : Int), true) := by
  have hl := dec_len 10 u (by omega) (by omega)
  have hd : digits (Lib.decDigits u) = true := by
    unfold digits; rw [List.all_eq_true]; intro c hc; simpa using dec_chars u c hc
  have h1 : 1 ≤ (Lib.decDigits u).length := by have := dec_ne u; cases hh : Lib.decDigits u <;> simp_all
  unfold numP
  rw [if_neg, if_pos hd, dval_dec]
  rintro (h2 | h2 | ⟨h2, h3⟩)
  · omega
  · omega
  · rcases Nat.eq_zero_or_pos u with h0 | h0
    · subst h0; rw [Lib.decDigits] at h3; simp at h3
    · exact dec_head u h0 h2
theorem numS_itoa {k : Int} (h : -1000000000 ≤ k ∧ k ≤ 1000000000) : numS (Lib.itoa k) = (k, true) := by
  unfold Lib.itoa
  split
  · rename_i h0
    have hh := dec_head k.natAbs (by omega)
    have hc := dec_chars k.natAbs
    have hp := numP_dec (u := k.natAbs) (by omega)
    cases hd : Lib.decDigits k.natAbs with
    | nil => exact absurd hd (dec_ne _)
    | cons c r =>
      rw [hd] at hh hc hp
      simp only [numS]
      rw [if_pos ⟨fun e => hh (by rw [e]; rfl), fun e => by have := hc c (by simp); rw [e] at this; revert this; decide⟩, hp]
      congr 1; simp only; omega
  · rename_i h0
    have hp := numP_dec (u := k.toNat) (by omega)
    have hc := dec_chars k.toNat
    cases hd : Lib.decDigits k.toNat with
    | nil => exact absurd hd (dec_ne _)
    | cons c r =>
      rw [hd] at hc hp
      have hne : c ≠ 45 := fun e => by have := hc c (by simp); rw [e] at this; revert this; decide
      have : numS (c :: r) = numP (c :: r) := by
        unfold numS
        split
        · rename_i h1; exact absurd (List.cons.inj h1).1 hne
        · rfl
      rw [this, hp]
      congr 1; omega
end FrA

