/- Frames: what TakeFrames says, in plain Lean. No condition. -/
import Derived.Test.YtpiegccohgdkdaaAmFrC
set_option linter.all false
set_option linter.unusedSimpArgs false
set_option linter.unusedVariables false
set_option linter.deprecated false
open Go Go.AM
namespace FrA
def decI (s : List UInt8) : Nat → Nat
  | 0 => 0
  | i + 1 => 256 * decI s i + (s.getD i 0).toNat
/-- The first four bytes as a number. -/
def dec (s : List UInt8) : Nat := decI s 4
theorem dec_eq (s : List UInt8) : dec s = (((s.getD 0 0).toNat * 256 + (s.getD 1 0).toNat) * 256 + (s.getD 2 0).toNat) * 256 + (s.getD 3 0).toNat := by
  simp only [dec, decI]; omega
theorem byte_lt (b : UInt8) : b.toNat < 256 := UInt8.toNat_lt b
theorem decI_lt (s : List UInt8) : ∀ i, decI s i < 256 ^ i
  | 0 => by simp [decI]
  | i + 1 => by
    have h1 := decI_lt s i
    have h2 := byte_lt (s.getD i 0)
    rw [decI, Nat.pow_succ]
    omega
theorem dec_lt (s : List UInt8) : dec s < 4294967296 := decI_lt s 4
def dat (s : List UInt8) : List UInt8 := (s.drop 8).take (dec s)
def takeF (s : List UInt8) : Option (List UInt8) :=
  if s.length < 8 ∨ dec s > 100000 ∨ dec s > s.length - 8 then none else
  if sumB (crcV (dat s)) = (s.drop 4).take 4 then some (dat s) else none
theorem takeF_some {s d : List UInt8} (h : takeF s = some d) : 8 + d.length ≤ s.length ∧ d = dat s ∧ d.length = dec s ∧ dec s ≤ 100000 := by
  unfold takeF at h
  split at h
  · cases h
  · rename_i h1
    split at h
    · cases h
      have : (dat s).length = dec s := by simp [dat]; omega
      exact ⟨by omega, rfl, this, by omega⟩
    · cases h
def takes (s : List UInt8) : List (List UInt8) × Nat :=
  match h : takeF s with
  | none => ([], 0)
  | some d => (d :: (takes (s.drop (8 + d.length))).1, 8 + d.length + (takes (s.drop (8 + d.length))).2)
termination_by s.length
decreasing_by all_goals (have := (takeF_some h).1; simp only [List.length_drop]; omega)
theorem takes_none {s : List UInt8} (h : takeF s = none) : takes s = ([], 0) := by
  unfold takes; split
  · rfl
  · rename_i d hd; rw [h] at hd; cases hd
theorem takes_some {s d : List UInt8} (h : takeF s = some d) : takes s = (d :: (takes (s.drop (8 + d.length))).1, 8 + d.length + (takes (s.drop (8 + d.length))).2) := by
  conv => lhs; unfold takes
  split
  · rename_i hd; rw [h] at hd; cases hd
  · rename_i d' hd; rw [h] at hd; cases hd; rfl
theorem takes_len (s : List UInt8) : (takes s).1.length ≤ s.length ∧ (takes s).2 ≤ s.length := by
  cases h : takeF s with
  | none => rw [takes_none h]; simp
  | some d =>
    have h1 := (takeF_some h).1
    have ih := takes_len (s.drop (8 + d.length))
    rw [takes_some h]
    simp only [List.length_drop, List.length_cons] at ih ⊢
    omega
termination_by s.length
decreasing_by (simp only [List.length_drop]; omega)
/-- So far: 'acc' was taken, up to 'at'. -/
def Took (s : List UInt8) (acc : List (List UInt8)) (i : Nat) : Prop := i ≤ s.length ∧ takes s = (acc ++ (takes (s.drop i)).1, i + (takes (s.drop i)).2)
theorem took0 (s : List UInt8) : Took s [] 0 := ⟨by omega, by simp⟩
theorem took_some {s d : List UInt8} {acc : List (List UInt8)} {i : Nat} (h : Took s acc i) (hd : takeF (s.drop i) = some d) : Took s (acc ++ [d]) (i + 8 + d.length) := by
  have h1 := (takeF_some hd).1
  simp only [List.length_drop] at h1
  refine ⟨by have := h.1; omega, ?_⟩
  rw [h.2, takes_some hd]
  rw [List.drop_drop, show i + (8 + d.length) = i + 8 + d.length by omega]
  simp only [List.append_assoc, List.singleton_append, Prod.mk.injEq, true_and]
  omega
theorem took_none {s : List UInt8} {acc : List (List UInt8)} {i : Nat} (h : Took s acc i) (hd : takeF (s.drop i) = none) : takes s = (acc, i) := by
  rw [h.2, takes_none hd]; simp
theorem acc_len {s : List UInt8} {acc : List (List UInt8)} {i : Nat} (h : Took s acc i) : acc.length ≤ s.length := by
  have h1 := (takes_len s).1
  rw [h.2] at h1
  simp only [List.length_append] at h1
  omega

/-! the first four bytes, two ways -/
theorem or_add (a k b : Nat) (hb : b < 2 ^ k) (h : a * 2 ^ k + b < 9223372036854775808) : bits2 .or .i64 ((a * 2 ^ k : Nat) : Int) (b : Int) = ((a * 2 ^ k + b : Nat) : Int) := by
  have e : bits2 .or .i64 ((a * 2 ^ k : Nat) : Int) (b : Int) = IntKind.i64.wrap ((BitVec.ofInt 64 ((a * 2 ^ k : Nat) : Int) ||| BitVec.ofInt 64 (b : Int)).toNat : Int) := rfl
  have t : ∀ n : Nat, n < 9223372036854775808 → (BitVec.ofInt 64 (n : Int)).toNat = n := fun n hn => by
    simp only [BitVec.ofInt_natCast, BitVec.toNat_ofNat]; omega
  rw [e, BitVec.toNat_or, t _ (by omega), t _ (by omega)]
  have e2 : a * 2 ^ k ||| b = a * 2 ^ k + b := by
    have := Nat.shiftLeft_add_eq_or_of_lt hb a
    rw [Nat.shiftLeft_eq] at this
    exact this.symm
  rw [e2]
  exact IntWalk.i64_in _ ⟨by omega, by omega⟩
theorem wr {n : Int} (h1 : 0 ≤ n) (h2 : n ≤ 9000000000000000000) : IntKind.i64.wrap n = n := IntWalk.i64_in _ ⟨by omega, by omega⟩
def shl (a : Int) (k : Int) : Int := IntKind.i64.wrap (a * 2 ^ (min k.toNat IntKind.i64.bits))
theorem shl_eq (a k : Nat) (hk : k ≤ 24) (ha : a < 256) : shl (IntKind.i64.wrap (a : Int)) (k : Int) = ((a * 2 ^ k : Nat) : Int) := by
  unfold shl
  rw [wr (n := (a : Int)) (by omega) (by omega)]
  have e : min (Int.toNat (k : Int)) IntKind.i64.bits = k := by
    show min (Int.toNat (k : Int)) 64 = k
    omega
  have h2 : a * 2 ^ k ≤ 256 * 2 ^ 24 := Nat.mul_le_mul (by omega) (Nat.pow_le_pow_right (by omega) hk)
  rw [e]
  have e2 : (a : Int) * 2 ^ k = ((a * 2 ^ k : Nat) : Int) := by push_cast; rfl
  rw [e2]
  exact wr (by omega) (by omega)
theorem dec_or (a b c d : UInt8) : bits2 .or .i64 (bits2 .or .i64 (bits2 .or .i64 (shl (IntKind.i64.wrap (a.toNat : Int)) 24) (shl (IntKind.i64.wrap (b.toNat : Int)) 16)) (shl (IntKind.i64.wrap (c.toNat : Int)) 8)) (IntKind.i64.wrap (d.toNat : Int)) =
    (((a.toNat * 256 + b.toNat) * 256 + c.toNat) * 256 + d.toNat : Nat) := by
  have ha := byte_lt a; have hb := byte_lt b; have hc := byte_lt c; have hd := byte_lt d
  have e1 := shl_eq a.toNat 24 (by omega) ha
  have e2 := shl_eq b.toNat 16 (by omega) hb
  have e3 := shl_eq c.toNat 8 (by omega) hc
  rw [show ((24 : Nat) : Int) = 24 from rfl] at e1
  rw [show ((16 : Nat) : Int) = 16 from rfl] at e2
  rw [show ((8 : Nat) : Int) = 8 from rfl] at e3
  rw [e1, e2, e3, wr (n := (d.toNat : Int)) (by omega) (by omega)]
  rw [or_add a.toNat 24 (b.toNat * 2 ^ 16) (by omega) (by omega)]
  rw [show a.toNat * 2 ^ 24 + b.toNat * 2 ^ 16 = (a.toNat * 256 + b.toNat) * 2 ^ 16 by omega]
  rw [or_add (a.toNat * 256 + b.toNat) 16 (c.toNat * 2 ^ 8) (by omega) (by omega)]
  rw [show (a.toNat * 256 + b.toNat) * 2 ^ 16 + c.toNat * 2 ^ 8 = ((a.toNat * 256 + b.toNat) * 256 + c.toNat) * 2 ^ 8 by omega]
  rw [or_add ((a.toNat * 256 + b.toNat) * 256 + c.toNat) 8 d.toNat (by omega) (by omega)]
/-- Does a text begin with another one? -/
def pre (s p : List UInt8) : Bool := if p.length ≤ s.length then s.take p.length == p else false
theorem by8_eq (b : UInt8) (n : Int) (h : n = (b.toNat : Int)) : by8 n = b := by
  subst h; simp [by8]
theorem shn_eq (n k q : Nat) (hk : k ≤ 24) (hq : n / 2 ^ k % 256 = q) : shn (n : Int) (k : Int) = (q : Int) := by
  have e : min (Int.toNat (k : Int)) IntKind.i64.bits = k := by
    show min (Int.toNat (k : Int)) 64 = k
    omega
  unfold shn
  rw [e, Int.fdiv_eq_ediv_of_nonneg _ (by exact Int.le_of_lt (Int.pow_pos (by decide)))]
  have e2 : ((n : Int) / 2 ^ k) = ((n / 2 ^ k : Nat) : Int) := by push_cast; rfl
  rw [e2]
  have e3 : ∀ m : Int, IntKind.u8.wrap m = m % 256 := fun m => by simp [IntKind.wrap, IntKind.signed, IntKind.bits]
  rw [e3]; omega
theorem lenB_dec {s : List UInt8} (h : 4 ≤ s.length) : lenB (dec s : Nat) = s.take 4 := by
  match s, h with
  | a :: b :: c :: d :: r, _ =>
    have ha := byte_lt a; have hb := byte_lt b; have hc := byte_lt c; have hd := byte_lt d
    have e : dec (a :: b :: c :: d :: r) = ((a.toNat * 256 + b.toNat) * 256 + c.toNat) * 256 + d.toNat := by rw [dec_eq]; rfl
    rw [e]
    simp only [lenB, List.take_succ_cons, List.take_zero]
    have e3 : ∀ m : Int, IntKind.u8.wrap m = m % 256 := fun m => by simp [IntKind.wrap, IntKind.signed, IntKind.bits]
    have q1 := by8_eq a _ (shn_eq (((a.toNat * 256 + b.toNat) * 256 + c.toNat) * 256 + d.toNat) 24 a.toNat (by omega) (by omega))
    have q2 := by8_eq b _ (shn_eq (((a.toNat * 256 + b.toNat) * 256 + c.toNat) * 256 + d.toNat) 16 b.toNat (by omega) (by omega))
    have q3 := by8_eq c _ (shn_eq (((a.toNat * 256 + b.toNat) * 256 + c.toNat) * 256 + d.toNat) 8 c.toNat (by omega) (by omega))
    have q4 := by8_eq d (IntKind.u8.wrap ((((a.toNat * 256 + b.toNat) * 256 + c.toNat) * 256 + d.toNat : Nat) : Int)) (by rw [e3]; omega)
    rw [show (24 : Int) = ((24 : Nat) : Int) from rfl, show (16 : Int) = ((16 : Nat) : Int) from rfl, show (8 : Int) = ((8 : Nat) : Int) from rfl, q1, q2, q3, q4]
theorem pre_frame {s : List UInt8} (h1 : 8 ≤ s.length) (h2 : dec s ≤ 100000) (h3 : dec s ≤ s.length - 8) : pre s (frame (crcV (dat s)) (dat s)) = (sumB (crcV (dat s)) == (s.drop 4).take 4) := by
  have hl : (dat s).length = dec s := by simp [dat]; omega
  unfold frame
  rw [if_pos (by omega), hl, lenB_dec (by omega)]
  have hs : (sumB (crcV (dat s))).length = 4 := rfl
  unfold pre
  have hlen : (s.take 4 ++ sumB (crcV (dat s)) ++ dat s).length = 8 + dec s := by simp [hs, hl]; omega
  rw [hlen, if_pos (by omega)]
  have e : s.take (8 + dec s) = s.take 4 ++ (s.drop 4).take 4 ++ dat s := by
    have e1 : s.take (8 + dec s) = s.take 8 ++ (s.drop 8).take (dec s) := List.take_add
    have e2 : s.take 8 = s.take 4 ++ (s.drop 4).take 4 := by rw [show (8 : Nat) = 4 + 4 from rfl, List.take_add]
    rw [e1, e2]; rfl
  rw [e]
  have l1 : ((s.drop 4).take 4).length = 4 := by simp; omega
  rw [Bool.eq_iff_iff, beq_iff_eq, beq_iff_eq]
  constructor
  · intro h
    rw [List.append_assoc, List.append_assoc] at h
    have h5 := List.append_cancel_left h
    exact ((List.append_inj h5 (by rw [l1, hs])).1).symm
  · intro h; rw [h]
/-- What takeFrame answers. -/
def tf (s : List UInt8) : List UInt8 × Bool := if s.length < 8 ∨ dec s > 100000 ∨ dec s > s.length - 8 then ([], false) else (dat s, pre s (frame (crcV (dat s)) (dat s)))
theorem tf_some {s d : List UInt8} (h : takeF s = some d) : tf s = (d, true) := by
  obtain ⟨h1, h2, h3, h4⟩ := takeF_some h
  unfold takeF at h
  unfold tf
  split at h
  · cases h
  · rename_i hn
    rw [if_neg hn, pre_frame (by omega) (by omega) (by omega)]
    split at h
    · rename_i he; cases h; rw [he]; simp
    · cases h
theorem tf_none {s : List UInt8} (h : takeF s = none) : (tf s).2 = false := by
  unfold takeF at h
  unfold tf
  split at h
  · rename_i hn; rw [if_pos hn]
  · rename_i hn
    rw [if_neg hn, pre_frame (by omega) (by omega) (by omega)]
    split at h
    · cases h
    · rename_i he; simpa using he
/-! the marks -/
def mtail (k : Nat) (out : List UInt8) : List UInt8 := if h : k = 0 then out else mtail (k / 10) (UInt8.ofNat (48 + k % 10) :: out)
termination_by k
decreasing_by exact Nat.div_lt_self (by omega) (by omega)
theorem mtail_zero (out : List UInt8) : mtail 0 out = out := by unfold mtail; simp
theorem mtail_pos {k : Nat} (h : k ≠ 0) (out : List UInt8) : mtail k out = mtail (k / 10) (UInt8.ofNat (48 + k % 10) :: out) := by
  conv => lhs; unfold mtail
  rw [dif_neg h]
def mark (k : Nat) : List UInt8 := 109 :: mtail k []
theorem mtail_len : ∀ (k : Nat) (out : List UInt8), (mtail k out).length ≤ k + out.length
  | 0, out => by rw [mtail_zero]; omega
  | k + 1, out => by
    rw [mtail_pos (by omega)]
    have := mtail_len ((k + 1) / 10) (UInt8.ofNat (48 + (k + 1) % 10) :: out)
    simp only [List.length_cons] at this
    omega
termination_by k => k
decreasing_by omega
def marks (k n : Nat) : List (List UInt8) := (List.range n).map fun i => mark (k + i)
end FrA
