/- Frames of many, in plain Lean. No condition. -/
import Derived.Test.YtpiegccohgdkdaaAmTkA
set_option linter.all false
set_option linter.unusedSimpArgs false
set_option linter.unusedVariables false
set_option linter.deprecated false
open Go Go.AM
namespace FrA
def fr (d : List UInt8) : List UInt8 := frame (crcV d) d
theorem fr_len {d : List UInt8} (h : d.length ≤ 100000) : (fr d).length = 8 + d.length := by
  have h1 : ∀ n, (lenB n).length = 4 := fun _ => rfl
  have h2 : ∀ n, (sumB n).length = 4 := fun _ => rfl
  simp only [fr, frame, if_pos h, List.length_append, h1, h2]
theorem fr_eq {d : List UInt8} (h : d.length ≤ 100000) : fr d = lenB (d.length : Nat) ++ sumB (crcV d) ++ d := by simp only [fr, frame, if_pos h]
theorem by8_nat (n : Nat) (h : n < 256) : (by8 (n : Int)).toNat = n := by
  simp only [by8, Int.toNat_natCast, UInt8.toNat_ofNat']; omega
theorem u8w (m : Int) : IntKind.u8.wrap m = m % 256 := by simp [IntKind.wrap, IntKind.signed, IntKind.bits]
theorem shn_nat (n k : Nat) (hk : k ≤ 24) : shn (n : Int) (k : Int) = ((n / 2 ^ k % 256 : Nat) : Int) := shn_eq n k _ hk rfl
theorem dec_lenB (n : Nat) (hn : n < 4294967296) (r : List UInt8) : dec (lenB (n : Nat) ++ r) = n := by
  rw [dec_eq]
  have e1 : ((by8 (shn (n : Int) 24))).toNat = n / 2 ^ 24 % 256 := by
    rw [show (24 : Int) = ((24 : Nat) : Int) from rfl, shn_nat n 24 (by omega)]; exact by8_nat _ (by omega)
  have e2 : ((by8 (shn (n : Int) 16))).toNat = n / 2 ^ 16 % 256 := by
    rw [show (16 : Int) = ((16 : Nat) : Int) from rfl, shn_nat n 16 (by omega)]; exact by8_nat _ (by omega)
  have e3 : ((by8 (shn (n : Int) 8))).toNat = n / 2 ^ 8 % 256 := by
    rw [show (8 : Int) = ((8 : Nat) : Int) from rfl, shn_nat n 8 (by omega)]; exact by8_nat _ (by omega)
  have e4 : ((by8 (IntKind.u8.wrap (n : Int)))).toNat = n % 256 := by
    rw [u8w, show (n : Int) % 256 = ((n % 256 : Nat) : Int) by omega]; exact by8_nat _ (by omega)
  simp only [lenB, List.cons_append, List.getD_cons_zero, List.getD_cons_succ, e1, e2, e3, e4]
  omega
theorem takeF_fr {d : List UInt8} (h : d.length ≤ 100000) (r : List UInt8) : takeF (fr d ++ r) = some d := by
  have h1 : ∀ n, (lenB n).length = 4 := fun _ => rfl
  have h2 : ∀ n, (sumB n).length = 4 := fun _ => rfl
  have e : fr d ++ r = lenB (d.length : Nat) ++ (sumB (crcV d) ++ (d ++ r)) := by rw [fr_eq h]; simp only [List.append_assoc]
  have hd : dec (fr d ++ r) = d.length := by rw [e]; exact dec_lenB _ (by omega) _
  have hl : (fr d ++ r).length = 8 + d.length + r.length := by rw [List.length_append, fr_len h]
  have hdat : dat (fr d ++ r) = d := by
    unfold dat
    rw [hd, e]
    rw [show (8 : Nat) = (lenB (d.length : Nat)).length + (sumB (crcV d)).length from rfl, ← List.drop_drop, List.drop_left, List.drop_left, List.take_left]
  unfold takeF
  rw [if_neg (by rw [hd, hl]; omega), hdat]
  have e4 : ((fr d ++ r).drop 4).take 4 = sumB (crcV d) := by
    rw [e, show (4 : Nat) = (lenB (d.length : Nat)).length from rfl, List.drop_left]
    rw [show (lenB (d.length : Nat)).length = (sumB (crcV d)).length from rfl, List.take_left]
  rw [e4, if_pos rfl]
theorem takes_fr {d : List UInt8} (h : d.length ≤ 100000) (r : List UInt8) : takes (fr d ++ r) = (d :: (takes r).1, 8 + d.length + (takes r).2) := by
  rw [takes_some (takeF_fr h r)]
  have : (fr d ++ r).drop (8 + d.length) = r := by rw [← fr_len h, List.drop_left]
  rw [this]
theorem takes_nil : takes [] = ([], 0) := takes_none (by unfold takeF; rw [if_pos (by simp)])
def frs (l : List (List UInt8)) : List UInt8 := l.flatMap fr
theorem frs_nil : frs [] = [] := rfl
theorem frs_cons (d : List UInt8) (l : List (List UInt8)) : frs (d :: l) = fr d ++ frs l := rfl
theorem frs_app (l m : List (List UInt8)) : frs (l ++ m) = frs l ++ frs m := by simp [frs]
theorem takes_frs : ∀ (l : List (List UInt8)) (r : List UInt8), (∀ d ∈ l, d.length ≤ 100000) → takes (frs l ++ r) = (l ++ (takes r).1, (frs l).length + (takes r).2)
  | [], r, _ => by simp [frs_nil]
  | d :: l, r, h => by
    have hd := h d List.mem_cons_self
    rw [frs_cons, List.append_assoc, takes_fr hd, takes_frs l r (fun x hx => h x (List.mem_cons_of_mem _ hx))]
    simp only [List.cons_append, List.length_append, fr_len hd, Prod.mk.injEq, true_and]
    omega
/-- What was taken, framed again, is what it was taken from. -/
theorem frs_takes (s : List UInt8) : frs (takes s).1 = s.take (takes s).2 ∧ ∀ d ∈ (takes s).1, d.length ≤ 100000 := by
  cases h : takeF s with
  | none => rw [takes_none h]; simp [frs_nil]
  | some d =>
    obtain ⟨h1, h2, h3, h4⟩ := takeF_some h
    obtain ⟨i1, i2⟩ := frs_takes (s.drop (8 + d.length))
    rw [takes_some h]
    refine ⟨?_, fun x hx => ?_⟩
    · rw [frs_cons, i1, List.take_add]
      congr 1
      have hd2 : d.length ≤ 100000 := by omega
      have hp := pre_frame (s := s) (by omega) h4 (by omega)
      have hs : sumB (crcV (dat s)) = (s.drop 4).take 4 := by
        unfold takeF at h
        split at h
        · cases h
        · split at h
          · assumption
          · cases h
      rw [hs, beq_self_eq_true] at hp
      rw [← h2] at hp
      unfold pre at hp
      have hl := fr_len hd2
      unfold fr at hl
      rw [hl, if_pos h1] at hp
      exact (by simpa using hp : s.take (8 + d.length) = frame (crcV d) d).symm
    · rcases List.mem_cons.1 hx with rfl | hx
      · omega
      · exact i2 x hx
termination_by s.length
decreasing_by (simp only [List.length_drop]; omega)
/-- Frames that are cut: the first few come back. -/
theorem takes_cut : ∀ (l : List (List UInt8)) (k : Nat), (∀ d ∈ l, d.length ≤ 100000) → ∃ m, m ≤ l.length ∧ (takes ((frs l).take k)).1 = l.take m
  | [], k, _ => ⟨0, by simp, by simp [frs_nil, takes_nil]⟩
  | d :: l, k, h => by
    have hd := h d List.mem_cons_self
    have hl := fr_len hd
    by_cases hk : 8 + d.length ≤ k
    · obtain ⟨m, h1, h2⟩ := takes_cut l (k - (8 + d.length)) (fun x hx => h x (List.mem_cons_of_mem _ hx))
      refine ⟨m + 1, by simpa using h1, ?_⟩
      rw [frs_cons, List.take_append, hl, List.take_of_length_le (by omega), takes_fr hd, h2]
      rfl
    · refine ⟨0, by omega, ?_⟩
      rw [List.take_zero]
      have hn : takeF ((frs (d :: l)).take k) = none := by
        rw [frs_cons, List.take_append_of_le_length (by omega)]
        by_cases h8 : k < 8
        · unfold takeF; rw [if_pos (by simp; omega)]
        · have e : (fr d).take k = lenB (d.length : Nat) ++ ((sumB (crcV d) ++ d).take (k - 4)) := by
            rw [fr_eq hd, List.append_assoc, List.take_append, List.take_of_length_le (by show 4 ≤ k; omega)]
            rfl
          have hdec : dec ((fr d).take k) = d.length := by rw [e]; exact dec_lenB _ (by omega) _
          unfold takeF
          rw [if_pos (by rw [hdec, List.length_take, hl]; omega)]
      rw [takes_none hn]
end FrA
