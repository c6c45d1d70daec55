/- The reference's files, and whether files are the same: walked. No condition. -/
import Derived.Test.YtpiegccohgdkdaaAmDk2
set_option linter.all false
set_option linter.unusedSimpArgs false
set_option linter.unusedVariables false
set_option linter.deprecated false
/-! DkH -/
open Go Go.AM
namespace FrA
open Go.Proofs
set_option maxRecDepth 100000
set_option linter.unusedSimpArgs false
def fileEq (a b : File) : Bool := a.1 == b.1 && a.2 == b.2
theorem fileEq_t {a b : File} : fileEq a b = true ↔ a = b := by
  obtain ⟨a1, a2⟩ := a; obtain ⟨b1, b2⟩ := b; simp [fileEq]
theorem fileEq_f {a b : File} (h : a ≠ b) : fileEq a b = false := by
  cases e : fileEq a b
  · rfl
  · exact absurd (fileEq_t.1 e) h
theorem take_eq_succ {a b : List File} {i : Nat} (ha : i < a.length) (hb : i < b.length) (ht : a.take i = b.take i) (he : a.getD i ([], []) = b.getD i ([], [])) : a.take (i + 1) = b.take (i + 1) := by
  rw [List.take_add_one, List.take_add_one, ht]
  congr 2
  rw [List.getD_eq_getElem?_getD, List.getD_eq_getElem?_getD, List.getElem?_eq_getElem ha, List.getElem?_eq_getElem hb] at he
  rw [List.getElem?_eq_getElem ha, List.getElem?_eq_getElem hb]
  simpa using he
noncomputable def eqFs (a b : List File) : Bool := @decide (a = b) (Classical.propDecidable _)
theorem eqFs_t {a b : List File} (h : a = b) : eqFs a b = true := (@decide_eq_true_iff _ (Classical.propDecidable _)).2 h
theorem eqFs_f {a b : List File} (h : ¬ a = b) : eqFs a b = false := (@decide_eq_false_iff_not _ (Classical.propDecidable _)).2 h
theorem h81 (a b : List File) (ha : a.length ≤ 1000000000) : HT 81 [.dat 2 (fl a), .dat 2 (fl b)] [] (.b (eqFs a b)) true [] := by
  refine holds_of (c := Try.f81.body.getD .skip) (k := k81.1) (ts := [4]) HOk mixedT hintT Try.func81 (by kernel_rfl) (by kernel_rfl) (by kernel_rfl) k81.2 (by kernel_rfl) (le_of 2 _ (by kernel_rfl)) ?_
  by_cases hl : a.length = b.length
  · have hc : ((a.length : Int) != (b.length : Int)) = false := by rw [hl]; simp
    simp -dsimp only [k81, hc, fl_len, go_sem, ↓reduceIte, Nat.reduceEqDiff, Int.reduceLE, Int.reduceLT, Int.reduceNeg, Int.reduceEq, Nat.reduceMul, Nat.reduceAdd, Nat.reduceLeDiff, reduceCtorEq]
    refine K_loop (fun g h _ => ∃ i : Nat, i ≤ a.length ∧ a.take i = b.take i ∧ g 0 = .dat 2 (fl a) ∧ g 1 = .dat 2 (fl b) ∧ g 12 = i64 a.length ∧ g 13 = i64 i) (fun g _ _ => match g 13 with | .i _ n => a.length - n.toNat | _ => 0) ?_ ?_
    · exact ⟨0, by omega, rfl, by simp [upd_at, S_0], by simp [upd_at, S_1], by simp [upd_at], by simp [upd_at]⟩
    · rintro A n hA g h c ⟨i, hi, ht, q0, q1, q12, q13⟩ hn
      by_cases hlt : i < a.length
      · have hc : (i : Int) < (a.length : Int) := by omega
        have ga := fl_get hlt
        have gb := fl_get (l := b) (i := i) (by omega)
        have w1 : IntKind.i64.wrap ((i : Int) + 1) = ((i + 1 : Nat) : Int) := by rw [wr (by omega) (by omega)]; rfl
        have ef : ((a.getD i ([], [])).1 == (b.getD i ([], [])).1 && (a.getD i ([], [])).2 == (b.getD i ([], [])).2) = fileEq (a.getD i ([], [])) (b.getD i ([], [])) := rfl
        by_cases he : a.getD i ([], []) = b.getD i ([], [])
        · have e1 : (fileEq (a.getD i ([], [])) (b.getD i ([], [])) != true) = false := by rw [fileEq_t.2 he]; rfl
          simp -dsimp only [q0, q1, q12, q13, hc, ga, gb, ef, e1, w1, fl_len, go_sem, ↓reduceIte, Nat.reduceEqDiff, Int.reduceLE, Int.reduceLT, Int.reduceNeg, Int.reduceEq, Nat.reduceMul, Nat.reduceAdd, Nat.reduceLeDiff, reduceCtorEq]
          refine hA _ _ _ ?_ ?_
          · exact ⟨i + 1, by omega, take_eq_succ hlt (by omega) ht he, by simp [upd_at, q0], by simp [upd_at, q1], by simp [upd_at, q12], by simp [upd_at]⟩
          · rw [q13] at hn; simp [upd_at] at hn ⊢; omega
        · have e1 : (fileEq (a.getD i ([], [])) (b.getD i ([], [])) != true) = true := by rw [fileEq_f he]; rfl
          simp -dsimp only [q0, q1, q12, q13, hc, ga, gb, ef, e1, w1, fl_len, go_sem, ↓reduceIte, Nat.reduceEqDiff, Int.reduceLE, Int.reduceLT, Int.reduceNeg, Int.reduceEq, Nat.reduceMul, Nat.reduceAdd, Nat.reduceLeDiff, reduceCtorEq]
          have : eqFs a b = false := eqFs_f fun h => he (by rw [h])
          exact Fin_val (by simp [resV, upd_at, retA, this]) (by simp [resV, upd_at, ResOk])
      · have hc : ¬ (i : Int) < (a.length : Int) := by omega
        simp -dsimp only [q0, q1, q12, q13, hc, fl_len, go_sem, ↓reduceIte, Nat.reduceEqDiff, Int.reduceLE, Int.reduceLT, Int.reduceNeg, Int.reduceEq, Nat.reduceMul, Nat.reduceAdd, Nat.reduceLeDiff, reduceCtorEq]
        have hab : a = b := by
          have e1 : a.take i = a := List.take_of_length_le (by omega)
          have e2 : b.take i = b := List.take_of_length_le (by omega)
          rw [← e1, ← e2, ht]
        exact Fin_val (by simp [resV, upd_at, retA, eqFs_t hab]) (by simp [resV, upd_at, ResOk])
  · have hc : ((a.length : Int) != (b.length : Int)) = true := by simp; omega
    simp -dsimp only [k81, hc, fl_len, go_sem, ↓reduceIte, Nat.reduceEqDiff, Int.reduceLE, Int.reduceLT, Int.reduceNeg, Int.reduceEq, Nat.reduceMul, Nat.reduceAdd, Nat.reduceLeDiff, reduceCtorEq]
    have : eqFs a b = false := eqFs_f fun h => hl (by rw [h])
    exact Fin_val (by simp [resV, upd_at, retA, this]) (by simp [resV, upd_at, ResOk])
theorem h85 (a b : List File) (ha : a.length ≤ 1000000000) : HT 85 [.dat 2 (fl a), .dat 2 (fl b)] [] (.b (eqFs a b)) true [] := by
  refine holds_of (c := Try.f85.body.getD .skip) (k := k85.1) (ts := [4]) HOk mixedT hintT Try.func85 (by kernel_rfl) (by kernel_rfl) (by kernel_rfl) k85.2 (by kernel_rfl) (le_of 2 _ (by kernel_rfl)) ?_
  by_cases hl : a.length = b.length
  · have hc : ((a.length : Int) != (b.length : Int)) = false := by rw [hl]; simp
    simp -dsimp only [k85, hc, fl_len, go_sem, ↓reduceIte, Nat.reduceEqDiff, Int.reduceLE, Int.reduceLT, Int.reduceNeg, Int.reduceEq, Nat.reduceMul, Nat.reduceAdd, Nat.reduceLeDiff, reduceCtorEq]
    refine K_loop (fun g h _ => ∃ i : Nat, i ≤ a.length ∧ a.take i = b.take i ∧ g 0 = .dat 2 (fl a) ∧ g 1 = .dat 2 (fl b) ∧ g 5 = i64 i) (fun g _ _ => match g 5 with | .i _ n => a.length - n.toNat | _ => 0) ?_ ?_
    · exact ⟨0, by omega, rfl, by simp [upd_at, S_0], by simp [upd_at, S_1], by simp [upd_at]⟩
    · rintro A n hA g h c ⟨i, hi, ht, q0, q1, q5⟩ hn
      by_cases hlt : i < a.length
      · have hc : (i : Int) < (a.length : Int) := by omega
        have ga := fl_get hlt
        have gb := fl_get (l := b) (i := i) (by omega)
        have w1 : IntKind.i64.wrap ((i : Int) + 1) = ((i + 1 : Nat) : Int) := by rw [wr (by omega) (by omega)]; rfl
        have ef : ((a.getD i ([], [])).1 == (b.getD i ([], [])).1 && (a.getD i ([], [])).2 == (b.getD i ([], [])).2) = fileEq (a.getD i ([], [])) (b.getD i ([], [])) := rfl
        by_cases he : a.getD i ([], []) = b.getD i ([], [])
        · have e1 : (fileEq (a.getD i ([], [])) (b.getD i ([], [])) != true) = false := by rw [fileEq_t.2 he]; rfl
          simp -dsimp only [q0, q1, q5, hc, ga, gb, ef, e1, w1, fl_len, go_sem, ↓reduceIte, Nat.reduceEqDiff, Int.reduceLE, Int.reduceLT, Int.reduceNeg, Int.reduceEq, Nat.reduceMul, Nat.reduceAdd, Nat.reduceLeDiff, reduceCtorEq]
          refine hA _ _ _ ?_ ?_
          · exact ⟨i + 1, by omega, take_eq_succ hlt (by omega) ht he, by simp [upd_at, q0], by simp [upd_at, q1], by simp [upd_at]⟩
          · rw [q5] at hn; simp [upd_at] at hn ⊢; omega
        · have e1 : (fileEq (a.getD i ([], [])) (b.getD i ([], [])) != true) = true := by rw [fileEq_f he]; rfl
          simp -dsimp only [q0, q1, q5, hc, ga, gb, ef, e1, w1, fl_len, go_sem, ↓reduceIte, Nat.reduceEqDiff, Int.reduceLE, Int.reduceLT, Int.reduceNeg, Int.reduceEq, Nat.reduceMul, Nat.reduceAdd, Nat.reduceLeDiff, reduceCtorEq]
          have : eqFs a b = false := eqFs_f fun h => he (by rw [h])
          exact Fin_val (by simp [resV, upd_at, retA, this]) (by simp [resV, upd_at, ResOk])
      · have hc : ¬ (i : Int) < (a.length : Int) := by omega
        simp -dsimp only [q0, q1, q5, hc, fl_len, go_sem, ↓reduceIte, Nat.reduceEqDiff, Int.reduceLE, Int.reduceLT, Int.reduceNeg, Int.reduceEq, Nat.reduceMul, Nat.reduceAdd, Nat.reduceLeDiff, reduceCtorEq]
        have hab : a = b := by
          have e1 : a.take i = a := List.take_of_length_le (by omega)
          have e2 : b.take i = b := List.take_of_length_le (by omega)
          rw [← e1, ← e2, ht]
        exact Fin_val (by simp [resV, upd_at, retA, eqFs_t hab]) (by simp [resV, upd_at, ResOk])
  · have hc : ((a.length : Int) != (b.length : Int)) = true := by simp; omega
    simp -dsimp only [k85, hc, fl_len, go_sem, ↓reduceIte, Nat.reduceEqDiff, Int.reduceLE, Int.reduceLT, Int.reduceNeg, Int.reduceEq, Nat.reduceMul, Nat.reduceAdd, Nat.reduceLeDiff, reduceCtorEq]
    have : eqFs a b = false := eqFs_f fun h => hl (by rw [h])
    exact Fin_val (by simp [resV, upd_at, retA, this]) (by simp [resV, upd_at, ResOk])
theorem drop_get {l : List File} {i : Nat} (h : i < l.length) : l.drop i = l.getD i ([], []) :: l.drop (i + 1) := by
  rw [List.getD_eq_getElem?_getD, List.getElem?_eq_getElem h, Option.getD_some]; exact List.drop_eq_getElem_cons h
theorem h95 (l : List File) (name : List UInt8) (hn : l.length ≤ 1048576) : HT 95 [.dat 2 (fl l), .s name] [] (i64 (atR name 0 l)) true [] := by
  refine holds_of (c := Try.f95.body.getD .skip) (k := k95.1) (ts := [4]) HOk mixedT hintT Try.func95 (by kernel_rfl) (by kernel_rfl) (by kernel_rfl) k95.2 (by kernel_rfl) (le_of 2 _ (by kernel_rfl)) ?_
  simp -dsimp only [k95, fl_len, go_sem, ↓reduceIte, Nat.reduceEqDiff, Int.reduceLE, Int.reduceLT, Int.reduceNeg, Int.reduceEq, Nat.reduceMul, Nat.reduceAdd, Nat.reduceLeDiff, reduceCtorEq]
  refine K_loop (fun g h c => ∃ i : Nat, i ≤ l.length ∧ atR name i (l.drop i) = atR name 0 l ∧ g 0 = .dat 2 (fl l) ∧ g 1 = .s name ∧ g 5 = i64 i) (fun g _ _ => match g 5 with | .i _ n => l.length - n.toNat | _ => 0) ?_ ?_
  · exact ⟨0, by omega, by simp, by simp [upd_at, S_0], by simp [upd_at, S_1], by simp [upd_at]⟩
  · rintro A n hA g h c ⟨i, hi, ht, q0, q1, q5⟩ hm
    by_cases hlt : i < l.length
    · have hc : (i : Int) < (l.length : Int) := by omega
      have w1 : IntKind.i64.wrap ((i : Int) + 1) = ((i + 1 : Nat) : Int) := by rw [wr (by omega) (by omega)]; rfl
      rw [drop_get hlt, atR] at ht
      by_cases he : cmpB (l.getD i ([], [])).1 name = 0
      · rw [if_pos he] at ht
        have e1 : ((l.getD i ([], [])).1 == name) = true := by rw [eq_cmp]; simpa using he
        simp -dsimp only [q0, q1, q5, hc, fl_get hlt, fl_len, e1, go_sem, ↓reduceIte, Nat.reduceEqDiff, Int.reduceLE, Int.reduceLT, Int.reduceNeg, Int.reduceEq, Nat.reduceMul, Nat.reduceAdd, Nat.reduceLeDiff, reduceCtorEq]
        exact Fin_val (by simp [resV, upd_at, retA, ← ht, q5]) (by simp [resV, upd_at, ResOk, q5])
      · rw [if_neg he] at ht
        have e1 : ((l.getD i ([], [])).1 == name) = false := by rw [eq_cmp]; simpa using he
        simp -dsimp only [q0, q1, q5, hc, fl_get hlt, fl_len, e1, w1, go_sem, ↓reduceIte, Nat.reduceEqDiff, Int.reduceLE, Int.reduceLT, Int.reduceNeg, Int.reduceEq, Nat.reduceMul, Nat.reduceAdd, Nat.reduceLeDiff, reduceCtorEq]
        refine hA _ _ _ ?_ ?_
        · exact ⟨i + 1, by omega, ht, by simp [upd_at, q0], by simp [upd_at, q1], by simp [upd_at]⟩
        · rw [q5] at hm; simp [upd_at] at hm ⊢; omega
    · have hc : ¬ (i : Int) < (l.length : Int) := by omega
      simp -dsimp only [q0, q1, q5, hc, fl_len, go_sem, ↓reduceIte, Nat.reduceEqDiff, Int.reduceLE, Int.reduceLT, Int.reduceNeg, Int.reduceEq, Nat.reduceMul, Nat.reduceAdd, Nat.reduceLeDiff, reduceCtorEq]
      rw [List.drop_of_length_le (by omega), atR] at ht
      exact Fin_val (by simp [resV, upd_at, retA, ← ht]) (by simp [resV, upd_at, ResOk])
end FrA

/-! DkI -/
open Go Go.AM
namespace FrA
open Go.Proofs
set_option maxRecDepth 100000
set_option linter.unusedSimpArgs false
theorem fin_fl {m : List File} {t : Nat} (o : Rid) (v n : Nat) (cap : Option Nat) (q : Prop) (g : Slots) (h : Heap) (ho : o.isP = false) (hg : g t = .sl o v 0 n cap) (hh : h o = some { ver := v, es := fl m, esz := 2, own := q }) (hm : n = m.length) : FinB [t] [] (.dat 2 (fl m)) true [] g h := by
  refine Fin_val ?_ ?_
  · have : sub (fl m) 0 n = fl m := by unfold sub; rw [if_pos ⟨rfl, by rw [fl_len, hm]⟩]
    simp [resV, hg, retA, cur, hh, List.idxOf?, this]
  · simp only [resV, hg, ResOk]
    exact ⟨{ ver := v, es := fl m, esz := 2, own := q }, by unfold cur; rw [hh]; simp, .inr ⟨ho, by simp, fl_pure _, by simp only [fl_len]; omega, fun _ => .inr (fl_flat _)⟩⟩
theorem fl_snoc (out : List File) (f : File) : fl out ++ [[.s f.1, .s f.2]] = fl (out ++ [f]) := by simp [fl]
theorem sub_all {es : List (List AV)} {n : Nat} (h : n = es.length) : sub es 0 n = es := by unfold sub; rw [if_pos ⟨rfl, h⟩]
theorem sub_1 (a : List AV) : sub [a] 0 1 = [a] := rfl
theorem good1 (a b : List UInt8) : Good [[.s a, .s b]] 2 := fl_good [(a, b)]
theorem flat1 (a b : List UInt8) : Flat [[.s a, .s b]] := fl_flat [(a, b)]
theorem h123 (l : List File) (name : List UInt8) (hn : l.length ≤ 1048576) : HT 123 [.dat 2 (fl l), .s name] [] (.dat 2 (fl (cutR name l))) true [] := by
  refine holds_of (c := Try.f123.body.getD .skip) (k := k123.1) (ts := [4]) HOk mixedT hintT Try.func123 (by kernel_rfl) (by kernel_rfl) (by kernel_rfl) k123.2 (by kernel_rfl) (le_of 2 _ (by kernel_rfl)) ?_
  simp -dsimp only [k123, chunk, go_sem, ↓reduceIte, Nat.reduceEqDiff, Int.reduceLE, Int.reduceLT, Int.reduceNeg, Int.reduceEq, Nat.reduceMul, Nat.reduceAdd, Nat.reduceLeDiff, reduceCtorEq]
  refine K_loop (fun g h c => ∃ (i : Nat) (out : List File) (v : Nat) (cap : Option Nat) (q : Prop), i ≤ l.length ∧ out.length ≤ i ∧ out ++ cutR name (l.drop i) = cutR name l ∧ g 0 = .dat 2 (fl l) ∧ g 1 = .s name ∧ g 6 = i64 i ∧ g 5 = .sl (.l 7) v 0 out.length cap ∧ h (.l 7) = some { ver := v, es := fl out, esz := 2, own := q }) (fun g _ _ => match g 6 with | .i _ n => l.length - n.toNat | _ => 0) ?_ ?_
  · exact ⟨0, [], _, _, _, by omega, by simp, by simp, by simp [upd_at, S_0], by simp [upd_at, S_1], by simp [upd_at], by simp [upd_at]; exact ⟨rfl, rfl⟩, by simp [hup_at, fl]; rfl⟩
  · rintro A n hA g h c ⟨i, out, v, cap, q, hi, hol, ht, q0, q1, q6, q5, hh⟩ hm
    by_cases hlt : i < l.length
    · have hc : (i : Int) < (l.length : Int) := by omega
      have w1 : IntKind.i64.wrap ((i : Int) + 1) = ((i + 1 : Nat) : Int) := by rw [wr (by omega) (by omega)]; rfl
      rw [drop_get hlt, cutR] at ht
      by_cases he : cmpB (l.getD i ([], [])).1 name = 0
      · have e1 : (!((l.getD i ([], [])).1 == name)) = false := by rw [eq_cmp]; simpa using he
        rw [if_pos he] at ht
        simp -dsimp only [q0, q1, q6, q5, hc, fl_get hlt, fl_len, e1, w1, go_sem, ↓reduceIte, Nat.reduceEqDiff, Int.reduceLE, Int.reduceLT, Int.reduceNeg, Int.reduceEq, Nat.reduceMul, Nat.reduceAdd, Nat.reduceLeDiff, reduceCtorEq]
        refine hA _ _ _ ?_ ?_
        · exact ⟨i + 1, out, v, cap, q, by omega, by omega, ht, by simp [upd_at, q0], by simp [upd_at, q1], by simp [upd_at], by simp [upd_at, q5], hh⟩
        · rw [q6] at hm; simp [upd_at] at hm ⊢; omega
      · have e1 : (!((l.getD i ([], [])).1 == name)) = true := by rw [eq_cmp]; simpa using he
        rw [if_neg he] at ht
        simp -dsimp only [q0, q1, q6, q5, hc, hh, fl_get hlt, fl_len, e1, w1, chunk, sub_1, go_sem, ↓reduceIte, Nat.reduceEqDiff, Int.reduceLE, Int.reduceLT, Int.reduceNeg, Int.reduceEq, Nat.reduceMul, Nat.reduceAdd, Nat.reduceLeDiff, reduceCtorEq]
        refine EK_p (by simp [bigOk, good1, flat1]; omega) ?_
        simp -dsimp only [w1, List.length_cons, List.length_nil, q6, fl_snoc out (l.getD i ([], [])), go_sem, ↓reduceIte, Nat.reduceEqDiff, Int.reduceLE, Int.reduceLT, Int.reduceNeg, Int.reduceEq, Nat.reduceMul, Nat.reduceAdd, Nat.reduceLeDiff, reduceCtorEq]
        refine hA _ _ _ ?_ ?_
        · exact ⟨i + 1, out ++ [l.getD i ([], [])], _, _, _, by omega, by simp; omega, by rw [← ht]; simp, by simp [upd_at, q0], by simp [upd_at, q1], by simp [upd_at], by simp [upd_at]; exact ⟨rfl, rfl⟩, by simp [hup_at]; rfl⟩
        · rw [q6] at hm; simp [upd_at] at hm ⊢; omega
    · have hc : ¬ (i : Int) < (l.length : Int) := by omega
      simp -dsimp only [q0, q1, q6, q5, hc, fl_len, go_sem, ↓reduceIte, Nat.reduceEqDiff, Int.reduceLE, Int.reduceLT, Int.reduceNeg, Int.reduceEq, Nat.reduceMul, Nat.reduceAdd, Nat.reduceLeDiff, reduceCtorEq]
      rw [List.drop_of_length_le (by omega), cutR, List.append_nil] at ht
      exact fin_fl (.l 7) v out.length cap q _ _ rfl (by simp [upd_at, q5]) (by rw [← ht]; exact hh) (by rw [ht])
theorem bl_neg (x y : List UInt8) : (!Op.bytesLess x y) = decide (¬ cmpB x y < 0) := by
  rw [bl_cmp]
  by_cases h : cmpB x y < 0
  · simp [h]
  · simp only [h, decide_false, Bool.not_false, not_false_iff, decide_true]
theorem neq_neg (x y : List UInt8) : (!(x == y)) = decide (¬ cmpB x y = 0) := by rw [eq_cmp]; by_cases h : cmpB x y = 0 <;> simp [h]
theorem h122 (l : List File) (name data : List UInt8) (hn : l.length ≤ 1048576) : HT 122 [.dat 2 (fl l), .s name, .s data] [] (.dat 2 (fl (putR name data false l))) true [] := by
  refine holds_of (c := Try.f122.body.getD .skip) (k := k122.1) (ts := [6]) HOk mixedT hintT Try.func122 (by kernel_rfl) (by kernel_rfl) (by kernel_rfl) k122.2 (by kernel_rfl) (le_of 3 _ (by kernel_rfl)) ?_
  simp -dsimp only [k122, chunk, go_sem, ↓reduceIte, Nat.reduceEqDiff, Int.reduceLE, Int.reduceLT, Int.reduceNeg, Int.reduceEq, Nat.reduceMul, Nat.reduceAdd, Nat.reduceLeDiff, reduceCtorEq]
  refine K_loop (fun g h c => ∃ (i : Nat) (out : List File) (d : Bool) (v : Nat) (cap : Option Nat) (q : Prop), i ≤ l.length ∧ out.length ≤ i + 1 ∧ out ++ putR name data d (l.drop i) = putR name data false l ∧ g 0 = .dat 2 (fl l) ∧ g 1 = .s name ∧ g 2 = .s data ∧ g 8 = .b d ∧ g 9 = i64 i ∧ g 7 = .sl (.l 10) v 0 out.length cap ∧ h (.l 10) = some { ver := v, es := fl out, esz := 2, own := q } ∧ (d = false → out.length ≤ i)) (fun g _ _ => match g 9 with | .i _ n => l.length - n.toNat | _ => 0) ?_ ?_
  · exact ⟨0, [], false, _, _, _, by omega, by simp, by simp, by simp [upd_at, S_0], by simp [upd_at, S_1], by simp [upd_at, S_2], by simp [upd_at], by simp [upd_at], by simp [upd_at]; exact ⟨rfl, rfl⟩, by simp [hup_at, fl]; rfl, by simp⟩
  · rintro A n hA g h c ⟨i, out, d, v, cap, q, hi, hol, ht, q0, q1, q2, q8, q9, q7, hh, hod⟩ hm
    by_cases hlt : i < l.length
    · have hc : (i : Int) < (l.length : Int) := by omega
      have w1 : IntKind.i64.wrap ((i : Int) + 1) = ((i + 1 : Nat) : Int) := by rw [wr (by omega) (by omega)]; rfl
      rw [drop_get hlt, putR] at ht
      cases d with
      | true =>
        by_cases he : cmpB (l.getD i ([], [])).1 name = 0
        · rw [if_neg (by simp), if_pos he] at ht
          simp -dsimp only [q0, q1, q2, q8, q9, q7, hc, fl_get hlt, fl_len, bl_neg, neq_neg, he, w1, go_sem, ↓reduceIte, Nat.reduceEqDiff, Int.reduceLE, Int.reduceLT, Int.reduceNeg, Int.reduceEq, Nat.reduceMul, Nat.reduceAdd, Nat.reduceLeDiff, reduceCtorEq]
          refine hA _ _ _ ?_ ?_
          · exact ⟨i + 1, out, true, v, cap, q, by omega, by omega, by simpa using ht, by simp [upd_at, q0], by simp [upd_at, q1], by simp [upd_at, q2], by simp [upd_at, q8], by simp [upd_at], by simp [upd_at, q7], hh, by simp⟩
          · rw [q9] at hm; simp [upd_at] at hm ⊢; omega
        · rw [if_neg (by simp), if_neg he] at ht
          simp -dsimp only [q0, q1, q2, q8, q9, q7, hc, hh, fl_get hlt, fl_len, bl_neg, neq_neg, he, w1, chunk, sub_1, go_sem, ↓reduceIte, Nat.reduceEqDiff, Int.reduceLE, Int.reduceLT, Int.reduceNeg, Int.reduceEq, Nat.reduceMul, Nat.reduceAdd, Nat.reduceLeDiff, reduceCtorEq]
          refine EK_p (by simp [bigOk, good1, flat1]; omega) ?_
          simp -dsimp only [w1, List.length_cons, List.length_nil, q9, fl_snoc out (l.getD i ([], [])), go_sem, ↓reduceIte, Nat.reduceEqDiff, Int.reduceLE, Int.reduceLT, Int.reduceNeg, Int.reduceEq, Nat.reduceMul, Nat.reduceAdd, Nat.reduceLeDiff, reduceCtorEq]
          refine hA _ _ _ ?_ ?_
          · exact ⟨i + 1, out ++ [l.getD i ([], [])], true, _, _, _, by omega, by simp; omega, by rw [← ht]; simp, by simp [upd_at, q0], by simp [upd_at, q1], by simp [upd_at, q2], by simp [upd_at, q8], by simp [upd_at], by simp [upd_at]; exact ⟨rfl, rfl⟩, by simp [hup_at]; rfl, by simp⟩
          · rw [q9] at hm; simp [upd_at] at hm ⊢; omega
      | false =>
        have hod := hod rfl
        by_cases hlss : cmpB (l.getD i ([], [])).1 name < 0
        · have he : ¬ cmpB (l.getD i ([], [])).1 name = 0 := by omega
          have e3 : (false || decide (¬ cmpB (l.getD i ([], [])).1 name < 0)) = false := by simp only [hlss, not_true, decide_false, Bool.or_false]
          rw [if_neg (fun hx => hx.2 hlss), if_neg he, e3] at ht
          simp -dsimp only [q0, q1, q2, q8, q9, q7, hc, hh, fl_get hlt, fl_len, bl_neg, neq_neg, hlss, he, w1, chunk, sub_1, go_sem, ↓reduceIte, Nat.reduceEqDiff, Int.reduceLE, Int.reduceLT, Int.reduceNeg, Int.reduceEq, Nat.reduceMul, Nat.reduceAdd, Nat.reduceLeDiff, reduceCtorEq]
          refine EK_p (by simp [bigOk, good1, flat1]; omega) ?_
          simp -dsimp only [w1, List.length_cons, List.length_nil, q9, fl_snoc out (l.getD i ([], [])), go_sem, ↓reduceIte, Nat.reduceEqDiff, Int.reduceLE, Int.reduceLT, Int.reduceNeg, Int.reduceEq, Nat.reduceMul, Nat.reduceAdd, Nat.reduceLeDiff, reduceCtorEq]
          refine hA _ _ _ ?_ ?_
          · exact ⟨i + 1, out ++ [l.getD i ([], [])], false, _, _, _, by omega, by simp; omega, by rw [← ht]; simp, by simp [upd_at, q0], by simp [upd_at, q1], by simp [upd_at, q2], by simp [upd_at, q8], by simp [upd_at], by simp [upd_at]; exact ⟨rfl, rfl⟩, by simp [hup_at]; rfl, by simp; omega⟩
          · rw [q9] at hm; simp [upd_at] at hm ⊢; omega
        · rw [if_pos ⟨rfl, hlss⟩] at ht
          have e3 : (false || decide (¬ cmpB (l.getD i ([], [])).1 name < 0)) = true := by simp only [hlss, not_false_iff, decide_true, Bool.or_true]
          rw [e3] at ht
          simp -dsimp only [q0, q1, q2, q8, q9, q7, hc, hh, fl_get hlt, fl_len, bl_neg, hlss, w1, chunk, sub_1, go_sem, ↓reduceIte, Nat.reduceEqDiff, Int.reduceLE, Int.reduceLT, Int.reduceNeg, Int.reduceEq, Nat.reduceMul, Nat.reduceAdd, Nat.reduceLeDiff, reduceCtorEq]
          refine EK_p (by simp [bigOk, good1, flat1]; omega) ?_
          by_cases he : cmpB (l.getD i ([], [])).1 name = 0
          · rw [if_pos he] at ht
            simp -dsimp only [w1, List.length_cons, List.length_nil, q0, q1, q2, q9, fl_get hlt, neq_neg, he, fl_snoc out (name, data), go_sem, ↓reduceIte, Nat.reduceEqDiff, Int.reduceLE, Int.reduceLT, Int.reduceNeg, Int.reduceEq, Nat.reduceMul, Nat.reduceAdd, Nat.reduceLeDiff, reduceCtorEq]
            refine hA _ _ _ ?_ ?_
            · exact ⟨i + 1, out ++ [(name, data)], true, _, _, _, by omega, by simp; omega, by rw [← ht]; simp, by simp [upd_at, q0], by simp [upd_at, q1], by simp [upd_at, q2], by simp [upd_at], by simp [upd_at], by simp [upd_at]; exact ⟨rfl, rfl⟩, by simp [hup_at]; rfl, by simp⟩
            · rw [q9] at hm; simp [upd_at] at hm ⊢; omega
          · rw [if_neg he] at ht
            have hl1 : (fl (out ++ [(name, data)])).length = out.length + 1 := by simp [fl]
            simp -dsimp only [w1, List.length_cons, List.length_nil, q0, q1, q2, q9, fl_get hlt, neq_neg, he, fl_snoc out (name, data), chunk, sub_1, hl1, go_sem, ↓reduceIte, Nat.reduceEqDiff, Int.reduceLE, Int.reduceLT, Int.reduceNeg, Int.reduceEq, Nat.reduceMul, Nat.reduceAdd, Nat.reduceLeDiff, reduceCtorEq]
            refine EK_p (by simp [bigOk, good1, flat1]; omega) ?_
            simp -dsimp only [w1, List.length_cons, List.length_nil, q9, fl_snoc (out ++ [(name, data)]) (l.getD i ([], [])), go_sem, ↓reduceIte, Nat.reduceEqDiff, Int.reduceLE, Int.reduceLT, Int.reduceNeg, Int.reduceEq, Nat.reduceMul, Nat.reduceAdd, Nat.reduceLeDiff, reduceCtorEq]
            refine hA _ _ _ ?_ ?_
            · exact ⟨i + 1, out ++ [(name, data)] ++ [l.getD i ([], [])], true, _, _, _, by omega, by simp; omega, by rw [← ht]; simp, by simp [upd_at, q0], by simp [upd_at, q1], by simp [upd_at, q2], by simp [upd_at], by simp [upd_at], by simp [upd_at]; exact ⟨rfl, rfl⟩, by simp [hup_at]; rfl, by simp⟩
            · rw [q9] at hm; simp [upd_at] at hm ⊢; omega
    · have hc : ¬ (i : Int) < (l.length : Int) := by omega
      rw [List.drop_of_length_le (by omega), putR] at ht
      cases d with
      | true =>
        rw [if_pos rfl, List.append_nil] at ht
        simp -dsimp only [q0, q1, q2, q8, q9, q7, hc, fl_len, go_sem, ↓reduceIte, Nat.reduceEqDiff, Int.reduceLE, Int.reduceLT, Int.reduceNeg, Int.reduceEq, Nat.reduceMul, Nat.reduceAdd, Nat.reduceLeDiff, reduceCtorEq]
        exact fin_fl (.l 10) v out.length cap q _ _ rfl (by simp [upd_at, q7]) (by rw [← ht]; exact hh) (by rw [ht])
      | false =>
        rw [if_neg (by simp)] at ht
        simp -dsimp only [q0, q1, q2, q8, q9, q7, hc, hh, fl_len, chunk, sub_1, go_sem, ↓reduceIte, Nat.reduceEqDiff, Int.reduceLE, Int.reduceLT, Int.reduceNeg, Int.reduceEq, Nat.reduceMul, Nat.reduceAdd, Nat.reduceLeDiff, reduceCtorEq]
        refine EK_p (by simp [bigOk, good1, flat1]; omega) ?_
        simp -dsimp only [List.length_cons, List.length_nil, q9, fl_snoc out (name, data), go_sem, ↓reduceIte, Nat.reduceEqDiff, Int.reduceLE, Int.reduceLT, Int.reduceNeg, Int.reduceEq, Nat.reduceMul, Nat.reduceAdd, Nat.reduceLeDiff, reduceCtorEq]
        rw [← ht]
        exact fin_fl (.l 10) _ (out.length + 1) none _ _ _ rfl (by simp [upd_at]; rfl) (by rw [hup_at, if_pos rfl]) (by simp)
theorem h83 (l : List File) (op : Dop) (hs : Srt l) (hn : l.length ≤ 1048576) (hb : ∀ f ∈ l, f.2.length ≤ 1099511627776) (hd : op.2.2.2.length ≤ 1099511627776) : HT 83 [.dat 2 (fl l), .agg (opC op)] [] (.tup [.dat 2 (fl (act l op)), .b (actB l op)]) false [] := by
  refine holds_of (c := Try.f83.body.getD .skip) (k := k83.1) (ts := [4, 5]) HOk mixedT hintT Try.func83 (by kernel_rfl) (by kernel_rfl) (by kernel_rfl) k83.2 (by kernel_rfl) (le_of 2 _ (by kernel_rfl)) ?_
  obtain ⟨k, n, t, d⟩ := op
  unfold opC act actB
  simp only at hd ⊢
  have hat := atR_eq n l 0 hs
  rw [Nat.zero_add] at hat
  have hpt := putR_eq n d l hs
  have hct := cutR_eq n l hs
  simp -dsimp only [k83, go_sem, ↓reduceIte, Nat.reduceEqDiff, Int.reduceLE, Int.reduceLT, Int.reduceNeg, Int.reduceEq, Nat.reduceMul, Nat.reduceAdd, Nat.reduceLeDiff, reduceCtorEq]
  refine Call_val (own := true) (h95 l n hn) (by simp [ExpOk, AV.pure]) (.inl rfl) ?_
  cases hh : has n l
  · rw [if_neg (by simp [hh])] at hat
    have ho : olda l n = [] := by unfold olda; rw [hh]; rfl
    have f0 : ¬ (-1 : Int) ≥ 0 := by decide
    have f2 : (-1 : Int) < 0 := by decide
    by_cases k1 : k = 1
    · have f1 : (k == 1) = true := by simp [k1]
      simp -dsimp only [f1, hat, f0, f2, go_sem, ↓reduceIte, Nat.reduceEqDiff, Int.reduceLE, Int.reduceLT, Int.reduceNeg, Int.reduceEq, Nat.reduceMul, Nat.reduceAdd, Nat.reduceLeDiff, reduceCtorEq]
      refine Call_val (own := true) (h122 l n d hn) (by simp [ExpOk, AV.pure]) (.inl rfl) ?_
      simp -dsimp only [hpt, go_sem, ↓reduceIte, Nat.reduceEqDiff, Int.reduceLE, Int.reduceLT, Int.reduceNeg, Int.reduceEq, Nat.reduceMul, Nat.reduceAdd, Nat.reduceLeDiff, reduceCtorEq]
      refine Fin_val ?_ ?_
      · simp [resV, upd_at, retA, retL, k1, ho]
      · simp [resV, upd_at, ResOk, ResL]
    · have f1 : (k == 1) = false := by simp [k1]
      simp -dsimp only [f1, hat, f0, f2, chunk, go_sem, ↓reduceIte, Nat.reduceEqDiff, Int.reduceLE, Int.reduceLT, Int.reduceNeg, Int.reduceEq, Nat.reduceMul, Nat.reduceAdd, Nat.reduceLeDiff, reduceCtorEq]
      refine EK_p (by simp [bigOk, fl_good, fl_len]; omega) ?_
      simp -dsimp only [List.nil_append, Nat.zero_add, fl_len, go_sem, ↓reduceIte, Nat.reduceEqDiff, Int.reduceLE, Int.reduceLT, Int.reduceNeg, Int.reduceEq, Nat.reduceMul, Nat.reduceAdd, Nat.reduceLeDiff, reduceCtorEq]
      refine Fin_val ?_ ?_
      · simp [resV, upd_at, retA, retL, k1, cur, hup_at, List.idxOf?, sub_all (fl_len l).symm]
      · simp [resV, upd_at, ResOk, ResL, cur, hup_at, fl_pure, fl_flat, fl_len, Rid.isP]
  · have hlt := has_lt hh
    rw [if_pos hh] at hat
    have f0 : ((pos n l : Nat) : Int) ≥ 0 := by omega
    have f2 : ¬ ((pos n l : Nat) : Int) < 0 := by omega
    have ho : olda l n = (l.getD (pos n l) ([], [])).2 := by unfold olda; rw [hh]; rfl
    have hd2 := hb _ (getD_mem hlt)
    by_cases k1 : k = 1
    · have f1 : (k == 1) = true := by simp [k1]
      simp -dsimp only [f1, hat, f0, f2, fl_get hlt, go_sem, ↓reduceIte, Nat.reduceEqDiff, Int.reduceLE, Int.reduceLT, Int.reduceNeg, Int.reduceEq, Nat.reduceMul, Nat.reduceAdd, Nat.reduceLeDiff, reduceCtorEq]
      refine VK_p (by omega) ?_
      simp -dsimp only [go_sem, ↓reduceIte, Nat.reduceEqDiff, Int.reduceLE, Int.reduceLT, Int.reduceNeg, Int.reduceEq, Nat.reduceMul, Nat.reduceAdd, Nat.reduceLeDiff, reduceCtorEq]
      refine Call_val (own := true) (h122 l n ((l.getD (pos n l) ([], [])).2 ++ d) hn) (by simp [ExpOk, AV.pure]) (.inl rfl) ?_
      have hpt2 := putR_eq n ((l.getD (pos n l) ([], [])).2 ++ d) l hs
      simp -dsimp only [hpt2, go_sem, ↓reduceIte, Nat.reduceEqDiff, Int.reduceLE, Int.reduceLT, Int.reduceNeg, Int.reduceEq, Nat.reduceMul, Nat.reduceAdd, Nat.reduceLeDiff, reduceCtorEq]
      refine Fin_val ?_ ?_
      · simp [resV, upd_at, retA, retL, k1, ho]
      · simp [resV, upd_at, ResOk, ResL]
    · have f1 : (k == 1) = false := by simp [k1]
      simp -dsimp only [f1, hat, f0, f2, fl_get hlt, go_sem, ↓reduceIte, Nat.reduceEqDiff, Int.reduceLE, Int.reduceLT, Int.reduceNeg, Int.reduceEq, Nat.reduceMul, Nat.reduceAdd, Nat.reduceLeDiff, reduceCtorEq]
      refine Call_val (own := true) (h123 l n hn) (by simp [ExpOk, AV.pure]) (.inl rfl) ?_
      have hs2 : Srt (cut l n) := by unfold cut; split <;> first | exact List.Pairwise.sublist (List.eraseIdx_sublist _ _) hs | exact hs
      have hcl : (cut l n).length ≤ l.length := by unfold cut; rw [if_pos hh, List.length_eraseIdx_of_lt hlt]; omega
      by_cases k2 : k = 2
      · have g2 : (k == 2) = true := by simp [k2]
        simp -dsimp only [g2, hct, fl_get hlt, go_sem, ↓reduceIte, Nat.reduceEqDiff, Int.reduceLE, Int.reduceLT, Int.reduceNeg, Int.reduceEq, Nat.reduceMul, Nat.reduceAdd, Nat.reduceLeDiff, reduceCtorEq]
        refine Calln_val true (h122 (cut l n) t (l.getD (pos n l) ([], [])).2 (by omega)) (by simp [ExpOk, AV.pure]) (.inl rfl) ?_
        have hpt2 := putR_eq t (l.getD (pos n l) ([], [])).2 (cut l n) hs2
        simp -dsimp only [hpt2, go_sem, ↓reduceIte, Nat.reduceEqDiff, Int.reduceLE, Int.reduceLT, Int.reduceNeg, Int.reduceEq, Nat.reduceMul, Nat.reduceAdd, Nat.reduceLeDiff, reduceCtorEq]
        refine Fin_val ?_ ?_
        · simp [resV, upd_at, retA, retL, k2, ho]
        · simp [resV, upd_at, ResOk, ResL]
      · have g2 : (k == 2) = false := by simp [k2]
        simp -dsimp only [g2, hct, go_sem, ↓reduceIte, Nat.reduceEqDiff, Int.reduceLE, Int.reduceLT, Int.reduceNeg, Int.reduceEq, Nat.reduceMul, Nat.reduceAdd, Nat.reduceLeDiff, reduceCtorEq]
        refine Fin_val ?_ ?_
        · simp [resV, upd_at, retA, retL, k1, k2]
        · simp [resV, upd_at, ResOk, ResL]
end FrA

/-! DkJ -/
open Go Go.AM
namespace FrA
open Go.Proofs
set_option maxRecDepth 100000
set_option linter.unusedSimpArgs false
def ol (ops : List Dop) : List (List AV) := ops.map opC
def dop0 : Dop := (0, [], [], [])
theorem ol_len (ops : List Dop) : (ol ops).length = ops.length := by simp [ol]
theorem ol_get {ops : List Dop} {i : Nat} (h : i < ops.length) : (ol ops)[i]? = some (opC (ops.getD i dop0)) := by
  simp [ol, List.getElem?_eq_getElem h]
theorem dropo_get {ops : List Dop} {i : Nat} (h : i < ops.length) : ops.drop i = ops.getD i dop0 :: ops.drop (i + 1) := by
  rw [List.getD_eq_getElem?_getD, List.getElem?_eq_getElem h, Option.getD_some]; exact List.drop_eq_getElem_cons h
theorem getO_mem {ops : List Dop} {i : Nat} (h : i < ops.length) : ops.getD i dop0 ∈ ops := by
  rw [List.getD_eq_getElem?_getD, List.getElem?_eq_getElem h]; exact List.getElem_mem h
noncomputable def runOps : List File → List Dop → Option (List File)
  | l, [] => some l
  | l, o :: r => if form o = true ∧ actB l o = true ∧ okF (act l o) = true then runOps (act l o) r else none
noncomputable def diskB (live safe : List File) (ops : List Dop) : Bool := okF live && (okF safe && (decide (ops.length ≤ 200) && (match runOps safe ops with | some l => eqFs l live | none => false)))
def disk (live safe : List File) (ops : List Dop) : AV := .agg [.dat 2 (fl live), .dat 2 (fl safe), .dat 4 (ol ops)]
theorem mem_put {l : List File} {n d : List UInt8} {f : File} (h : f ∈ put l n d) : f ∈ l ∨ f = (n, d) := by
  unfold put at h
  split at h
  · rcases List.mem_or_eq_of_mem_set h with h | h
    · exact .inl h
    · exact .inr h
  · simp only [List.mem_append, List.mem_singleton] at h
    rcases h with (h | h) | h
    · exact .inl (List.mem_of_mem_take h)
    · exact .inr h
    · exact .inl (List.mem_of_mem_drop h)
theorem mem_cut {l : List File} {n : List UInt8} {f : File} (h : f ∈ cut l n) : f ∈ l := by
  unfold cut at h
  split at h
  · exact List.mem_of_mem_eraseIdx h
  · exact h
theorem olda_le {l : List File} {n : List UInt8} {b : Nat} (hb : ∀ f ∈ l, f.2.length ≤ b) : (olda l n).length ≤ b := by
  unfold olda
  split
  · rename_i h; exact hb _ (getD_mem (has_lt h))
  · simp
theorem act_le {l : List File} {o : Dop} {b d : Nat} (hb : ∀ f ∈ l, f.2.length ≤ b) (hd : o.2.2.2.length ≤ d) : ∀ f ∈ act l o, f.2.length ≤ b + d := by
  intro f hf
  have ho := olda_le (n := o.2.1) hb
  unfold act at hf
  split at hf
  · rcases mem_put hf with h | h
    · have := hb f h; omega
    · subst h; simp; omega
  · split at hf
    · have := hb f hf; omega
    · split at hf
      · rcases mem_put hf with h | h
        · have := hb f (mem_cut h); omega
        · subst h; simp only; omega
      · have := hb f (mem_cut hf); omega
theorem put_len (l : List File) (n d : List UInt8) : (put l n d).length ≤ l.length + 1 := by
  unfold put
  split
  · simp
  · simp; have := pos_le n l; omega
theorem cut_len (l : List File) (n : List UInt8) : (cut l n).length ≤ l.length := by
  unfold cut
  split
  · rename_i h; rw [List.length_eraseIdx_of_lt (has_lt h)]; omega
  · exact Nat.le_refl _
theorem act_len (l : List File) (o : Dop) : (act l o).length ≤ l.length + 1 := by
  unfold act
  split
  · exact put_len _ _ _
  · split
    · omega
    · split
      · have := put_len (cut l o.2.1) o.2.2.1 (olda l o.2.1); have := cut_len l o.2.1; omega
      · have := cut_len l o.2.1; omega
theorem okP_le {l : List File} (h : okP l) : ∀ f ∈ l, f.2.length ≤ 200000 := fun f hf => by have := tot_get l f hf; have := h.2.1; omega
def BdF (l : List File) : Prop := l.length ≤ 1048576 ∧ ∀ f ∈ l, f.2.length ≤ 1099511627776
def BdO (ops : List Dop) : Prop := ops.length ≤ 1048576 ∧ ∀ o ∈ ops, o.2.2.2.length ≤ 1000000000
theorem diskB_1 {live safe : List File} {ops : List Dop} (h : okF live = false) : diskB live safe ops = false := by unfold diskB; rw [h]; rfl
theorem diskB_2 {live safe : List File} {ops : List Dop} (h : okF safe = false) : diskB live safe ops = false := by unfold diskB; rw [h]; simp
theorem diskB_3 {live safe : List File} {ops : List Dop} (h : ops.length > 200) : diskB live safe ops = false := by unfold diskB; rw [decide_eq_false (by omega)]; simp
theorem diskB_4 {live safe : List File} {ops : List Dop} (h : runOps safe ops = none) : diskB live safe ops = false := by unfold diskB; rw [h]; simp
theorem diskB_5 {live safe now : List File} {ops : List Dop} (h1 : okF live = true) (h2 : okF safe = true) (h3 : ops.length ≤ 200) (h : runOps safe ops = some now) : diskB live safe ops = eqFs now live := by unfold diskB; rw [h, h1, h2, decide_eq_true h3]; simp
theorem runOps_no {l : List File} {o : Dop} {r : List Dop} (h : ¬ (form o = true ∧ actB l o = true ∧ okF (act l o) = true)) : runOps l (o :: r) = none := by rw [runOps, if_neg h]
theorem runOps_yes {l : List File} {o : Dop} {r : List Dop} (h1 : form o = true) (h2 : actB l o = true) (h3 : okF (act l o) = true) : runOps l (o :: r) = runOps (act l o) r := by rw [runOps, if_pos ⟨h1, h2, h3⟩]
def diskO (live safe : List File) (ops : List Dop) : Ob := { ver := 1, es := [[.dat 2 (fl live), .dat 2 (fl safe), .dat 4 (ol ops)]], esz := 3, own := False, fixed := true }
theorem h35 (live safe : List File) (ops : List Dop) (hl : BdF live) (hsf : BdF safe) (ho : BdO ops) : HT 35 [disk live safe ops] [] (.b (diskB live safe ops)) true [] := by
  refine holds_of (c := Try.f35.body.getD .skip) (k := k35.1) (ts := [2]) HOk mixedT hintT Try.func35 (by kernel_rfl) (by kernel_rfl) (by kernel_rfl) k35.2 (by kernel_rfl) (le_of 1 _ (by kernel_rfl)) ?_
  unfold disk
  have fin : diskB live safe ops = false → ∀ g h, g 2 = .b false → FinB [2] [] (.b (diskB live safe ops)) true [] g h := fun hF g h hg => Fin_val (by simp [resV, retA, hg, hF]) (by simp [resV, ResOk, hg])
  simp -dsimp only [k35, go_sem, ↓reduceIte, Nat.reduceEqDiff, Int.reduceLE, Int.reduceLT, Int.reduceNeg, Int.reduceEq, Nat.reduceMul, Nat.reduceAdd, Nat.reduceLeDiff, reduceCtorEq]
  refine Call_val (own := true) (h78 live hl.1 hl.2) (by simp [ExpOk, AV.pure]) (.inl rfl) ?_
  cases e1 : okF live
  · simp -dsimp only [go_sem, ↓reduceIte, Nat.reduceEqDiff, Int.reduceLE, Int.reduceLT, Int.reduceNeg, Int.reduceEq, Nat.reduceMul, Nat.reduceAdd, Nat.reduceLeDiff, reduceCtorEq]
    exact fin (diskB_1 e1) _ _ (by simp [upd_at])
  simp -dsimp only [go_sem, ↓reduceIte, Nat.reduceEqDiff, Int.reduceLE, Int.reduceLT, Int.reduceNeg, Int.reduceEq, Nat.reduceMul, Nat.reduceAdd, Nat.reduceLeDiff, reduceCtorEq]
  refine Call_val (own := true) (h78 safe hsf.1 hsf.2) (by simp [ExpOk, AV.pure]) (.inl rfl) ?_
  cases e2 : okF safe
  · simp -dsimp only [go_sem, ↓reduceIte, Nat.reduceEqDiff, Int.reduceLE, Int.reduceLT, Int.reduceNeg, Int.reduceEq, Nat.reduceMul, Nat.reduceAdd, Nat.reduceLeDiff, reduceCtorEq]
    exact fin (diskB_2 e2) _ _ (by simp [upd_at])
  by_cases h200 : ops.length > 200
  · have f200 : (ops.length : Int) > 200 := by omega
    simp -dsimp only [ol_len, f200, go_sem, ↓reduceIte, Nat.reduceEqDiff, Int.reduceLE, Int.reduceLT, Int.reduceNeg, Int.reduceEq, Nat.reduceMul, Nat.reduceAdd, Nat.reduceLeDiff, reduceCtorEq]
    exact fin (diskB_3 h200) _ _ (by simp [upd_at])
  have f200 : ¬ (ops.length : Int) > 200 := by omega
  simp -dsimp only [ol_len, f200, go_sem, ↓reduceIte, Nat.reduceEqDiff, Int.reduceLE, Int.reduceLT, Int.reduceNeg, Int.reduceEq, Nat.reduceMul, Nat.reduceAdd, Nat.reduceLeDiff, reduceCtorEq]
  refine K_loop (fun g h c => ∃ (i : Nat) (now : List File), i ≤ ops.length ∧ okP now ∧ runOps now (ops.drop i) = runOps safe ops ∧ g 1 = .ptr (.l 1) 1 0 0 ∧ h (.l 1) = some (diskO live safe ops) ∧ g 3 = .dat 2 (fl now) ∧ g 27 = .dat 4 (ol ops) ∧ g 28 = i64 ops.length ∧ g 29 = i64 i) (fun g _ _ => match g 29 with | .i _ n => ops.length - n.toNat | _ => 0) ?_ ?_
  · exact ⟨0, safe, by omega, okF_t.1 e2, rfl, by simp [upd_at], by rw [hup_at, if_pos rfl]; rfl, by simp [upd_at], by simp [upd_at], by simp [upd_at], by simp [upd_at]⟩
  · rintro A n hA g h c ⟨i, now, hi, hok, hrun, q1, hh, q3, q27, q28, q29⟩ hm
    by_cases hlt : i < ops.length
    · have hc : (i : Int) < (ops.length : Int) := by omega
      have w1 : IntKind.i64.wrap ((i : Int) + 1) = ((i + 1 : Nat) : Int) := by rw [wr (by omega) (by omega)]; rfl
      rw [dropo_get hlt] at hrun
      obtain ⟨op, hop⟩ : ∃ op, op = ops.getD i dop0 := ⟨_, rfl⟩
      have hgo := ol_get hlt
      rw [← hop] at hrun hgo
      have hob : op.2.2.2.length ≤ 1000000000 := by rw [hop]; exact ho.2 _ (getO_mem hlt)
      have hnl := hok.1
      have hal := act_len now op
      have habd : ∀ f ∈ act now op, f.2.length ≤ 1099511627776 := fun f hf => by have := act_le (okP_le hok) hob f hf; omega
      have ec : opC op = [.i .i64 op.1, .s op.2.1, .s op.2.2.1, .s op.2.2.2] := rfl
      simp -dsimp only [q1, q3, q27, q28, q29, hc, hgo, ec, go_sem, ↓reduceIte, Nat.reduceEqDiff, Int.reduceLE, Int.reduceLT, Int.reduceNeg, Int.reduceEq, Nat.reduceMul, Nat.reduceAdd, Nat.reduceLeDiff, reduceCtorEq]
      have h79' := h79 op
      have h80' := h80 now op (ok_srt hok) (by omega) (fun f hf => by have := okP_le hok f hf; omega) (by omega)
      rw [ec] at h79' h80'
      refine Call_val (own := true) (h79') (by simp [ExpOk, AV.pure]) (.inl rfl) ?_
      cases ef : form op
      · simp -dsimp only [q1, q3, q27, q28, q29, go_sem, ↓reduceIte, Nat.reduceEqDiff, Int.reduceLE, Int.reduceLT, Int.reduceNeg, Int.reduceEq, Nat.reduceMul, Nat.reduceAdd, Nat.reduceLeDiff, reduceCtorEq]
        exact fin (diskB_4 (by rw [← hrun]; exact runOps_no fun k => by rw [ef] at k; simp at k)) _ _ (by simp [upd_at])
      simp -dsimp only [q1, q3, q27, q28, q29, go_sem, ↓reduceIte, Nat.reduceEqDiff, Int.reduceLE, Int.reduceLT, Int.reduceNeg, Int.reduceEq, Nat.reduceMul, Nat.reduceAdd, Nat.reduceLeDiff, reduceCtorEq]
      refine Call_val (own := false) (h80') (by simp [ExpOk, AV.pure]) (.inr (by simp [AV.rooted, AV.ref1])) ?_
      cases eb : actB now op
      · simp -dsimp only [q1, q3, q27, q28, q29, go_sem, ↓reduceIte, Nat.reduceEqDiff, Int.reduceLE, Int.reduceLT, Int.reduceNeg, Int.reduceEq, Nat.reduceMul, Nat.reduceAdd, Nat.reduceLeDiff, reduceCtorEq]
        exact fin (diskB_4 (by rw [← hrun]; exact runOps_no fun k => by rw [eb] at k; simp at k)) _ _ (by simp [upd_at])
      simp -dsimp only [q1, q3, q27, q28, q29, go_sem, ↓reduceIte, Nat.reduceEqDiff, Int.reduceLE, Int.reduceLT, Int.reduceNeg, Int.reduceEq, Nat.reduceMul, Nat.reduceAdd, Nat.reduceLeDiff, reduceCtorEq]
      refine Call_val (own := true) (h78 (act now op) (by omega) habd) (by simp [ExpOk, AV.pure]) (.inl rfl) ?_
      cases ea : okF (act now op)
      · simp -dsimp only [q1, q3, q27, q28, q29, go_sem, ↓reduceIte, Nat.reduceEqDiff, Int.reduceLE, Int.reduceLT, Int.reduceNeg, Int.reduceEq, Nat.reduceMul, Nat.reduceAdd, Nat.reduceLeDiff, reduceCtorEq]
        exact fin (diskB_4 (by rw [← hrun]; exact runOps_no fun k => by rw [ea] at k; simp at k)) _ _ (by simp [upd_at])
      simp -dsimp only [q1, q3, q27, q28, q29, w1, go_sem, ↓reduceIte, Nat.reduceEqDiff, Int.reduceLE, Int.reduceLT, Int.reduceNeg, Int.reduceEq, Nat.reduceMul, Nat.reduceAdd, Nat.reduceLeDiff, reduceCtorEq]
      refine hA _ _ _ ?_ ?_
      · rw [runOps_yes ef eb ea] at hrun
        exact ⟨i + 1, act now op, by omega, okF_t.1 ea, hrun, by simp [upd_at, q1], by simp [hup_at, hh], by simp [upd_at], by simp [upd_at, q27], by simp [upd_at, q28], by simp [upd_at]⟩
      · rw [q29] at hm; simp [upd_at] at hm ⊢; omega
    · have hc : ¬ (i : Int) < (ops.length : Int) := by omega
      rw [List.drop_of_length_le (by omega), runOps] at hrun
      have hnl := hok.1
      simp -dsimp only [q1, q3, q27, q28, q29, hc, hh, diskO, go_sem, ↓reduceIte, Nat.reduceEqDiff, Int.reduceLE, Int.reduceLT, Int.reduceNeg, Int.reduceEq, Nat.reduceMul, Nat.reduceAdd, Nat.reduceLeDiff, reduceCtorEq]
      refine Call_val (own := true) (h81 now live (by omega)) (by simp [ExpOk, AV.pure]) (.inl rfl) ?_
      simp -dsimp only [go_sem, ↓reduceIte, Nat.reduceEqDiff, Int.reduceLE, Int.reduceLT, Int.reduceNeg, Int.reduceEq, Nat.reduceMul, Nat.reduceAdd, Nat.reduceLeDiff, reduceCtorEq]
      exact Fin_val (by simp [resV, upd_at, retA, diskB_5 e1 e2 (by omega) hrun.symm]) (by simp [resV, upd_at, ResOk])
theorem h36 (live safe : List File) (ops : List Dop) (hl : BdF live) (hsf : BdF safe) (ho : BdO ops) : HT 36 [disk live safe ops] [] (.b (diskB live safe ops)) true [] := by
  refine holds_of (c := Try.f36.body.getD .skip) (k := k36.1) (ts := [2]) HOk mixedT hintT Try.func36 (by kernel_rfl) (by kernel_rfl) (by kernel_rfl) k36.2 (by kernel_rfl) (le_of 1 _ (by kernel_rfl)) ?_
  unfold disk
  have fin : diskB live safe ops = false → ∀ g h, g 2 = .b false → FinB [2] [] (.b (diskB live safe ops)) true [] g h := fun hF g h hg => Fin_val (by simp [resV, retA, hg, hF]) (by simp [resV, ResOk, hg])
  simp -dsimp only [k36, go_sem, ↓reduceIte, Nat.reduceEqDiff, Int.reduceLE, Int.reduceLT, Int.reduceNeg, Int.reduceEq, Nat.reduceMul, Nat.reduceAdd, Nat.reduceLeDiff, reduceCtorEq]
  refine Call_val (own := true) (h82 live hl.2) (by simp [ExpOk, AV.pure]) (.inl rfl) ?_
  cases e1 : okF live
  · simp -dsimp only [go_sem, ↓reduceIte, Nat.reduceEqDiff, Int.reduceLE, Int.reduceLT, Int.reduceNeg, Int.reduceEq, Nat.reduceMul, Nat.reduceAdd, Nat.reduceLeDiff, reduceCtorEq]
    exact fin (diskB_1 e1) _ _ (by simp [upd_at])
  simp -dsimp only [go_sem, ↓reduceIte, Nat.reduceEqDiff, Int.reduceLE, Int.reduceLT, Int.reduceNeg, Int.reduceEq, Nat.reduceMul, Nat.reduceAdd, Nat.reduceLeDiff, reduceCtorEq]
  refine Call_val (own := true) (h82 safe hsf.2) (by simp [ExpOk, AV.pure]) (.inl rfl) ?_
  cases e2 : okF safe
  · simp -dsimp only [go_sem, ↓reduceIte, Nat.reduceEqDiff, Int.reduceLE, Int.reduceLT, Int.reduceNeg, Int.reduceEq, Nat.reduceMul, Nat.reduceAdd, Nat.reduceLeDiff, reduceCtorEq]
    exact fin (diskB_2 e2) _ _ (by simp [upd_at])
  by_cases h200 : ops.length > 200
  · have f200 : (ops.length : Int) > 200 := by omega
    simp -dsimp only [ol_len, f200, go_sem, ↓reduceIte, Nat.reduceEqDiff, Int.reduceLE, Int.reduceLT, Int.reduceNeg, Int.reduceEq, Nat.reduceMul, Nat.reduceAdd, Nat.reduceLeDiff, reduceCtorEq]
    exact fin (diskB_3 h200) _ _ (by simp [upd_at])
  have f200 : ¬ (ops.length : Int) > 200 := by omega
  simp -dsimp only [ol_len, f200, go_sem, ↓reduceIte, Nat.reduceEqDiff, Int.reduceLE, Int.reduceLT, Int.reduceNeg, Int.reduceEq, Nat.reduceMul, Nat.reduceAdd, Nat.reduceLeDiff, reduceCtorEq]
  refine K_loop (fun g h c => ∃ (i : Nat) (now : List File), i ≤ ops.length ∧ okP now ∧ runOps now (ops.drop i) = runOps safe ops ∧ g 1 = .ptr (.l 1) 1 0 0 ∧ h (.l 1) = some (diskO live safe ops) ∧ g 3 = .dat 2 (fl now) ∧ g 4 = i64 i) (fun g _ _ => match g 4 with | .i _ n => ops.length - n.toNat | _ => 0) ?_ ?_
  · exact ⟨0, safe, by omega, okF_t.1 e2, rfl, by simp [upd_at], by rw [hup_at, if_pos rfl]; rfl, by simp [upd_at], by simp [upd_at]⟩
  · rintro A n hA g h c ⟨i, now, hi, hok, hrun, q1, hh, q3, q4⟩ hm
    by_cases hlt : i < ops.length
    · have hc : (i : Int) < (ops.length : Int) := by omega
      have w1 : IntKind.i64.wrap ((i : Int) + 1) = ((i + 1 : Nat) : Int) := by rw [wr (by omega) (by omega)]; rfl
      rw [dropo_get hlt] at hrun
      obtain ⟨op, hop⟩ : ∃ op, op = ops.getD i dop0 := ⟨_, rfl⟩
      have hgo := ol_get hlt
      rw [← hop] at hrun hgo
      have hob : op.2.2.2.length ≤ 1000000000 := by rw [hop]; exact ho.2 _ (getO_mem hlt)
      have hnl := hok.1
      have hal := act_len now op
      have habd : ∀ f ∈ act now op, f.2.length ≤ 1099511627776 := fun f hf => by have := act_le (okP_le hok) hob f hf; omega
      have ec : opC op = [.i .i64 op.1, .s op.2.1, .s op.2.2.1, .s op.2.2.2] := rfl
      simp -dsimp only [q1, q3, q4, hc, hh, diskO, hgo, ec, ol_len, go_sem, ↓reduceIte, Nat.reduceEqDiff, Int.reduceLE, Int.reduceLT, Int.reduceNeg, Int.reduceEq, Nat.reduceMul, Nat.reduceAdd, Nat.reduceLeDiff, reduceCtorEq]
      have h84' := h84 op
      have h83' := h83 now op (ok_srt hok) (by omega) (fun f hf => by have := okP_le hok f hf; omega) (by omega)
      rw [ec] at h84' h83'
      refine Call_val (own := false) (h83') (by simp [ExpOk, AV.pure]) (.inr (by simp [AV.rooted, AV.ref1])) ?_
      cases eb : actB now op
      · simp -dsimp only [q1, q3, q4, hh, diskO, hgo, ec, go_sem, ↓reduceIte, Nat.reduceEqDiff, Int.reduceLE, Int.reduceLT, Int.reduceNeg, Int.reduceEq, Nat.reduceMul, Nat.reduceAdd, Nat.reduceLeDiff, reduceCtorEq]
        exact fin (diskB_4 (by rw [← hrun]; exact runOps_no fun k => by rw [eb] at k; simp at k)) _ _ (by simp [upd_at])
      simp -dsimp only [q1, q3, q4, hh, diskO, hgo, ec, go_sem, ↓reduceIte, Nat.reduceEqDiff, Int.reduceLE, Int.reduceLT, Int.reduceNeg, Int.reduceEq, Nat.reduceMul, Nat.reduceAdd, Nat.reduceLeDiff, reduceCtorEq]
      refine Call_val (own := true) (h84') (by simp [ExpOk, AV.pure]) (.inl rfl) ?_
      cases ef : form op
      · simp -dsimp only [q1, q3, q4, hh, diskO, go_sem, ↓reduceIte, Nat.reduceEqDiff, Int.reduceLE, Int.reduceLT, Int.reduceNeg, Int.reduceEq, Nat.reduceMul, Nat.reduceAdd, Nat.reduceLeDiff, reduceCtorEq]
        exact fin (diskB_4 (by rw [← hrun]; exact runOps_no fun k => by rw [ef] at k; simp at k)) _ _ (by simp [upd_at])
      simp -dsimp only [q1, q3, q4, hh, diskO, go_sem, ↓reduceIte, Nat.reduceEqDiff, Int.reduceLE, Int.reduceLT, Int.reduceNeg, Int.reduceEq, Nat.reduceMul, Nat.reduceAdd, Nat.reduceLeDiff, reduceCtorEq]
      refine Call_val (own := true) (h82 (act now op) habd) (by simp [ExpOk, AV.pure]) (.inl rfl) ?_
      cases ea : okF (act now op)
      · simp -dsimp only [q1, q3, q4, hh, diskO, go_sem, ↓reduceIte, Nat.reduceEqDiff, Int.reduceLE, Int.reduceLT, Int.reduceNeg, Int.reduceEq, Nat.reduceMul, Nat.reduceAdd, Nat.reduceLeDiff, reduceCtorEq]
        exact fin (diskB_4 (by rw [← hrun]; exact runOps_no fun k => by rw [ea] at k; simp at k)) _ _ (by simp [upd_at])
      simp -dsimp only [q1, q3, q4, hh, diskO, w1, go_sem, ↓reduceIte, Nat.reduceEqDiff, Int.reduceLE, Int.reduceLT, Int.reduceNeg, Int.reduceEq, Nat.reduceMul, Nat.reduceAdd, Nat.reduceLeDiff, reduceCtorEq]
      refine hA _ _ _ ?_ ?_
      · rw [runOps_yes ef eb ea] at hrun
        exact ⟨i + 1, act now op, by omega, okF_t.1 ea, hrun, by simp [upd_at, q1], by simp [hh, diskO], by simp [upd_at], by simp [upd_at]⟩
      · rw [q4] at hm; simp [upd_at] at hm ⊢; omega
    · have hc : ¬ (i : Int) < (ops.length : Int) := by omega
      rw [List.drop_of_length_le (by omega), runOps] at hrun
      have hnl := hok.1
      simp -dsimp only [q1, q3, q4, hc, hh, diskO, ol_len, go_sem, ↓reduceIte, Nat.reduceEqDiff, Int.reduceLE, Int.reduceLT, Int.reduceNeg, Int.reduceEq, Nat.reduceMul, Nat.reduceAdd, Nat.reduceLeDiff, reduceCtorEq]
      refine Call_val (own := true) (h85 now live (by omega)) (by simp [ExpOk, AV.pure]) (.inl rfl) ?_
      simp -dsimp only [go_sem, ↓reduceIte, Nat.reduceEqDiff, Int.reduceLE, Int.reduceLT, Int.reduceNeg, Int.reduceEq, Nat.reduceMul, Nat.reduceAdd, Nat.reduceLeDiff, reduceCtorEq]
      exact Fin_val (by simp [resV, upd_at, retA, diskB_5 e1 e2 (by omega) hrun.symm]) (by simp [resV, upd_at, ResOk])
end FrA

