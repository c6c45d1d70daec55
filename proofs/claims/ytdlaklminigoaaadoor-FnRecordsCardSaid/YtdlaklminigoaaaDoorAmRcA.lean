/- FnRecords walked: true at every input. No condition. -/
import Derived.Test.YtdlaklminigoaaaDoorAmDrB
import Derived.Test.YtdlaklminigoaaaDoorAmVaH
import Derived.Test.YtdlaklminigoaaaDoorAmFun7
set_option linter.all false
set_option linter.unusedSimpArgs false
set_option linter.unusedVariables false
set_option linter.deprecated false
/-! RcA -/
open Go Go.AM
namespace FrA
open Go.Proofs
set_option maxRecDepth 100000
set_option linter.unusedSimpArgs false
theorem h9 (a : List Vl) (hl : a.length ≤ 1000000000000) : HT 9 [.dat 3 (vl a), .dat 3 (vl a)] [] (.b true) true [] := by
  refine holds_of (c := Tryd.f9.body.getD .skip) (k := k9.1) (ts := [4]) HOk mixedT hintT Tryd.func9 (by kernel_rfl) (by kernel_rfl) (by kernel_rfl) k9.2 (by kernel_rfl) (le_of 2 _ (by kernel_rfl)) ?_
  have hc : ((a.length : Int) != (a.length : Int)) = false := by simp
  have f0 : ∀ k : Int, (k == k) = true := fun k => by simp
  have f1 : ∀ k : List UInt8, (k == k) = true := fun k => by simp
  simp -dsimp only [k9, hc, vl_len, go_sem, ↓reduceIte, Nat.reduceEqDiff, Int.reduceLE, Int.reduceLT, Int.reduceNeg, Int.reduceEq, Int.reduceBEq, Int.reduceBNe, Nat.reduceMul, Nat.reduceAdd, Nat.reduceLeDiff, reduceCtorEq, Int.reduceToNat]
  refine K_for a.length (fun i g h _ => g 0 = .dat 3 (vl a) ∧ g 1 = .dat 3 (vl a) ∧ g 5 = i64 i) ?_ ?_ ?_
  · exact ⟨by simp [upd_at, S_0], by simp [upd_at, S_1], by simp [upd_at]⟩
  · rintro i A hi hA g h c ⟨q0, q1, q5⟩
    have hc : (i : Int) < (a.length : Int) := by omega
    have w1 : IntKind.i64.wrap ((i : Int) + 1) = ((i + 1 : Nat) : Int) := by rw [wr (by omega) (by omega)]; rfl
    have hg := vl_get hi
    generalize a.getD i v0 = v at hg
    have ev : vC v = [.i .i64 v.1, .i .i64 v.2.1, .s v.2.2] := rfl
    rw [ev] at hg
    simp -dsimp only [q0, q1, q5, hc, hg, f0, f1, vl_len, go_sem, ↓reduceIte, Nat.reduceEqDiff, Int.reduceLE, Int.reduceLT, Int.reduceNeg, Int.reduceEq, Int.reduceBEq, Int.reduceBNe, Nat.reduceMul, Nat.reduceAdd, Nat.reduceLeDiff, reduceCtorEq, Int.reduceToNat]
    have ht : (true != true) = false := rfl
    simp -dsimp only [ht, q5, w1, go_sem, ↓reduceIte, Nat.reduceEqDiff, Int.reduceLE, Int.reduceLT, Int.reduceNeg, Int.reduceEq, Int.reduceBEq, Int.reduceBNe, Nat.reduceMul, Nat.reduceAdd, Nat.reduceLeDiff, reduceCtorEq, Int.reduceToNat]
    exact hA _ _ _ ⟨by simp [upd_at, q0], by simp [upd_at, q1], by simp [upd_at]⟩
  · rintro A g h c ⟨q0, q1, q5⟩
    have hc : ¬ (a.length : Int) < (a.length : Int) := by omega
    simp -dsimp only [q0, q1, q5, hc, vl_len, go_sem, ↓reduceIte, Nat.reduceEqDiff, Int.reduceLE, Int.reduceLT, Int.reduceNeg, Int.reduceEq, Int.reduceBEq, Int.reduceBNe, Nat.reduceMul, Nat.reduceAdd, Nat.reduceLeDiff, reduceCtorEq, Int.reduceToNat]
    exact Fin_val (by simp [resV, upd_at, retA]) (by simp [resV, upd_at, ResOk])
/-- What is read, by value. -/
def rdV' (x : Option (List Vl)) : AV := .tup [.dat 3 (vl (x.getD [])), .b x.isSome]
theorem rdr_val {f : Nat} {args : List AV} {x : Option (List Vl)} (h : HT f args [] (rdrR x) true (rdrO x)) : HT f args [] (rdV' x) false [] := by
  have h1 : HT f args [] (byA (rdrO x) 0 (rdrR x)) false [] := by
    refine Holds.byval h ?_
    rintro r o' ⟨rfl, rfl⟩
    refine ⟨Nat.zero_le _, ?_, by simp⟩
    intro b hb
    cases x with
    | none => cases hb
    | some l => simp [rdrO] at hb; subst hb; exact vl_pure l
  refine Holds.weak h1 ?_
  rintro r o' ⟨rfl, rfl⟩
  refine ⟨_, ?_, rfl, rfl⟩
  cases x with
  | none =>
    refine .tup _ _ rfl fun j y z hy hz => ?_
    match j, hy, hz with
    | 0, hy, hz => simp [byA, byL, rdrR, rdV'] at hy hz; subst hy; subst hz; exact .nils 3
    | 1, hy, hz => simp [byA, byL, rdrR, rdV'] at hy hz; subst hy; subst hz; exact .refl _
  | some l =>
    have : byA (rdrO (some l)) 0 (rdrR (some l)) = rdV' (some l) := by
      simp [byA, byL, rdrR, rdrO, rdV', vO, sub_vl]
    rw [this]; exact .refl _
theorem h3 (code : List UInt8) : HT 3 [.dat 1 (bts code)] [] (.b true) true [] := by
  refine holds_of (c := Tryd.f3.body.getD .skip) (k := k3.1) (ts := [2]) HOk mixedT hintT Tryd.func3 (by kernel_rfl) (by kernel_rfl) (by kernel_rfl) k3.2 (by kernel_rfl) (le_of 1 _ (by kernel_rfl)) ?_
  simp -dsimp only [k3, go_sem, ↓reduceIte, Nat.reduceEqDiff, Int.reduceLE, Int.reduceLT, Int.reduceNeg, Int.reduceEq, Int.reduceBEq, Int.reduceBNe, Nat.reduceMul, Nat.reduceAdd, Nat.reduceLeDiff, reduceCtorEq, Int.reduceToNat]
  refine Call_val (own := true) (h4 code) (by simp [ExpOk, AV.pure]) (.inl rfl) ?_
  by_cases hb : (code.length : Int) > 1048576
  · simp -dsimp only [hb, go_sem, ↓reduceIte, Nat.reduceEqDiff, Int.reduceLE, Int.reduceLT, Int.reduceNeg, Int.reduceEq, Int.reduceBEq, Int.reduceBNe, Nat.reduceMul, Nat.reduceAdd, Nat.reduceLeDiff, reduceCtorEq, Int.reduceToNat]
    exact Fin_val (by simp [resV, upd_at, retA]) (by simp [resV, upd_at, ResOk])
  have hc : code.length ≤ 1048576 := by omega
  simp -dsimp only [hb, go_sem, ↓reduceIte, Nat.reduceEqDiff, Int.reduceLE, Int.reduceLT, Int.reduceNeg, Int.reduceEq, Int.reduceBEq, Int.reduceBNe, Nat.reduceMul, Nat.reduceAdd, Nat.reduceLeDiff, reduceCtorEq, Int.reduceToNat]
  refine Call_vals (own := false) (Φ := rowΦ 6) (by simpa [expL, expA] using h5 code hc) (by simp [ExpOk, AV.pure]) (.inr (by simp [AV.rooted])) ?_
  rintro r o' ⟨l, rfl, hl, rfl⟩
  refine ⟨rfl, by simp [impA], ?_⟩
  have hrl := rText_len l
  have d7 : HT 7 [.s (rText l)] [] (rdV' (rRd (rText l))) false [] := rdr_val (h7 (rText l) (by omega))
  unfold rdV' at d7
  simp -dsimp only [go_sem, ↓reduceIte, Nat.reduceEqDiff, Int.reduceLE, Int.reduceLT, Int.reduceNeg, Int.reduceEq, Int.reduceBEq, Int.reduceBNe, Nat.reduceMul, Nat.reduceAdd, Nat.reduceLeDiff, reduceCtorEq, Int.reduceToNat]
  refine Call_val (own := true) (h6 l (by omega)) (by simp [ExpOk, AV.pure]) (.inl rfl) ?_
  simp -dsimp only [go_sem, ↓reduceIte, Nat.reduceEqDiff, Int.reduceLE, Int.reduceLT, Int.reduceNeg, Int.reduceEq, Int.reduceBEq, Int.reduceBNe, Nat.reduceMul, Nat.reduceAdd, Nat.reduceLeDiff, reduceCtorEq, Int.reduceToNat]
  refine Call_val (own := false) (d7) (by simp [ExpOk, AV.pure]) (.inr (by simp [AV.rooted, AV.ref1])) ?_
  simp -dsimp only [go_sem, ↓reduceIte, Nat.reduceEqDiff, Int.reduceLE, Int.reduceLT, Int.reduceNeg, Int.reduceEq, Int.reduceBEq, Int.reduceBNe, Nat.reduceMul, Nat.reduceAdd, Nat.reduceLeDiff, reduceCtorEq, Int.reduceToNat]
  refine Call_val (own := true) (h8 l (by omega)) (by simp [ExpOk, AV.pure]) (.inl rfl) ?_
  have f0 : (!(rText l == rText l)) = false := by simp
  have f1 : ∀ x : Bool, (x == x) = true := fun x => by cases x <;> rfl
  have f2 : (true == false) = false := rfl
  have f3 : (false == true) = false := rfl
  have f4 : (true != true) = false := rfl
  have f5 : (false != false) = false := rfl
  by_cases hk : rOk l
  · have e1 : rText l = rRaw l := by unfold rText; rw [if_pos hk]
    have e2 : rRd (rText l) = some l := by rw [e1]; exact rRd_raw hk
    have e3 : (rText l == []) = false := by rw [nil_beq]; simp [e1, rRaw_ne]
    simp -dsimp only [f0, e2, e3, Option.isSome_some, Option.getD_some, f4, go_sem, ↓reduceIte, Nat.reduceEqDiff, Int.reduceLE, Int.reduceLT, Int.reduceNeg, Int.reduceEq, Int.reduceBEq, Int.reduceBNe, Nat.reduceMul, Nat.reduceAdd, Nat.reduceLeDiff, reduceCtorEq, Int.reduceToNat]
    refine Call_val (own := true) (h9 l (by omega)) (by simp [ExpOk, AV.pure]) (.inl rfl) ?_
    simp -dsimp only [go_sem, ↓reduceIte, Nat.reduceEqDiff, Int.reduceLE, Int.reduceLT, Int.reduceNeg, Int.reduceEq, Int.reduceBEq, Int.reduceBNe, Nat.reduceMul, Nat.reduceAdd, Nat.reduceLeDiff, reduceCtorEq, Int.reduceToNat]
    refine Call_vals (own := false) (Φ := strΦ 1001) (by simpa [expL, expA] using h10 code hc) (by simp [ExpOk, AV.pure]) (.inr (by simp [AV.rooted])) ?_
    rintro r o' ⟨t, rfl, ht, rfl⟩
    refine ⟨rfl, by simp [impA], ?_⟩
    have e7 : HT 7 [.s t] [] (rdV' (rRd t)) false [] := rdr_val (h7 t (by omega))
    have e11 : HT 11 [.s t] [] (rdV' (rRd t)) false [] := rdr_val (h11 t (by omega))
    unfold rdV' at e7 e11
    simp -dsimp only [go_sem, ↓reduceIte, Nat.reduceEqDiff, Int.reduceLE, Int.reduceLT, Int.reduceNeg, Int.reduceEq, Int.reduceBEq, Int.reduceBNe, Nat.reduceMul, Nat.reduceAdd, Nat.reduceLeDiff, reduceCtorEq, Int.reduceToNat]
    refine Call_val (own := false) (e7) (by simp [ExpOk, AV.pure]) (.inr (by simp [AV.rooted, AV.ref1])) ?_
    simp -dsimp only [go_sem, ↓reduceIte, Nat.reduceEqDiff, Int.reduceLE, Int.reduceLT, Int.reduceNeg, Int.reduceEq, Int.reduceBEq, Int.reduceBNe, Nat.reduceMul, Nat.reduceAdd, Nat.reduceLeDiff, reduceCtorEq, Int.reduceToNat]
    refine Call_val (own := false) (e11) (by simp [ExpOk, AV.pure]) (.inr (by simp [AV.rooted, AV.ref1])) ?_
    cases hk : rRd t with
    | none =>
      simp -dsimp only [hk, Option.isSome_none, Option.getD_none, f1, go_sem, ↓reduceIte, Nat.reduceEqDiff, Int.reduceLE, Int.reduceLT, Int.reduceNeg, Int.reduceEq, Int.reduceBEq, Int.reduceBNe, Nat.reduceMul, Nat.reduceAdd, Nat.reduceLeDiff, reduceCtorEq, Int.reduceToNat]
      exact Fin_val (by simp [resV, upd_at, retA]) (by simp [resV, upd_at, ResOk])
    | some x =>
      obtain ⟨h1, h2⟩ := rRd_some hk
      have h3 : rText x = t := by unfold rText; rw [if_pos h1, h2]
      have h4 : (rText x == t) = true := by simp [h3]
      simp -dsimp only [hk, Option.isSome_some, Option.getD_some, f1, go_sem, ↓reduceIte, Nat.reduceEqDiff, Int.reduceLE, Int.reduceLT, Int.reduceNeg, Int.reduceEq, Int.reduceBEq, Int.reduceBNe, Nat.reduceMul, Nat.reduceAdd, Nat.reduceLeDiff, reduceCtorEq, Int.reduceToNat]
      refine Call_val (own := true) (h6 x (by have := h1.1; omega)) (by simp [ExpOk, AV.pure]) (.inl rfl) ?_
      simp -dsimp only [h4, go_sem, ↓reduceIte, Nat.reduceEqDiff, Int.reduceLE, Int.reduceLT, Int.reduceNeg, Int.reduceEq, Int.reduceBEq, Int.reduceBNe, Nat.reduceMul, Nat.reduceAdd, Nat.reduceLeDiff, reduceCtorEq, Int.reduceToNat]
      exact Fin_val (by simp [resV, upd_at, retA]) (by simp [resV, upd_at, ResOk])
  · have e1 : rText l = [] := by unfold rText; rw [if_neg hk]
    have e2 : rRd (rText l) = none := by
      cases h : rRd (rText l) with
      | none => rfl
      | some x => exact absurd e1 (rr_words h).2.2
    have e3 : (rText l == []) = true := by simp [e1]
    simp -dsimp only [f0, e2, e3, Option.isSome_none, Option.getD_none, f5, go_sem, ↓reduceIte, Nat.reduceEqDiff, Int.reduceLE, Int.reduceLT, Int.reduceNeg, Int.reduceEq, Int.reduceBEq, Int.reduceBNe, Nat.reduceMul, Nat.reduceAdd, Nat.reduceLeDiff, reduceCtorEq, Int.reduceToNat]
    refine Call_vals (own := false) (Φ := strΦ 1001) (by simpa [expL, expA] using h10 code hc) (by simp [ExpOk, AV.pure]) (.inr (by simp [AV.rooted])) ?_
    rintro r o' ⟨t, rfl, ht, rfl⟩
    refine ⟨rfl, by simp [impA], ?_⟩
    have e7 : HT 7 [.s t] [] (rdV' (rRd t)) false [] := rdr_val (h7 t (by omega))
    have e11 : HT 11 [.s t] [] (rdV' (rRd t)) false [] := rdr_val (h11 t (by omega))
    unfold rdV' at e7 e11
    simp -dsimp only [go_sem, ↓reduceIte, Nat.reduceEqDiff, Int.reduceLE, Int.reduceLT, Int.reduceNeg, Int.reduceEq, Int.reduceBEq, Int.reduceBNe, Nat.reduceMul, Nat.reduceAdd, Nat.reduceLeDiff, reduceCtorEq, Int.reduceToNat]
    refine Call_val (own := false) (e7) (by simp [ExpOk, AV.pure]) (.inr (by simp [AV.rooted, AV.ref1])) ?_
    simp -dsimp only [go_sem, ↓reduceIte, Nat.reduceEqDiff, Int.reduceLE, Int.reduceLT, Int.reduceNeg, Int.reduceEq, Int.reduceBEq, Int.reduceBNe, Nat.reduceMul, Nat.reduceAdd, Nat.reduceLeDiff, reduceCtorEq, Int.reduceToNat]
    refine Call_val (own := false) (e11) (by simp [ExpOk, AV.pure]) (.inr (by simp [AV.rooted, AV.ref1])) ?_
    cases hk : rRd t with
    | none =>
      simp -dsimp only [hk, Option.isSome_none, Option.getD_none, f1, go_sem, ↓reduceIte, Nat.reduceEqDiff, Int.reduceLE, Int.reduceLT, Int.reduceNeg, Int.reduceEq, Int.reduceBEq, Int.reduceBNe, Nat.reduceMul, Nat.reduceAdd, Nat.reduceLeDiff, reduceCtorEq, Int.reduceToNat]
      exact Fin_val (by simp [resV, upd_at, retA]) (by simp [resV, upd_at, ResOk])
    | some x =>
      obtain ⟨h1, h2⟩ := rRd_some hk
      have h3 : rText x = t := by unfold rText; rw [if_pos h1, h2]
      have h4 : (rText x == t) = true := by simp [h3]
      simp -dsimp only [hk, Option.isSome_some, Option.getD_some, f1, go_sem, ↓reduceIte, Nat.reduceEqDiff, Int.reduceLE, Int.reduceLT, Int.reduceNeg, Int.reduceEq, Int.reduceBEq, Int.reduceBNe, Nat.reduceMul, Nat.reduceAdd, Nat.reduceLeDiff, reduceCtorEq, Int.reduceToNat]
      refine Call_val (own := true) (h6 x (by have := h1.1; omega)) (by simp [ExpOk, AV.pure]) (.inl rfl) ?_
      simp -dsimp only [h4, go_sem, ↓reduceIte, Nat.reduceEqDiff, Int.reduceLE, Int.reduceLT, Int.reduceNeg, Int.reduceEq, Int.reduceBEq, Int.reduceBNe, Nat.reduceMul, Nat.reduceAdd, Nat.reduceLeDiff, reduceCtorEq, Int.reduceToNat]
      exact Fin_val (by simp [resV, upd_at, retA]) (by simp [resV, upd_at, ResOk])
end FrA

