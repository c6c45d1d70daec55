/- Values and rows of values, and their texts, by the program. Walked. No condition. -/
import Derived.Test.YtdlaklminigoaaaDoorAmVaF
import Derived.Test.YtdlaklminigoaaaDoorAmSfE
import Derived.Test.YtdlaklminigoaaaDoorAmSfC
set_option linter.all false
set_option linter.unusedSimpArgs false
set_option linter.unusedVariables false
set_option linter.deprecated false
/-! VaG -/
open Go Go.AM
namespace FrA
open Go.Proofs
set_option maxRecDepth 100000
set_option linter.unusedSimpArgs false
theorem h17 (n : Int) (h0 : -9223372036854775808 ≤ n) (h1 : n ≤ 9223372036854775807) : HT 17 [i64 n] [] (.s (Lib.itoa n)) true [] := by
  refine holds_of (c := Tryd.f17.body.getD .skip) (k := k17.1) (ts := [2]) HOk mixedT hintT Tryd.func17 (by kernel_rfl) (by kernel_rfl) (by kernel_rfl) k17.2 (by kernel_rfl) (le_of 1 _ (by kernel_rfl)) ?_
  simp -dsimp only [k17, go_sem, ↓reduceIte, Nat.reduceEqDiff, Int.reduceLE, Int.reduceLT, Int.reduceNeg, Int.reduceEq, Int.reduceBEq, Int.reduceBNe, Nat.reduceMul, Nat.reduceAdd, Nat.reduceLeDiff, reduceCtorEq, Int.reduceToNat]
  refine Call_val (own := true) (h29 n h0 h1) (by simp [ExpOk, AV.pure]) (.inl rfl) ?_
  simp -dsimp only [go_sem, ↓reduceIte, Nat.reduceEqDiff, Int.reduceLE, Int.reduceLT, Int.reduceNeg, Int.reduceEq, Int.reduceBEq, Int.reduceBNe, Nat.reduceMul, Nat.reduceAdd, Nat.reduceLeDiff, reduceCtorEq, Int.reduceToNat]
  exact Fin_val (by simp [resV, upd_at, retA]) (by simp [resV, upd_at, ResOk])
theorem v_take {l : List Vl} {i : Nat} (hi : i < l.length) : l.take (i + 1) = l.take i ++ [l.getD i v0] := by
  rw [List.take_add_one, List.getElem?_eq_getElem hi, List.getD_eq_getElem?_getD, List.getElem?_eq_getElem hi]; rfl
theorem h16 (l : List Vl) (most : Nat) (hl : l.length ≤ 1000000000000) (hm : most ≤ 1000000) : HT 16 [.dat 3 (vl l), i64 most] [] (.b (decide (l.length ≤ most ∧ ∀ v ∈ l, vOk v))) true [] := by
  refine holds_of (c := Tryd.f16.body.getD .skip) (k := k16.1) (ts := [4]) HOk mixedT hintT Tryd.func16 (by kernel_rfl) (by kernel_rfl) (by kernel_rfl) k16.2 (by kernel_rfl) (le_of 2 _ (by kernel_rfl)) ?_
  simp -dsimp only [k16, vl_len, go_sem, ↓reduceIte, Nat.reduceEqDiff, Int.reduceLE, Int.reduceLT, Int.reduceNeg, Int.reduceEq, Int.reduceBEq, Int.reduceBNe, Nat.reduceMul, Nat.reduceAdd, Nat.reduceLeDiff, reduceCtorEq, Int.reduceToNat]
  refine K_for l.length (fun i g h c => i ≤ most ∧ (∀ v ∈ l.take i, vOk v) ∧ g 1 = i64 most ∧ g 7 = .dat 3 (vl l) ∧ g 8 = i64 l.length ∧ g 9 = i64 i) ?_ ?_ ?_
  · exact ⟨by omega, by simp, by simp [upd_at, S_1], by simp [upd_at, S_0], by simp [upd_at], by simp [upd_at]⟩
  · rintro i A hi hA g h c ⟨him, ha, q1, q7, q8, q9⟩
    have hc : (i : Int) < (l.length : Int) := by omega
    have hg := vl_get hi
    have hmem := vl_mem hi
    have ht := v_take hi
    have w1 : IntKind.i64.wrap ((i : Int) + 1) = ((i + 1 : Nat) : Int) := by rw [wr (by omega) (by omega)]; rfl
    generalize l.getD i v0 = v at hg hmem ht
    have d := h28 v
    have ev : vC v = [.i .i64 v.1, .i .i64 v.2.1, .s v.2.2] := rfl
    rw [ev] at hg d
    by_cases he : i = most
    · have b1 : ((i : Int) == (most : Int)) = true := by simp [he]
      have e : decide (l.length ≤ most ∧ ∀ v ∈ l, vOk v) = false := decide_eq_false fun h3 => by omega
      simp -dsimp only [q1, q7, q8, q9, hc, hg, b1, go_sem, ↓reduceIte, Nat.reduceEqDiff, Int.reduceLE, Int.reduceLT, Int.reduceNeg, Int.reduceEq, Int.reduceBEq, Int.reduceBNe, Nat.reduceMul, Nat.reduceAdd, Nat.reduceLeDiff, reduceCtorEq, Int.reduceToNat]
      exact Fin_val (by simp only [resV, upd_at, retA, ↓reduceIte, e]) (by simp [resV, upd_at, ResOk])
    · have b1 : ((i : Int) == (most : Int)) = false := by simp; omega
      simp -dsimp only [q1, q7, q8, q9, hc, hg, b1, go_sem, ↓reduceIte, Nat.reduceEqDiff, Int.reduceLE, Int.reduceLT, Int.reduceNeg, Int.reduceEq, Int.reduceBEq, Int.reduceBNe, Nat.reduceMul, Nat.reduceAdd, Nat.reduceLeDiff, reduceCtorEq, Int.reduceToNat]
      refine Call_val (own := true) (d) (by simp [ExpOk, AV.pure]) (.inl rfl) ?_
      by_cases hv : vOk v
      · simp -dsimp only [hv, q9, w1, go_sem, ↓reduceIte, Nat.reduceEqDiff, Int.reduceLE, Int.reduceLT, Int.reduceNeg, Int.reduceEq, Int.reduceBEq, Int.reduceBNe, Nat.reduceMul, Nat.reduceAdd, Nat.reduceLeDiff, reduceCtorEq, Int.reduceToNat]
        refine hA _ _ _ ⟨by omega, ?_, by simp [upd_at, q1], by simp [upd_at, q7], by simp [upd_at, q8], by simp [upd_at]⟩
        intro x hx
        rw [ht, List.mem_append, List.mem_singleton] at hx
        rcases hx with hx | rfl
        · exact ha x hx
        · exact hv
      · have e : decide (l.length ≤ most ∧ ∀ v ∈ l, vOk v) = false := decide_eq_false fun h3 => hv (h3.2 v hmem)
        simp -dsimp only [hv, go_sem, ↓reduceIte, Nat.reduceEqDiff, Int.reduceLE, Int.reduceLT, Int.reduceNeg, Int.reduceEq, Int.reduceBEq, Int.reduceBNe, Nat.reduceMul, Nat.reduceAdd, Nat.reduceLeDiff, reduceCtorEq, Int.reduceToNat]
        exact Fin_val (by simp only [resV, upd_at, retA, ↓reduceIte, e]) (by simp [resV, upd_at, ResOk])
  · rintro A g h c ⟨him, ha, q1, q7, q8, q9⟩
    have hc : ¬ (l.length : Int) < (l.length : Int) := by omega
    rw [List.take_length] at ha
    have e : decide (l.length ≤ most ∧ ∀ v ∈ l, vOk v) = true := decide_eq_true ⟨him, ha⟩
    simp -dsimp only [q1, q7, q8, q9, hc, go_sem, ↓reduceIte, Nat.reduceEqDiff, Int.reduceLE, Int.reduceLT, Int.reduceNeg, Int.reduceEq, Int.reduceBEq, Int.reduceBNe, Nat.reduceMul, Nat.reduceAdd, Nat.reduceLeDiff, reduceCtorEq, Int.reduceToNat]
    exact Fin_val (by simp only [resV, upd_at, retA, ↓reduceIte, e]) (by simp [resV, upd_at, ResOk])
theorem h6 (l : List Vl) (hl : l.length ≤ 1000000000000) : HT 6 [.dat 3 (vl l)] [] (.s (rText l)) true [] := by
  refine holds_of (c := Tryd.f6.body.getD .skip) (k := k6.1) (ts := [2]) HOk mixedT hintT Tryd.func6 (by kernel_rfl) (by kernel_rfl) (by kernel_rfl) k6.2 (by kernel_rfl) (le_of 1 _ (by kernel_rfl)) ?_
  have d16 : HT 16 [.dat 3 (vl l), i64 16] [] (.b (decide (l.length ≤ 16 ∧ ∀ v ∈ l, vOk v))) true [] := h16 l 16 hl (by omega)
  simp -dsimp only [k6, go_sem, ↓reduceIte, Nat.reduceEqDiff, Int.reduceLE, Int.reduceLT, Int.reduceNeg, Int.reduceEq, Int.reduceBEq, Int.reduceBNe, Nat.reduceMul, Nat.reduceAdd, Nat.reduceLeDiff, reduceCtorEq, Int.reduceToNat]
  refine Call_val (own := true) (d16) (by simp [ExpOk, AV.pure]) (.inl rfl) ?_
  by_cases hk : l.length ≤ 16 ∧ ∀ v ∈ l, vOk v
  · have h20 := itoa_len20 (n := l.length) (by omega)
    simp -dsimp only [decide_eq_true hk, vl_len, go_sem, ↓reduceIte, Nat.reduceEqDiff, Int.reduceLE, Int.reduceLT, Int.reduceNeg, Int.reduceEq, Int.reduceBEq, Int.reduceBNe, Nat.reduceMul, Nat.reduceAdd, Nat.reduceLeDiff, reduceCtorEq, Int.reduceToNat]
    refine Call_val (own := true) (h17 (l.length : Int) (by omega) (by omega)) (by simp [ExpOk, AV.pure]) (.inl rfl) ?_
    simp -dsimp only [vl_len, go_sem, ↓reduceIte, Nat.reduceEqDiff, Int.reduceLE, Int.reduceLT, Int.reduceNeg, Int.reduceEq, Int.reduceBEq, Int.reduceBNe, Nat.reduceMul, Nat.reduceAdd, Nat.reduceLeDiff, reduceCtorEq, Int.reduceToNat]
    refine K_for l.length (fun i g h c => g 3 = .s (Lib.itoa (l.length : Int) ++ rowsB (l.take i)) ∧ g 12 = .dat 3 (vl l) ∧ g 13 = i64 l.length ∧ g 14 = i64 i) ?_ ?_ ?_
    · exact ⟨by simp [upd_at, rowsB], by simp [upd_at, S_0], by simp [upd_at], by simp [upd_at]⟩
    · rintro i A hi hA g h c ⟨q3, q12, q13, q14⟩
      have hc : (i : Int) < (l.length : Int) := by omega
      have hg := vl_get hi
      have hm := vl_mem hi
      have w1 : IntKind.i64.wrap ((i : Int) + 1) = ((i + 1 : Nat) : Int) := by rw [wr (by omega) (by omega)]; rfl
      have ht : rowsB (l.take (i + 1)) = rowsB (l.take i) ++ (44 :: vText (l.getD i v0)) := rowsB_take hi
      have hB := rowsB_len (l.take i)
      have hB2 : (l.take i).length ≤ l.length := by rw [List.length_take]; omega
      generalize l.getD i v0 = v at hg hm ht
      have hvl := vText_len38 v
      have d := h18 v
      have ev : vC v = [.i .i64 v.1, .i .i64 v.2.1, .s v.2.2] := rfl
      rw [ev] at hg d
      simp -dsimp only [q3, q12, q13, q14, hc, hg, go_sem, ↓reduceIte, Nat.reduceEqDiff, Int.reduceLE, Int.reduceLT, Int.reduceNeg, Int.reduceEq, Int.reduceBEq, Int.reduceBNe, Nat.reduceMul, Nat.reduceAdd, Nat.reduceLeDiff, reduceCtorEq, Int.reduceToNat]
      refine Call_val (own := true) (d) (by simp [ExpOk, AV.pure]) (.inl rfl) ?_
      simp -dsimp only [go_sem, ↓reduceIte, Nat.reduceEqDiff, Int.reduceLE, Int.reduceLT, Int.reduceNeg, Int.reduceEq, Int.reduceBEq, Int.reduceBNe, Nat.reduceMul, Nat.reduceAdd, Nat.reduceLeDiff, reduceCtorEq, Int.reduceToNat]
      refine VK_p (by first | omega | (simp only [List.length_cons, List.length_nil, List.length_append]; omega) | (refine ⟨by omega, by omega, ?_⟩; first | omega | (simp only [List.length_cons, List.length_nil, List.length_append]; omega)) | (simp; omega) | (simp; done)) ?_
      simp -dsimp only [go_sem, ↓reduceIte, Nat.reduceEqDiff, Int.reduceLE, Int.reduceLT, Int.reduceNeg, Int.reduceEq, Int.reduceBEq, Int.reduceBNe, Nat.reduceMul, Nat.reduceAdd, Nat.reduceLeDiff, reduceCtorEq, Int.reduceToNat]
      refine VK_p (by first | omega | (simp only [List.length_cons, List.length_nil, List.length_append]; omega) | (refine ⟨by omega, by omega, ?_⟩; first | omega | (simp only [List.length_cons, List.length_nil, List.length_append]; omega)) | (simp; omega) | (simp; done)) ?_
      simp -dsimp only [q14, w1, go_sem, ↓reduceIte, Nat.reduceEqDiff, Int.reduceLE, Int.reduceLT, Int.reduceNeg, Int.reduceEq, Int.reduceBEq, Int.reduceBNe, Nat.reduceMul, Nat.reduceAdd, Nat.reduceLeDiff, reduceCtorEq, Int.reduceToNat]
      exact hA _ _ _ ⟨by simp [upd_at, ht], by simp [upd_at, q12], by simp [upd_at, q13], by simp [upd_at]⟩
    · rintro A g h c ⟨q3, q12, q13, q14⟩
      have hc : ¬ (l.length : Int) < (l.length : Int) := by omega
      rw [List.take_length] at q3
      have hk' : rOk l := hk
      simp -dsimp only [q3, q12, q13, q14, hc, go_sem, ↓reduceIte, Nat.reduceEqDiff, Int.reduceLE, Int.reduceLT, Int.reduceNeg, Int.reduceEq, Int.reduceBEq, Int.reduceBNe, Nat.reduceMul, Nat.reduceAdd, Nat.reduceLeDiff, reduceCtorEq, Int.reduceToNat]
      exact Fin_val (by simp [resV, upd_at, retA, rText, hk', rRaw_eq]) (by simp [resV, upd_at, ResOk])
  · have hk' : ¬ rOk l := hk
    simp -dsimp only [decide_eq_false hk, go_sem, ↓reduceIte, Nat.reduceEqDiff, Int.reduceLE, Int.reduceLT, Int.reduceNeg, Int.reduceEq, Int.reduceBEq, Int.reduceBNe, Nat.reduceMul, Nat.reduceAdd, Nat.reduceLeDiff, reduceCtorEq, Int.reduceToNat]
    exact Fin_val (by simp [resV, upd_at, retA, rText, hk']) (by simp [resV, upd_at, ResOk])
theorem hx_max (b : UInt8) : max 0 (Lib.indexByte hexs b) = ((hx b : Nat) : Int) := by unfold hx; omega
theorem h35 (s : List UInt8) (hs : s.length ≤ 1000000000000) : HT 35 [.s s] [] (.s (rtL (s.drop 1))) true [] := by
  refine holds_of (c := Tryd.f35.body.getD .skip) (k := k35.1) (ts := [2]) HOk mixedT hintT Tryd.func35 (by kernel_rfl) (by kernel_rfl) (by kernel_rfl) k35.2 (by kernel_rfl) (le_of 1 _ (by kernel_rfl)) ?_
  simp -dsimp only [k35, go_sem, ↓reduceIte, Nat.reduceEqDiff, Int.reduceLE, Int.reduceLT, Int.reduceNeg, Int.reduceEq, Int.reduceBEq, Int.reduceBNe, Nat.reduceMul, Nat.reduceAdd, Nat.reduceLeDiff, reduceCtorEq, Int.reduceToNat]
  refine K_loop (fun g h c => ∃ (out : List UInt8) (i : Nat) (cap : Option Nat) (v : Nat) (q : Prop), rtL (s.drop 1) = out ++ rtL (s.drop i) ∧ out.length ≤ i ∧ (i ≤ s.length ∨ i = 1) ∧ g 0 = .s s ∧ g 3 = .sl (.l 6) v 0 out.length cap ∧ g 4 = i64 i ∧ h (.l 6) = some { ver := v, es := bts out, esz := 1, own := q })
    (fun g _ _ => match g 4 with | .i _ i => s.length - i.toNat | _ => 0) ?_ ?_
  · exact ⟨[], 1, some 0, 1, _, by simp, by simp, .inr rfl, by simp [upd_at, S_0], by simp [upd_at], by simp [upd_at], (by simp only [hup_at, newObs, ↓reduceIte, Nat.reduceEqDiff, reduceCtorEq, Rid.r.injEq, Rid.l.injEq, Nat.reduceAdd, Nat.zero_add, and_self, and_true, and_false, false_and, true_and] <;> rfl)⟩
  · rintro A k hA g h c ⟨out, i, cap, v, q, hI, hol, hil, q0, q3, q4, m6⟩ hm
    have w1 : IntKind.i64.wrap ((i : Int) + 1) = ((i + 1 : Nat) : Int) := by rw [wr (by omega) (by omega)]; rfl
    by_cases hend : i + 1 < s.length
    · have hc : ((i + 1 : Nat) : Int) < (s.length : Int) := by omega
      have hg := sget (s := s) (i := i) (by omega)
      have hg1 := sget (s := s) (i := i + 1) (by omega)
      have w2 : IntKind.i64.wrap ((i : Int) + 2) = ((i + 2 : Nat) : Int) := by rw [wr (by omega) (by omega)]; rfl
      have t37 : (37 : Int) = (((37 : UInt8).toNat : Nat) : Int) := rfl
      have fb : ∀ b : UInt8, AM.Flat [[AV.i .u8 b.toNat]] := fun b => bts_flat [b]
      have gb : ∀ b : UInt8, AM.Good [[AV.i .u8 b.toNat]] 1 := fun b => bts_good [b]
      have fin : ∀ (b : UInt8) (j : Nat) (g' : Slots) (h' : Heap) (c' v' : Nat) (cap' : Option Nat) (q' : Prop), rtL (s.drop i) = b :: rtL (s.drop j) → i < j → j ≤ s.length → g' 0 = .s s → g' 3 = .sl (.l 6) v' 0 (out.length + 1) cap' → g' 4 = i64 j →
          h' (.l 6) = some { ver := v', es := bts out ++ [[.i .u8 b.toNat]], esz := 1, own := q' } → A g' h' c' := by
        intro b j g' h' c' v' cap' q' hr hij hjl r0 r3 r4 n6
        refine hA _ _ _ ⟨out ++ [b], j, cap', v', q', by rw [hI, hr]; simp, by simp; omega, .inl hjl, r0, by rw [r3]; simp, r4, by rw [n6, bts_app]; rfl⟩ ?_
        rw [q4] at hm; rw [r4]; simp at hm ⊢; omega
      by_cases c5 : s.getD i 0 = 37
      · have b5 : (((s.getD i 0).toNat : Int) == 37) = true := bT (b := 37) c5
        by_cases c6 : i + 2 < s.length
        · have b6 : ((i + 2 : Nat) : Int) < (s.length : Int) := by omega
          have hg2 := sget (s := s) (i := i + 2) (by omega)
          have hr := rtL_hex c6 c5
          have x1 := hx_lt (s.getD (i + 1) 0)
          have x2 := hx_lt (s.getD (i + 2) 0)
          have u1 : (((s.getD (i + 1) 0).toNat : Int)).toNat.toUInt8 = s.getD (i + 1) 0 := by simp
          have u2 : (((s.getD (i + 2) 0).toNat : Int)).toNat.toUInt8 = s.getD (i + 2) 0 := by simp
          have dA := h53 hexs ((s.getD (i + 1) 0).toNat : Int)
          have dB := h53 hexs ((s.getD (i + 2) 0).toNat : Int)
          rw [u1] at dA; rw [u2] at dB
          have mA := hx_max (s.getD (i + 1) 0)
          have mB := hx_max (s.getD (i + 2) 0)
          generalize hx (s.getD (i + 1) 0) = a at hr x1 mA
          generalize hx (s.getD (i + 2) 0) = b at hr x2 mB
          have y1 : IntKind.i64.wrap ((a : Int) * 16) = ((a * 16 : Nat) : Int) := by rw [wr (by omega) (by omega)]; omega
          have y2 : IntKind.i64.wrap (((a * 16 : Nat) : Int) + (b : Int)) = ((a * 16 + b : Nat) : Int) := by rw [wr (by omega) (by omega)]; omega
          have y3 : IntKind.u8.wrap ((a * 16 + b : Nat) : Int) = (((UInt8.ofNat (a * 16 + b)).toNat : Nat) : Int) := by rw [w8 (by omega) (by omega), w8n (by omega)]
          have w5 : IntKind.i64.wrap (((i + 2 : Nat) : Int) + 1) = ((i + 3 : Nat) : Int) := by rw [wr (by omega) (by omega)]; omega
          unfold hexs at dA dB mA mB
          simp -dsimp only [q0, q3, q4, m6, w1, hc, hg, b5, w2, b6, hg1, go_sem, ↓reduceIte, Nat.reduceEqDiff, Int.reduceLE, Int.reduceLT, Int.reduceNeg, Int.reduceEq, Int.reduceBEq, Int.reduceBNe, Nat.reduceMul, Nat.reduceAdd, Nat.reduceLeDiff, reduceCtorEq, Int.reduceToNat]
          refine Call0_val true (dA) (by simp [AV.free, AV.pure]) (.inl rfl) ?_
          simp -dsimp only [mm2, List.foldlM_cons, List.foldlM_nil, Option.pure_def, Option.bind_eq_bind, mA, y1, q0, q4, w2, hg2, go_sem, ↓reduceIte, Nat.reduceEqDiff, Int.reduceLE, Int.reduceLT, Int.reduceNeg, Int.reduceEq, Int.reduceBEq, Int.reduceBNe, Nat.reduceMul, Nat.reduceAdd, Nat.reduceLeDiff, reduceCtorEq, Int.reduceToNat]
          refine Call0_val true (dB) (by simp [AV.free, AV.pure]) (.inl rfl) ?_
          simp -dsimp only [mm2, List.foldlM_cons, List.foldlM_nil, Option.pure_def, Option.bind_eq_bind, mB, y2, y3, q3, q4, w2, m6, bts_len, go_sem, ↓reduceIte, Nat.reduceEqDiff, Int.reduceLE, Int.reduceLT, Int.reduceNeg, Int.reduceEq, Int.reduceBEq, Int.reduceBNe, Nat.reduceMul, Nat.reduceAdd, Nat.reduceLeDiff, reduceCtorEq, Int.reduceToNat]
          refine EK_p ⟨⟨fun _ => fb _, gb _⟩, by unfold bigOk; omega, by omega⟩ ?_
          simp -dsimp only [w5, go_sem, ↓reduceIte, Nat.reduceEqDiff, Int.reduceLE, Int.reduceLT, Int.reduceNeg, Int.reduceEq, Int.reduceBEq, Int.reduceBNe, Nat.reduceMul, Nat.reduceAdd, Nat.reduceLeDiff, reduceCtorEq, Int.reduceToNat]
          exact fin _ (i + 3) _ _ _ _ _ _ hr (by omega) (by omega) (by simp [upd_at, q0]) (by simp only [upd_at, ↓reduceIte, Nat.reduceEqDiff] <;> rfl) (by simp only [upd_at, ↓reduceIte, Nat.reduceEqDiff] <;> rfl) (by simp only [hup_at, newObs, ↓reduceIte, Nat.reduceEqDiff, reduceCtorEq, Rid.r.injEq, Rid.l.injEq, Nat.reduceAdd, Nat.zero_add, and_self, and_true, and_false, false_and, true_and] <;> rfl)
        · have b6 : ¬ ((i + 2 : Nat) : Int) < (s.length : Int) := by omega
          have hr := rtL_one hend fun h3 => c6 h3.2
          simp -dsimp only [q0, q3, q4, m6, w1, hc, hg, b5, w2, b6, bts_len, go_sem, ↓reduceIte, Nat.reduceEqDiff, Int.reduceLE, Int.reduceLT, Int.reduceNeg, Int.reduceEq, Int.reduceBEq, Int.reduceBNe, Nat.reduceMul, Nat.reduceAdd, Nat.reduceLeDiff, reduceCtorEq, Int.reduceToNat]
          refine EK_p ⟨⟨fun _ => fb _, gb _⟩, by unfold bigOk; omega, by omega⟩ ?_
          simp -dsimp only [q4, w1, go_sem, ↓reduceIte, Nat.reduceEqDiff, Int.reduceLE, Int.reduceLT, Int.reduceNeg, Int.reduceEq, Int.reduceBEq, Int.reduceBNe, Nat.reduceMul, Nat.reduceAdd, Nat.reduceLeDiff, reduceCtorEq, Int.reduceToNat]
          exact fin _ (i + 1) _ _ _ _ _ _ hr (by omega) (by omega) (by simp [upd_at, q0]) (by simp only [upd_at, ↓reduceIte, Nat.reduceEqDiff] <;> rfl) (by simp only [upd_at, ↓reduceIte, Nat.reduceEqDiff] <;> rfl) (by simp only [hup_at, newObs, ↓reduceIte, Nat.reduceEqDiff, reduceCtorEq, Rid.r.injEq, Rid.l.injEq, Nat.reduceAdd, Nat.zero_add, and_self, and_true, and_false, false_and, true_and] <;> rfl)
      · have b5 : (((s.getD i 0).toNat : Int) == 37) = false := bF (b := 37) c5
        have hr := rtL_one hend fun h3 => c5 h3.1
        simp -dsimp only [q0, q3, q4, m6, w1, hc, hg, b5, bts_len, go_sem, ↓reduceIte, Nat.reduceEqDiff, Int.reduceLE, Int.reduceLT, Int.reduceNeg, Int.reduceEq, Int.reduceBEq, Int.reduceBNe, Nat.reduceMul, Nat.reduceAdd, Nat.reduceLeDiff, reduceCtorEq, Int.reduceToNat]
        refine EK_p ⟨⟨fun _ => fb _, gb _⟩, by unfold bigOk; omega, by omega⟩ ?_
        simp -dsimp only [q4, w1, go_sem, ↓reduceIte, Nat.reduceEqDiff, Int.reduceLE, Int.reduceLT, Int.reduceNeg, Int.reduceEq, Int.reduceBEq, Int.reduceBNe, Nat.reduceMul, Nat.reduceAdd, Nat.reduceLeDiff, reduceCtorEq, Int.reduceToNat]
        exact fin _ (i + 1) _ _ _ _ _ _ hr (by omega) (by omega) (by simp [upd_at, q0]) (by simp only [upd_at, ↓reduceIte, Nat.reduceEqDiff] <;> rfl) (by simp only [upd_at, ↓reduceIte, Nat.reduceEqDiff] <;> rfl) (by simp only [hup_at, newObs, ↓reduceIte, Nat.reduceEqDiff, reduceCtorEq, Rid.r.injEq, Rid.l.injEq, Nat.reduceAdd, Nat.zero_add, and_self, and_true, and_false, false_and, true_and] <;> rfl)
    · have hc : ¬ ((i + 1 : Nat) : Int) < (s.length : Int) := by omega
      have hr : rtL (s.drop 1) = out := by rw [hI, rtL_end hend, List.append_nil]
      simp -dsimp only [q0, q3, q4, m6, w1, hc, bytesOf_bts, bts_len, go_sem, ↓reduceIte, Nat.reduceEqDiff, Int.reduceLE, Int.reduceLT, Int.reduceNeg, Int.reduceEq, Int.reduceBEq, Int.reduceBNe, Nat.reduceMul, Nat.reduceAdd, Nat.reduceLeDiff, reduceCtorEq, Int.reduceToNat]
      exact Fin_val (by simp only [resV, upd_at, ↓reduceIte, retA, hr]) (by simp [resV, upd_at, ResOk])
end FrA

