/- Values and rows of values, read from their texts by the reference. Walked. No condition. -/
import Derived.Test.YtdlaklminigoaaaDoorAmVaD
set_option linter.all false
set_option linter.unusedSimpArgs false
set_option linter.unusedVariables false
set_option linter.deprecated false
/-! VaE -/
open Go Go.AM
namespace FrA
open Go.Proofs
set_option maxRecDepth 100000
set_option linter.unusedSimpArgs false
theorem bT {a b : UInt8} (h : a = b) : (((a.toNat : Nat) : Int) == ((b.toNat : Nat) : Int)) = true := by subst h; simp
theorem bF {a b : UInt8} (h : ¬ a = b) : (((a.toNat : Nat) : Int) == ((b.toNat : Nat) : Int)) = false := by
  simp only [beq_eq_false_iff_ne, ne_eq]
  intro h3; exact h (UInt8.toNat_inj.1 (by omega))
/-- A value and a truth, the value in a cell. -/
theorem finRd {v : Vl} {b : Bool} {q : Prop} {g : Slots} {h : Heap} {c : Nat} {R : AV} (r2 : g 2 = .ptr (.l 2) 1 0 0) (r3 : g 3 = .b b) (n2 : h (.l 2) = some { ver := 1, es := [vC v], esz := 3, own := q, fixed := true }) (hR : R = .tup [.agg (vC v), .b b]) :
    FinC [(2, some (true, 3)), (3, none)] [] true (fun r' o' => r' = R ∧ o' = []) .ret g h c := by
  subst hR
  obtain ⟨k, n, s⟩ := v
  refine finC_val (p := q → AM.Flat [vC (k, n, s)]) (l := [.agg (vC (k, n, s)), .b b]) ?_ (fun _ => vl_flat [(k, n, s)]) ?_ ?_
  · simp [resM, resE, r2, r3, loadF, cur, n2, yes, vC]
  · simp [resOne, retA, retL, vC]
  · simp [resOne, ResOk, ResL, vC]
def rdvR (o : Option Vl) : AV := .tup [.agg (vC (o.getD v0)), .b o.isSome]
/-- The end: is that what its text would be? -/
theorem rdv_tail (s : List UInt8) (v : Vl) (g : Slots) (h : Heap) (c : Nat) (q q2 : Prop) (e0 : g 0 = .s s) (e2 : g 2 = .ptr (.l 2) 1 0 0) (e4 : g 4 = .ptr (.l 4) 2 0 0)
    (m2 : h (.l 2) = some { ver := 1, es := [[i64 0, i64 0, .s []]], esz := 3, own := q, fixed := true }) (m4 : h (.l 4) = some { ver := 2, es := [vC v], esz := 3, own := q2, fixed := true }) :
    RunK HC (snd (snd (snd k25.1))) (.done (FinC [(2, some (true, 3)), (3, none)] [] true fun r' o' => r' = rdvR (if vText v = s then some v else none) ∧ o' = [])) g h c := by
  have d39 := h39 v
  have fl : ¬ q2 ∨ q2 := (Classical.em q2).symm
  obtain ⟨k, n, t⟩ := v
  simp only [vC] at m4 d39
  have ft : q2 → AM.Flat [[AV.i .i64 k, .i .i64 n, .s t]] := fun _ e he => by simp at he; subst he; intro c hc; simp at hc; rcases hc with rfl | rfl | rfl <;> rfl
  simp -dsimp only [snd, k25, e0, e2, e4, m4, go_sem, ↓reduceIte, Nat.reduceEqDiff, Int.reduceLE, Int.reduceLT, Int.reduceNeg, Int.reduceEq, Int.reduceBEq, Int.reduceBNe, Nat.reduceMul, Nat.reduceAdd, Nat.reduceLeDiff, reduceCtorEq, Int.reduceToNat]
  refine VK_p ft ?_
  simp -dsimp only [go_sem, ↓reduceIte, Nat.reduceEqDiff, Int.reduceLE, Int.reduceLT, Int.reduceNeg, Int.reduceEq, Int.reduceBEq, Int.reduceBNe, Nat.reduceMul, Nat.reduceAdd, Nat.reduceLeDiff, reduceCtorEq, Int.reduceToNat]
  refine Call_val (own := true) (d39) (by simp [ExpOk, AV.pure]) (.inl rfl) ?_
  by_cases ht : vText (k, n, t) = s
  · have b1 : (!(vText (k, n, t) == s)) = false := by simp [ht]
    simp -dsimp only [b1, e0, e2, e4, m4, m2, go_sem, ↓reduceIte, Nat.reduceEqDiff, Int.reduceLE, Int.reduceLT, Int.reduceNeg, Int.reduceEq, Int.reduceBEq, Int.reduceBNe, Nat.reduceMul, Nat.reduceAdd, Nat.reduceLeDiff, reduceCtorEq, Int.reduceToNat]
    refine VK_p ft ?_
    simp -dsimp only [e2, m2, go_sem, ↓reduceIte, Nat.reduceEqDiff, Int.reduceLE, Int.reduceLT, Int.reduceNeg, Int.reduceEq, Int.reduceBEq, Int.reduceBNe, Nat.reduceMul, Nat.reduceAdd, Nat.reduceLeDiff, reduceCtorEq, Int.reduceToNat]
    rw [if_pos ht]
    exact finRd (v := (k, n, t)) (by simp [upd_at, e2]) (by simp [upd_at]) (by simp only [hup_at, newObs, ↓reduceIte, Nat.reduceEqDiff, reduceCtorEq, Rid.r.injEq, Rid.l.injEq, Nat.reduceAdd, Nat.zero_add, and_self, and_true, and_false, false_and, true_and] <;> rfl) rfl
  · have b1 : (!(vText (k, n, t) == s)) = true := by simp [ht]
    simp -dsimp only [b1, e0, e2, e4, m4, m2, go_sem, ↓reduceIte, Nat.reduceEqDiff, Int.reduceLE, Int.reduceLT, Int.reduceNeg, Int.reduceEq, Int.reduceBEq, Int.reduceBNe, Nat.reduceMul, Nat.reduceAdd, Nat.reduceLeDiff, reduceCtorEq, Int.reduceToNat]
    rw [if_neg ht]
    exact finRd (v := v0) (by simp [upd_at, e2]) (by simp [upd_at]) (by simp only [hup_at, newObs, ↓reduceIte, Nat.reduceEqDiff, reduceCtorEq, Rid.r.injEq, Rid.l.injEq, Nat.reduceAdd, Nat.zero_add, and_self, and_true, and_false, false_and, true_and] <;> rfl) rfl
theorem w8n {n : Nat} (h : n < 256) : ((UInt8.ofNat n).toNat : Int) = (n : Int) := by simp; omega
theorem hd_iff {s : List UInt8} (h : 1 < s.length) (b : UInt8) : s.head? = some b ↔ s.getD 0 0 = b := by
  rw [List.head?_eq_getElem?, sget (by omega)]; simp
theorem la_iff {s : List UInt8} (h : 1 < s.length) (b : UInt8) : s.getLast? = some b ↔ s.getD (s.length - 1) 0 = b := by
  rw [List.getLast?_eq_getElem?, sget (by omega)]; simp
theorem b_eq (a b : UInt8) : (((a.toNat : Nat) : Int) == ((b.toNat : Nat) : Int)) = decide (a = b) := by
  by_cases h : a = b
  · simp [h]
  · have : ¬ ((a.toNat : Int) = (b.toNat : Int)) := fun h3 => h (UInt8.toNat_inj.1 (by omega))
    simp [h, this]
set_option maxHeartbeats 4000000 in
theorem h25 (s : List UInt8) (hs : s.length ≤ 1000000000000) : HT 25 [.s s] [] (rdvR (vRd s)) true [] := by
  refine holdsc_of (c := Tryd.f25.body.getD .skip) (k := k25.1) (cs := [(2, some (true, 3)), (3, none)]) HOk mixedT hintT Tryd.func25 (by kernel_rfl) (by kernel_rfl) (by kernel_rfl) k25.2 (by kernel_rfl) (le_of 1 _ (by kernel_rfl)) ?_
  rw [← endS_eq]
  by_cases c1 : s = nullT
  · have b1 : (s == [110, 117, 108, 108]) = true := by rw [c1]; rfl
    have e : endS s = some (0, 0, []) := by unfold endS; rw [if_pos c1]
    rw [e]
    simp -dsimp only [k25, b1, go_sem, ↓reduceIte, Nat.reduceEqDiff, Int.reduceLE, Int.reduceLT, Int.reduceNeg, Int.reduceEq, Int.reduceBEq, Int.reduceBNe, Nat.reduceMul, Nat.reduceAdd, Nat.reduceLeDiff, reduceCtorEq, Int.reduceToNat]
    exact finRd (v := v0) (by simp [upd_at]) (by simp [upd_at]) (by simp only [hup_at, newObs, ↓reduceIte, Nat.reduceEqDiff, reduceCtorEq, Rid.r.injEq, Rid.l.injEq, Nat.reduceAdd, Nat.zero_add, and_self, and_true, and_false, false_and, true_and] <;> rfl) rfl
  have b1 : (s == [110, 117, 108, 108]) = false := by
    rw [Bool.eq_false_iff]; intro h3; exact c1 (by simpa [nullT] using h3)
  have tl := fun v g h c q q2 => rdv_tail s v g h c q q2
  show RunK HC (.seq (fst k25.1) (.seq (fst (snd k25.1)) (.seq (fst (snd (snd k25.1))) (snd (snd (snd k25.1)))))) _ _ _ _
  generalize snd (snd (snd k25.1)) = kc at tl ⊢
  by_cases c2 : 1 < s.length
  · have b2 : (s.length : Int) > 1 := by omega
    have hg0 := sget (s := s) (i := 0) (by omega)
    have w0 : IntKind.i64.wrap ((s.length : Int) - 1) = ((s.length - 1 : Nat) : Int) := by rw [wr (by omega) (by omega)]; omega
    have hgl := sget (s := s) (i := s.length - 1) (by omega)
    have t39 : (39 : Int) = (((39 : UInt8).toNat : Nat) : Int) := rfl
    by_cases c3 : s.getD 0 0 = 39
    · have b3 : (((s.getD 0 0).toNat : Int) == 39) = true := bT (b := 39) c3
      by_cases c4 : s.getD (s.length - 1) 0 = 39
      · have b4 : (((s.getD (s.length - 1) 0).toNat : Int) == 39) = true := bT (b := 39) c4
        have e : endS s = if vText (2, 0, rsL (s.drop 1)) = s then some (2, 0, rsL (s.drop 1)) else none := by
          unfold endS; rw [if_neg c1, if_pos ⟨c2, (hd_iff c2 39).2 c3, (la_iff c2 39).2 c4⟩]
        rw [e]
        simp -dsimp only [fst, snd, k25, b1, b2, hg0, b3, w0, hgl, b4, go_sem, ↓reduceIte, Nat.reduceEqDiff, Int.reduceLE, Int.reduceLT, Int.reduceNeg, Int.reduceEq, Int.reduceBEq, Int.reduceBNe, Nat.reduceMul, Nat.reduceAdd, Nat.reduceLeDiff, reduceCtorEq, Int.reduceToNat]
        refine K_loop (fun g h c => ∃ (out : List UInt8) (i : Nat) (cap : Option Nat) (v : Nat) (q : Prop), rsL (s.drop 1) = out ++ rsL (s.drop i) ∧ 1 ≤ i ∧ i ≤ s.length ∧ out.length ≤ i ∧ g 0 = .s s ∧ g 2 = .ptr (.l 2) 1 0 0 ∧ g 4 = .ptr (.l 4) 2 0 0 ∧ g 5 = .sl (.l 41) v 0 out.length cap ∧ g 6 = i64 i ∧
            h (.l 41) = some { ver := v, es := bts out, esz := 1, own := q } ∧ (∃ q : Prop, h (.l 2) = some { ver := 1, es := [[i64 0, i64 0, .s []]], esz := 3, own := q, fixed := true }) ∧ (∃ q : Prop, h (.l 4) = some { ver := 2, es := [[i64 0, i64 0, .s []]], esz := 3, own := q, fixed := true }))
          (fun g _ _ => match g 6 with | .i _ i => s.length - i.toNat | _ => 0) ?_ ?_
        · refine ⟨[], 1, some 0, 3, _, by simp, by omega, by omega, by simp, by simp [upd_at, S_0], by simp [upd_at], by simp [upd_at], by simp [upd_at], by simp [upd_at], (by simp only [hup_at, newObs, ↓reduceIte, Nat.reduceEqDiff, reduceCtorEq, Rid.r.injEq, Rid.l.injEq, Nat.reduceAdd, Nat.zero_add, and_self, and_true, and_false, false_and, true_and] <;> rfl), ⟨_, (by simp only [hup_at, newObs, ↓reduceIte, Nat.reduceEqDiff, reduceCtorEq, Rid.r.injEq, Rid.l.injEq, Nat.reduceAdd, Nat.zero_add, and_self, and_true, and_false, false_and, true_and] <;> rfl)⟩, ⟨_, (by simp only [hup_at, newObs, ↓reduceIte, Nat.reduceEqDiff, reduceCtorEq, Rid.r.injEq, Rid.l.injEq, Nat.reduceAdd, Nat.zero_add, and_self, and_true, and_false, false_and, true_and] <;> rfl)⟩⟩
        · rintro A k hA g h c ⟨out, i, cap, v, q, hI, hi1, hil, hol, q0, q2, q4, q5, q6, m41, ⟨p2, m2⟩, ⟨p4, m4⟩⟩ hm
          by_cases hend : i + 1 < s.length
          · have hc : (i : Int) < ((s.length - 1 : Nat) : Int) := by omega
            have hg := sget (s := s) (i := i) (by omega)
            have hg1 := sget (s := s) (i := i + 1) (by omega)
            have w1 : IntKind.i64.wrap ((i : Int) + 1) = ((i + 1 : Nat) : Int) := by rw [wr (by omega) (by omega)]; rfl
            have w2 : IntKind.i64.wrap ((i : Int) + 2) = ((i + 2 : Nat) : Int) := by rw [wr (by omega) (by omega)]; rfl
            have w3 : IntKind.i64.wrap ((i : Int) + 3) = ((i + 3 : Nat) : Int) := by rw [wr (by omega) (by omega)]; rfl
            have t37 : (37 : Int) = (((37 : UInt8).toNat : Nat) : Int) := rfl
            have fin : ∀ (b : UInt8) (j : Nat) (g' : Slots) (h' : Heap) (c' v' : Nat) (cap' : Option Nat) (q' : Prop), rsL (s.drop i) = b :: rsL (s.drop j) → i < j → j ≤ s.length → g' 0 = .s s → g' 2 = .ptr (.l 2) 1 0 0 → g' 4 = .ptr (.l 4) 2 0 0 → g' 5 = .sl (.l 41) v' 0 (out.length + 1) cap' → g' 6 = i64 j →
                h' (.l 41) = some { ver := v', es := bts out ++ [[.i .u8 b.toNat]], esz := 1, own := q' } → h' (.l 2) = h (.l 2) → h' (.l 4) = h (.l 4) → A g' h' c' := by
              intro b j g' h' c' v' cap' q' hr hij hjl r0 r2 r4 r5 r6 n41 n2 n4
              refine hA _ _ _ ⟨out ++ [b], j, cap', v', q', by rw [hI, hr]; simp, by omega, hjl, by simp; omega, r0, r2, r4, by rw [r5]; simp, r6, by rw [n41, bts_app]; rfl, ⟨p2, by rw [n2, m2]⟩, ⟨p4, by rw [n4, m4]⟩⟩ ?_
              rw [q6] at hm; rw [r6]; simp at hm ⊢; omega
            have plain : ¬ (i + 3 < s.length ∧ s.getD i 0 = 37 ∧ dg (s.getD (i + 1) 0) < 16 ∧ dg (s.getD (i + 2) 0) < 16) → rsL (s.drop i) = s.getD i 0 :: rsL (s.drop (i + 1)) := rsL_one hend
            have fb : ∀ b : UInt8, AM.Flat [[AV.i .u8 b.toNat]] := fun b => bts_flat [b]
            have gb : ∀ b : UInt8, AM.Good [[AV.i .u8 b.toNat]] 1 := fun b => bts_good [b]
            by_cases c5 : s.getD i 0 = 37
            · have b5 : (((s.getD i 0).toNat : Int) == 37) = true := bT (b := 37) c5
              by_cases c6 : i + 3 < s.length
              · have b6 : ((i + 3 : Nat) : Int) < (s.length : Int) := by omega
                have hg2 := sget (s := s) (i := i + 2) (by omega)
                have dA := h41 (s.getD (i + 1) 0)
                have dB := h41 (s.getD (i + 2) 0)
                by_cases c7 : dg (s.getD (i + 1) 0) < 16
                · have b7 : ((dg (s.getD (i + 1) 0) : Nat) : Int) < 16 := by omega
                  by_cases c8 : dg (s.getD (i + 2) 0) < 16
                  · have b8 : ((dg (s.getD (i + 2) 0) : Nat) : Int) < 16 := by omega
                    have x1 : IntKind.i64.wrap (16 * ((dg (s.getD (i + 1) 0) : Nat) : Int)) = ((16 * dg (s.getD (i + 1) 0) : Nat) : Int) := by rw [wr (by omega) (by omega)]; omega
                    have x2 : IntKind.i64.wrap (((16 * dg (s.getD (i + 1) 0) : Nat) : Int) + ((dg (s.getD (i + 2) 0) : Nat) : Int)) = ((16 * dg (s.getD (i + 1) 0) + dg (s.getD (i + 2) 0) : Nat) : Int) := by rw [wr (by omega) (by omega)]; omega
                    have x3 : IntKind.u8.wrap ((16 * dg (s.getD (i + 1) 0) + dg (s.getD (i + 2) 0) : Nat) : Int) = (((UInt8.ofNat (16 * dg (s.getD (i + 1) 0) + dg (s.getD (i + 2) 0))).toNat : Nat) : Int) := by rw [w8 (by omega) (by omega), w8n (by omega)]
                    have w5 : IntKind.i64.wrap (((i + 2 : Nat) : Int) + 1) = ((i + 3 : Nat) : Int) := by rw [wr (by omega) (by omega)]; omega
                    have hr := rsL_hex c6 ⟨c5, c7, c8⟩
                    simp -dsimp only [q0, q5, q6, m41, w0, hc, hg, b5, w3, b6, w1, hg1, go_sem, ↓reduceIte, Nat.reduceEqDiff, Int.reduceLE, Int.reduceLT, Int.reduceNeg, Int.reduceEq, Int.reduceBEq, Int.reduceBNe, Nat.reduceMul, Nat.reduceAdd, Nat.reduceLeDiff, reduceCtorEq, Int.reduceToNat]
                    refine Call_val (own := true) (dA) (by simp [ExpOk, AV.pure]) (.inl rfl) ?_
                    simp -dsimp only [b7, q0, q6, w2, hg2, go_sem, ↓reduceIte, Nat.reduceEqDiff, Int.reduceLE, Int.reduceLT, Int.reduceNeg, Int.reduceEq, Int.reduceBEq, Int.reduceBNe, Nat.reduceMul, Nat.reduceAdd, Nat.reduceLeDiff, reduceCtorEq, Int.reduceToNat]
                    refine Call_val (own := true) (dB) (by simp [ExpOk, AV.pure]) (.inl rfl) ?_
                    simp -dsimp only [b8, q0, q5, q6, w1, hg1, go_sem, ↓reduceIte, Nat.reduceEqDiff, Int.reduceLE, Int.reduceLT, Int.reduceNeg, Int.reduceEq, Int.reduceBEq, Int.reduceBNe, Nat.reduceMul, Nat.reduceAdd, Nat.reduceLeDiff, reduceCtorEq, Int.reduceToNat]
                    refine Call0_val true (dA) (by simp [AV.free, AV.pure]) (.inl rfl) ?_
                    simp -dsimp only [q0, q6, w2, hg2, x1, go_sem, ↓reduceIte, Nat.reduceEqDiff, Int.reduceLE, Int.reduceLT, Int.reduceNeg, Int.reduceEq, Int.reduceBEq, Int.reduceBNe, Nat.reduceMul, Nat.reduceAdd, Nat.reduceLeDiff, reduceCtorEq, Int.reduceToNat]
                    refine Call0_val true (dB) (by simp [AV.free, AV.pure]) (.inl rfl) ?_
                    simp -dsimp only [x2, x3, q5, m41, bts_len, go_sem, ↓reduceIte, Nat.reduceEqDiff, Int.reduceLE, Int.reduceLT, Int.reduceNeg, Int.reduceEq, Int.reduceBEq, Int.reduceBNe, Nat.reduceMul, Nat.reduceAdd, Nat.reduceLeDiff, reduceCtorEq, Int.reduceToNat]
                    refine EK_p ⟨⟨fun _ => fb _, gb _⟩, by unfold bigOk; omega, by omega⟩ ?_
                    simp -dsimp only [q6, w2, w5, go_sem, ↓reduceIte, Nat.reduceEqDiff, Int.reduceLE, Int.reduceLT, Int.reduceNeg, Int.reduceEq, Int.reduceBEq, Int.reduceBNe, Nat.reduceMul, Nat.reduceAdd, Nat.reduceLeDiff, reduceCtorEq, Int.reduceToNat]
                    exact fin _ (i + 3) _ _ _ _ _ _ hr (by omega) (by omega) (by simp [upd_at, q0]) (by simp [upd_at, q2]) (by simp [upd_at, q4]) (by simp only [upd_at, ↓reduceIte, Nat.reduceEqDiff] <;> rfl) (by simp only [upd_at, ↓reduceIte, Nat.reduceEqDiff] <;> rfl) (by simp only [hup_at, newObs, ↓reduceIte, Nat.reduceEqDiff, reduceCtorEq, Rid.r.injEq, Rid.l.injEq, Nat.reduceAdd, Nat.zero_add, and_self, and_true, and_false, false_and, true_and] <;> rfl) (by simp only [hup_at, newObs, ↓reduceIte, Nat.reduceEqDiff, reduceCtorEq, Rid.r.injEq, Rid.l.injEq, Nat.reduceAdd, Nat.zero_add, and_self, and_true, and_false, false_and, true_and] <;> rfl) (by simp only [hup_at, newObs, ↓reduceIte, Nat.reduceEqDiff, reduceCtorEq, Rid.r.injEq, Rid.l.injEq, Nat.reduceAdd, Nat.zero_add, and_self, and_true, and_false, false_and, true_and] <;> rfl)
                  · have b8 : ¬ ((dg (s.getD (i + 2) 0) : Nat) : Int) < 16 := by omega
                    have hr := plain fun h => c8 h.2.2.2
                    simp -dsimp only [q0, q5, q6, m41, w0, hc, hg, b5, w3, b6, w1, hg1, go_sem, ↓reduceIte, Nat.reduceEqDiff, Int.reduceLE, Int.reduceLT, Int.reduceNeg, Int.reduceEq, Int.reduceBEq, Int.reduceBNe, Nat.reduceMul, Nat.reduceAdd, Nat.reduceLeDiff, reduceCtorEq, Int.reduceToNat]
                    refine Call_val (own := true) (dA) (by simp [ExpOk, AV.pure]) (.inl rfl) ?_
                    simp -dsimp only [b7, q0, q6, w2, hg2, go_sem, ↓reduceIte, Nat.reduceEqDiff, Int.reduceLE, Int.reduceLT, Int.reduceNeg, Int.reduceEq, Int.reduceBEq, Int.reduceBNe, Nat.reduceMul, Nat.reduceAdd, Nat.reduceLeDiff, reduceCtorEq, Int.reduceToNat]
                    refine Call_val (own := true) (dB) (by simp [ExpOk, AV.pure]) (.inl rfl) ?_
                    simp -dsimp only [b8, q0, q5, q6, hg, m41, bts_len, go_sem, ↓reduceIte, Nat.reduceEqDiff, Int.reduceLE, Int.reduceLT, Int.reduceNeg, Int.reduceEq, Int.reduceBEq, Int.reduceBNe, Nat.reduceMul, Nat.reduceAdd, Nat.reduceLeDiff, reduceCtorEq, Int.reduceToNat]
                    refine EK_p ⟨⟨fun _ => fb _, gb _⟩, by unfold bigOk; omega, by omega⟩ ?_
                    simp -dsimp only [q6, w1, go_sem, ↓reduceIte, Nat.reduceEqDiff, Int.reduceLE, Int.reduceLT, Int.reduceNeg, Int.reduceEq, Int.reduceBEq, Int.reduceBNe, Nat.reduceMul, Nat.reduceAdd, Nat.reduceLeDiff, reduceCtorEq, Int.reduceToNat]
                    exact fin _ (i + 1) _ _ _ _ _ _ hr (by omega) (by omega) (by simp [upd_at, q0]) (by simp [upd_at, q2]) (by simp [upd_at, q4]) (by simp only [upd_at, ↓reduceIte, Nat.reduceEqDiff] <;> rfl) (by simp only [upd_at, ↓reduceIte, Nat.reduceEqDiff] <;> rfl) (by simp only [hup_at, newObs, ↓reduceIte, Nat.reduceEqDiff, reduceCtorEq, Rid.r.injEq, Rid.l.injEq, Nat.reduceAdd, Nat.zero_add, and_self, and_true, and_false, false_and, true_and] <;> rfl) (by simp only [hup_at, newObs, ↓reduceIte, Nat.reduceEqDiff, reduceCtorEq, Rid.r.injEq, Rid.l.injEq, Nat.reduceAdd, Nat.zero_add, and_self, and_true, and_false, false_and, true_and] <;> rfl) (by simp only [hup_at, newObs, ↓reduceIte, Nat.reduceEqDiff, reduceCtorEq, Rid.r.injEq, Rid.l.injEq, Nat.reduceAdd, Nat.zero_add, and_self, and_true, and_false, false_and, true_and] <;> rfl)
                · have b7 : ¬ ((dg (s.getD (i + 1) 0) : Nat) : Int) < 16 := by omega
                  have hr := plain fun h => c7 h.2.2.1
                  simp -dsimp only [q0, q5, q6, m41, w0, hc, hg, b5, w3, b6, w1, hg1, go_sem, ↓reduceIte, Nat.reduceEqDiff, Int.reduceLE, Int.reduceLT, Int.reduceNeg, Int.reduceEq, Int.reduceBEq, Int.reduceBNe, Nat.reduceMul, Nat.reduceAdd, Nat.reduceLeDiff, reduceCtorEq, Int.reduceToNat]
                  refine Call_val (own := true) (dA) (by simp [ExpOk, AV.pure]) (.inl rfl) ?_
                  simp -dsimp only [b7, q0, q5, q6, hg, m41, bts_len, go_sem, ↓reduceIte, Nat.reduceEqDiff, Int.reduceLE, Int.reduceLT, Int.reduceNeg, Int.reduceEq, Int.reduceBEq, Int.reduceBNe, Nat.reduceMul, Nat.reduceAdd, Nat.reduceLeDiff, reduceCtorEq, Int.reduceToNat]
                  refine EK_p ⟨⟨fun _ => fb _, gb _⟩, by unfold bigOk; omega, by omega⟩ ?_
                  simp -dsimp only [q6, w1, go_sem, ↓reduceIte, Nat.reduceEqDiff, Int.reduceLE, Int.reduceLT, Int.reduceNeg, Int.reduceEq, Int.reduceBEq, Int.reduceBNe, Nat.reduceMul, Nat.reduceAdd, Nat.reduceLeDiff, reduceCtorEq, Int.reduceToNat]
                  exact fin _ (i + 1) _ _ _ _ _ _ hr (by omega) (by omega) (by simp [upd_at, q0]) (by simp [upd_at, q2]) (by simp [upd_at, q4]) (by simp only [upd_at, ↓reduceIte, Nat.reduceEqDiff] <;> rfl) (by simp only [upd_at, ↓reduceIte, Nat.reduceEqDiff] <;> rfl) (by simp only [hup_at, newObs, ↓reduceIte, Nat.reduceEqDiff, reduceCtorEq, Rid.r.injEq, Rid.l.injEq, Nat.reduceAdd, Nat.zero_add, and_self, and_true, and_false, false_and, true_and] <;> rfl) (by simp only [hup_at, newObs, ↓reduceIte, Nat.reduceEqDiff, reduceCtorEq, Rid.r.injEq, Rid.l.injEq, Nat.reduceAdd, Nat.zero_add, and_self, and_true, and_false, false_and, true_and] <;> rfl) (by simp only [hup_at, newObs, ↓reduceIte, Nat.reduceEqDiff, reduceCtorEq, Rid.r.injEq, Rid.l.injEq, Nat.reduceAdd, Nat.zero_add, and_self, and_true, and_false, false_and, true_and] <;> rfl)
              · have b6 : ¬ ((i + 3 : Nat) : Int) < (s.length : Int) := by omega
                have hr := plain fun h => c6 h.1
                simp -dsimp only [q0, q5, q6, m41, w0, hc, hg, b5, w3, b6, bts_len, go_sem, ↓reduceIte, Nat.reduceEqDiff, Int.reduceLE, Int.reduceLT, Int.reduceNeg, Int.reduceEq, Int.reduceBEq, Int.reduceBNe, Nat.reduceMul, Nat.reduceAdd, Nat.reduceLeDiff, reduceCtorEq, Int.reduceToNat]
                refine EK_p ⟨⟨fun _ => fb _, gb _⟩, by unfold bigOk; omega, by omega⟩ ?_
                simp -dsimp only [q6, w1, go_sem, ↓reduceIte, Nat.reduceEqDiff, Int.reduceLE, Int.reduceLT, Int.reduceNeg, Int.reduceEq, Int.reduceBEq, Int.reduceBNe, Nat.reduceMul, Nat.reduceAdd, Nat.reduceLeDiff, reduceCtorEq, Int.reduceToNat]
                exact fin _ (i + 1) _ _ _ _ _ _ hr (by omega) (by omega) (by simp [upd_at, q0]) (by simp [upd_at, q2]) (by simp [upd_at, q4]) (by simp only [upd_at, ↓reduceIte, Nat.reduceEqDiff] <;> rfl) (by simp only [upd_at, ↓reduceIte, Nat.reduceEqDiff] <;> rfl) (by simp only [hup_at, newObs, ↓reduceIte, Nat.reduceEqDiff, reduceCtorEq, Rid.r.injEq, Rid.l.injEq, Nat.reduceAdd, Nat.zero_add, and_self, and_true, and_false, false_and, true_and] <;> rfl) (by simp only [hup_at, newObs, ↓reduceIte, Nat.reduceEqDiff, reduceCtorEq, Rid.r.injEq, Rid.l.injEq, Nat.reduceAdd, Nat.zero_add, and_self, and_true, and_false, false_and, true_and] <;> rfl) (by simp only [hup_at, newObs, ↓reduceIte, Nat.reduceEqDiff, reduceCtorEq, Rid.r.injEq, Rid.l.injEq, Nat.reduceAdd, Nat.zero_add, and_self, and_true, and_false, false_and, true_and] <;> rfl)
            · have b5 : (((s.getD i 0).toNat : Int) == 37) = false := bF (b := 37) c5
              have hr := plain fun h => c5 h.2.1
              simp -dsimp only [q0, q5, q6, m41, w0, hc, hg, b5, bts_len, go_sem, ↓reduceIte, Nat.reduceEqDiff, Int.reduceLE, Int.reduceLT, Int.reduceNeg, Int.reduceEq, Int.reduceBEq, Int.reduceBNe, Nat.reduceMul, Nat.reduceAdd, Nat.reduceLeDiff, reduceCtorEq, Int.reduceToNat]
              refine EK_p ⟨⟨fun _ => fb _, gb _⟩, by unfold bigOk; omega, by omega⟩ ?_
              simp -dsimp only [q6, w1, go_sem, ↓reduceIte, Nat.reduceEqDiff, Int.reduceLE, Int.reduceLT, Int.reduceNeg, Int.reduceEq, Int.reduceBEq, Int.reduceBNe, Nat.reduceMul, Nat.reduceAdd, Nat.reduceLeDiff, reduceCtorEq, Int.reduceToNat]
              exact fin _ (i + 1) _ _ _ _ _ _ hr (by omega) (by omega) (by simp [upd_at, q0]) (by simp [upd_at, q2]) (by simp [upd_at, q4]) (by simp only [upd_at, ↓reduceIte, Nat.reduceEqDiff] <;> rfl) (by simp only [upd_at, ↓reduceIte, Nat.reduceEqDiff] <;> rfl) (by simp only [hup_at, newObs, ↓reduceIte, Nat.reduceEqDiff, reduceCtorEq, Rid.r.injEq, Rid.l.injEq, Nat.reduceAdd, Nat.zero_add, and_self, and_true, and_false, false_and, true_and] <;> rfl) (by simp only [hup_at, newObs, ↓reduceIte, Nat.reduceEqDiff, reduceCtorEq, Rid.r.injEq, Rid.l.injEq, Nat.reduceAdd, Nat.zero_add, and_self, and_true, and_false, false_and, true_and] <;> rfl) (by simp only [hup_at, newObs, ↓reduceIte, Nat.reduceEqDiff, reduceCtorEq, Rid.r.injEq, Rid.l.injEq, Nat.reduceAdd, Nat.zero_add, and_self, and_true, and_false, false_and, true_and] <;> rfl)
          · have hc : ¬ (i : Int) < ((s.length - 1 : Nat) : Int) := by omega
            have hr : rsL (s.drop 1) = out := by rw [hI, rsL_end hend, List.append_nil]
            have d42 := h42 out
            simp -dsimp only [q0, q5, q6, m41, w0, hc, bytesOf_bts, bts_len, go_sem, ↓reduceIte, Nat.reduceEqDiff, Int.reduceLE, Int.reduceLT, Int.reduceNeg, Int.reduceEq, Int.reduceBEq, Int.reduceBNe, Nat.reduceMul, Nat.reduceAdd, Nat.reduceLeDiff, reduceCtorEq, Int.reduceToNat]
            refine Call_val (own := true) (d42) (by simp [ExpOk, AV.pure]) (.inl rfl) ?_
            simp -dsimp only [vC, q4, m4, go_sem, ↓reduceIte, Nat.reduceEqDiff, Int.reduceLE, Int.reduceLT, Int.reduceNeg, Int.reduceEq, Int.reduceBEq, Int.reduceBNe, Nat.reduceMul, Nat.reduceAdd, Nat.reduceLeDiff, reduceCtorEq, Int.reduceToNat]
            rw [hr]
            exact tl (2, 0, out) _ _ _ _ _ (by simp [upd_at, q0]) (by simp [upd_at, q2]) (by simp [upd_at, q4]) (by simp only [hup_at, newObs, updObs, ↓reduceIte, Nat.reduceEqDiff, reduceCtorEq, Rid.r.injEq, Rid.l.injEq, Rid.p.injEq, Nat.reduceAdd, Nat.zero_add, and_self, and_true, and_false, false_and, true_and]; exact m2) (by simp only [hup_at, newObs, ↓reduceIte, Nat.reduceEqDiff, reduceCtorEq, Rid.r.injEq, Rid.l.injEq, Nat.reduceAdd, Nat.zero_add, and_self, and_true, and_false, false_and, true_and] <;> rfl)
      · have b4 : (((s.getD (s.length - 1) 0).toNat : Int) == 39) = false := bF (b := 39) c4
        simp -dsimp only [fst, snd, k25, b1, b2, hg0, b3, w0, hgl, b4, go_sem, ↓reduceIte, Nat.reduceEqDiff, Int.reduceLE, Int.reduceLT, Int.reduceNeg, Int.reduceEq, Int.reduceBEq, Int.reduceBNe, Nat.reduceMul, Nat.reduceAdd, Nat.reduceLeDiff, reduceCtorEq, Int.reduceToNat]
        have hn : ¬ (1 < s.length ∧ s.head? = some 39 ∧ s.getLast? = some 39) := fun h3 => c4 ((la_iff c2 39).1 h3.2.2)
        have e : endS s = if (numS s).2 = true then (if vText (1, (numS s).1, []) = s then some (1, (numS s).1, []) else none) else none := by
          unfold endS; rw [if_neg c1, if_neg hn]
        rw [e]
        refine Call_val (own := true) (h43 s) (by simp [ExpOk, AV.pure]) (.inl rfl) ?_
        cases hk : (numS s).2 with
        | false =>
          simp -dsimp only [hk, go_sem, ↓reduceIte, Nat.reduceEqDiff, Int.reduceLE, Int.reduceLT, Int.reduceNeg, Int.reduceEq, Int.reduceBEq, Int.reduceBNe, Nat.reduceMul, Nat.reduceAdd, Nat.reduceLeDiff, reduceCtorEq, Int.reduceToNat]
          exact finRd (v := v0) (by simp only [upd_at, ↓reduceIte, Nat.reduceEqDiff] <;> rfl) (by simp only [upd_at, ↓reduceIte, Nat.reduceEqDiff] <;> rfl) (by simp only [hup_at, newObs, ↓reduceIte, Nat.reduceEqDiff, reduceCtorEq, Rid.r.injEq, Rid.l.injEq, Nat.reduceAdd, Nat.zero_add, and_self, and_true, and_false, false_and, true_and] <;> rfl) rfl
        | true =>
          simp -dsimp only [hk, go_sem, ↓reduceIte, Nat.reduceEqDiff, Int.reduceLE, Int.reduceLT, Int.reduceNeg, Int.reduceEq, Int.reduceBEq, Int.reduceBNe, Nat.reduceMul, Nat.reduceAdd, Nat.reduceLeDiff, reduceCtorEq, Int.reduceToNat]
          refine Call_val (own := true) (h44 (numS s).1) (by simp [ExpOk, AV.pure]) (.inl rfl) ?_
          simp -dsimp only [vC, go_sem, ↓reduceIte, Nat.reduceEqDiff, Int.reduceLE, Int.reduceLT, Int.reduceNeg, Int.reduceEq, Int.reduceBEq, Int.reduceBNe, Nat.reduceMul, Nat.reduceAdd, Nat.reduceLeDiff, reduceCtorEq, Int.reduceToNat]
          exact tl (1, (numS s).1, []) _ _ _ _ _ (by simp only [upd_at, ↓reduceIte, Nat.reduceEqDiff] <;> rfl) (by simp only [upd_at, ↓reduceIte, Nat.reduceEqDiff] <;> rfl) (by simp only [upd_at, ↓reduceIte, Nat.reduceEqDiff] <;> rfl) (by simp only [hup_at, newObs, ↓reduceIte, Nat.reduceEqDiff, reduceCtorEq, Rid.r.injEq, Rid.l.injEq, Nat.reduceAdd, Nat.zero_add, and_self, and_true, and_false, false_and, true_and] <;> rfl) (by simp only [hup_at, newObs, ↓reduceIte, Nat.reduceEqDiff, reduceCtorEq, Rid.r.injEq, Rid.l.injEq, Nat.reduceAdd, Nat.zero_add, and_self, and_true, and_false, false_and, true_and] <;> rfl)
    · have b3 : (((s.getD 0 0).toNat : Int) == 39) = false := bF (b := 39) c3
      simp -dsimp only [fst, snd, k25, b1, b2, hg0, b3, go_sem, ↓reduceIte, Nat.reduceEqDiff, Int.reduceLE, Int.reduceLT, Int.reduceNeg, Int.reduceEq, Int.reduceBEq, Int.reduceBNe, Nat.reduceMul, Nat.reduceAdd, Nat.reduceLeDiff, reduceCtorEq, Int.reduceToNat]
      have hn : ¬ (1 < s.length ∧ s.head? = some 39 ∧ s.getLast? = some 39) := fun h3 => c3 ((hd_iff c2 39).1 h3.2.1)
      have e : endS s = if (numS s).2 = true then (if vText (1, (numS s).1, []) = s then some (1, (numS s).1, []) else none) else none := by
        unfold endS; rw [if_neg c1, if_neg hn]
      rw [e]
      refine Call_val (own := true) (h43 s) (by simp [ExpOk, AV.pure]) (.inl rfl) ?_
      cases hk : (numS s).2 with
      | false =>
        simp -dsimp only [hk, go_sem, ↓reduceIte, Nat.reduceEqDiff, Int.reduceLE, Int.reduceLT, Int.reduceNeg, Int.reduceEq, Int.reduceBEq, Int.reduceBNe, Nat.reduceMul, Nat.reduceAdd, Nat.reduceLeDiff, reduceCtorEq, Int.reduceToNat]
        exact finRd (v := v0) (by simp only [upd_at, ↓reduceIte, Nat.reduceEqDiff] <;> rfl) (by simp only [upd_at, ↓reduceIte, Nat.reduceEqDiff] <;> rfl) (by simp only [hup_at, newObs, ↓reduceIte, Nat.reduceEqDiff, reduceCtorEq, Rid.r.injEq, Rid.l.injEq, Nat.reduceAdd, Nat.zero_add, and_self, and_true, and_false, false_and, true_and] <;> rfl) rfl
      | true =>
        simp -dsimp only [hk, go_sem, ↓reduceIte, Nat.reduceEqDiff, Int.reduceLE, Int.reduceLT, Int.reduceNeg, Int.reduceEq, Int.reduceBEq, Int.reduceBNe, Nat.reduceMul, Nat.reduceAdd, Nat.reduceLeDiff, reduceCtorEq, Int.reduceToNat]
        refine Call_val (own := true) (h44 (numS s).1) (by simp [ExpOk, AV.pure]) (.inl rfl) ?_
        simp -dsimp only [vC, go_sem, ↓reduceIte, Nat.reduceEqDiff, Int.reduceLE, Int.reduceLT, Int.reduceNeg, Int.reduceEq, Int.reduceBEq, Int.reduceBNe, Nat.reduceMul, Nat.reduceAdd, Nat.reduceLeDiff, reduceCtorEq, Int.reduceToNat]
        exact tl (1, (numS s).1, []) _ _ _ _ _ (by simp only [upd_at, ↓reduceIte, Nat.reduceEqDiff] <;> rfl) (by simp only [upd_at, ↓reduceIte, Nat.reduceEqDiff] <;> rfl) (by simp only [upd_at, ↓reduceIte, Nat.reduceEqDiff] <;> rfl) (by simp only [hup_at, newObs, ↓reduceIte, Nat.reduceEqDiff, reduceCtorEq, Rid.r.injEq, Rid.l.injEq, Nat.reduceAdd, Nat.zero_add, and_self, and_true, and_false, false_and, true_and] <;> rfl) (by simp only [hup_at, newObs, ↓reduceIte, Nat.reduceEqDiff, reduceCtorEq, Rid.r.injEq, Rid.l.injEq, Nat.reduceAdd, Nat.zero_add, and_self, and_true, and_false, false_and, true_and] <;> rfl)
  · have b2 : ¬ (s.length : Int) > 1 := by omega
    simp -dsimp only [fst, snd, k25, b1, b2, go_sem, ↓reduceIte, Nat.reduceEqDiff, Int.reduceLE, Int.reduceLT, Int.reduceNeg, Int.reduceEq, Int.reduceBEq, Int.reduceBNe, Nat.reduceMul, Nat.reduceAdd, Nat.reduceLeDiff, reduceCtorEq, Int.reduceToNat]
    have hn : ¬ (1 < s.length ∧ s.head? = some 39 ∧ s.getLast? = some 39) := fun h3 => c2 h3.1
    have e : endS s = if (numS s).2 = true then (if vText (1, (numS s).1, []) = s then some (1, (numS s).1, []) else none) else none := by
      unfold endS; rw [if_neg c1, if_neg hn]
    rw [e]
    refine Call_val (own := true) (h43 s) (by simp [ExpOk, AV.pure]) (.inl rfl) ?_
    cases hk : (numS s).2 with
    | false =>
      simp -dsimp only [hk, go_sem, ↓reduceIte, Nat.reduceEqDiff, Int.reduceLE, Int.reduceLT, Int.reduceNeg, Int.reduceEq, Int.reduceBEq, Int.reduceBNe, Nat.reduceMul, Nat.reduceAdd, Nat.reduceLeDiff, reduceCtorEq, Int.reduceToNat]
      exact finRd (v := v0) (by simp only [upd_at, ↓reduceIte, Nat.reduceEqDiff] <;> rfl) (by simp only [upd_at, ↓reduceIte, Nat.reduceEqDiff] <;> rfl) (by simp only [hup_at, newObs, ↓reduceIte, Nat.reduceEqDiff, reduceCtorEq, Rid.r.injEq, Rid.l.injEq, Nat.reduceAdd, Nat.zero_add, and_self, and_true, and_false, false_and, true_and] <;> rfl) rfl
    | true =>
      simp -dsimp only [hk, go_sem, ↓reduceIte, Nat.reduceEqDiff, Int.reduceLE, Int.reduceLT, Int.reduceNeg, Int.reduceEq, Int.reduceBEq, Int.reduceBNe, Nat.reduceMul, Nat.reduceAdd, Nat.reduceLeDiff, reduceCtorEq, Int.reduceToNat]
      refine Call_val (own := true) (h44 (numS s).1) (by simp [ExpOk, AV.pure]) (.inl rfl) ?_
      simp -dsimp only [vC, go_sem, ↓reduceIte, Nat.reduceEqDiff, Int.reduceLE, Int.reduceLT, Int.reduceNeg, Int.reduceEq, Int.reduceBEq, Int.reduceBNe, Nat.reduceMul, Nat.reduceAdd, Nat.reduceLeDiff, reduceCtorEq, Int.reduceToNat]
      exact tl (1, (numS s).1, []) _ _ _ _ _ (by simp only [upd_at, ↓reduceIte, Nat.reduceEqDiff] <;> rfl) (by simp only [upd_at, ↓reduceIte, Nat.reduceEqDiff] <;> rfl) (by simp only [upd_at, ↓reduceIte, Nat.reduceEqDiff] <;> rfl) (by simp only [hup_at, newObs, ↓reduceIte, Nat.reduceEqDiff, reduceCtorEq, Rid.r.injEq, Rid.l.injEq, Nat.reduceAdd, Nat.zero_add, and_self, and_true, and_false, false_and, true_and] <;> rfl) (by simp only [hup_at, newObs, ↓reduceIte, Nat.reduceEqDiff, reduceCtorEq, Rid.r.injEq, Rid.l.injEq, Nat.reduceAdd, Nat.zero_add, and_self, and_true, and_false, false_and, true_and] <;> rfl)
end FrA

