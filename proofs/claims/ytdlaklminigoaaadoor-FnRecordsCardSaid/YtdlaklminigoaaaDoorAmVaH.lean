/- Values and rows of values, read from their texts by the program. Walked. No condition. -/
import Derived.Test.YtdlaklminigoaaaDoorAmVaG
set_option linter.all false
set_option linter.unusedSimpArgs false
set_option linter.unusedVariables false
set_option linter.deprecated false
/-! VaH -/
open Go Go.AM
namespace FrA
open Go.Proofs
set_option maxRecDepth 100000
set_option linter.unusedSimpArgs false
theorem irdv_tail (s : List UInt8) (v : Vl) (g : Slots) (h : Heap) (c : Nat) (q q2 : Prop) (e0 : g 0 = .s s) (e2 : g 2 = .ptr (.l 2) 1 0 0) (e4 : g 4 = .ptr (.l 4) 2 0 0)
    (m2 : h (.l 2) = some { ver := 1, es := [[i64 0, i64 0, .s []]], esz := 3, own := q, fixed := true }) (m4 : h (.l 4) = some { ver := 2, es := [vC v], esz := 3, own := q2, fixed := true }) :
    RunK HC (snd (snd (snd k20.1))) (.done (FinC [(2, some (true, 3)), (3, none)] [] true fun r' o' => r' = rdvR (if s = [] ∨ vText v ≠ s then none else some v) ∧ o' = [])) g h c := by
  have d39 := h18 v
  obtain ⟨k, n, t⟩ := v
  simp only [vC] at m4 d39
  have ft : q2 → AM.Flat [[AV.i .i64 k, .i .i64 n, .s t]] := fun _ e he => by simp at he; subst he; intro c hc; simp at hc; rcases hc with rfl | rfl | rfl <;> rfl
  have bad : ∀ (g : Slots) (h : Heap) (c : Nat), (s = [] ∨ vText (k, n, t) ≠ s) → g 2 = .ptr (.l 2) 1 0 0 → g 3 = .b false → (∃ q : Prop, h (.l 2) = some { ver := 1, es := [[i64 0, i64 0, .s []]], esz := 3, own := q, fixed := true }) →
      FinC [(2, some (true, 3)), (3, none)] [] true (fun r' o' => r' = rdvR (if s = [] ∨ vText (k, n, t) ≠ s then none else some (k, n, t)) ∧ o' = []) .ret g h c := by
    intro g h c hb r2 r3 ⟨q, n2⟩
    rw [if_pos hb]
    exact finRd (v := v0) r2 r3 n2 rfl
  by_cases hs : s = []
  · have b0 : (s == []) = true := by simp [hs]
    simp -dsimp only [snd, k20, e0, e2, e4, m4, b0, m2, go_sem, ↓reduceIte, Nat.reduceEqDiff, Int.reduceLE, Int.reduceLT, Int.reduceNeg, Int.reduceEq, Int.reduceBEq, Int.reduceBNe, Nat.reduceMul, Nat.reduceAdd, Nat.reduceLeDiff, reduceCtorEq, Int.reduceToNat]
    exact bad _ _ _ (.inl hs) (by simp only [upd_at, ↓reduceIte, Nat.reduceEqDiff]; exact e2) (by simp only [upd_at, ↓reduceIte, Nat.reduceEqDiff] <;> rfl) ⟨_, (by simp only [hup_at, newObs, ↓reduceIte, Nat.reduceEqDiff, reduceCtorEq, Rid.r.injEq, Rid.l.injEq, Nat.reduceAdd, Nat.zero_add, and_self, and_true, and_false, false_and, true_and] <;> rfl)⟩
  have b0 : (s == []) = false := by rw [nil_beq]; simp [hs]
  simp -dsimp only [snd, k20, e0, e2, e4, m4, b0, go_sem, ↓reduceIte, Nat.reduceEqDiff, Int.reduceLE, Int.reduceLT, Int.reduceNeg, Int.reduceEq, Int.reduceBEq, Int.reduceBNe, Nat.reduceMul, Nat.reduceAdd, Nat.reduceLeDiff, reduceCtorEq, Int.reduceToNat]
  refine VK_p ft ?_
  simp -dsimp only [go_sem, ↓reduceIte, Nat.reduceEqDiff, Int.reduceLE, Int.reduceLT, Int.reduceNeg, Int.reduceEq, Int.reduceBEq, Int.reduceBNe, Nat.reduceMul, Nat.reduceAdd, Nat.reduceLeDiff, reduceCtorEq, Int.reduceToNat]
  refine Call_val (own := true) (d39) (by simp [ExpOk, AV.pure]) (.inl rfl) ?_
  by_cases ht : vText (k, n, t) = s
  · have b1 : (!(vText (k, n, t) == s)) = false := by simp [ht]
    simp -dsimp only [b1, e0, e2, e4, m4, m2, go_sem, ↓reduceIte, Nat.reduceEqDiff, Int.reduceLE, Int.reduceLT, Int.reduceNeg, Int.reduceEq, Int.reduceBEq, Int.reduceBNe, Nat.reduceMul, Nat.reduceAdd, Nat.reduceLeDiff, reduceCtorEq, Int.reduceToNat]
    refine VK_p ft ?_
    simp -dsimp only [e2, m2, go_sem, ↓reduceIte, Nat.reduceEqDiff, Int.reduceLE, Int.reduceLT, Int.reduceNeg, Int.reduceEq, Int.reduceBEq, Int.reduceBNe, Nat.reduceMul, Nat.reduceAdd, Nat.reduceLeDiff, reduceCtorEq, Int.reduceToNat]
    rw [if_neg (by simp [hs, ht])]
    exact finRd (v := (k, n, t)) (by simp only [upd_at, ↓reduceIte, Nat.reduceEqDiff]; exact e2) (by simp only [upd_at, ↓reduceIte, Nat.reduceEqDiff] <;> rfl) (by simp only [hup_at, newObs, ↓reduceIte, Nat.reduceEqDiff, reduceCtorEq, Rid.r.injEq, Rid.l.injEq, Nat.reduceAdd, Nat.zero_add, and_self, and_true, and_false, false_and, true_and] <;> rfl) rfl
  · have b1 : (!(vText (k, n, t) == s)) = true := by simp [ht]
    simp -dsimp only [b1, e0, e2, e4, m4, m2, go_sem, ↓reduceIte, Nat.reduceEqDiff, Int.reduceLE, Int.reduceLT, Int.reduceNeg, Int.reduceEq, Int.reduceBEq, Int.reduceBNe, Nat.reduceMul, Nat.reduceAdd, Nat.reduceLeDiff, reduceCtorEq, Int.reduceToNat]
    exact bad _ _ _ (.inr ht) (by simp only [upd_at, ↓reduceIte, Nat.reduceEqDiff]; exact e2) (by simp only [upd_at, ↓reduceIte, Nat.reduceEqDiff] <;> rfl) ⟨_, (by simp only [hup_at, newObs, ↓reduceIte, Nat.reduceEqDiff, reduceCtorEq, Rid.r.injEq, Rid.l.injEq, Nat.reduceAdd, Nat.zero_add, and_self, and_true, and_false, false_and, true_and] <;> rfl)⟩
theorem pre_one (s : List UInt8) : Lib.hasPrefix s [39] = decide (s.head? = some 39) := by
  cases s with
  | nil => rfl
  | cons a b =>
    unfold Lib.hasPrefix
    by_cases h : a = 39
    · subst h; simp
    · have h2 : ¬ (39 : UInt8) = a := fun h2 => h h2.symm
      simp [h, h2, List.isPrefixOf]
theorem itoa_rng {s : List UInt8} {n : Int} (h : ∀ k, Lib.parseIntB 64 s = .ok k → n = k) : ∀ k, (-1000000000 ≤ k ∧ k ≤ 1000000000) → s = Lib.itoa k → n = k := fun k hk hs => h k (by rw [hs]; exact atoi_itoa hk)
theorem h20 (s : List UInt8) (hs : s.length ≤ 1000000000000) : HT 20 [.s s] [] (rdvR (vRd s)) true [] := by
  refine holdsc_of (c := Tryd.f20.body.getD .skip) (k := k20.1) (cs := [(2, some (true, 3)), (3, none)]) HOk mixedT hintT Tryd.func20 (by kernel_rfl) (by kernel_rfl) (by kernel_rfl) k20.2 (by kernel_rfl) (le_of 1 _ (by kernel_rfl)) ?_
  have tl := fun v g h c q q2 => irdv_tail s v g h c q q2
  show RunK HC (.seq (fst k20.1) (.seq (fst (snd k20.1)) (.seq (fst (snd (snd k20.1))) (snd (snd (snd k20.1)))))) _ _ _ _
  generalize snd (snd (snd k20.1)) = kc at tl ⊢
  by_cases c1 : s = nullT
  · have b1 : (s == [110, 117, 108, 108]) = true := by rw [c1]; rfl
    have e : vRd s = if s = [] ∨ vText (0, 0, []) ≠ s then none else some (0, 0, []) := by
      rw [← endI_eq s 0 (fun k _ hk => absurd (hk.symm.trans c1) (itoa_null k))]
      unfold endI candI; rw [if_pos c1]
    rw [e]
    simp -dsimp only [fst, snd, k20, b1, go_sem, ↓reduceIte, Nat.reduceEqDiff, Int.reduceLE, Int.reduceLT, Int.reduceNeg, Int.reduceEq, Int.reduceBEq, Int.reduceBNe, Nat.reduceMul, Nat.reduceAdd, Nat.reduceLeDiff, reduceCtorEq, Int.reduceToNat]
    exact tl (0, 0, []) _ _ _ _ _ (by simp [upd_at, S_0]) (by simp [upd_at]) (by simp [upd_at]) (by simp only [hup_at, newObs, ↓reduceIte, Nat.reduceEqDiff, reduceCtorEq, Rid.r.injEq, Rid.l.injEq, Nat.reduceAdd, Nat.zero_add, and_self, and_true, and_false, false_and, true_and] <;> rfl) (by simp only [hup_at, newObs, ↓reduceIte, Nat.reduceEqDiff, reduceCtorEq, Rid.r.injEq, Rid.l.injEq, Nat.reduceAdd, Nat.zero_add, and_self, and_true, and_false, false_and, true_and] <;> rfl)
  have b1 : (s == [110, 117, 108, 108]) = false := by
    rw [Bool.eq_false_iff]; intro h3; exact c1 (by simpa [nullT] using h3)
  have dp := h34 s [39]
  rw [pre_one] at dp
  by_cases c2 : s.head? = some 39
  · have e : vRd s = if s = [] ∨ vText (2, 0, rtL (s.drop 1)) ≠ s then none else some (2, 0, rtL (s.drop 1)) := by
      rw [← endI_eq s 0 (fun k _ hk => absurd (by rw [← hk]; exact c2) (itoa_head k))]
      unfold endI candI; rw [if_neg c1, if_pos c2]
    rw [e]
    simp -dsimp only [fst, snd, k20, b1, go_sem, ↓reduceIte, Nat.reduceEqDiff, Int.reduceLE, Int.reduceLT, Int.reduceNeg, Int.reduceEq, Int.reduceBEq, Int.reduceBNe, Nat.reduceMul, Nat.reduceAdd, Nat.reduceLeDiff, reduceCtorEq, Int.reduceToNat]
    refine Call_val (own := true) (dp) (by simp [ExpOk, AV.pure]) (.inl rfl) ?_
    simp -dsimp only [c2, go_sem, ↓reduceIte, Nat.reduceEqDiff, Int.reduceLE, Int.reduceLT, Int.reduceNeg, Int.reduceEq, Int.reduceBEq, Int.reduceBNe, Nat.reduceMul, Nat.reduceAdd, Nat.reduceLeDiff, reduceCtorEq, Int.reduceToNat]
    refine Call_val (own := true) (h35 s (by omega)) (by simp [ExpOk, AV.pure]) (.inl rfl) ?_
    simp -dsimp only [go_sem, ↓reduceIte, Nat.reduceEqDiff, Int.reduceLE, Int.reduceLT, Int.reduceNeg, Int.reduceEq, Int.reduceBEq, Int.reduceBNe, Nat.reduceMul, Nat.reduceAdd, Nat.reduceLeDiff, reduceCtorEq, Int.reduceToNat]
    exact tl (2, 0, rtL (s.drop 1)) _ _ _ _ _ (by simp [upd_at, S_0]) (by simp [upd_at]) (by simp [upd_at]) (by simp only [hup_at, newObs, ↓reduceIte, Nat.reduceEqDiff, reduceCtorEq, Rid.r.injEq, Rid.l.injEq, Nat.reduceAdd, Nat.zero_add, and_self, and_true, and_false, false_and, true_and] <;> rfl) (by simp only [hup_at, newObs, ↓reduceIte, Nat.reduceEqDiff, reduceCtorEq, Rid.r.injEq, Rid.l.injEq, Nat.reduceAdd, Nat.zero_add, and_self, and_true, and_false, false_and, true_and] <;> rfl)
  · simp -dsimp only [fst, snd, k20, b1, go_sem, ↓reduceIte, Nat.reduceEqDiff, Int.reduceLE, Int.reduceLT, Int.reduceNeg, Int.reduceEq, Int.reduceBEq, Int.reduceBNe, Nat.reduceMul, Nat.reduceAdd, Nat.reduceLeDiff, reduceCtorEq, Int.reduceToNat]
    refine Call_val (own := true) (dp) (by simp [ExpOk, AV.pure]) (.inl rfl) ?_
    simp -dsimp only [c2, go_sem, ↓reduceIte, Nat.reduceEqDiff, Int.reduceLE, Int.reduceLT, Int.reduceNeg, Int.reduceEq, Int.reduceBEq, Int.reduceBNe, Nat.reduceMul, Nat.reduceAdd, Nat.reduceLeDiff, reduceCtorEq, Int.reduceToNat]
    refine Call_vals (own := true) (Φ := fun r o => piΦ s r ∧ o = []) (by simpa [expL, expA] using h36 s (by omega)) (by simp [ExpOk, AV.pure]) (.inl rfl) ?_
    rintro r o' ⟨⟨n, rfl, hn⟩, rfl⟩
    refine ⟨rfl, by simp [impA, impL], ?_⟩
    have e : vRd s = if s = [] ∨ vText (1, n, []) ≠ s then none else some (1, n, []) := by
      rw [← endI_eq s n (itoa_rng hn)]
      unfold endI candI; rw [if_neg c1, if_neg c2]
    rw [e]
    simp -dsimp only [go_sem, ↓reduceIte, Nat.reduceEqDiff, Int.reduceLE, Int.reduceLT, Int.reduceNeg, Int.reduceEq, Int.reduceBEq, Int.reduceBNe, Nat.reduceMul, Nat.reduceAdd, Nat.reduceLeDiff, reduceCtorEq, Int.reduceToNat]
    exact tl (1, n, []) _ _ _ _ _ (by simp [upd_at, S_0]) (by simp [upd_at]) (by simp [upd_at]) (by simp only [hup_at, newObs, ↓reduceIte, Nat.reduceEqDiff, reduceCtorEq, Rid.r.injEq, Rid.l.injEq, Nat.reduceAdd, Nat.zero_add, and_self, and_true, and_false, false_and, true_and] <;> rfl) (by simp only [hup_at, newObs, ↓reduceIte, Nat.reduceEqDiff, reduceCtorEq, Rid.r.injEq, Rid.l.injEq, Nat.reduceAdd, Nat.zero_add, and_self, and_true, and_false, false_and, true_and] <;> rfl)
theorem h7 (s : List UInt8) (hs : s.length ≤ 1000000000) : HT 7 [.s s] [] (rdrR (rRd s)) true (rdrO (rRd s)) := by
  refine holds_of (c := Tryd.f7.body.getD .skip) (k := k7.1) (ts := [2, 3]) HOk mixedT hintT Tryd.func7 (by kernel_rfl) (by kernel_rfl) (by kernel_rfl) k7.2 (by kernel_rfl) (le_of 1 _ (by kernel_rfl)) ?_
  have hwl := words_len 44 s
  have d19 := h19 s (by omega)
  have hdl : ((words 44 s).drop 1).length = (words 44 s).length - 1 := List.length_drop ..
  have hw1 : 1 ≤ (words 44 s).length := by
    have := words_ne 44 s
    cases h3 : words 44 s with
    | nil => exact absurd h3 this
    | cons x y => simp
  simp -dsimp only [k7, go_sem, ↓reduceIte, Nat.reduceEqDiff, Int.reduceLE, Int.reduceLT, Int.reduceNeg, Int.reduceEq, Int.reduceBEq, Int.reduceBNe, Nat.reduceMul, Nat.reduceAdd, Nat.reduceLeDiff, reduceCtorEq, Int.reduceToNat]
  refine Call_news (own := true) d19 (by simp [ExpOk, AV.pure]) (by simp [wsO, ws_pure]) (.inl rfl) (by simp [wsO]) ?_
  have t1 : (((words 44 s).length : Int) - 1).toNat = (words 44 s).length - 1 := by omega
  simp -dsimp only [impA, Option.getD_some, Nat.sub_self, wsO, go_sem, ↓reduceIte, Nat.reduceEqDiff, Int.reduceLE, Int.reduceLT, Int.reduceNeg, Int.reduceEq, Int.reduceBEq, Int.reduceBNe, Nat.reduceMul, Nat.reduceAdd, Nat.reduceLeDiff, reduceCtorEq, Int.reduceToNat]
  refine VK_p (by first | omega | (simp only [List.length_cons, List.length_nil, List.length_append]; omega) | (refine ⟨by omega, by omega, ?_⟩; first | omega | (simp only [List.length_cons, List.length_nil, List.length_append]; omega)) | (simp; omega) | (simp; done)) ?_
  simp -dsimp only [t1, ws_len, go_sem, ↓reduceIte, Nat.reduceEqDiff, Int.reduceLE, Int.reduceLT, Int.reduceNeg, Int.reduceEq, Int.reduceBEq, Int.reduceBNe, Nat.reduceMul, Nat.reduceAdd, Nat.reduceLeDiff, reduceCtorEq, Int.reduceToNat]
  refine K_for ((words 44 s).length - 1) (fun i g h c => ∃ (out : List Vl) (cap : Option Nat) (v : Nat) (q : Prop), out.length ≤ 16 ∧ (((words 44 s).drop 1).take i).map vRd = out.map some ∧ (cap = capE out.length) ∧ g 0 = .s s ∧ g 4 = .sl (.l 10) v 0 out.length cap ∧ (∃ cp, g 14 = .sl (.r 12 0) 2 1 ((words 44 s).length - 1) cp) ∧ g 15 = i64 ((words 44 s).length - 1 : Nat) ∧ g 16 = i64 i ∧
      h (.r 12 0) = some { ver := 2, es := ws (words 44 s), esz := 1, own := True } ∧ h (.l 10) = some { ver := v, es := vl out, esz := 3, own := q }) ?_ ?_ ?_
  · exact ⟨[], some 0, 1, _, by simp, by simp, rfl, by simp [upd_at, S_0], by simp [upd_at], ⟨_, by simp [upd_at]; rfl⟩, by simp [upd_at], by simp [upd_at], by simp [hup_at], (by simp only [hup_at, newObs, ↓reduceIte, Nat.reduceEqDiff, reduceCtorEq, Rid.r.injEq, Rid.l.injEq, Nat.reduceAdd, Nat.zero_add, and_self, and_true, and_false, false_and, true_and] <;> rfl)⟩
  · rintro i A hi hA g h c ⟨out, cap, v, q, h16, hI, hcap, q0, q4, ⟨cp, q14⟩, q15, q16, m12, m10⟩
    have hc : (i : Int) < (((words 44 s).length - 1 : Nat) : Int) := by omega
    have hg := ws_get (l := words 44 s) (i := 1 + i) (by omega)
    have hx : ((words 44 s).drop 1).getD i [] = (words 44 s).getD (1 + i) [] := by simp [List.getD_eq_getElem?_getD, Nat.add_comm]
    have w1 : IntKind.i64.wrap ((i : Int) + 1) = ((i + 1 : Nat) : Int) := by rw [wr (by omega) (by omega)]; rfl
    have hol := len_of_map hI
    rw [List.length_take] at hol
    have hwm : ((words 44 s).getD (1 + i) []).length ≤ s.length := words_mem_len (c := 44) (by rw [List.getD_eq_getElem?_getD, List.getElem?_eq_getElem (show 1 + i < (words 44 s).length by omega)]; simp)
    have d20 := h20 ((words 44 s).getD (1 + i) []) (by omega)
    have hlt : (i : Int) < (((words 44 s).length - 1 : Nat) : Int) := hc
    simp -dsimp only [q0, q4, q14, q15, q16, hc, hg, m12, ws_len, go_sem, ↓reduceIte, Nat.reduceEqDiff, Int.reduceLE, Int.reduceLT, Int.reduceNeg, Int.reduceEq, Int.reduceBEq, Int.reduceBNe, Nat.reduceMul, Nat.reduceAdd, Nat.reduceLeDiff, reduceCtorEq, Int.reduceToNat]
    unfold rdvR at d20
    refine Call_val (own := true) (d20) (by simp [ExpOk, AV.pure]) (.inl rfl) ?_
    cases hv : vRd ((words 44 s).getD (1 + i) []) with
    | none =>
      simp -dsimp only [hv, Option.isSome_none, Option.getD_none, vC, v0, go_sem, ↓reduceIte, Nat.reduceEqDiff, Int.reduceLE, Int.reduceLT, Int.reduceNeg, Int.reduceEq, Int.reduceBEq, Int.reduceBNe, Nat.reduceMul, Nat.reduceAdd, Nat.reduceLeDiff, reduceCtorEq, Int.reduceToNat]
      have e : rRd s = none := rr_fail (i := i) (by omega) (by rw [hx]; exact hv)
      rw [e]
      refine rdr_none ?_ ?_ <;> exact (by simp only [upd_at, ↓reduceIte, Nat.reduceEqDiff] <;> rfl)
    | some x =>
      have fx : AM.Flat [[AV.i .i64 x.1, .i .i64 x.2.1, .s x.2.2]] := vl_flat [x]
      have gx : AM.Good [[AV.i .i64 x.1, .i .i64 x.2.1, .s x.2.2]] 3 := vl_good [x]
      by_cases he : out.length = 16
      · have b1 : ((out.length : Int) == 16) = true := by simp; omega
        simp -dsimp only [hv, Option.isSome_some, Option.getD_some, vC, q4, m10, vl_len, b1, go_sem, ↓reduceIte, Nat.reduceEqDiff, Int.reduceLE, Int.reduceLT, Int.reduceNeg, Int.reduceEq, Int.reduceBEq, Int.reduceBNe, Nat.reduceMul, Nat.reduceAdd, Nat.reduceLeDiff, reduceCtorEq, Int.reduceToNat]
        have e : rRd s = none := rr_long (by omega)
        rw [e]
        refine rdr_none ?_ ?_ <;> exact (by simp only [upd_at, ↓reduceIte, Nat.reduceEqDiff] <;> rfl)
      · have b1 : ((out.length : Int) == 16) = false := by simp; omega
        simp -dsimp only [hv, Option.isSome_some, Option.getD_some, vC, q4, m10, vl_len, b1, go_sem, ↓reduceIte, Nat.reduceEqDiff, Int.reduceLE, Int.reduceLT, Int.reduceNeg, Int.reduceEq, Int.reduceBEq, Int.reduceBNe, Nat.reduceMul, Nat.reduceAdd, Nat.reduceLeDiff, reduceCtorEq, Int.reduceToNat]
        refine EK_p ⟨⟨fun _ => fx, gx⟩, by unfold bigOk; omega, by omega⟩ ?_
        simp -dsimp only [q16, w1, go_sem, ↓reduceIte, Nat.reduceEqDiff, Int.reduceLE, Int.reduceLT, Int.reduceNeg, Int.reduceEq, Int.reduceBEq, Int.reduceBNe, Nat.reduceMul, Nat.reduceAdd, Nat.reduceLeDiff, reduceCtorEq, Int.reduceToNat]
        refine hA _ _ _ ⟨out ++ [x], none, _, _, by simp; omega, ?_, by simp [capE], by simp [upd_at, q0], (by rw [List.length_append]; simp only [upd_at, ↓reduceIte, Nat.reduceEqDiff] <;> rfl), ⟨cp, by simp [upd_at, q14]⟩, by simp [upd_at, q15], by simp [upd_at], (by simp only [hup_at, newObs, updObs, ↓reduceIte, Nat.reduceEqDiff, reduceCtorEq, Rid.r.injEq, Rid.l.injEq, Rid.p.injEq, Nat.reduceAdd, Nat.zero_add, and_self, and_true, and_false, false_and, true_and]; exact m12), (by rw [vl_app]; simp only [hup_at, newObs, updObs, ↓reduceIte, Nat.reduceEqDiff, reduceCtorEq, Rid.r.injEq, Rid.l.injEq, Rid.p.injEq, Nat.reduceAdd, Nat.zero_add, and_self, and_true, and_false, false_and, true_and] <;> rfl)⟩
        exact take_map_succ (d := []) (by omega) hI (by rw [hx]; exact hv)
  · rintro A g h c ⟨out, cap, v, q, h16, hI, hcap, q0, q4, ⟨cp, q14⟩, q15, q16, m12, m10⟩
    have hc : ¬ (((words 44 s).length - 1 : Nat) : Int) < (((words 44 s).length - 1 : Nat) : Int) := by omega
    rw [List.take_of_length_le (by omega)] at hI
    have e := rr_end hI
    have d6 := h6 out (by omega)
    by_cases hn : s = []
    · have b2 : (s == []) = true := by simp [hn]
      simp -dsimp only [q0, q4, q15, q16, hc, b2, go_sem, ↓reduceIte, Nat.reduceEqDiff, Int.reduceLE, Int.reduceLT, Int.reduceNeg, Int.reduceEq, Int.reduceBEq, Int.reduceBNe, Nat.reduceMul, Nat.reduceAdd, Nat.reduceLeDiff, reduceCtorEq, Int.reduceToNat]
      rw [e, if_neg (fun h3 => h3.1 hn)]
      refine rdr_none ?_ ?_ <;> exact (by simp only [upd_at, ↓reduceIte, Nat.reduceEqDiff] <;> rfl)
    · have b2 : (s == []) = false := by rw [nil_beq]; simp [hn]
      simp -dsimp only [q0, q4, q15, q16, hc, b2, go_sem, ↓reduceIte, Nat.reduceEqDiff, Int.reduceLE, Int.reduceLT, Int.reduceNeg, Int.reduceEq, Int.reduceBEq, Int.reduceBNe, Nat.reduceMul, Nat.reduceAdd, Nat.reduceLeDiff, reduceCtorEq, Int.reduceToNat]
      refine Call_val (own := true) (v := .s (rText out)) (by simpa [expL, expA, cur, hup_at, List.idxOf?_cons, List.idxOf?_nil, objs_l, objs_r, objs_p, m10, sub_vl, vl_pure, vl_len] using d6) (by simp [ExpOk, AV.pure, cur, hup_at, List.idxOf?_cons, List.idxOf?_nil, objs_l, objs_r, objs_p, m10, sub_vl, vl_pure, vl_len]) (.inl rfl) ?_
      by_cases ht : rText out = s
      · have b1 : (!(rText out == s)) = false := by simp [ht]
        simp -dsimp only [b1, q0, q4, m10, go_sem, ↓reduceIte, Nat.reduceEqDiff, Int.reduceLE, Int.reduceLT, Int.reduceNeg, Int.reduceEq, Int.reduceBEq, Int.reduceBNe, Nat.reduceMul, Nat.reduceAdd, Nat.reduceLeDiff, reduceCtorEq, Int.reduceToNat]
        rw [e, if_pos ⟨hn, ht⟩]
        subst hcap
        exact rdr_some (o := .l 10) rfl (by simp only [upd_at, ↓reduceIte, Nat.reduceEqDiff] <;> rfl) (by simp only [upd_at, ↓reduceIte, Nat.reduceEqDiff] <;> rfl) m10
      · have b1 : (!(rText out == s)) = true := by simp [ht]
        simp -dsimp only [b1, q0, go_sem, ↓reduceIte, Nat.reduceEqDiff, Int.reduceLE, Int.reduceLT, Int.reduceNeg, Int.reduceEq, Int.reduceBEq, Int.reduceBNe, Nat.reduceMul, Nat.reduceAdd, Nat.reduceLeDiff, reduceCtorEq, Int.reduceToNat]
        rw [e, if_neg (fun h3 => ht h3.2)]
        refine rdr_none ?_ ?_ <;> exact (by simp only [upd_at, ↓reduceIte, Nat.reduceEqDiff] <;> rfl)
end FrA

