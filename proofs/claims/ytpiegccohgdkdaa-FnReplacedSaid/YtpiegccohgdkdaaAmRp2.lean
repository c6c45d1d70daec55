/- The law FnReplaced: walked. No condition. -/
import Derived.Test.YtpiegccohgdkdaaAmRp1
import Derived.Test.YtpiegccohgdkdaaAmDk10
set_option linter.all false
set_option linter.unusedSimpArgs false
set_option linter.unusedVariables false
set_option linter.deprecated false
/-! RpB -/
open Go Go.AM
namespace FrA
open Go.Proofs
set_option maxRecDepth 100000
set_option linter.unusedSimpArgs false
theorem il_snoc (l : List Int) (x : Int) : il l ++ [[.i .i64 x]] = il (l ++ [x]) := by simp [il]
def KS (i : Nat) (ks : List Int) : Prop := i = 0 ∧ ks = [] ∨ i = 1 ∧ (ks = [] ∨ ks = [0]) ∨ i = 2 ∧ (ks = [] ∨ ks = [0] ∨ ks = [1] ∨ ks = [0, 1])
theorem KS.skip {i : Nat} {ks : List Int} (h : KS i ks) (hi : i < 2) : KS (i + 1) ks := by
  rcases h with ⟨rfl, rfl⟩ | ⟨rfl, rfl | rfl⟩ | ⟨rfl, _⟩
  · exact .inr (.inl ⟨rfl, .inl rfl⟩)
  · exact .inr (.inr ⟨rfl, .inl rfl⟩)
  · exact .inr (.inr ⟨rfl, .inr (.inl rfl)⟩)
  · omega
theorem KS.take {i : Nat} {ks : List Int} (h : KS i ks) (hi : i < 2) : KS (i + 1) (ks ++ [(i : Int)]) := by
  rcases h with ⟨rfl, rfl⟩ | ⟨rfl, rfl | rfl⟩ | ⟨rfl, _⟩
  · exact .inr (.inl ⟨rfl, .inr rfl⟩)
  · exact .inr (.inr ⟨rfl, .inr (.inr (.inl rfl))⟩)
  · exact .inr (.inr ⟨rfl, .inr (.inr (.inr rfl))⟩)
  · omega
theorem KS.len {i : Nat} {ks : List Int} (h : KS i ks) : ks.length ≤ 2 := by
  rcases h with ⟨rfl, rfl⟩ | ⟨rfl, rfl | rfl⟩ | ⟨rfl, rfl | rfl | rfl | rfl⟩ <;> simp
theorem KS.two {ks : List Int} (h : KS 2 ks) : ks = [] ∨ ks = [0] ∨ ks = [1] ∨ ks = [0, 1] := by
  rcases h with ⟨h, _⟩ | ⟨h, _⟩ | ⟨_, h⟩
  · omega
  · omega
  · exact h
theorem h11 (code : List UInt8) : HT 11 [.dat 1 (bts code)] [] (.b true) true [] := by
  refine holds_of (c := Try.f11.body.getD .skip) (k := k11.1) (ts := [2]) HOk mixedT hintT Try.func11 (by kernel_rfl) (by kernel_rfl) (by kernel_rfl) k11.2 (by kernel_rfl) (le_of 1 _ (by kernel_rfl)) ?_
  by_cases hs : code.length ≤ 1048576
  case neg =>
    have c0 : (code.length : Int) > 1048576 := by omega
    simp -dsimp only [k11, go_sem, ↓reduceIte, Nat.reduceEqDiff, Int.reduceLE, Int.reduceLT, Int.reduceNeg, Int.reduceEq, Nat.reduceMul, Nat.reduceAdd, Nat.reduceLeDiff, reduceCtorEq]
    refine Call_val (own := true) (h23 code) (by simp [ExpOk, AV.pure]) (.inl rfl) ?_
    simp -dsimp only [c0, go_sem, ↓reduceIte, Nat.reduceEqDiff, Int.reduceLE, Int.reduceLT, Int.reduceNeg, Int.reduceEq, Nat.reduceMul, Nat.reduceAdd, Nat.reduceLeDiff, reduceCtorEq]
    exact Fin_val (by simp [resV, upd_at, retA]) (by simp [resV, upd_at, ResOk])
  have c0 : ¬ (code.length : Int) > 1048576 := by omega
  simp -dsimp only [k11, go_sem, ↓reduceIte, Nat.reduceEqDiff, Int.reduceLE, Int.reduceLT, Int.reduceNeg, Int.reduceEq, Nat.reduceMul, Nat.reduceAdd, Nat.reduceLeDiff, reduceCtorEq]
  refine Call_val (own := true) (h23 code) (by simp [ExpOk, AV.pure]) (.inl rfl) ?_
  simp -dsimp only [c0, go_sem, ↓reduceIte, Nat.reduceEqDiff, Int.reduceLE, Int.reduceLT, Int.reduceNeg, Int.reduceEq, Nat.reduceMul, Nat.reduceAdd, Nat.reduceLeDiff, reduceCtorEq]
  refine Call_vals (own := false) (h48 code hs) (by simp [ExpOk, AV.pure]) (.inr (by simp [AV.rooted, AV.ref1])) fun r o' ⟨eo, L0, S0, O0, name, text, b1, b2, b3, hn, ht, er⟩ => ⟨eo, by subst er; intros; simp [disk, impA, impL], ?_⟩
  subst er
  obtain ⟨L, okL, d38⟩ := h38z L0 S0 O0 b1 b2 b3
  have bL : BdF L := ⟨by have := okL.1; omega, fun f hf => by have := okP_le okL f hf; omega⟩
  have bN : BdO [] := ⟨by simp, by simp⟩
  have kL := sync_ok okL
  have d49 := h49 L L [] name text bL bL bN (by omega) (by omega) kL
  have d50 := h50 L L [] name text bL bL bN (by omega) (by omega) kL
  have d44 := fun n => h44 L L [] n bL bL bN
  simp only [rdR_yes kL] at d44
  unfold rpA rpOb copyA at d49
  unfold rpV at d50
  unfold disk at d38 d49 d50 d44 ⊢
  have eN : name ++ [46, 110, 101, 119] = rpN name := rfl
  simp -dsimp only [go_sem, ↓reduceIte, Nat.reduceEqDiff, Int.reduceLE, Int.reduceLT, Int.reduceNeg, Int.reduceEq, Nat.reduceMul, Nat.reduceAdd, Nat.reduceLeDiff, reduceCtorEq]
  refine Call_val (own := false) (d38) (by simp [ExpOk, AV.pure]) (.inr (by simp [AV.rooted, AV.ref1])) ?_
  simp -dsimp only [go_sem, ↓reduceIte, Nat.reduceEqDiff, Int.reduceLE, Int.reduceLT, Int.reduceNeg, Int.reduceEq, Nat.reduceMul, Nat.reduceAdd, Nat.reduceLeDiff, reduceCtorEq]
  have two := fun hn' => rp_two (L := L) (name := name) (text := text) hn'
  obtain ⟨M, hM⟩ : ∃ M, M = (rpF L [] name text).1 := ⟨_, rfl⟩
  obtain ⟨P, hP⟩ : ∃ P, P = (rpF L [] name text).2.1 := ⟨_, rfl⟩
  obtain ⟨cc, hcc⟩ : ∃ c, c = (rpF L [] name text).2.2 := ⟨_, rfl⟩
  rw [← hM, ← hP, ← hcc] at d49 d50
  have f0 : (cc != cc) = false := by simp
  have f0' : (cc == cc) = true := by simp
  refine Call_news (own := true) (b := obF M) (obs' := [obF L, obO P]) d49 (by simp [ExpOk, AV.pure]) (by simp [obF, obO, fl_pure, ol_pure]) (.inl rfl) (by simp [obF, obO]) ?_
  simp -dsimp only [impA, impL, Option.getD_some, Nat.sub_self, Nat.sub_zero, obF, obO, go_sem, ↓reduceIte, Nat.reduceEqDiff, Int.reduceLE, Int.reduceLT, Int.reduceNeg, Int.reduceEq, Nat.reduceMul, Nat.reduceAdd, Nat.reduceLeDiff, reduceCtorEq]
  refine Call_val (own := false) (d50) (by simp [ExpOk, AV.pure]) (.inr (by simp [AV.rooted, AV.ref1])) ?_
  by_cases e0 : cc = 0
  case neg =>
    have f1 : (cc != 0) = true := by simp [e0]
    simp -dsimp only [f0, f1, f0', go_sem, ↓reduceIte, Nat.reduceEqDiff, Int.reduceLE, Int.reduceLT, Int.reduceNeg, Int.reduceEq, Nat.reduceMul, Nat.reduceAdd, Nat.reduceLeDiff, reduceCtorEq]
    exact Fin_val (by simp [resV, upd_at, retA]) (by simp [resV, upd_at, ResOk])
  have f1 : (cc != 0) = false := by simp [e0]
  simp -dsimp only [f0, f1, eN, go_sem, ↓reduceIte, Nat.reduceEqDiff, Int.reduceLE, Int.reduceLT, Int.reduceNeg, Int.reduceEq, Nat.reduceMul, Nat.reduceAdd, Nat.reduceLeDiff, reduceCtorEq]
  refine VK_p (by omega) ?_
  simp -dsimp only [f0, f1, eN, go_sem, ↓reduceIte, Nat.reduceEqDiff, Int.reduceLE, Int.reduceLT, Int.reduceNeg, Int.reduceEq, Nat.reduceMul, Nat.reduceAdd, Nat.reduceLeDiff, reduceCtorEq]
  refine Call_val (own := true) (d44 (rpN name)) (by simp [ExpOk, AV.pure]) (.inl rfl) ?_
  cases hh : has (rpN name) L
  case true =>
    simp -dsimp only [go_sem, ↓reduceIte, Nat.reduceEqDiff, Int.reduceLE, Int.reduceLT, Int.reduceNeg, Int.reduceEq, Nat.reduceMul, Nat.reduceAdd, Nat.reduceLeDiff, reduceCtorEq]
    exact Fin_val (by simp [resV, upd_at, retA]) (by simp [resV, upd_at, ResOk])
  obtain ⟨e1, e2, e3⟩ := two hh (by rw [← hcc]; exact e0)
  have hM' : M = act (act L (rop1 name text)) (rop2 name) := by rw [hM, e1]
  have hP' : P = [rop1 name text, rop2 name] := by rw [hP, e1]
  have lP : P.length = 2 := by rw [hP']; rfl
  have bP : BdO P := ⟨by omega, fun o ho => by rw [hP'] at ho; simp at ho; rcases ho with rfl | rfl <;> simp [rop1, rop2]; omega⟩
  have law := fun (ks : List Int) (hks : ks = [] ∨ ks = [0] ∨ ks = [1] ∨ ks = [0, 1]) => rp_law okL hh e2 e3 hks (torn := ((code.length % 4 : Nat) : Int)) (by omega) hM' hP'
  obtain ⟨kM, z1, z2, _, _⟩ := law [] (.inl rfl)
  have okM := (diskB_ok kM).1
  have bM : BdF M := ⟨by have := okM.1; omega, fun f hf => by have := okP_le okM f hf; omega⟩
  have m44 := h44 M L P name bM bL bP
  rw [rdR_yes kM, z1, z2] at m44
  unfold disk at m44
  simp -dsimp only [go_sem, ↓reduceIte, Nat.reduceEqDiff, Int.reduceLE, Int.reduceLT, Int.reduceNeg, Int.reduceEq, Nat.reduceMul, Nat.reduceAdd, Nat.reduceLeDiff, reduceCtorEq]
  refine Call_val (own := true) (d44 name) (by simp [ExpOk, AV.pure]) (.inl rfl) ?_
  simp -dsimp only [chunk, go_sem, ↓reduceIte, Nat.reduceEqDiff, Int.reduceLE, Int.reduceLT, Int.reduceNeg, Int.reduceEq, Nat.reduceMul, Nat.reduceAdd, Nat.reduceLeDiff, reduceCtorEq]
  have hl2 : ((P.length : Nat) : Int) = 2 := by omega
  generalize olda L name = old at *
  generalize has name L = was at *
  refine K_for 2 (fun i g h c => ∃ (ks : List Int) (u v6 v25 : Nat) (cap : Option Nat) (q q1 q2 q3 : Prop), KS i ks ∧ g 0 = .dat 1 (bts code) ∧ g 4 = .s name ∧ g 5 = .s text ∧ g 6 = .ptr (.l 6) v6 0 0 ∧ g 12 = .s old ∧ g 13 = .b was ∧ g 14 = .sl (.l 70) u 0 ks.length cap ∧ g 15 = i64 i ∧
      h (.l 6) = some { ver := v6, es := [[.sl (.r 36 0) v25 0 M.length none, .sl (.r 36 1) v25 0 L.length none, .sl (.r 36 2) v25 0 P.length none]], esz := 3, own := False, fixed := true } ∧ h (.l 70) = some { ver := u, es := il ks, esz := 1, own := q } ∧
      h (.r 36 0) = some { ver := v25, es := fl M, esz := 2, own := q1 } ∧ h (.r 36 1) = some { ver := v25, es := fl L, esz := 2, own := q2 } ∧ h (.r 36 2) = some { ver := v25, es := ol P, esz := 4, own := q3 }) ?_ ?_ ?_
  · exact ⟨[], _, _, _, _, _, _, _, _, .inl ⟨rfl, rfl⟩, by simp [upd_at, S_0], by simp [upd_at], by simp [upd_at], by simp [upd_at]; rfl, by simp [upd_at], by simp [upd_at], by simp [upd_at]; exact ⟨rfl, rfl⟩, by simp [upd_at], by simp [hup_at]; rfl, by simp [hup_at, il]; rfl, (by simp only [hup_at, newObs, ↓reduceIte, Nat.reduceEqDiff, reduceCtorEq, Rid.r.injEq, Rid.l.injEq, Nat.reduceAdd, Nat.zero_add, and_self, and_true, and_false, false_and, true_and] <;> rfl), (by simp only [hup_at, newObs, ↓reduceIte, Nat.reduceEqDiff, reduceCtorEq, Rid.r.injEq, Rid.l.injEq, Nat.reduceAdd, Nat.zero_add, and_self, and_true, and_false, false_and, true_and] <;> rfl), (by simp only [hup_at, newObs, ↓reduceIte, Nat.reduceEqDiff, reduceCtorEq, Rid.r.injEq, Rid.l.injEq, Nat.reduceAdd, Nat.zero_add, and_self, and_true, and_false, false_and, true_and] <;> rfl)⟩
  · rintro i A hi hA g h c ⟨ks, u, v6, v25, cap, q, q1, q2, q3, hK, g0, g4, g5, g6, g12, g13, g14, g15, m6, m70, r0, r1, r2⟩
    have hc : (i : Int) < (P.length : Int) := by omega
    have hkl := hK.len
    have w1 : IntKind.i64.wrap ((i : Int) + 1) = ((i + 1 : Nat) : Int) := by rw [wr (by omega) (by omega)]; rfl
    have sn : il ks ++ [[AV.i .i64 (i : Int)]] = il (ks ++ [(i : Int)]) := il_snoc ks i
    have next : ∀ (g' : Slots) (h' : Heap) (c' : Nat) (ks' : List Int) (u' : Nat) (cap' : Option Nat) (q' : Prop), KS (i + 1) ks' → g' 0 = .dat 1 (bts code) → g' 4 = .s name → g' 5 = .s text → g' 6 = .ptr (.l 6) v6 0 0 → g' 12 = .s old → g' 13 = .b was → g' 14 = .sl (.l 70) u' 0 ks'.length cap' → g' 15 = i64 (i + 1 : Nat) →
        h' (.l 6) = h (.l 6) → h' (.l 70) = some { ver := u', es := il ks', esz := 1, own := q' } → h' (.r 36 0) = h (.r 36 0) → h' (.r 36 1) = h (.r 36 1) → h' (.r 36 2) = h (.r 36 2) → A g' h' c' := fun g' h' c' ks' u' cap' q' a1 a2 a3 a4 a5 a6 a7 a8 a9 a10 a11 a12 a13 a14 =>
      hA _ _ _ ⟨ks', u', v6, v25, cap', q', q1, q2, q3, a1, a2, a3, a4, a5, a6, a7, a8, a9, by rw [a10]; exact m6, a11, by rw [a12]; exact r0, by rw [a13]; exact r1, by rw [a14]; exact r2⟩
    by_cases hl0 : code.length = 0
    · have c2 : ¬ ((code.length : Int) > 0) := by omega
      simp -dsimp only [g0, g4, g5, g6, g12, g13, g14, g15, m6, m70, r0, r1, r2, hc, bts_len, c2, ol_len, w1, go_sem, ↓reduceIte, Nat.reduceEqDiff, Int.reduceLE, Int.reduceLT, Int.reduceNeg, Int.reduceEq, Nat.reduceMul, Nat.reduceAdd, Nat.reduceLeDiff, reduceCtorEq]
      exact next _ _ _ ks u cap q (hK.skip hi) (by simp [upd_at, g0]) (by simp [upd_at, g4]) (by simp [upd_at, g5]) (by simp [upd_at, g6]) (by simp [upd_at, g12]) (by simp [upd_at, g13]) (by simp [upd_at, g14]) (by simp [upd_at]) rfl m70 rfl rfl rfl
    have c2 : (code.length : Int) > 0 := by omega
    have t1 : (i : Int).tmod (code.length : Int) = ((i % code.length : Nat) : Int) := by rw [Int.tmod_eq_emod_of_nonneg (by omega)]; rfl
    have t2 : (i : Int).tmod 8 = (i : Int) := by rw [Int.tmod_eq_emod_of_nonneg (by omega)]; omega
    have w3 : IntKind.u64.wrap (i : Int) = (i : Int) := by rcases (by omega : i = 0 ∨ i = 1) with rfl | rfl <;> kernel_rfl
    have hm := Nat.mod_lt i (y := code.length) (by omega)
    have hg := bts_get hm
    have hm2 : ((i % code.length : Nat) : Int) < (code.length : Int) := by omega
    simp -dsimp only [g0, g4, g5, g6, g12, g13, g14, g15, m6, m70, r0, r1, r2, hc, bts_len, c2, ol_len, t1, t2, w3, hg, hm2, go_sem, ↓reduceIte, Nat.reduceEqDiff, Int.reduceLE, Int.reduceLT, Int.reduceNeg, Int.reduceEq, Nat.reduceMul, Nat.reduceAdd, Nat.reduceLeDiff, reduceCtorEq]
    refine VK_p (by omega) ?_
    simp -dsimp only [g0, g4, g5, g6, g12, g13, g14, g15, m6, m70, r0, r1, r2, hc, bts_len, c2, ol_len, t1, t2, w3, hg, hm2, go_sem, ↓reduceIte, Nat.reduceEqDiff, Int.reduceLE, Int.reduceLT, Int.reduceNeg, Int.reduceEq, Nat.reduceMul, Nat.reduceAdd, Nat.reduceLeDiff, reduceCtorEq]
    obtain ⟨B, hB⟩ : ∃ B, B = ((((code.getD (i % code.length) 0).toNat : Int).fdiv (2 ^ min i 8)).tmod 2 == 1) := ⟨_, rfl⟩
    rw [← hB]
    clear hB
    cases B
    · simp -dsimp only [g0, g4, g5, g6, g12, g13, g14, g15, m6, m70, r0, r1, r2, w1, go_sem, ↓reduceIte, Nat.reduceEqDiff, Int.reduceLE, Int.reduceLT, Int.reduceNeg, Int.reduceEq, Nat.reduceMul, Nat.reduceAdd, Nat.reduceLeDiff, reduceCtorEq]
      exact next _ _ _ ks u cap q (hK.skip hi) (by simp [upd_at, g0]) (by simp [upd_at, g4]) (by simp [upd_at, g5]) (by simp [upd_at, g6]) (by simp [upd_at, g12]) (by simp [upd_at, g13]) (by simp [upd_at, g14]) (by simp [upd_at]) rfl m70 rfl rfl rfl
    · simp -dsimp only [g0, g4, g5, g6, g12, g13, g14, g15, m6, m70, r0, r1, r2, chunk, il_len, go_sem, ↓reduceIte, Nat.reduceEqDiff, Int.reduceLE, Int.reduceLT, Int.reduceNeg, Int.reduceEq, Nat.reduceMul, Nat.reduceAdd, Nat.reduceLeDiff, reduceCtorEq]
      refine EK_p ⟨⟨fun _ => il_flat [(i : Int)], il_good [(i : Int)]⟩, by unfold bigOk; omega, by omega⟩ ?_
      simp -dsimp only [g0, g4, g5, g6, g12, g13, g14, g15, m6, m70, r0, r1, r2, il_len, w1, sn, go_sem, ↓reduceIte, Nat.reduceEqDiff, Int.reduceLE, Int.reduceLT, Int.reduceNeg, Int.reduceEq, Nat.reduceMul, Nat.reduceAdd, Nat.reduceLeDiff, reduceCtorEq]
      exact next _ _ _ (ks ++ [(i : Int)]) _ _ _ (hK.take hi) (by simp [upd_at, g0]) (by simp [upd_at, g4]) (by simp [upd_at, g5]) (by simp [upd_at, g6]) (by simp [upd_at, g12]) (by simp [upd_at, g13]) (by simp [upd_at]; exact ⟨rfl, rfl⟩) (by simp [upd_at]) (by simp [hup_at]) (by simp [hup_at]; rfl) (by simp [hup_at]) (by simp [hup_at]) (by simp [hup_at])
  · rintro A g h c ⟨ks, u, v6, v25, cap, q, q1, q2, q3, hK, g0, g4, g5, g6, g12, g13, g14, g15, m6, m70, r0, r1, r2⟩
    have hc : ¬ (((2 : Nat) : Int) < (P.length : Int)) := by omega
    obtain ⟨_, _, _, cB, alt⟩ := law ks hK.two
    have hkl := hK.len
    have d37 := h37_yes M L P ks ((code.length % 4 : Nat) : Int) bM bL bP (by omega) cB
    obtain ⟨now, hnow⟩ : ∃ n, n = crN P ks ((code.length % 4 : Nat) : Int) L ks.length := ⟨_, rfl⟩
    rw [← hnow] at d37 alt
    have okN : okP now := by rw [hnow]; exact (crB_t.1 cB).2.2.2
    have bW : BdF now := ⟨by have := okN.1; omega, fun f hf => by have := okP_le okN f hf; omega⟩
    have n44 := h44 now now [] name bW bW bN
    rw [rdR_yes (sync_ok okN)] at n44
    have n44' : HT 44 [.agg [.dat 2 (fl now), .dat 2 (fl now), .nils], .s name] [] (.tup [.s (olda now name), .b (has name now)]) true [] := n44.arg1 (le_disk (O := []) (.refl _) (.refl _) (.nils 4))
    unfold crYes syncA disk at d37
    have t4 : (code.length : Int).tmod 4 = ((code.length % 4 : Nat) : Int) := by rw [Int.tmod_eq_emod_of_nonneg (by omega)]; rfl
    have hsk : sub (il ks) 0 ks.length = il ks := sub_all (il_len ks).symm
    have bt1 : (true == true) = true := rfl
    have bt2 : (true == false) = false := rfl
    have bt3 : (was == was) = true := by simp
    have bt4 : (text == text) = true := by simp
    have bt5 : (old == old) = true := by simp
    have bt6 : (true != false) = true := rfl
    have bt7 : (false != false) = false := rfl
    simp -dsimp only [g0, g4, g5, g6, g12, g13, g14, g15, m6, m70, r0, r1, r2, hc, bts_len, t4, go_sem, ↓reduceIte, Nat.reduceEqDiff, Int.reduceLE, Int.reduceLT, Int.reduceNeg, Int.reduceEq, Nat.reduceMul, Nat.reduceAdd, Nat.reduceLeDiff, reduceCtorEq]
    refine Call_news (own := true) (b := obF now) (obs' := [obF now]) (v := .tup [.agg [.sl (.p 0) 1 0 now.length none, .sl (.p 1) 1 0 now.length none, .nils], .b true]) (by simpa [expL, expA, cur, hup_at, List.idxOf?_cons, List.idxOf?_nil, obM, subF, subO, subFm, subOm, fl_len, ol_len, mkF_len, mkO_len, objs_l, objs_r, objs_p, il_len, m70, r0, r1, r2, hsk] using d37) (by simp [ExpOk, AV.pure, cur, hup_at, List.idxOf?_cons, List.idxOf?_nil, obM, fl_len, ol_len, fl_pure, ol_pure, mkF_len, mkO_len, objs_l, objs_r, objs_p, il_pure, il_len, m70, r0, r1, r2]) (by simp [obF, fl_pure]) (.inl rfl) (by simp [obF]) ?_
    simp -dsimp only [g0, g4, g5, g6, g12, g13, g14, g15, m6, m70, r0, r1, r2, impA, impL, Option.getD_some, Nat.sub_self, Nat.sub_zero, obF, go_sem, ↓reduceIte, Nat.reduceEqDiff, Int.reduceLE, Int.reduceLT, Int.reduceNeg, Int.reduceEq, Nat.reduceMul, Nat.reduceAdd, Nat.reduceLeDiff, reduceCtorEq]
    refine Call_val (own := true) (v := .tup [.s (olda now name), .b (has name now)]) (by simpa [expL, expA, cur, hup_at, List.idxOf?_cons, List.idxOf?_nil, obM, subF, subO, subFm, subOm, fl_len, ol_len, mkF_len, mkO_len, objs_l, objs_r, objs_p, il_len] using n44') (by simp [ExpOk, AV.pure, cur, hup_at, List.idxOf?_cons, List.idxOf?_nil, obM, fl_len, ol_len, fl_pure, ol_pure, mkF_len, mkO_len, objs_l, objs_r, objs_p, il_pure, il_len]) (.inl rfl) ?_
    simp -dsimp only [g0, g4, g5, g6, g12, g13, g14, g15, m6, m70, r0, r1, r2, go_sem, ↓reduceIte, Nat.reduceEqDiff, Int.reduceLE, Int.reduceLT, Int.reduceNeg, Int.reduceEq, Nat.reduceMul, Nat.reduceAdd, Nat.reduceLeDiff, reduceCtorEq]
    refine Call_val (own := true) (v := .tup [.s text, .b true]) (by simpa [expL, expA, cur, hup_at, List.idxOf?_cons, List.idxOf?_nil, obM, subF, subO, subFm, subOm, fl_len, ol_len, mkF_len, mkO_len, objs_l, objs_r, objs_p, il_len, r0, r1, r2] using m44) (by simp [ExpOk, AV.pure, cur, hup_at, List.idxOf?_cons, List.idxOf?_nil, obM, fl_len, ol_len, fl_pure, ol_pure, mkF_len, mkO_len, objs_l, objs_r, objs_p, il_pure, il_len, r0, r1, r2]) (.inl rfl) ?_
    rcases alt with ⟨p1, p2⟩ | ⟨p1, p2⟩
    · rw [p1, p2]
      simp -dsimp only [g0, g4, g5, g6, g12, g13, g14, g15, m6, m70, r0, r1, r2, bt1, bt2, bt3, bt4, bt5, bt6, bt7, go_sem, ↓reduceIte, Nat.reduceEqDiff, Int.reduceLE, Int.reduceLT, Int.reduceNeg, Int.reduceEq, Nat.reduceMul, Nat.reduceAdd, Nat.reduceLeDiff, reduceCtorEq]
      exact Fin_val (by simp [resV, upd_at, retA]) (by simp [resV, upd_at, ResOk])
    · rw [p1, p2]
      cases was
      · simp -dsimp only [g0, g4, g5, g6, g12, g13, g14, g15, m6, m70, r0, r1, r2, bt1, bt2, bt4, bt6, bt7, go_sem, ↓reduceIte, Nat.reduceEqDiff, Int.reduceLE, Int.reduceLT, Int.reduceNeg, Int.reduceEq, Nat.reduceMul, Nat.reduceAdd, Nat.reduceLeDiff, reduceCtorEq]
        exact Fin_val (by simp [resV, upd_at, retA]) (by simp [resV, upd_at, ResOk])
      · obtain ⟨E, hE⟩ : ∃ E, E = (text == old) := ⟨_, rfl⟩
        simp -dsimp only [g0, g4, g5, g6, g12, g13, g14, g15, m6, m70, r0, r1, r2, bt1, bt2, bt4, bt6, bt7, ← hE, go_sem, ↓reduceIte, Nat.reduceEqDiff, Int.reduceLE, Int.reduceLT, Int.reduceNeg, Int.reduceEq, Nat.reduceMul, Nat.reduceAdd, Nat.reduceLeDiff, reduceCtorEq]
        clear hE
        cases E
        · simp -dsimp only [g0, g4, g5, g6, g12, g13, g14, g15, m6, m70, r0, r1, r2, bt1, bt2, bt4, bt6, bt7, go_sem, ↓reduceIte, Nat.reduceEqDiff, Int.reduceLE, Int.reduceLT, Int.reduceNeg, Int.reduceEq, Nat.reduceMul, Nat.reduceAdd, Nat.reduceLeDiff, reduceCtorEq]
          exact Fin_val (by simp [resV, upd_at, retA]) (by simp [resV, upd_at, ResOk])
        · simp -dsimp only [g0, g4, g5, g6, g12, g13, g14, g15, m6, m70, r0, r1, r2, bt1, bt2, bt4, bt6, bt7, go_sem, ↓reduceIte, Nat.reduceEqDiff, Int.reduceLE, Int.reduceLT, Int.reduceNeg, Int.reduceEq, Nat.reduceMul, Nat.reduceAdd, Nat.reduceLeDiff, reduceCtorEq]
          exact Fin_val (by simp [resV, upd_at, retA]) (by simp [resV, upd_at, ResOk])
end FrA

