/- References and tables: right ones, by the program. Walked. No condition. -/
import Derived.Test.YtbhdjaccdaccbaaGreatAmG25
import Derived.Test.YtbhdjaccdaccbaaGreatAmG24
import Derived.Test.YtbhdjaccdaccbaaGreatAmG18
set_option linter.all false
set_option linter.unusedSimpArgs false
set_option linter.unusedVariables false
set_option linter.deprecated false
/-! PrF -/
section
open Go Go.AM
namespace FrA
open Go.Proofs
set_option maxRecDepth 100000
set_option linter.unusedSimpArgs false
theorem h208 (f : Fk) (n : Nat) (hl : f.cols.length ≤ 1048576) (ht : f.tab.length ≤ 1048576) (hn : n ≤ 1048576) : HT 208 [.agg (fkC f), i64 n] [] (.b (tt (fkOk f n))) true [] := by
  refine holds_of (c := Tryz.f208.body.getD .skip) (k := k208.1) (ts := [4]) HOk mixedT hintT Tryz.func208 (by kernel_rfl) (by kernel_rfl) (by kernel_rfl) k208.2 (by kernel_rfl) (le_of 2 _ (by kernel_rfl)) ?_
  obtain ⟨us, nm, x1, x2, x3⟩ := f
  simp only at hl ht
  have d1 := h199 us n (by omega) (by omega)
  have d2 := h197 nm (by omega)
  have d3 := h81 x1 0 2
  have d4 := h81 x2 0 2
  simp only [fkC, fkOk]
  unfold ils at d1 ⊢
  by_cases h1 : colsOk us n
  · rw [tt_t h1] at d1
    by_cases h2 : nmOk nm
    · rw [tt_t h2] at d2
      by_cases h3 : 0 ≤ x1 ∧ x1 ≤ 2
      · rw [tt_iff (show (colsOk us n ∧ nmOk nm ∧ (0 ≤ x1 ∧ x1 ≤ 2) ∧ 0 ≤ x2 ∧ x2 ≤ 2) ↔ (decide (0 ≤ x2 ∧ x2 ≤ 2) = true) from ⟨fun q => decide_eq_true q.2.2.2, fun q => ⟨h1, h2, h3, of_decide_eq_true q⟩⟩), tt_b]
        simp -implicitDefEqProofs -dsimp only [k208, go_sem, ↓reduceIte, Nat.reduceEqDiff, Int.reduceLE, Int.reduceLT, Int.reduceNeg, Int.reduceEq, Int.reduceBEq, Int.reduceBNe, Nat.reduceMul, Nat.reduceAdd, Nat.reduceLeDiff, reduceCtorEq, Int.reduceToNat]
        refine Call_val (own := true) (d1) (by simp [ExpOk, AV.pure]) (.inl rfl) ?_
        simp -implicitDefEqProofs -dsimp only [go_sem, ↓reduceIte, Nat.reduceEqDiff, Int.reduceLE, Int.reduceLT, Int.reduceNeg, Int.reduceEq, Int.reduceBEq, Int.reduceBNe, Nat.reduceMul, Nat.reduceAdd, Nat.reduceLeDiff, reduceCtorEq, Int.reduceToNat]
        refine Call_val (own := true) (d2) (by simp [ExpOk, AV.pure]) (.inl rfl) ?_
        simp -implicitDefEqProofs -dsimp only [go_sem, ↓reduceIte, Nat.reduceEqDiff, Int.reduceLE, Int.reduceLT, Int.reduceNeg, Int.reduceEq, Int.reduceBEq, Int.reduceBNe, Nat.reduceMul, Nat.reduceAdd, Nat.reduceLeDiff, reduceCtorEq, Int.reduceToNat]
        refine Call_val (own := true) (d3) (by simp [ExpOk, AV.pure]) (.inl rfl) ?_
        simp -implicitDefEqProofs -dsimp only [h3, go_sem, ↓reduceIte, Nat.reduceEqDiff, Int.reduceLE, Int.reduceLT, Int.reduceNeg, Int.reduceEq, Int.reduceBEq, Int.reduceBNe, Nat.reduceMul, Nat.reduceAdd, Nat.reduceLeDiff, reduceCtorEq, Int.reduceToNat]
        refine Call_val (own := true) (d4) (by simp [ExpOk, AV.pure]) (.inl rfl) ?_
        simp -implicitDefEqProofs -dsimp only [go_sem, ↓reduceIte, Nat.reduceEqDiff, Int.reduceLE, Int.reduceLT, Int.reduceNeg, Int.reduceEq, Int.reduceBEq, Int.reduceBNe, Nat.reduceMul, Nat.reduceAdd, Nat.reduceLeDiff, reduceCtorEq, Int.reduceToNat]
        exact Fin_val (by simp [resV, upd_at, retA]) (by simp [resV, upd_at, ResOk])
      · rw [tt_f fun q => h3 q.2.2.1]
        simp -implicitDefEqProofs -dsimp only [k208, go_sem, ↓reduceIte, Nat.reduceEqDiff, Int.reduceLE, Int.reduceLT, Int.reduceNeg, Int.reduceEq, Int.reduceBEq, Int.reduceBNe, Nat.reduceMul, Nat.reduceAdd, Nat.reduceLeDiff, reduceCtorEq, Int.reduceToNat]
        refine Call_val (own := true) (d1) (by simp [ExpOk, AV.pure]) (.inl rfl) ?_
        simp -implicitDefEqProofs -dsimp only [go_sem, ↓reduceIte, Nat.reduceEqDiff, Int.reduceLE, Int.reduceLT, Int.reduceNeg, Int.reduceEq, Int.reduceBEq, Int.reduceBNe, Nat.reduceMul, Nat.reduceAdd, Nat.reduceLeDiff, reduceCtorEq, Int.reduceToNat]
        refine Call_val (own := true) (d2) (by simp [ExpOk, AV.pure]) (.inl rfl) ?_
        simp -implicitDefEqProofs -dsimp only [go_sem, ↓reduceIte, Nat.reduceEqDiff, Int.reduceLE, Int.reduceLT, Int.reduceNeg, Int.reduceEq, Int.reduceBEq, Int.reduceBNe, Nat.reduceMul, Nat.reduceAdd, Nat.reduceLeDiff, reduceCtorEq, Int.reduceToNat]
        refine Call_val (own := true) (d3) (by simp [ExpOk, AV.pure]) (.inl rfl) ?_
        simp -implicitDefEqProofs -dsimp only [h3, go_sem, ↓reduceIte, Nat.reduceEqDiff, Int.reduceLE, Int.reduceLT, Int.reduceNeg, Int.reduceEq, Int.reduceBEq, Int.reduceBNe, Nat.reduceMul, Nat.reduceAdd, Nat.reduceLeDiff, reduceCtorEq, Int.reduceToNat]
        exact Fin_val (by simp [resV, upd_at, retA]) (by simp [resV, upd_at, ResOk])
    · rw [tt_f h2] at d2
      rw [tt_f fun q => h2 q.2.1]
      simp -implicitDefEqProofs -dsimp only [k208, go_sem, ↓reduceIte, Nat.reduceEqDiff, Int.reduceLE, Int.reduceLT, Int.reduceNeg, Int.reduceEq, Int.reduceBEq, Int.reduceBNe, Nat.reduceMul, Nat.reduceAdd, Nat.reduceLeDiff, reduceCtorEq, Int.reduceToNat]
      refine Call_val (own := true) (d1) (by simp [ExpOk, AV.pure]) (.inl rfl) ?_
      simp -implicitDefEqProofs -dsimp only [go_sem, ↓reduceIte, Nat.reduceEqDiff, Int.reduceLE, Int.reduceLT, Int.reduceNeg, Int.reduceEq, Int.reduceBEq, Int.reduceBNe, Nat.reduceMul, Nat.reduceAdd, Nat.reduceLeDiff, reduceCtorEq, Int.reduceToNat]
      refine Call_val (own := true) (d2) (by simp [ExpOk, AV.pure]) (.inl rfl) ?_
      simp -implicitDefEqProofs -dsimp only [go_sem, ↓reduceIte, Nat.reduceEqDiff, Int.reduceLE, Int.reduceLT, Int.reduceNeg, Int.reduceEq, Int.reduceBEq, Int.reduceBNe, Nat.reduceMul, Nat.reduceAdd, Nat.reduceLeDiff, reduceCtorEq, Int.reduceToNat]
      exact Fin_val (by simp [resV, upd_at, retA]) (by simp [resV, upd_at, ResOk])
  · rw [tt_f h1] at d1
    rw [tt_f fun q => h1 q.1]
    simp -implicitDefEqProofs -dsimp only [k208, go_sem, ↓reduceIte, Nat.reduceEqDiff, Int.reduceLE, Int.reduceLT, Int.reduceNeg, Int.reduceEq, Int.reduceBEq, Int.reduceBNe, Nat.reduceMul, Nat.reduceAdd, Nat.reduceLeDiff, reduceCtorEq, Int.reduceToNat]
    refine Call_val (own := true) (d1) (by simp [ExpOk, AV.pure]) (.inl rfl) ?_
    simp -implicitDefEqProofs -dsimp only [go_sem, ↓reduceIte, Nat.reduceEqDiff, Int.reduceLE, Int.reduceLT, Int.reduceNeg, Int.reduceEq, Int.reduceBEq, Int.reduceBNe, Nat.reduceMul, Nat.reduceAdd, Nat.reduceLeDiff, reduceCtorEq, Int.reduceToNat]
    exact Fin_val (by simp [resV, upd_at, retA]) (by simp [resV, upd_at, ResOk])
theorem tbC_pure (t : Tb) : ∀ x ∈ tbC t, x.pure = true := by simp [tbC, cls, ils, uns, cks, fkk, AV.pure]
theorem i1_pure (n : Int) : ∀ x ∈ [i64 n], x.pure = true := by simp [AV.pure]
theorem h201 (t : Tb) (m : Nat) (hm : m < t.cols.length) : HT 201 [i64 m, .ptr (.p 0) 0 0 0] [capO 6 (tbC t) False] (.b (!(t.cols.getD m c0).nn)) false [capO 6 (tbC t) False] := by
  refine holds_of (c := Tryz.f201.body.getD .skip) (k := k201.1) (ts := [3]) HOk mixedT hintT Tryz.func201 (by kernel_rfl) (by kernel_rfl) (by kernel_rfl) k201.2 (by kernel_rfl) (le_of 2 _ (by kernel_rfl)) ?_
  have hpu := tbC_pure t
  have hg := mget c0 hm
  obtain ⟨nm, cs, ks, us, es, fs⟩ := t
  simp only at hg ⊢
  generalize cs.getD m c0 = cc at hg
  obtain ⟨n1, a1, a2, a3, a4, a5⟩ := cc
  simp only [tbC] at hpu ⊢
  unfold cls at hpu ⊢
  simp -implicitDefEqProofs -dsimp only [k201, objs_p, capO, S_0, S_1, hg, clC, go_sem, ↓reduceIte, Nat.reduceEqDiff, Int.reduceLE, Int.reduceLT, Int.reduceNeg, Int.reduceEq, Int.reduceBEq, Int.reduceBNe, Nat.reduceMul, Nat.reduceAdd, Nat.reduceLeDiff, reduceCtorEq, Int.reduceToNat]
  refine VK_p (by omega) ?_
  simp -implicitDefEqProofs -dsimp only [go_sem, ↓reduceIte, Nat.reduceEqDiff, Int.reduceLE, Int.reduceLT, Int.reduceNeg, Int.reduceEq, Int.reduceBEq, Int.reduceBNe, Nat.reduceMul, Nat.reduceAdd, Nat.reduceLeDiff, reduceCtorEq, Int.reduceToNat]
  exact fin_cap hpu (by simp [resV, upd_at, retA]) (by simp [resV, upd_at, ResOk]) (by simp [hup_at, objs_p, capO])
theorem h203 (u : List Int) (n : Nat) (hl : u.length ≤ 1048576) (hn : n ≤ 1048576) : HT 203 [.agg (unC u), .ptr (.p 0) 0 0 0] [capO 1 [i64 n] False] (.b (!tt (colsOk u n))) false [capO 1 [i64 n] False] := by
  refine holds_of (c := Tryz.f203.body.getD .skip) (k := k203.1) (ts := [3]) HOk mixedT hintT Tryz.func203 (by kernel_rfl) (by kernel_rfl) (by kernel_rfl) k203.2 (by kernel_rfl) (le_of 2 _ (by kernel_rfl)) ?_
  have d1 := h199 u n (by omega) (by omega)
  simp only [unC]
  unfold ils at d1 ⊢
  simp -implicitDefEqProofs -dsimp only [k203, objs_p, capO, S_0, S_1, go_sem, ↓reduceIte, Nat.reduceEqDiff, Int.reduceLE, Int.reduceLT, Int.reduceNeg, Int.reduceEq, Int.reduceBEq, Int.reduceBNe, Nat.reduceMul, Nat.reduceAdd, Nat.reduceLeDiff, reduceCtorEq, Int.reduceToNat]
  refine Call_val (own := true) (d1) (by simp [ExpOk, AV.pure]) (.inl rfl) ?_
  simp -implicitDefEqProofs -dsimp only [go_sem, ↓reduceIte, Nat.reduceEqDiff, Int.reduceLE, Int.reduceLT, Int.reduceNeg, Int.reduceEq, Int.reduceBEq, Int.reduceBNe, Nat.reduceMul, Nat.reduceAdd, Nat.reduceLeDiff, reduceCtorEq, Int.reduceToNat]
  exact fin_cap (i1_pure n) (by simp [resV, upd_at, retA]) (by simp [resV, upd_at, ResOk]) (by simp [hup_at, objs_p, capO])
theorem h205 (u : List Tk) (n : Nat) (hl : u.length ≤ 1048576) (hn : n ≤ 16) : HT 205 [.agg (ckC u), .ptr (.p 0) 0 0 0] [capO 1 [i64 n] False] (.b (!tt (exOk u n))) false [capO 1 [i64 n] False] := by
  refine holds_of (c := Tryz.f205.body.getD .skip) (k := k205.1) (ts := [3]) HOk mixedT hintT Tryz.func205 (by kernel_rfl) (by kernel_rfl) (by kernel_rfl) k205.2 (by kernel_rfl) (le_of 2 _ (by kernel_rfl)) ?_
  have d1 := h206 u n (by omega) (by omega)
  simp only [ckC]
  unfold tks at d1 ⊢
  simp -implicitDefEqProofs -dsimp only [k205, objs_p, capO, S_0, S_1, go_sem, ↓reduceIte, Nat.reduceEqDiff, Int.reduceLE, Int.reduceLT, Int.reduceNeg, Int.reduceEq, Int.reduceBEq, Int.reduceBNe, Nat.reduceMul, Nat.reduceAdd, Nat.reduceLeDiff, reduceCtorEq, Int.reduceToNat]
  refine Call_val (own := true) (d1) (by simp [ExpOk, AV.pure]) (.inl rfl) ?_
  simp -implicitDefEqProofs -dsimp only [go_sem, ↓reduceIte, Nat.reduceEqDiff, Int.reduceLE, Int.reduceLT, Int.reduceNeg, Int.reduceEq, Int.reduceBEq, Int.reduceBNe, Nat.reduceMul, Nat.reduceAdd, Nat.reduceLeDiff, reduceCtorEq, Int.reduceToNat]
  exact fin_cap (i1_pure n) (by simp [resV, upd_at, retA]) (by simp [resV, upd_at, ResOk]) (by simp [hup_at, objs_p, capO])
theorem h207 (f : Fk) (n : Nat) (hl : f.cols.length ≤ 1048576) (ht : f.tab.length ≤ 1048576) (hn : n ≤ 1048576) : HT 207 [.agg (fkC f), .ptr (.p 0) 0 0 0] [capO 1 [i64 n] False] (.b (!tt (fkOk f n))) false [capO 1 [i64 n] False] := by
  refine holds_of (c := Tryz.f207.body.getD .skip) (k := k207.1) (ts := [3]) HOk mixedT hintT Tryz.func207 (by kernel_rfl) (by kernel_rfl) (by kernel_rfl) k207.2 (by kernel_rfl) (le_of 2 _ (by kernel_rfl)) ?_
  have d1 := h208 f n hl ht hn
  obtain ⟨us, nm, x1, x2, x3⟩ := f
  simp only [fkC] at d1 ⊢
  unfold ils at d1 ⊢
  simp -implicitDefEqProofs -dsimp only [k207, objs_p, capO, S_0, S_1, go_sem, ↓reduceIte, Nat.reduceEqDiff, Int.reduceLE, Int.reduceLT, Int.reduceNeg, Int.reduceEq, Int.reduceBEq, Int.reduceBNe, Nat.reduceMul, Nat.reduceAdd, Nat.reduceLeDiff, reduceCtorEq, Int.reduceToNat]
  refine Call_val (own := true) (d1) (by simp [ExpOk, AV.pure]) (.inl rfl) ?_
  simp -implicitDefEqProofs -dsimp only [go_sem, ↓reduceIte, Nat.reduceEqDiff, Int.reduceLE, Int.reduceLT, Int.reduceNeg, Int.reduceEq, Int.reduceBEq, Int.reduceBNe, Nat.reduceMul, Nat.reduceAdd, Nat.reduceLeDiff, reduceCtorEq, Int.reduceToNat]
  exact fin_cap (i1_pure n) (by simp [resV, upd_at, retA]) (by simp [resV, upd_at, ResOk]) (by simp [hup_at, objs_p, capO])
/-- How great a table may be. -/
structure GTb (t : Tb) : Prop extends BTb t where
  n1 : t.name.length ≤ 1048576
  n2 : ∀ c ∈ t.cols, c.name.length ≤ 1048576
  n3 : ∀ f ∈ t.fks, f.tab.length ≤ 1048576
theorem h140 (t : Tb) (hb : GTb t) : HT 140 [.agg (tbC t)] [] (.b (tt (tbOk t))) true [] := by
  refine holds_of (c := Tryz.f140.body.getD .skip) (k := k140.1) (ts := [2]) HOk mixedT hintT Tryz.func140 (by kernel_rfl) (by kernel_rfl) (by kernel_rfl) k140.2 (by kernel_rfl) (le_of 1 _ (by kernel_rfl)) ?_
  have eO : ∀ (b : Ob), b.fixed = true → { b with ver := 0, fixed := true } = { b with ver := 0 } := fun b h => by cases b; simp_all
  have hpu := tbC_pure t
  have hn := hb.b1
  have d1 := h197 t.name (by have := hb.n1; omega)
  have d2 := h198 t.cols hb.b1 hb.n2
  have d3 := h199 t.key t.cols.length (by have := hb.b2; omega) (by omega)
  have c1 := fun hm => ctIn 201 [.ptr (.p 0) 0 0 0] [capO 6 (tbC t) False] (capO_ok hpu) false nofalse cap1 (fun c => !(t.cols.getD c.toNat c0).nn) t.key (by have := hb.b2; omega) hm
  have c2 := ctUn 203 [.ptr (.p 0) 0 0 0] [capO 1 [i64 t.cols.length] False] (capO_ok (i1_pure _)) false nofalse cap1 (fun u => !tt (colsOk u t.cols.length)) t.uniq (by have := hb.b3; omega) (fun u hu => h203 u _ (hb.b4 u hu) hn)
  have c3 := fun h16 => ctCk 205 [.ptr (.p 0) 0 0 0] [capO 1 [i64 t.cols.length] False] (capO_ok (i1_pure _)) false nofalse cap1 (fun u => !tt (exOk u t.cols.length)) t.chk (by have := hb.b5; omega) (fun u hu => h205 u _ (hb.b6 u hu) h16)
  have c4 := ctFk 207 [.ptr (.p 0) 0 0 0] [capO 1 [i64 t.cols.length] False] (capO_ok (i1_pure _)) false nofalse cap1 (fun u => !tt (fkOk u t.cols.length)) t.fks (by have := hb.b7; omega) (fun u hu => h207 u _ (hb.b8 u hu) (hb.n3 u hu) hn)
  have hdef : tbOk t ↔ nmOk t.name ∧ clsOk t.cols ∧ colsOk t.key t.cols.length ∧ t.uniq.length ≤ 3 ∧ t.chk.length ≤ 3 ∧ t.fks.length ≤ 3 ∧ (∀ c ∈ t.key, (t.cols.getD c.toNat c0).nn = true) ∧ (∀ u ∈ t.uniq, colsOk u t.cols.length) ∧ (∀ e ∈ t.chk, exOk e t.cols.length) ∧ (∀ f ∈ t.fks, fkOk f t.cols.length) := Iff.rfl
  have hkey : colsOk t.key t.cols.length → ∀ a ∈ t.key, 0 ≤ a ∧ a.toNat < t.cols.length := fun hk a ha => by
    obtain ⟨j, hj, rfl⟩ := List.getElem_of_mem ha
    have h1 := (hk.1 j hj).1
    rw [List.getD_eq_getElem?_getD, List.getElem?_eq_getElem hj, Option.getD_some] at h1
    omega
  have hcl : clsOk t.cols → t.cols.length ≤ 8 := fun hk => by
    by_cases h9 : 8 < t.cols.length
    · have := (hk.1 8 h9).1; omega
    · omega
  have any1 : (∀ c ∈ t.key, (t.cols.getD c.toNat c0).nn = true) ↔ t.key.any (fun c => !(t.cols.getD c.toNat c0).nn) = false := by
    rw [List.any_eq_false]; exact ⟨fun h c hc => by simp only [h c hc, Bool.not_true]; simp, fun h c hc => by
      have := h c hc
      cases hx : (t.cols.getD c.toNat c0).nn with
      | true => rfl
      | false => rw [hx] at this; exact absurd rfl this⟩
  have anyT : ∀ {α : Type} (p : α → Prop) (l : List α), (∀ u ∈ l, p u) ↔ l.any (fun u => !tt (p u)) = false := fun p l => by
    rw [List.any_eq_false]
    exact ⟨fun h c hc => by simp [tt_t (h c hc)], fun h c hc => by have := h c hc; exact tt_true.1 (by simpa using this)⟩
  rw [any1, anyT (fun u => colsOk u t.cols.length), anyT (fun u => exOk u t.cols.length), anyT (fun u => fkOk u t.cols.length)] at hdef
  have b3 := hb.b3
  have b5 := hb.b5
  have b7 := hb.b7
  clear hb anyT any1
  generalize t.key.any (fun c => !(t.cols.getD c.toNat c0).nn) = A1 at c1 hdef
  generalize t.uniq.any (fun u => !tt (colsOk u t.cols.length)) = A2 at c2 hdef
  generalize t.chk.any (fun u => !tt (exOk u t.cols.length)) = A3 at c3 hdef
  generalize t.fks.any (fun u => !tt (fkOk u t.cols.length)) = A4 at c4 hdef
  have c1' : colsOk t.key t.cols.length → HT 200 [ils t.key, .fn 201 [.ptr (.p 0) 0 0 0]] [capO 6 (tbC t) False] (.b A1) false [capO 6 (tbC t) False] := fun hk => c1 fun a ha => by
    obtain ⟨h0, h1⟩ := hkey hk a ha
    have := h201 t a.toNat h1
    rwa [show ((a.toNat : Nat) : Int) = a by omega] at this
  have c3' : clsOk t.cols → HT 204 [cks t.chk, .fn 205 [.ptr (.p 0) 0 0 0]] [capO 1 [i64 t.cols.length] False] (.b A3) false [capO 1 [i64 t.cols.length] False] := fun hk => c3 (by have := hcl hk; omega)
  clear c1 c3 hkey hcl eO
  obtain ⟨nm, cs, ks, us, es, fs⟩ := t
  simp only [tbC] at *
  simp only [cls, ils, uns, cks, fkk] at d2 d3 c1' c2 c3' c4 hpu ⊢
  have bad : ¬ tbOk ⟨nm, cs, ks, us, es, fs⟩ → tt (tbOk ⟨nm, cs, ks, us, es, fs⟩) = false := tt_f
  have npu : ∀ e ∈ [[AV.i .i64 (cs.length : Int)]], ∀ x ∈ e, x.pure = true := fun e he x hx => by simp only [List.mem_cons, List.not_mem_nil, or_false] at he; subst he; exact i1_pure _ x hx
  have tpu : ∀ e ∈ [[AV.s nm, .dat 6 (cs.map clC), .dat 1 (ks.map inC), .dat 1 (us.map unC), .dat 1 (es.map ckC), .dat 5 (fs.map fkC)]], ∀ x ∈ e, x.pure = true := fun e he x hx => by simp only [List.mem_cons, List.not_mem_nil, or_false] at he; subst he; exact hpu x hx
  simp -implicitDefEqProofs -dsimp only [k140, go_sem, ↓reduceIte, Nat.reduceEqDiff, Int.reduceLE, Int.reduceLT, Int.reduceNeg, Int.reduceEq, Int.reduceBEq, Int.reduceBNe, Nat.reduceMul, Nat.reduceAdd, Nat.reduceLeDiff, reduceCtorEq, Int.reduceToNat]
  refine Call_val (own := true) (d1) (by simp [ExpOk, AV.pure]) (.inl rfl) ?_
  by_cases h1 : nmOk nm
  rotate_left
  · rw [tt_f h1]
    simp -implicitDefEqProofs -dsimp only [go_sem, ↓reduceIte, Nat.reduceEqDiff, Int.reduceLE, Int.reduceLT, Int.reduceNeg, Int.reduceEq, Int.reduceBEq, Int.reduceBNe, Nat.reduceMul, Nat.reduceAdd, Nat.reduceLeDiff, reduceCtorEq, Int.reduceToNat]
    have hf := bad fun q => h1 (hdef.1 q).1
    exact Fin_val (by simp [resV, upd_at, retA, hf]) (by simp [resV, upd_at, ResOk])
  rw [tt_t h1]
  simp -implicitDefEqProofs -dsimp only [go_sem, ↓reduceIte, Nat.reduceEqDiff, Int.reduceLE, Int.reduceLT, Int.reduceNeg, Int.reduceEq, Int.reduceBEq, Int.reduceBNe, Nat.reduceMul, Nat.reduceAdd, Nat.reduceLeDiff, reduceCtorEq, Int.reduceToNat]
  refine Call_val (own := true) (d2) (by simp [ExpOk, AV.pure]) (.inl rfl) ?_
  by_cases h2 : clsOk cs
  rotate_left
  · rw [tt_f h2]
    simp -implicitDefEqProofs -dsimp only [go_sem, ↓reduceIte, Nat.reduceEqDiff, Int.reduceLE, Int.reduceLT, Int.reduceNeg, Int.reduceEq, Int.reduceBEq, Int.reduceBNe, Nat.reduceMul, Nat.reduceAdd, Nat.reduceLeDiff, reduceCtorEq, Int.reduceToNat]
    have hf := bad fun q => h2 (hdef.1 q).2.1
    exact Fin_val (by simp [resV, upd_at, retA, hf]) (by simp [resV, upd_at, ResOk])
  rw [tt_t h2]
  simp -implicitDefEqProofs -dsimp only [go_sem, ↓reduceIte, Nat.reduceEqDiff, Int.reduceLE, Int.reduceLT, Int.reduceNeg, Int.reduceEq, Int.reduceBEq, Int.reduceBNe, Nat.reduceMul, Nat.reduceAdd, Nat.reduceLeDiff, reduceCtorEq, Int.reduceToNat]
  refine Call_val (own := true) (d3) (by simp [ExpOk, AV.pure]) (.inl rfl) ?_
  by_cases h3 : colsOk ks cs.length
  rotate_left
  · rw [tt_f h3]
    simp -implicitDefEqProofs -dsimp only [go_sem, ↓reduceIte, Nat.reduceEqDiff, Int.reduceLE, Int.reduceLT, Int.reduceNeg, Int.reduceEq, Int.reduceBEq, Int.reduceBNe, Nat.reduceMul, Nat.reduceAdd, Nat.reduceLeDiff, reduceCtorEq, Int.reduceToNat]
    have hf := bad fun q => h3 (hdef.1 q).2.2.1
    exact Fin_val (by simp [resV, upd_at, retA, hf]) (by simp [resV, upd_at, ResOk])
  rw [tt_t h3]
  by_cases h4 : us.length ≤ 3
  rotate_left
  · have g4 : (us.length : Int) > 3 := by omega
    simp -implicitDefEqProofs -dsimp only [g4, go_sem, ↓reduceIte, Nat.reduceEqDiff, Int.reduceLE, Int.reduceLT, Int.reduceNeg, Int.reduceEq, Int.reduceBEq, Int.reduceBNe, Nat.reduceMul, Nat.reduceAdd, Nat.reduceLeDiff, reduceCtorEq, Int.reduceToNat]
    have hf := bad fun q => h4 (hdef.1 q).2.2.2.1
    exact Fin_val (by simp [resV, upd_at, retA, hf]) (by simp [resV, upd_at, ResOk])
  have g4 : ¬ (us.length : Int) > 3 := by omega
  by_cases h5 : es.length ≤ 3
  rotate_left
  · have g5 : (es.length : Int) > 3 := by omega
    simp -implicitDefEqProofs -dsimp only [g4, g5, go_sem, ↓reduceIte, Nat.reduceEqDiff, Int.reduceLE, Int.reduceLT, Int.reduceNeg, Int.reduceEq, Int.reduceBEq, Int.reduceBNe, Nat.reduceMul, Nat.reduceAdd, Nat.reduceLeDiff, reduceCtorEq, Int.reduceToNat]
    have hf := bad fun q => h5 (hdef.1 q).2.2.2.2.1
    exact Fin_val (by simp [resV, upd_at, retA, hf]) (by simp [resV, upd_at, ResOk])
  have g5 : ¬ (es.length : Int) > 3 := by omega
  by_cases h6 : fs.length ≤ 3
  rotate_left
  · have g6 : (fs.length : Int) > 3 := by omega
    simp -implicitDefEqProofs -dsimp only [g4, g5, g6, go_sem, ↓reduceIte, Nat.reduceEqDiff, Int.reduceLE, Int.reduceLT, Int.reduceNeg, Int.reduceEq, Int.reduceBEq, Int.reduceBNe, Nat.reduceMul, Nat.reduceAdd, Nat.reduceLeDiff, reduceCtorEq, Int.reduceToNat]
    have hf := bad fun q => h6 (hdef.1 q).2.2.2.2.2.1
    exact Fin_val (by simp [resV, upd_at, retA, hf]) (by simp [resV, upd_at, ResOk])
  have g6 : ¬ (fs.length : Int) > 3 := by omega
  simp -implicitDefEqProofs -dsimp only [g4, g5, g6, go_sem, ↓reduceIte, Nat.reduceEqDiff, Int.reduceLE, Int.reduceLT, Int.reduceNeg, Int.reduceEq, Int.reduceBEq, Int.reduceBNe, Nat.reduceMul, Nat.reduceAdd, Nat.reduceLeDiff, reduceCtorEq, Int.reduceToNat]
  refine Call_one (own := false) (v := .b A1) (.l 1) _ (capO 6 _ _) (by simp only [hup_at, newObs, ↓reduceIte, Nat.reduceEqDiff, reduceCtorEq, Rid.r.injEq, Rid.l.injEq, Nat.reduceAdd, Nat.zero_add, and_self, and_true, and_false, false_and, true_and] <;> rfl) (by simpa [expL, expA, cur, hup_at, List.idxOf?_cons, List.idxOf?_nil, objs_l, objs_r, objs_p, capO] using c1' h3) (by simp [ExpOk, AV.pure, cur, hup_at, List.idxOf?_cons, List.idxOf?_nil, objs_l, objs_r, objs_p]) (by exact tpu) (by exact tpu) (.inr (by simp [AV.rooted, AV.ref1])) (fun h => by cases h) ?_
  cases A1 with
  | true =>
    simp -implicitDefEqProofs -dsimp only [capO, go_sem, ↓reduceIte, Nat.reduceEqDiff, Int.reduceLE, Int.reduceLT, Int.reduceNeg, Int.reduceEq, Int.reduceBEq, Int.reduceBNe, Nat.reduceMul, Nat.reduceAdd, Nat.reduceLeDiff, reduceCtorEq, Int.reduceToNat]
    have hf := bad fun q => by have := (hdef.1 q).2.2.2.2.2.2.1; cases this
    exact Fin_val (by simp [resV, upd_at, retA, hf]) (by simp [resV, upd_at, ResOk])
  | false =>
  simp -implicitDefEqProofs -dsimp only [capO, go_sem, ↓reduceIte, Nat.reduceEqDiff, Int.reduceLE, Int.reduceLT, Int.reduceNeg, Int.reduceEq, Int.reduceBEq, Int.reduceBNe, Nat.reduceMul, Nat.reduceAdd, Nat.reduceLeDiff, reduceCtorEq, Int.reduceToNat]
  refine Call_one (own := false) (v := .b A2) (.l 3) _ (capO 1 _ _) (by simp only [hup_at, newObs, ↓reduceIte, Nat.reduceEqDiff, reduceCtorEq, Rid.r.injEq, Rid.l.injEq, Nat.reduceAdd, Nat.zero_add, and_self, and_true, and_false, false_and, true_and] <;> rfl) (by simpa [expL, expA, cur, hup_at, List.idxOf?_cons, List.idxOf?_nil, objs_l, objs_r, objs_p, capO] using c2) (by simp [ExpOk, AV.pure, cur, hup_at, List.idxOf?_cons, List.idxOf?_nil, objs_l, objs_r, objs_p]) (by exact npu) (by exact npu) (.inr (by simp [AV.rooted, AV.ref1])) (fun h => by cases h) ?_
  cases A2 with
  | true =>
    simp -implicitDefEqProofs -dsimp only [capO, go_sem, ↓reduceIte, Nat.reduceEqDiff, Int.reduceLE, Int.reduceLT, Int.reduceNeg, Int.reduceEq, Int.reduceBEq, Int.reduceBNe, Nat.reduceMul, Nat.reduceAdd, Nat.reduceLeDiff, reduceCtorEq, Int.reduceToNat]
    have hf := bad fun q => by have := (hdef.1 q).2.2.2.2.2.2.2.1; cases this
    exact Fin_val (by simp [resV, upd_at, retA, hf]) (by simp [resV, upd_at, ResOk])
  | false =>
  simp -implicitDefEqProofs -dsimp only [capO, go_sem, ↓reduceIte, Nat.reduceEqDiff, Int.reduceLE, Int.reduceLT, Int.reduceNeg, Int.reduceEq, Int.reduceBEq, Int.reduceBNe, Nat.reduceMul, Nat.reduceAdd, Nat.reduceLeDiff, reduceCtorEq, Int.reduceToNat]
  refine Call_one (own := false) (v := .b A3) (.l 3) _ (capO 1 _ _) (by simp only [hup_at, newObs, ↓reduceIte, Nat.reduceEqDiff, reduceCtorEq, Rid.r.injEq, Rid.l.injEq, Nat.reduceAdd, Nat.zero_add, and_self, and_true, and_false, false_and, true_and] <;> rfl) (by simpa [expL, expA, cur, hup_at, List.idxOf?_cons, List.idxOf?_nil, objs_l, objs_r, objs_p, capO] using c3' h2) (by simp [ExpOk, AV.pure, cur, hup_at, List.idxOf?_cons, List.idxOf?_nil, objs_l, objs_r, objs_p]) (by exact npu) (by exact npu) (.inr (by simp [AV.rooted, AV.ref1])) (fun h => by cases h) ?_
  cases A3 with
  | true =>
    simp -implicitDefEqProofs -dsimp only [capO, go_sem, ↓reduceIte, Nat.reduceEqDiff, Int.reduceLE, Int.reduceLT, Int.reduceNeg, Int.reduceEq, Int.reduceBEq, Int.reduceBNe, Nat.reduceMul, Nat.reduceAdd, Nat.reduceLeDiff, reduceCtorEq, Int.reduceToNat]
    have hf := bad fun q => by have := (hdef.1 q).2.2.2.2.2.2.2.2.1; cases this
    exact Fin_val (by simp [resV, upd_at, retA, hf]) (by simp [resV, upd_at, ResOk])
  | false =>
  simp -implicitDefEqProofs -dsimp only [capO, go_sem, ↓reduceIte, Nat.reduceEqDiff, Int.reduceLE, Int.reduceLT, Int.reduceNeg, Int.reduceEq, Int.reduceBEq, Int.reduceBNe, Nat.reduceMul, Nat.reduceAdd, Nat.reduceLeDiff, reduceCtorEq, Int.reduceToNat]
  refine Call_one (own := false) (v := .b A4) (.l 3) _ (capO 1 _ _) (by simp only [hup_at, newObs, ↓reduceIte, Nat.reduceEqDiff, reduceCtorEq, Rid.r.injEq, Rid.l.injEq, Nat.reduceAdd, Nat.zero_add, and_self, and_true, and_false, false_and, true_and] <;> rfl) (by simpa [expL, expA, cur, hup_at, List.idxOf?_cons, List.idxOf?_nil, objs_l, objs_r, objs_p, capO] using c4) (by simp [ExpOk, AV.pure, cur, hup_at, List.idxOf?_cons, List.idxOf?_nil, objs_l, objs_r, objs_p]) (by exact npu) (by exact npu) (.inr (by simp [AV.rooted, AV.ref1])) (fun h => by cases h) ?_
  cases A4 with
  | true =>
    simp -implicitDefEqProofs -dsimp only [capO, go_sem, ↓reduceIte, Nat.reduceEqDiff, Int.reduceLE, Int.reduceLT, Int.reduceNeg, Int.reduceEq, Int.reduceBEq, Int.reduceBNe, Nat.reduceMul, Nat.reduceAdd, Nat.reduceLeDiff, reduceCtorEq, Int.reduceToNat]
    have hf := bad fun q => by have := (hdef.1 q).2.2.2.2.2.2.2.2.2; cases this
    exact Fin_val (by simp [resV, upd_at, retA, hf]) (by simp [resV, upd_at, ResOk])
  | false =>
  simp -implicitDefEqProofs -dsimp only [capO, go_sem, ↓reduceIte, Nat.reduceEqDiff, Int.reduceLE, Int.reduceLT, Int.reduceNeg, Int.reduceEq, Int.reduceBEq, Int.reduceBNe, Nat.reduceMul, Nat.reduceAdd, Nat.reduceLeDiff, reduceCtorEq, Int.reduceToNat]
  have good : tt (tbOk ⟨nm, cs, ks, us, es, fs⟩) = true := tt_t (hdef.2 ⟨h1, h2, h3, h4, h5, h6, rfl, rfl, rfl, rfl⟩)
  exact Fin_val (by simp [resV, upd_at, retA, good]) (by simp [resV, upd_at, ResOk])
end FrA
end
/-! BdA -/
section
open Go Go.AM
namespace FrA
open Go.Proofs
theorem szL_mem {α : Type} (w : α → Nat) {l : List α} {a : α} {n : Nat} (h : szL w l ≤ n) (ha : a ∈ l) : w a ≤ n := by
  have := wL_mem w ha
  unfold szL at h; omega
theorem szL_len {α : Type} (w : α → Nat) {l : List α} {n : Nat} (h : szL w l ≤ n) : l.length ≤ n := by
  unfold szL at h; omega
theorem gtb_of {t : Tb} (h : szTb t ≤ 1048576) : GTb t := by
  have h1 : szL szCl t.cols ≤ 1048576 := by unfold szTb at h; omega
  have h2 : szL szUn t.uniq ≤ 1048576 := by unfold szTb at h; omega
  have h3 : szL szCk t.chk ≤ 1048576 := by unfold szTb at h; omega
  have h4 : szL szFk t.fks ≤ 1048576 := by unfold szTb at h; omega
  have h5 : t.name.length ≤ 1048576 := by unfold szTb at h; omega
  have h6 : t.key.length ≤ 1048576 := by unfold szTb at h; omega
  refine ⟨⟨szL_len _ h1, h6, szL_len _ h2, fun u hu => ?_, szL_len _ h3, fun u hu => ?_, szL_len _ h4, fun u hu => ?_⟩, h5, fun c hc => ?_, fun f hf => ?_⟩
  · exact szL_mem szUn h2 hu
  · have := szL_mem szCk h3 hu; exact szL_len _ this
  · have := szL_mem szFk h4 hu; unfold szFk at this; omega
  · have := szL_mem szCl h1 hc; unfold szCl at this; omega
  · have := szL_mem szFk h4 hf; unfold szFk at this; omega
theorem gtbs_of {s : List Tb} (h : szTbs s ≤ 1048576) : (∀ t ∈ s, GTb t) ∧ BTbs s :=
  ⟨fun t ht => gtb_of (szL_mem szTb h ht), szL_len _ h, fun t ht => (gtb_of (szL_mem szTb h ht)).toBTb⟩
theorem bdb_of {d : Db} (h : szDb d ≤ 1048576) : BDb d :=
  ⟨szL_len _ h, fun r hr => ⟨szL_len _ (szL_mem szDt h hr), fun x hx => szL_len _ (szL_mem szRw (szL_mem szDt h hr) hx)⟩⟩
end FrA
end
/-! GnC -/
section
open Go Go.AM
namespace FrA
open Go.Proofs
set_option maxRecDepth 100000
set_option linter.unusedSimpArgs false
open Go.AM.L
def mtail (k : Nat) (out : List UInt8) : List UInt8 := if h : k = 0 then out else mtail (k / 10) (UInt8.ofNat (48 + k % 10) :: out)
termination_by k
decreasing_by exact Nat.div_lt_self (by omega) (by omega)
theorem mtail_zero (out : List UInt8) : mtail 0 out = out := by unfold mtail; simp
theorem mtail_pos {k : Nat} (h : k ≠ 0) (out : List UInt8) : mtail k out = mtail (k / 10) (UInt8.ofNat (48 + k % 10) :: out) := by
  conv => lhs; unfold mtail
  rw [dif_neg h]
def mark (k : Nat) : List UInt8 := 109 :: mtail k []
theorem h55 (k : Nat) (hk : k ≤ 1000000000) (h0 : 0 < k) : HT 55 [i64 k] [] (.s (mark k)) true [] := by
  refine holds_of (c := Tryz.f55.body.getD .skip) (k := k55.1) (ts := [2]) HOk mixedT hintT Tryz.func55 (by kernel_rfl) (by kernel_rfl) (by kernel_rfl) k55.2 (by kernel_rfl) (le_of 1 _ (by kernel_rfl)) ?_
  have hc : ¬ (k : Int) ≤ 0 := by omega
  simp -implicitDefEqProofs -dsimp only [k55, hc, go_sem, ↓reduceIte, Nat.reduceEqDiff, Int.reduceLE, Int.reduceLT, Int.reduceNeg, Int.reduceEq, Int.reduceBEq, Int.reduceBNe, Nat.reduceMul, Nat.reduceAdd, Nat.reduceLeDiff, reduceCtorEq, Int.reduceToNat]
  refine K_loop (fun g h _ => ∃ (j : Nat) (out : List UInt8), j ≤ k ∧ j + out.length ≤ k ∧ mtail j out = mtail k [] ∧ g 0 = i64 j ∧ g 3 = .s out) (fun g _ _ => match g 0 with | .i _ n => n.toNat | _ => 0) ?_ ?_
  · exact ⟨k, [], by omega, by simp, rfl, by simp [upd_at, S_0], by simp [upd_at]⟩
  · rintro A n hA g h c ⟨j, out, hj, hjo, hm, q0, q3⟩ hn
    by_cases hz : j = 0
    · subst hz
      have hc : ¬ ((0 : Nat) : Int) > 0 := by omega
      rw [mtail_zero] at hm
      simp -implicitDefEqProofs -dsimp only [q0, q3, hc, go_sem, ↓reduceIte, Nat.reduceEqDiff, Int.reduceLE, Int.reduceLT, Int.reduceNeg, Int.reduceEq, Int.reduceBEq, Int.reduceBNe, Nat.reduceMul, Nat.reduceAdd, Nat.reduceLeDiff, reduceCtorEq, Int.reduceToNat]
      refine VK_p (by first | omega | (simp; omega)) ?_
      simp -implicitDefEqProofs -dsimp only [q0, q3, go_sem, ↓reduceIte, Nat.reduceEqDiff, Int.reduceLE, Int.reduceLT, Int.reduceNeg, Int.reduceEq, Int.reduceBEq, Int.reduceBNe, Nat.reduceMul, Nat.reduceAdd, Nat.reduceLeDiff, reduceCtorEq, Int.reduceToNat]
      refine Fin_val ?_ ?_
      · simp [resV, upd_at, retA, mark, hm]
      · simp [resV, upd_at, ResOk]
    · have hc : (j : Int) > 0 := by omega
      have t1 : (j : Int).tmod 10 = ((j % 10 : Nat) : Int) := by rw [Int.tmod_eq_emod_of_nonneg (by omega)]; omega
      have t2 : (j : Int).tdiv 10 = ((j / 10 : Nat) : Int) := by rw [Int.tdiv_eq_ediv_of_nonneg (by omega)]; omega
      have w1 : IntKind.i64.wrap (48 + ((j % 10 : Nat) : Int)) = ((48 + j % 10 : Nat) : Int) := by rw [wr (by omega) (by omega)]; omega
      have w2 : IntKind.u8.wrap ((48 + j % 10 : Nat) : Int) = ((48 + j % 10 : Nat) : Int) := by
        have e3 : ∀ m : Int, IntKind.u8.wrap m = m % 256 := fun m => by simp [IntKind.wrap, IntKind.signed, IntKind.bits]
        rw [e3]; omega
      have w3 : IntKind.i64.wrap ((j / 10 : Nat) : Int) = ((j / 10 : Nat) : Int) := wr (by omega) (by omega)
      simp -implicitDefEqProofs -dsimp only [q0, q3, hc, t1, t2, w1, w2, w3, go_sem, ↓reduceIte, Nat.reduceEqDiff, Int.reduceLE, Int.reduceLT, Int.reduceNeg, Int.reduceEq, Int.reduceBEq, Int.reduceBNe, Nat.reduceMul, Nat.reduceAdd, Nat.reduceLeDiff, reduceCtorEq, Int.reduceToNat]
      refine VK_p (by first | omega | (simp; omega)) ?_
      simp -implicitDefEqProofs -dsimp only [q0, q3, hc, t1, t2, w1, w2, w3, go_sem, ↓reduceIte, Nat.reduceEqDiff, Int.reduceLE, Int.reduceLT, Int.reduceNeg, Int.reduceEq, Int.reduceBEq, Int.reduceBNe, Nat.reduceMul, Nat.reduceAdd, Nat.reduceLeDiff, reduceCtorEq, Int.reduceToNat]
      refine hA _ _ _ ⟨j / 10, UInt8.ofNat (48 + j % 10) :: out, by omega, by simp; omega, by rw [← hm, ← mtail_pos hz], by simp [upd_at], by simp [upd_at]⟩ ?_
      rw [q0] at hn; simp [upd_at] at hn ⊢; omega
def obM (z : Nat) (es : List (List AV)) (q : Prop) : Ob := { ver := 0, es := es, esz := z, own := q, fixed := true }
/-- A list inside of an element is marked. -/
theorem Mark_sub (a : Nat) (ha : 6 ≤ a) {s : Stk} {g : Slots} {h : Heap} {c : Nat} {z j f zi n i k k' : Nat} {es es' : List (List AV)} {E : List (List AV)} {row : List AV} {cap : Option Nat} {q : Prop}
    (q0 : g 0 = .sl (.p 0) 0 0 n cap) (q1 : g 1 = i64 k) (q5 : g 5 = i64 i) (hi : i < n) (hq : q) (hh : h (.p 0) = some (obM z E q)) (he : E[i]? = some row) (hz : row.length = z) (hj : row[j]? = some (.dat zi es))
    (hf : HT f [.sl (.p 0) 0 0 es.length none, i64 k] [obM zi es True] (i64 k') true [obM zi es' True]) (hp : AM.Pure es) (hp' : AM.Pure es') (hl : es'.length = es.length)
    (hc : ∀ g' h' c', g' 0 = .sl (.p 0) 0 0 n cap → g' 1 = i64 k' → g' 5 = i64 i → h' (.p 0) = some (obM z (E.set i (row.set j (.dat zi es'))) q) → Ret HC .normal s g' h' c') :
    GhK HC [m a 0, m (a + 1) 5, o (a + 2) (.idx z (.t a) (.t (a + 1))), o (a + 3) (.fld j (.t (a + 2))), o (a + 4) (.load false 1 (.t (a + 3))), m (a + 5) 1, o (a + 6) (.call (.f f) [.t (a + 4), .t (a + 5)]), m 1 (a + 6), G] [] s g h c := by
  have hlt : i < E.length := (List.getElem?_eq_some_iff.1 he).1
  have hjl : j < row.length := (List.getElem?_eq_some_iff.1 hj).1
  unfold obM at hh
  have hd : ∃ h1 : Heap, h1 = hdel h (.l 900) := ⟨_, rfl⟩
  refine Gh_of (Gh.trans (.drop _ _ _ (.l 900) rfl) (.take _ _ _ (.p 0) (.l 900) { ver := 0, es := E, esz := z, own := q, fixed := true } row i j zi es (by rw [hdel_at, if_neg (by simp)]; exact hh) hq he hj (by rw [hdel_at, if_pos rfl]) rfl (by simp))) ?_
  have n0 : ∀ m : Nat, ((0 : Nat) = a + m) = False := fun m => by simp; omega
  have n1 : ∀ m : Nat, ((1 : Nat) = a + m) = False := fun m => by simp; omega
  have n5 : ∀ m : Nat, ((5 : Nat) = a + m) = False := fun m => by simp; omega
  have n0' : ((0 : Nat) = a) = False := by simp; omega
  have n1' : ((1 : Nat) = a) = False := by simp; omega
  have n5' : ((5 : Nat) = a) = False := by simp; omega
  have naa : ∀ m : Nat, (a = a + (m + 1)) = False := fun m => by simp
  have gi : (E.set i (row.set j (.sl (.l 900) c 0 es.length none)))[i]? = some (row.set j (.sl (.l 900) c 0 es.length none)) := List.getElem?_set_self hlt
  have gj : (row.set j (.sl (.l 900) c 0 es.length none))[j]? = some (.sl (.l 900) c 0 es.length none) := List.getElem?_set_self hjl
  simp -implicitDefEqProofs -dsimp only [q0, q1, q5, n0, n1, n5, n0', n1', n5', naa, gi, gj, Nat.add_left_cancel_iff, List.length_set, hz, go_sem, ↓reduceIte, Nat.reduceEqDiff, Int.reduceLE, Int.reduceLT, Int.reduceNeg, Int.reduceEq, Int.reduceBEq, Int.reduceBNe, Nat.reduceMul, Nat.reduceAdd, Nat.reduceLeDiff, reduceCtorEq, Int.reduceToNat]
  refine VK_p hi ?_
  simp -implicitDefEqProofs -dsimp only [q0, q1, q5, n0, n1, n5, n0', n1', n5', naa, gi, gj, Nat.add_left_cancel_iff, List.length_set, hz, go_sem, ↓reduceIte, Nat.reduceEqDiff, Int.reduceLE, Int.reduceLT, Int.reduceNeg, Int.reduceEq, Int.reduceBEq, Int.reduceBNe, Nat.reduceMul, Nat.reduceAdd, Nat.reduceLeDiff, reduceCtorEq, Int.reduceToNat]
  refine Call_one (own := true) (v := i64 (k' : Nat)) (.l 900) { ver := c, es := es, esz := zi } (obM zi es' True) (by simp only [hup_at, ↓reduceIte]) (by simpa [expL, expA, cur, hup_at, List.idxOf?_cons, List.idxOf?_nil, objs_l, objs_r, objs_p, obM] using hf) (by simp [ExpOk, AV.pure, cur, hup_at, List.idxOf?_cons, List.idxOf?_nil, objs_l, objs_r, objs_p]) hp hp' (.inl rfl) (fun _ => .inl trivial) ?_
  simp -implicitDefEqProofs -dsimp only [q0, q1, q5, n0, n1, n5, n0', n1', n5', naa, gi, gj, Nat.add_left_cancel_iff, List.length_set, hz, obM, go_sem, ↓reduceIte, Nat.reduceEqDiff, Int.reduceLE, Int.reduceLT, Int.reduceNeg, Int.reduceEq, Int.reduceBEq, Int.reduceBNe, Nat.reduceMul, Nat.reduceAdd, Nat.reduceLeDiff, reduceCtorEq, Int.reduceToNat]
  refine Gh_of (.give _ _ _ (.p 0) (.l 900) { ver := 0, es := E.set i (row.set j (.sl (.l 900) c 0 es.length none)), esz := z, own := q, fixed := true } { ver := c, es := es', esz := zi, own := True } (row.set j (.sl (.l 900) c 0 es.length none)) i j 0 es.length none
    (by simp [hup_at]) hq gi gj (by simp [hup_at]) (by simp) (by simp [hl]) hp' (.inl trivial)) ?_
  simp -implicitDefEqProofs -dsimp only [go_sem, ↓reduceIte, Nat.reduceEqDiff, Int.reduceLE, Int.reduceLT, Int.reduceNeg, Int.reduceEq, Int.reduceBEq, Int.reduceBNe, Nat.reduceMul, Nat.reduceAdd, Nat.reduceLeDiff, reduceCtorEq, Int.reduceToNat]
  refine hc _ _ _ (by simp [upd_at, q0, n0, n0']) (by simp [upd_at]) (by simp [upd_at, q5, n5, n5', show ¬ a = 0 by omega]) ?_
  have hs : sub es' 0 es.length = es' := by unfold sub; rw [if_pos ⟨rfl, hl.symm⟩]
  rw [hup_at, if_pos rfl]
  simp only [List.set_set, sub, hl, and_self, ↓reduceIte, obM]
/-- The walk of a list that is marked; its body's walk is asked for. -/
def kMk (T : Nat) (b : K) : K := .seq (R [o 4 (.mv (n 0))]) (.seq (.seq (R [o 5 (.mv (n 0))]) (.block 0 (.loop (.seq (.seq (R [m 6 5, m 7 0, o 8 (.len false (.t 7)), o 9 (.bin .lss (.t 6) (.t 8))]) (.cond (.t 9) .skip (.exit 0))) (.seq (.block 1 b) (R [m 10 5, o 11 (.bin .add (.t 10) (n 1)), m 5 11])))))) (.seq (R [m T 1, m 4 T]) .ret))
theorem mk_k {α : Type} (enc : α → List AV) (z T : Nat) (hT : 6 ≤ T) (b : K) (d : α) (w : α → Nat) (mk : Nat → α → α) (hz : ∀ a, ∀ x ∈ enc a, x.pure = true) (B : α → Prop) {cap : Option Nat}
    (l : List α) (hB : ∀ a ∈ l, B a)
    (hb : ∀ (s : Stk) (g : Slots) (h : Heap) (c i k : Nat) (E : List (List AV)) (q : Prop) (cc : α), B cc → 0 < k → k + w cc ≤ 1000000000 → i < l.length → g 0 = .sl (.p 0) 0 0 l.length cap → g 1 = i64 k → g 5 = i64 i → q → h (.p 0) = some (obM z E q) → E[i]? = some (enc cc) →
      (∀ g' h' c' (q' : Prop), g' 0 = .sl (.p 0) 0 0 l.length cap → g' 1 = i64 (k + w cc : Nat) → g' 5 = i64 i → q' → h' (.p 0) = some (obM z (E.set i (enc (mk k cc))) q') → Ret HC .normal s g' h' c') → RunK HC b s g h c)
    (k : Nat) (q : Prop) (hq : q) (hk : 0 < k) (hkl : k + wL w l ≤ 1000000000) (hn : l.length ≤ 1048576) :
    RunK HC (kMk T b) (.done (FinP [4] [obM z (l.map enc) q] true fun r o' => r = i64 (k + wL w l : Nat) ∧ o' = [obM z ((mkL w mk k l).map enc) True])) (slots0 [.sl (.p 0) 0 0 l.length cap, i64 k]) (objs [obM z (l.map enc) q]) 1 := by
  unfold kMk
  simp -implicitDefEqProofs -dsimp only [go_sem, ↓reduceIte, Nat.reduceEqDiff, Int.reduceLE, Int.reduceLT, Int.reduceNeg, Int.reduceEq, Int.reduceBEq, Int.reduceBNe, Nat.reduceMul, Nat.reduceAdd, Nat.reduceLeDiff, reduceCtorEq, Int.reduceToNat]
  refine K_for l.length (fun i g h c => g 0 = .sl (.p 0) 0 0 l.length cap ∧ g 1 = i64 (k + wL w (l.take i) : Nat) ∧ g 5 = i64 i ∧ ∃ q, q ∧ h (.p 0) = some (obM z ((mkL w mk k (l.take i) ++ l.drop i).map enc) q)) ?_ ?_ ?_
  · exact ⟨by simp [upd_at, S_0], by simp [upd_at, S_1, wL], by simp [upd_at], q, hq, by simp [mkL]; rfl⟩
  · rintro i A hi hA g h c ⟨q0, q1, q5, q', hq', hh⟩
    have hc : (i : Int) < (l.length : Int) := by omega
    have w2 : IntKind.i64.wrap ((i : Int) + 1) = ((i + 1 : Nat) : Int) := wnat1 (by omega)
    have hml : (mkL w mk k (l.take i)).length = i := by rw [mkL_len, List.length_take]; omega
    have he : ((mkL w mk k (l.take i) ++ l.drop i).map enc)[i]? = some (enc (l.getD i d)) := by rw [List.getElem?_map, get_step _ d hml hi]; rfl
    have hws := wL_succ w d hi
    have hwl := wL_le w l (i + 1)
    have hB1 := hB _ (mmem d hi)
    have hset : ∀ y, ((mkL w mk k (l.take i) ++ l.drop i).map enc).set i (enc y) = (mkL w mk k (l.take i) ++ [y] ++ l.drop (i + 1)).map enc := fun y => by rw [← List.map_set, set_step _ hml hi]
    have hsuc := mkL_succ w mk d (k := k) hi
    have hh2 := hh
    unfold obM at hh2
    simp -implicitDefEqProofs -dsimp only [q0, q5, hh2, hc, go_sem, ↓reduceIte, Nat.reduceEqDiff, Int.reduceLE, Int.reduceLT, Int.reduceNeg, Int.reduceEq, Int.reduceBEq, Int.reduceBNe, Nat.reduceMul, Nat.reduceAdd, Nat.reduceLeDiff, reduceCtorEq, Int.reduceToNat]
    refine hb _ _ _ _ i (k + wL w (l.take i)) _ q' (l.getD i d) hB1 (by omega) (by omega) hi (by simp [upd_at, q0]) (by simp [upd_at, q1]) (by simp [upd_at, q5]) hq' hh he fun g' h' c' q'' r0 r1 r5 hq'' hh' => ?_
    simp -implicitDefEqProofs -dsimp only [r5, w2, go_sem, ↓reduceIte, Nat.reduceEqDiff, Int.reduceLE, Int.reduceLT, Int.reduceNeg, Int.reduceEq, Int.reduceBEq, Int.reduceBNe, Nat.reduceMul, Nat.reduceAdd, Nat.reduceLeDiff, reduceCtorEq, Int.reduceToNat]
    refine hA _ _ _ ⟨by simp [upd_at, r0], by simp [upd_at, r1, hws]; omega, by simp [upd_at], q'', hq'', ?_⟩
    rw [hh', hset, hsuc]
  · rintro A g h c ⟨q0, q1, q5, q', hq', hh⟩
    have hc : ¬ (l.length : Int) < (l.length : Int) := by omega
    rw [List.drop_length, List.append_nil, List.take_length] at hh
    rw [List.take_length] at q1
    have hh2 := hh
    unfold obM at hh2
    have t0 : ((0 : Nat) = T) = False := by simp; omega
    have t1 : ((1 : Nat) = T) = False := by simp; omega
    simp -implicitDefEqProofs -dsimp only [q0, q1, q5, hc, hh2, go_sem, ↓reduceIte, Nat.reduceEqDiff, Int.reduceLE, Int.reduceLT, Int.reduceNeg, Int.reduceEq, Int.reduceBEq, Int.reduceBNe, Nat.reduceMul, Nat.reduceAdd, Nat.reduceLeDiff, reduceCtorEq, Int.reduceToNat]
    refine Fin_obs (by simp [resV, upd_at, retA]) (by simp [resV, upd_at, ResOk]) rfl fun j ob hj => ?_
    match j, hj with
    | 0, hj => simp at hj; subst hj; exact ⟨mpure hz _, q', .inr ⟨fun _ => trivial, fun _ => hq'⟩, by rw [hh]; rfl, rfl⟩
    | j + 1, hj => simp at hj
end FrA
end
/-! MkA -/
section
open Go Go.AM
namespace FrA
open Go.Proofs
set_option maxRecDepth 100000
set_option linter.unusedSimpArgs false
open Go.AM.L
theorem t3 (m : Nat) : (((m : Nat) : Int).tmod 3 == 0) = (m % 3 == 0) := by
  rw [Int.tmod_eq_emod_of_nonneg (by omega), show ((m : Int) % 3) = ((m % 3 : Nat) : Int) by omega]
  generalize m % 3 = r
  by_cases h : r = 0
  · subst h; rfl
  · rw [beq_eq_false_iff_ne.2 h, beq_eq_false_iff_ne.2 (by omega)]
def mkIn (k : Nat) (_ : Int) : Int := (k : Int)
def mkVl (k : Nat) (_ : Vl) : Vl := ((k : Int), ((k + 1 : Nat) : Int), mark (k + 1 + 1))
def mkTk (k : Nat) (_ : Tk) : Tk := ⟨(k : Int), ((k + 1 : Nat) : Int), (((k + 1 + 1 : Nat) : Int), ((k + 1 + 1 + 1 : Nat) : Int), mark (k + 1 + 1 + 1 + 1))⟩
def mkCl (k : Nat) (_ : Cl) : Cl := ⟨mark k, ((k + 1 : Nat) : Int), (k + 1 + 1) % 3 == 0, (((k + 1 + 1 + 1 : Nat) : Int), ((k + 1 + 1 + 1 + 1 : Nat) : Int), mark (k + 1 + 1 + 1 + 1 + 1))⟩
def w1 {α : Type} (_ : α) : Nat := 1
def w3 {α : Type} (_ : α) : Nat := 3
def w5 {α : Type} (_ : α) : Nat := 5
def w6 {α : Type} (_ : α) : Nat := 6
theorem wL_const {α : Type} (m : Nat) : ∀ l : List α, wL (fun _ => m) l = m * l.length
  | [] => by simp [wL]
  | a :: l => by rw [wL, wL_const m l, List.length_cons, Nat.mul_add]; omega
def wUn (u : List Int) : Nat := wL w1 u
def mkUn (k : Nat) (u : List Int) : List Int := mkL w1 mkIn k u
def wCk (e : List Tk) : Nat := wL w5 e
def mkCk (k : Nat) (e : List Tk) : List Tk := mkL w5 mkTk k e
def wFk (f : Fk) : Nat := wL w1 f.cols + 1 + 1 + 1 + 1
def mkFk (k : Nat) (f : Fk) : Fk := ⟨mkUn k f.cols, mark (k + wL w1 f.cols), ((k + wL w1 f.cols + 1 : Nat) : Int), ((k + wL w1 f.cols + 1 + 1 : Nat) : Int), (k + wL w1 f.cols + 1 + 1 + 1) % 3 == 0⟩
def wRw (r : Rw) : Nat := 1 + wL w3 r.vals
def mkRw (k : Nat) (r : Rw) : Rw := ⟨(k : Int), mkL w3 mkVl (k + 1) r.vals⟩
def wDt (d : Dt) : Nat := wL wRw d
def mkDt (k : Nat) (d : Dt) : Dt := mkL wRw mkRw k d
def wTb (t : Tb) : Nat := 1 + wL w6 t.cols + wL w1 t.key + wL wUn t.uniq + wL wCk t.chk + wL wFk t.fks
def mkTb (k : Nat) (t : Tb) : Tb := ⟨mark k, mkL w6 mkCl (k + 1) t.cols, mkUn (k + 1 + wL w6 t.cols) t.key, mkL wUn mkUn (k + 1 + wL w6 t.cols + wL w1 t.key) t.uniq,
  mkL wCk mkCk (k + 1 + wL w6 t.cols + wL w1 t.key + wL wUn t.uniq) t.chk, mkL wFk mkFk (k + 1 + wL w6 t.cols + wL w1 t.key + wL wUn t.uniq + wL wCk t.chk) t.fks⟩
def kBValS : K := (.seq (R [m 12 0, m 13 5, m 14 1, o 15 (.idx 3 (.t 12) (.t 13)), o 16 (.fld 0 (.t 15)), x (.store 1 (.t 16) (.t 14))]) (.seq (R [m 17 1, o 18 (.bin .add (.t 17) (n 1)), m 1 18]) (.seq (R [m 19 0, m 20 5, m 21 1, o 22 (.idx 3 (.t 19) (.t 20)), o 23 (.fld 1 (.t 22)), x (.store 1 (.t 23) (.t 21))]) (.seq (R [m 24 1, o 25 (.bin .add (.t 24) (n 1)), m 1 25]) (.seq (R [m 26 0, m 27 5, m 28 1, o 29 (.call (.f 55) [.t 28]), o 30 (.idx 3 (.t 26) (.t 27)), o 31 (.fld 2 (.t 30)), x (.store 1 (.t 31) (.t 29))]) (R [m 32 1, o 33 (.bin .add (.t 32) (n 1)), m 1 33]))))))
theorem bVl {n : Nat} {cap : Option Nat} (s : Stk) (g : Slots) (h : Heap) (c i k : Nat) (E : List (List AV)) (q : Prop) (cc : _) (hk : 0 < k) (hkw : k + w3 cc ≤ 1000000000) (hi : i < n) (q0 : g 0 = .sl (.p 0) 0 0 n cap) (q1 : g 1 = i64 k) (q5 : g 5 = i64 i) (hq : q) (hh : h (.p 0) = some (obM 3 E q)) (he : E[i]? = some (vC cc))
      (hA : ∀ g' h' c' (q' : Prop), g' 0 = .sl (.p 0) 0 0 n cap → g' 1 = i64 (k + w3 cc : Nat) → g' 5 = i64 i → q' → h' (.p 0) = some (obM 3 (E.set i (vC (mkVl k cc))) q') → Ret HC .normal s g' h' c') : RunK HC kBValS s g h c := by
  obtain ⟨x1, x2, x3⟩ := cc
  unfold obM at hh
  simp only [vC, w3] at he hkw
  have hlt := (List.getElem?_eq_some_iff.1 he).1
  unfold kBValS
  simp -implicitDefEqProofs -dsimp only [q0, q1, q5, hh, he, hi, wnat1 (n := k) (by omega), wnat1 (n := k + 1) (by omega), wnat1 (n := k + 1 + 1) (by omega), List.getElem?_set_self hlt, List.set_set, List.length_set, go_sem, ↓reduceIte, Nat.reduceEqDiff, Int.reduceLE, Int.reduceLT, Int.reduceNeg, Int.reduceEq, Int.reduceBEq, Int.reduceBNe, Nat.reduceMul, Nat.reduceAdd, Nat.reduceLeDiff, reduceCtorEq, Int.reduceToNat]
  refine Call_val (own := true) (h55 (k + 1 + 1) (by omega) (by omega)) (by simp [ExpOk, AV.pure]) (.inl rfl) ?_
  simp -implicitDefEqProofs -dsimp only [q0, q1, q5, hh, he, hi, wnat1 (n := k) (by omega), wnat1 (n := k + 1) (by omega), wnat1 (n := k + 1 + 1) (by omega), List.getElem?_set_self hlt, List.set_set, List.length_set, go_sem, ↓reduceIte, Nat.reduceEqDiff, Int.reduceLE, Int.reduceLT, Int.reduceNeg, Int.reduceEq, Int.reduceBEq, Int.reduceBNe, Nat.reduceMul, Nat.reduceAdd, Nat.reduceLeDiff, reduceCtorEq, Int.reduceToNat]
  refine hA _ _ _ _ (by simp [upd_at, q0]) (by simp [upd_at, w1, w3, w5, w6]; try omega) (by simp [upd_at, q5]) ?_ (by rw [hup_at, if_pos rfl]; rfl)
  simp [AM.NoDat, AV.isDat, hq]
def kBTokS : K := (.seq (R [m 12 0, m 13 5, m 14 1, o 15 (.idx 5 (.t 12) (.t 13)), o 16 (.fld 0 (.t 15)), x (.store 1 (.t 16) (.t 14))]) (.seq (R [m 17 1, o 18 (.bin .add (.t 17) (n 1)), m 1 18]) (.seq (R [m 19 0, m 20 5, m 21 1, o 22 (.idx 5 (.t 19) (.t 20)), o 23 (.fld 1 (.t 22)), x (.store 1 (.t 23) (.t 21))]) (.seq (R [m 24 1, o 25 (.bin .add (.t 24) (n 1)), m 1 25]) (.seq (R [m 26 0, m 27 5, m 28 1, o 29 (.idx 5 (.t 26) (.t 27)), o 30 (.fld 2 (.t 29)), o 31 (.fld 0 (.t 30)), x (.store 1 (.t 31) (.t 28))]) (.seq (R [m 32 1, o 33 (.bin .add (.t 32) (n 1)), m 1 33]) (.seq (R [m 34 0, m 35 5, m 36 1, o 37 (.idx 5 (.t 34) (.t 35)), o 38 (.fld 2 (.t 37)), o 39 (.fld 1 (.t 38)), x (.store 1 (.t 39) (.t 36))]) (.seq (R [m 40 1, o 41 (.bin .add (.t 40) (n 1)), m 1 41]) (.seq (R [m 42 0, m 43 5, m 44 1, o 45 (.call (.f 55) [.t 44]), o 46 (.idx 5 (.t 42) (.t 43)), o 47 (.fld 2 (.t 46)), o 48 (.fld 2 (.t 47)), x (.store 1 (.t 48) (.t 45))]) (R [m 49 1, o 50 (.bin .add (.t 49) (n 1)), m 1 50]))))))))))
theorem bTk {n : Nat} {cap : Option Nat} (s : Stk) (g : Slots) (h : Heap) (c i k : Nat) (E : List (List AV)) (q : Prop) (cc : _) (hk : 0 < k) (hkw : k + w5 cc ≤ 1000000000) (hi : i < n) (q0 : g 0 = .sl (.p 0) 0 0 n cap) (q1 : g 1 = i64 k) (q5 : g 5 = i64 i) (hq : q) (hh : h (.p 0) = some (obM 5 E q)) (he : E[i]? = some (tkC cc))
      (hA : ∀ g' h' c' (q' : Prop), g' 0 = .sl (.p 0) 0 0 n cap → g' 1 = i64 (k + w5 cc : Nat) → g' 5 = i64 i → q' → h' (.p 0) = some (obM 5 (E.set i (tkC (mkTk k cc))) q') → Ret HC .normal s g' h' c') : RunK HC kBTokS s g h c := by
  obtain ⟨x1, x2, x3, x4, x5⟩ := cc
  unfold obM at hh
  simp only [tkC, w5] at he hkw
  have hlt := (List.getElem?_eq_some_iff.1 he).1
  unfold kBTokS
  simp -implicitDefEqProofs -dsimp only [q0, q1, q5, hh, he, hi, wnat1 (n := k) (by omega), wnat1 (n := k + 1) (by omega), wnat1 (n := k + 1 + 1) (by omega), wnat1 (n := k + 1 + 1 + 1) (by omega), wnat1 (n := k + 1 + 1 + 1 + 1) (by omega), List.getElem?_set_self hlt, List.set_set, List.length_set, go_sem, ↓reduceIte, Nat.reduceEqDiff, Int.reduceLE, Int.reduceLT, Int.reduceNeg, Int.reduceEq, Int.reduceBEq, Int.reduceBNe, Nat.reduceMul, Nat.reduceAdd, Nat.reduceLeDiff, reduceCtorEq, Int.reduceToNat]
  refine Call_val (own := true) (h55 (k + 1 + 1 + 1 + 1) (by omega) (by omega)) (by simp [ExpOk, AV.pure]) (.inl rfl) ?_
  simp -implicitDefEqProofs -dsimp only [q0, q1, q5, hh, he, hi, wnat1 (n := k) (by omega), wnat1 (n := k + 1) (by omega), wnat1 (n := k + 1 + 1) (by omega), wnat1 (n := k + 1 + 1 + 1) (by omega), wnat1 (n := k + 1 + 1 + 1 + 1) (by omega), List.getElem?_set_self hlt, List.set_set, List.length_set, go_sem, ↓reduceIte, Nat.reduceEqDiff, Int.reduceLE, Int.reduceLT, Int.reduceNeg, Int.reduceEq, Int.reduceBEq, Int.reduceBNe, Nat.reduceMul, Nat.reduceAdd, Nat.reduceLeDiff, reduceCtorEq, Int.reduceToNat]
  refine hA _ _ _ _ (by simp [upd_at, q0]) (by simp [upd_at, w1, w3, w5, w6]; try omega) (by simp [upd_at, q5]) ?_ (by rw [hup_at, if_pos rfl]; rfl)
  simp [AM.NoDat, AV.isDat, hq]
def kBColS : K := (.seq (R [m 12 0, m 13 5, m 14 1, o 15 (.call (.f 55) [.t 14]), o 16 (.idx 6 (.t 12) (.t 13)), o 17 (.fld 0 (.t 16)), x (.store 1 (.t 17) (.t 15))]) (.seq (R [m 18 1, o 19 (.bin .add (.t 18) (n 1)), m 1 19]) (.seq (R [m 20 0, m 21 5, m 22 1, o 23 (.idx 6 (.t 20) (.t 21)), o 24 (.fld 1 (.t 23)), x (.store 1 (.t 24) (.t 22))]) (.seq (R [m 25 1, o 26 (.bin .add (.t 25) (n 1)), m 1 26]) (.seq (R [m 27 0, m 28 5, m 29 1, o 30 (.bin .rem (.t 29) (n 3)), o 31 (.bin .eql (.t 30) (n 0)), o 32 (.idx 6 (.t 27) (.t 28)), o 33 (.fld 2 (.t 32)), x (.store 1 (.t 33) (.t 31))]) (.seq (R [m 34 1, o 35 (.bin .add (.t 34) (n 1)), m 1 35]) (.seq (R [m 36 0, m 37 5, m 38 1, o 39 (.idx 6 (.t 36) (.t 37)), o 40 (.fld 3 (.t 39)), o 41 (.fld 0 (.t 40)), x (.store 1 (.t 41) (.t 38))]) (.seq (R [m 42 1, o 43 (.bin .add (.t 42) (n 1)), m 1 43]) (.seq (R [m 44 0, m 45 5, m 46 1, o 47 (.idx 6 (.t 44) (.t 45)), o 48 (.fld 3 (.t 47)), o 49 (.fld 1 (.t 48)), x (.store 1 (.t 49) (.t 46))]) (.seq (R [m 50 1, o 51 (.bin .add (.t 50) (n 1)), m 1 51]) (.seq (R [m 52 0, m 53 5, m 54 1, o 55 (.call (.f 55) [.t 54]), o 56 (.idx 6 (.t 52) (.t 53)), o 57 (.fld 3 (.t 56)), o 58 (.fld 2 (.t 57)), x (.store 1 (.t 58) (.t 55))]) (R [m 59 1, o 60 (.bin .add (.t 59) (n 1)), m 1 60]))))))))))))
theorem bCl {n : Nat} {cap : Option Nat} (s : Stk) (g : Slots) (h : Heap) (c i k : Nat) (E : List (List AV)) (q : Prop) (cc : _) (hk : 0 < k) (hkw : k + w6 cc ≤ 1000000000) (hi : i < n) (q0 : g 0 = .sl (.p 0) 0 0 n cap) (q1 : g 1 = i64 k) (q5 : g 5 = i64 i) (hq : q) (hh : h (.p 0) = some (obM 6 E q)) (he : E[i]? = some (clC cc))
      (hA : ∀ g' h' c' (q' : Prop), g' 0 = .sl (.p 0) 0 0 n cap → g' 1 = i64 (k + w6 cc : Nat) → g' 5 = i64 i → q' → h' (.p 0) = some (obM 6 (E.set i (clC (mkCl k cc))) q') → Ret HC .normal s g' h' c') : RunK HC kBColS s g h c := by
  obtain ⟨x1, x2, x3, x4, x5, x6⟩ := cc
  unfold obM at hh
  simp only [clC, w6] at he hkw
  have hlt := (List.getElem?_eq_some_iff.1 he).1
  unfold kBColS
  simp -implicitDefEqProofs -dsimp only [q0, q1, q5, hh, he, hi, go_sem, ↓reduceIte, Nat.reduceEqDiff, Int.reduceLE, Int.reduceLT, Int.reduceNeg, Int.reduceEq, Int.reduceBEq, Int.reduceBNe, Nat.reduceMul, Nat.reduceAdd, Nat.reduceLeDiff, reduceCtorEq, Int.reduceToNat]
  refine Call_val (own := true) (h55 k (by omega) (by omega)) (by simp [ExpOk, AV.pure]) (.inl rfl) ?_
  simp -implicitDefEqProofs -dsimp only [q0, q1, q5, hh, he, hi, t3, wnat1 (n := k) (by omega), wnat1 (n := k + 1) (by omega), wnat1 (n := k + 1 + 1) (by omega), wnat1 (n := k + 1 + 1 + 1) (by omega), wnat1 (n := k + 1 + 1 + 1 + 1) (by omega), wnat1 (n := k + 1 + 1 + 1 + 1 + 1) (by omega), List.getElem?_set_self hlt, List.set_set, List.length_set, go_sem, ↓reduceIte, Nat.reduceEqDiff, Int.reduceLE, Int.reduceLT, Int.reduceNeg, Int.reduceEq, Int.reduceBEq, Int.reduceBNe, Nat.reduceMul, Nat.reduceAdd, Nat.reduceLeDiff, reduceCtorEq, Int.reduceToNat]
  refine Call_val (own := true) (h55 (k + 1 + 1 + 1 + 1 + 1) (by omega) (by omega)) (by simp [ExpOk, AV.pure]) (.inl rfl) ?_
  simp -implicitDefEqProofs -dsimp only [q0, q1, q5, hh, he, hi, t3, wnat1 (n := k) (by omega), wnat1 (n := k + 1) (by omega), wnat1 (n := k + 1 + 1) (by omega), wnat1 (n := k + 1 + 1 + 1) (by omega), wnat1 (n := k + 1 + 1 + 1 + 1) (by omega), wnat1 (n := k + 1 + 1 + 1 + 1 + 1) (by omega), List.getElem?_set_self hlt, List.set_set, List.length_set, go_sem, ↓reduceIte, Nat.reduceEqDiff, Int.reduceLE, Int.reduceLT, Int.reduceNeg, Int.reduceEq, Int.reduceBEq, Int.reduceBNe, Nat.reduceMul, Nat.reduceAdd, Nat.reduceLeDiff, reduceCtorEq, Int.reduceToNat]
  refine hA _ _ _ _ (by simp [upd_at, q0]) (by simp [upd_at, w1, w3, w5, w6]; try omega) (by simp [upd_at, q5]) ?_ (by rw [hup_at, if_pos rfl]; rfl)
  simp [AM.NoDat, AV.isDat, hq]
def kBInt64S : K := (.seq (R [m 12 0, m 13 5, m 14 1, o 15 (.idx 1 (.t 12) (.t 13)), x (.store 1 (.t 15) (.t 14))]) (R [m 16 1, o 17 (.bin .add (.t 16) (n 1)), m 1 17]))
theorem bIn {n : Nat} {cap : Option Nat} (s : Stk) (g : Slots) (h : Heap) (c i k : Nat) (E : List (List AV)) (q : Prop) (cc : _) (hk : 0 < k) (hkw : k + w1 cc ≤ 1000000000) (hi : i < n) (q0 : g 0 = .sl (.p 0) 0 0 n cap) (q1 : g 1 = i64 k) (q5 : g 5 = i64 i) (hq : q) (hh : h (.p 0) = some (obM 1 E q)) (he : E[i]? = some (inC cc))
      (hA : ∀ g' h' c' (q' : Prop), g' 0 = .sl (.p 0) 0 0 n cap → g' 1 = i64 (k + w1 cc : Nat) → g' 5 = i64 i → q' → h' (.p 0) = some (obM 1 (E.set i (inC (mkIn k cc))) q') → Ret HC .normal s g' h' c') : RunK HC kBInt64S s g h c := by
  unfold obM at hh
  simp only [inC, w1] at he hkw
  have hlt := (List.getElem?_eq_some_iff.1 he).1
  unfold kBInt64S
  simp -implicitDefEqProofs -dsimp only [q0, q1, q5, hh, he, hi, wnat1 (n := k) (by omega), List.getElem?_set_self hlt, List.set_set, List.length_set, go_sem, ↓reduceIte, Nat.reduceEqDiff, Int.reduceLE, Int.reduceLT, Int.reduceNeg, Int.reduceEq, Int.reduceBEq, Int.reduceBNe, Nat.reduceMul, Nat.reduceAdd, Nat.reduceLeDiff, reduceCtorEq, Int.reduceToNat]
  refine hA _ _ _ _ (by simp [upd_at, q0]) (by simp [upd_at, w1, w3, w5, w6]; try omega) (by simp [upd_at, q5]) ?_ (by rw [hup_at, if_pos rfl]; rfl)
  simp [AM.NoDat, AV.isDat, hq]
theorem h62 (l : List Vl) (k : Nat) (cap : Option Nat) (q : Prop) (hq : q) (hk : 0 < k) (hkl : k + wL w3 l ≤ 1000000000) (hn : l.length ≤ 1048576) : HT 62 [.sl (.p 0) 0 0 l.length cap, i64 k] [obM 3 (l.map vC) q] (i64 (k + wL w3 l : Nat)) true [obM 3 ((mkL w3 mkVl k l).map vC) True] := by
  refine holds_of (c := Tryz.f62.body.getD .skip) (k := kMk 34 kBValS) (ts := [4]) HOk mixedT hintT Tryz.func62 (by kernel_rfl) (by kernel_rfl) (by kernel_rfl) (by kernel_rfl) (by kernel_rfl) (le_of 2 _ (by kernel_rfl)) ?_
  exact mk_k vC 3 34 (by omega) kBValS v0 w3 mkVl (fun a => by simp [vC, AV.pure]) (fun _ => True) l (fun _ _ => trivial) (fun s g h c i k E q cc _ hk hkw hi q0 q1 q5 hq hh he hA => bVl s g h c i k E q cc hk hkw hi q0 q1 q5 hq hh he hA) k q hq hk hkl hn
theorem h118 (l : List Tk) (k : Nat) (cap : Option Nat) (q : Prop) (hq : q) (hk : 0 < k) (hkl : k + wL w5 l ≤ 1000000000) (hn : l.length ≤ 1048576) : HT 118 [.sl (.p 0) 0 0 l.length cap, i64 k] [obM 5 (l.map tkC) q] (i64 (k + wL w5 l : Nat)) true [obM 5 ((mkL w5 mkTk k l).map tkC) True] := by
  refine holds_of (c := Tryz.f118.body.getD .skip) (k := kMk 51 kBTokS) (ts := [4]) HOk mixedT hintT Tryz.func118 (by kernel_rfl) (by kernel_rfl) (by kernel_rfl) (by kernel_rfl) (by kernel_rfl) (le_of 2 _ (by kernel_rfl)) ?_
  exact mk_k tkC 5 51 (by omega) kBTokS k0 w5 mkTk (fun a => by simp [tkC, AV.pure]) (fun _ => True) l (fun _ _ => trivial) (fun s g h c i k E q cc _ hk hkw hi q0 q1 q5 hq hh he hA => bTk s g h c i k E q cc hk hkw hi q0 q1 q5 hq hh he hA) k q hq hk hkl hn
theorem h56 (l : List Cl) (k : Nat) (cap : Option Nat) (q : Prop) (hq : q) (hk : 0 < k) (hkl : k + wL w6 l ≤ 1000000000) (hn : l.length ≤ 1048576) : HT 56 [.sl (.p 0) 0 0 l.length cap, i64 k] [obM 6 (l.map clC) q] (i64 (k + wL w6 l : Nat)) true [obM 6 ((mkL w6 mkCl k l).map clC) True] := by
  refine holds_of (c := Tryz.f56.body.getD .skip) (k := kMk 61 kBColS) (ts := [4]) HOk mixedT hintT Tryz.func56 (by kernel_rfl) (by kernel_rfl) (by kernel_rfl) (by kernel_rfl) (by kernel_rfl) (le_of 2 _ (by kernel_rfl)) ?_
  exact mk_k clC 6 61 (by omega) kBColS c0 w6 mkCl (fun a => by simp [clC, AV.pure]) (fun _ => True) l (fun _ _ => trivial) (fun s g h c i k E q cc _ hk hkw hi q0 q1 q5 hq hh he hA => bCl s g h c i k E q cc hk hkw hi q0 q1 q5 hq hh he hA) k q hq hk hkl hn
theorem h57 (l : List Int) (k : Nat) (cap : Option Nat) (q : Prop) (hq : q) (hk : 0 < k) (hkl : k + wL w1 l ≤ 1000000000) (hn : l.length ≤ 1048576) : HT 57 [.sl (.p 0) 0 0 l.length cap, i64 k] [obM 1 (l.map inC) q] (i64 (k + wL w1 l : Nat)) true [obM 1 ((mkL w1 mkIn k l).map inC) True] := by
  refine holds_of (c := Tryz.f57.body.getD .skip) (k := kMk 18 kBInt64S) (ts := [4]) HOk mixedT hintT Tryz.func57 (by kernel_rfl) (by kernel_rfl) (by kernel_rfl) (by kernel_rfl) (by kernel_rfl) (le_of 2 _ (by kernel_rfl)) ?_
  exact mk_k inC 1 18 (by omega) kBInt64S 0 w1 mkIn (fun a => by simp [inC, AV.pure]) (fun _ => True) l (fun _ _ => trivial) (fun s g h c i k E q cc _ hk hkw hi q0 q1 q5 hq hh he hA => bIn s g h c i k E q cc hk hkw hi q0 q1 q5 hq hh he hA) k q hq hk hkl hn
def kBUniqueS : K := (R [G, m 12 0, m 13 5, o 14 (.idx 1 (.t 12) (.t 13)), o 15 (.fld 0 (.t 14)), o 16 (.load false 1 (.t 15)), m 17 1, o 18 (.call (.f 57) [.t 16, .t 17]), m 1 18, G])
theorem bUn {n : Nat} {cap : Option Nat} (s : Stk) (g : Slots) (h : Heap) (c i k : Nat) (E : List (List AV)) (q : Prop) (cc : _) (hB : cc.length ≤ 1048576) (hk : 0 < k) (hkw : k + wUn cc ≤ 1000000000) (hi : i < n) (q0 : g 0 = .sl (.p 0) 0 0 n cap) (q1 : g 1 = i64 k) (q5 : g 5 = i64 i) (hq : q) (hh : h (.p 0) = some (obM 1 E q)) (he : E[i]? = some (unC cc))
      (hA : ∀ g' h' c' (q' : Prop), g' 0 = .sl (.p 0) 0 0 n cap → g' 1 = i64 (k + wUn cc : Nat) → g' 5 = i64 i → q' → h' (.p 0) = some (obM 1 (E.set i (unC (mkUn k cc))) q') → Ret HC .normal s g' h' c') : RunK HC kBUniqueS s g h c := by
  unfold wUn at hkw
  unfold kBUniqueS
  simp -implicitDefEqProofs -dsimp only [go_sem, ↓reduceIte, Nat.reduceEqDiff, Int.reduceLE, Int.reduceLT, Int.reduceNeg, Int.reduceEq, Int.reduceBEq, Int.reduceBNe, Nat.reduceMul, Nat.reduceAdd, Nat.reduceLeDiff, reduceCtorEq, Int.reduceToNat]
  refine Mark_sub 12 (by omega) (j := 0) (k := k) (k' := k + wL w1 cc) (zi := 1) (es := cc.map inC) (es' := (mkL w1 mkIn k cc).map inC) q0 q1 q5 hi hq hh he rfl rfl (by simpa using h57 cc k none True trivial hk hkw hB) (in_pure _) (in_pure _) (by simp [mkL_len]) fun g' h' c' r0 r1 r5 rh => ?_
  exact hA _ _ _ q r0 r1 r5 hq rh
theorem h58 (l : List (List Int)) (k : Nat) (cap : Option Nat) (q : Prop) (hq : q) (hk : 0 < k) (hkl : k + wL wUn l ≤ 1000000000) (hn : l.length ≤ 1048576) (hB : ∀ u ∈ l, u.length ≤ 1048576) : HT 58 [.sl (.p 0) 0 0 l.length cap, i64 k] [obM 1 (l.map unC) q] (i64 (k + wL wUn l : Nat)) true [obM 1 ((mkL wUn mkUn k l).map unC) True] := by
  refine holds_of (c := Tryz.f58.body.getD .skip) (k := kMk 19 kBUniqueS) (ts := [4]) HOk mixedT hintT Tryz.func58 (by kernel_rfl) (by kernel_rfl) (by kernel_rfl) (by kernel_rfl) (by kernel_rfl) (le_of 2 _ (by kernel_rfl)) ?_
  exact mk_k unC 1 19 (by omega) kBUniqueS [] wUn mkUn (fun a => by simp [unC, ils, AV.pure]) (fun u => u.length ≤ 1048576) l hB (fun s g h c i k E q cc hB hk hkw hi q0 q1 q5 hq hh he hA => bUn s g h c i k E q cc hB hk hkw hi q0 q1 q5 hq hh he hA) k q hq hk hkl hn
def kBCheckS : K := (R [G, m 12 0, m 13 5, o 14 (.idx 1 (.t 12) (.t 13)), o 15 (.fld 0 (.t 14)), o 16 (.load false 1 (.t 15)), m 17 1, o 18 (.call (.f 118) [.t 16, .t 17]), m 1 18, G])
theorem bCk {n : Nat} {cap : Option Nat} (s : Stk) (g : Slots) (h : Heap) (c i k : Nat) (E : List (List AV)) (q : Prop) (cc : _) (hB : cc.length ≤ 1048576) (hk : 0 < k) (hkw : k + wCk cc ≤ 1000000000) (hi : i < n) (q0 : g 0 = .sl (.p 0) 0 0 n cap) (q1 : g 1 = i64 k) (q5 : g 5 = i64 i) (hq : q) (hh : h (.p 0) = some (obM 1 E q)) (he : E[i]? = some (ckC cc))
      (hA : ∀ g' h' c' (q' : Prop), g' 0 = .sl (.p 0) 0 0 n cap → g' 1 = i64 (k + wCk cc : Nat) → g' 5 = i64 i → q' → h' (.p 0) = some (obM 1 (E.set i (ckC (mkCk k cc))) q') → Ret HC .normal s g' h' c') : RunK HC kBCheckS s g h c := by
  unfold wCk at hkw
  unfold kBCheckS
  simp -implicitDefEqProofs -dsimp only [go_sem, ↓reduceIte, Nat.reduceEqDiff, Int.reduceLE, Int.reduceLT, Int.reduceNeg, Int.reduceEq, Int.reduceBEq, Int.reduceBNe, Nat.reduceMul, Nat.reduceAdd, Nat.reduceLeDiff, reduceCtorEq, Int.reduceToNat]
  refine Mark_sub 12 (by omega) (j := 0) (k := k) (k' := k + wL w5 cc) (zi := 5) (es := cc.map tkC) (es' := (mkL w5 mkTk k cc).map tkC) q0 q1 q5 hi hq hh he rfl rfl (by simpa using h118 cc k none True trivial hk hkw hB) (tk_pure _) (tk_pure _) (by simp [mkL_len]) fun g' h' c' r0 r1 r5 rh => ?_
  exact hA _ _ _ q r0 r1 r5 hq rh
theorem h59 (l : List (List Tk)) (k : Nat) (cap : Option Nat) (q : Prop) (hq : q) (hk : 0 < k) (hkl : k + wL wCk l ≤ 1000000000) (hn : l.length ≤ 1048576) (hB : ∀ u ∈ l, u.length ≤ 1048576) : HT 59 [.sl (.p 0) 0 0 l.length cap, i64 k] [obM 1 (l.map ckC) q] (i64 (k + wL wCk l : Nat)) true [obM 1 ((mkL wCk mkCk k l).map ckC) True] := by
  refine holds_of (c := Tryz.f59.body.getD .skip) (k := kMk 19 kBCheckS) (ts := [4]) HOk mixedT hintT Tryz.func59 (by kernel_rfl) (by kernel_rfl) (by kernel_rfl) (by kernel_rfl) (by kernel_rfl) (le_of 2 _ (by kernel_rfl)) ?_
  exact mk_k ckC 1 19 (by omega) kBCheckS [] wCk mkCk (fun a => by simp [ckC, tks, AV.pure]) (fun u => u.length ≤ 1048576) l hB (fun s g h c i k E q cc hB hk hkw hi q0 q1 q5 hq hh he hA => bCk s g h c i k E q cc hB hk hkw hi q0 q1 q5 hq hh he hA) k q hq hk hkl hn
def kBRowS : K := (.seq (R [m 12 0, m 13 5, m 14 1, o 15 (.idx 2 (.t 12) (.t 13)), o 16 (.fld 0 (.t 15)), x (.store 1 (.t 16) (.t 14))]) (.seq (R [m 17 1, o 18 (.bin .add (.t 17) (n 1)), m 1 18]) (R [G, m 19 0, m 20 5, o 21 (.idx 2 (.t 19) (.t 20)), o 22 (.fld 1 (.t 21)), o 23 (.load false 1 (.t 22)), m 24 1, o 25 (.call (.f 62) [.t 23, .t 24]), m 1 25, G])))
theorem bRw {n : Nat} {cap : Option Nat} (s : Stk) (g : Slots) (h : Heap) (c i k : Nat) (E : List (List AV)) (q : Prop) (cc : _) (hB : cc.vals.length ≤ 1048576) (hk : 0 < k) (hkw : k + wRw cc ≤ 1000000000) (hi : i < n) (q0 : g 0 = .sl (.p 0) 0 0 n cap) (q1 : g 1 = i64 k) (q5 : g 5 = i64 i) (hq : q) (hh : h (.p 0) = some (obM 2 E q)) (he : E[i]? = some (rwC cc))
      (hA : ∀ g' h' c' (q' : Prop), g' 0 = .sl (.p 0) 0 0 n cap → g' 1 = i64 (k + wRw cc : Nat) → g' 5 = i64 i → q' → h' (.p 0) = some (obM 2 (E.set i (rwC (mkRw k cc))) q') → Ret HC .normal s g' h' c') : RunK HC kBRowS s g h c := by
  obtain ⟨x1, vs⟩ := cc
  simp only [wRw] at hkw hB
  have he2 := he
  simp only [rwC, vls] at he2
  have hh2 := hh
  unfold obM at hh2
  have hlt := (List.getElem?_eq_some_iff.1 he).1
  unfold kBRowS
  simp -implicitDefEqProofs -dsimp only [q0, q1, q5, hh2, he2, hi, wnat1 (n := k) (by omega), go_sem, ↓reduceIte, Nat.reduceEqDiff, Int.reduceLE, Int.reduceLT, Int.reduceNeg, Int.reduceEq, Int.reduceBEq, Int.reduceBNe, Nat.reduceMul, Nat.reduceAdd, Nat.reduceLeDiff, reduceCtorEq, Int.reduceToNat]
  refine Mark_sub 19 (by omega) (n := n) (i := i) (cap := cap) (k := k + 1) (k' := k + 1 + wL w3 vs) (z := 2) (zi := 3) (j := 1) (E := E.set i [.i .i64 k, .dat 3 (vs.map vC)]) (row := [.i .i64 k, .dat 3 (vs.map vC)]) (q := q ∧ NoDat [.i .i64 k]) (es := vs.map vC) (es' := (mkL w3 mkVl (k + 1) vs).map vC) (by simp [upd_at, q0]) (by simp [upd_at]) (by simp [upd_at, q5]) hi ⟨hq, by simp [AM.NoDat, AV.isDat]⟩ (by rw [hup_at, if_pos rfl]; rfl) (List.getElem?_set_self hlt) rfl rfl (by simpa using h62 vs (k + 1) none True trivial (by omega) (by omega) hB) (v_pure _) (v_pure _) (by simp [mkL_len]) fun g' h' c' r0 r1 r5 rh => ?_
  refine hA _ _ _ (q ∧ NoDat [.i .i64 k]) r0 (by rw [r1, wRw, ← Nat.add_assoc]) r5 ⟨hq, by simp [AM.NoDat, AV.isDat]⟩ (by rw [rh, List.set_set]; rfl)
theorem h61 (l : List Rw) (k : Nat) (cap : Option Nat) (q : Prop) (hq : q) (hk : 0 < k) (hkl : k + wL wRw l ≤ 1000000000) (hn : l.length ≤ 1048576) (hB : ∀ u ∈ l, u.vals.length ≤ 1048576) : HT 61 [.sl (.p 0) 0 0 l.length cap, i64 k] [obM 2 (l.map rwC) q] (i64 (k + wL wRw l : Nat)) true [obM 2 ((mkL wRw mkRw k l).map rwC) True] := by
  refine holds_of (c := Tryz.f61.body.getD .skip) (k := kMk 26 kBRowS) (ts := [4]) HOk mixedT hintT Tryz.func61 (by kernel_rfl) (by kernel_rfl) (by kernel_rfl) (by kernel_rfl) (by kernel_rfl) (le_of 2 _ (by kernel_rfl)) ?_
  exact mk_k rwC 2 26 (by omega) kBRowS r0 wRw mkRw (fun a => by simp [rwC, vls, AV.pure]) (fun u => u.vals.length ≤ 1048576) l hB (fun s g h c i k E q cc hB hk hkw hi q0 q1 q5 hq hh he hA => bRw s g h c i k E q cc hB hk hkw hi q0 q1 q5 hq hh he hA) k q hq hk hkl hn
def kBDataS : K := (R [G, m 12 0, m 13 5, o 14 (.idx 1 (.t 12) (.t 13)), o 15 (.fld 0 (.t 14)), o 16 (.load false 1 (.t 15)), m 17 1, o 18 (.call (.f 61) [.t 16, .t 17]), m 1 18, G])
theorem bDt {n : Nat} {cap : Option Nat} (s : Stk) (g : Slots) (h : Heap) (c i k : Nat) (E : List (List AV)) (q : Prop) (cc : _) (hB : BDt cc) (hk : 0 < k) (hkw : k + wDt cc ≤ 1000000000) (hi : i < n) (q0 : g 0 = .sl (.p 0) 0 0 n cap) (q1 : g 1 = i64 k) (q5 : g 5 = i64 i) (hq : q) (hh : h (.p 0) = some (obM 1 E q)) (he : E[i]? = some (dtC cc))
      (hA : ∀ g' h' c' (q' : Prop), g' 0 = .sl (.p 0) 0 0 n cap → g' 1 = i64 (k + wDt cc : Nat) → g' 5 = i64 i → q' → h' (.p 0) = some (obM 1 (E.set i (dtC (mkDt k cc))) q') → Ret HC .normal s g' h' c') : RunK HC kBDataS s g h c := by
  unfold wDt at hkw
  unfold kBDataS
  simp -implicitDefEqProofs -dsimp only [go_sem, ↓reduceIte, Nat.reduceEqDiff, Int.reduceLE, Int.reduceLT, Int.reduceNeg, Int.reduceEq, Int.reduceBEq, Int.reduceBNe, Nat.reduceMul, Nat.reduceAdd, Nat.reduceLeDiff, reduceCtorEq, Int.reduceToNat]
  refine Mark_sub 12 (by omega) (j := 0) (k := k) (k' := k + wL wRw cc) (zi := 2) (es := cc.map rwC) (es' := (mkL wRw mkRw k cc).map rwC) q0 q1 q5 hi hq hh he rfl rfl (by simpa using h61 cc k none True trivial hk hkw hB.1 hB.2) (rw_pure _) (rw_pure _) (by simp [mkL_len]) fun g' h' c' r0 r1 r5 rh => ?_
  exact hA _ _ _ q r0 r1 r5 hq rh
theorem h19 (l : List Dt) (k : Nat) (cap : Option Nat) (q : Prop) (hq : q) (hk : 0 < k) (hkl : k + wL wDt l ≤ 1000000000) (hn : l.length ≤ 1048576) (hB : ∀ u ∈ l, BDt u) : HT 19 [.sl (.p 0) 0 0 l.length cap, i64 k] [obM 1 (l.map dtC) q] (i64 (k + wL wDt l : Nat)) true [obM 1 ((mkL wDt mkDt k l).map dtC) True] := by
  refine holds_of (c := Tryz.f19.body.getD .skip) (k := kMk 19 kBDataS) (ts := [4]) HOk mixedT hintT Tryz.func19 (by kernel_rfl) (by kernel_rfl) (by kernel_rfl) (by kernel_rfl) (by kernel_rfl) (le_of 2 _ (by kernel_rfl)) ?_
  exact mk_k dtC 1 19 (by omega) kBDataS [] wDt mkDt (fun a => by simp [dtC, rws, AV.pure]) (BDt) l hB (fun s g h c i k E q cc hB hk hkw hi q0 q1 q5 hq hh he hA => bDt s g h c i k E q cc hB hk hkw hi q0 q1 q5 hq hh he hA) k q hq hk hkl hn
def kBFkS : K := (.seq (R [G, m 12 0, m 13 5, o 14 (.idx 5 (.t 12) (.t 13)), o 15 (.fld 0 (.t 14)), o 16 (.load false 1 (.t 15)), m 17 1, o 18 (.call (.f 57) [.t 16, .t 17]), m 1 18, G]) (.seq (R [m 19 0, m 20 5, m 21 1, o 22 (.call (.f 55) [.t 21]), o 23 (.idx 5 (.t 19) (.t 20)), o 24 (.fld 1 (.t 23)), x (.store 1 (.t 24) (.t 22))]) (.seq (R [m 25 1, o 26 (.bin .add (.t 25) (n 1)), m 1 26]) (.seq (R [m 27 0, m 28 5, m 29 1, o 30 (.idx 5 (.t 27) (.t 28)), o 31 (.fld 2 (.t 30)), x (.store 1 (.t 31) (.t 29))]) (.seq (R [m 32 1, o 33 (.bin .add (.t 32) (n 1)), m 1 33]) (.seq (R [m 34 0, m 35 5, m 36 1, o 37 (.idx 5 (.t 34) (.t 35)), o 38 (.fld 3 (.t 37)), x (.store 1 (.t 38) (.t 36))]) (.seq (R [m 39 1, o 40 (.bin .add (.t 39) (n 1)), m 1 40]) (.seq (R [m 41 0, m 42 5, m 43 1, o 44 (.bin .rem (.t 43) (n 3)), o 45 (.bin .eql (.t 44) (n 0)), o 46 (.idx 5 (.t 41) (.t 42)), o 47 (.fld 4 (.t 46)), x (.store 1 (.t 47) (.t 45))]) (R [m 48 1, o 49 (.bin .add (.t 48) (n 1)), m 1 49])))))))))
theorem bFk {n : Nat} {cap : Option Nat} (s : Stk) (g : Slots) (h : Heap) (c i k : Nat) (E : List (List AV)) (q : Prop) (cc : _) (hB : cc.cols.length ≤ 1048576) (hk : 0 < k) (hkw : k + wFk cc ≤ 1000000000) (hi : i < n) (q0 : g 0 = .sl (.p 0) 0 0 n cap) (q1 : g 1 = i64 k) (q5 : g 5 = i64 i) (hq : q) (hh : h (.p 0) = some (obM 5 E q)) (he : E[i]? = some (fkC cc))
      (hA : ∀ g' h' c' (q' : Prop), g' 0 = .sl (.p 0) 0 0 n cap → g' 1 = i64 (k + wFk cc : Nat) → g' 5 = i64 i → q' → h' (.p 0) = some (obM 5 (E.set i (fkC (mkFk k cc))) q') → Ret HC .normal s g' h' c') : RunK HC kBFkS s g h c := by
  obtain ⟨us, x1, x2, x3, x4⟩ := cc
  simp only [wFk] at hkw hB
  have hlt := (List.getElem?_eq_some_iff.1 he).1
  unfold kBFkS
  simp -implicitDefEqProofs -dsimp only [go_sem, ↓reduceIte, Nat.reduceEqDiff, Int.reduceLE, Int.reduceLT, Int.reduceNeg, Int.reduceEq, Int.reduceBEq, Int.reduceBNe, Nat.reduceMul, Nat.reduceAdd, Nat.reduceLeDiff, reduceCtorEq, Int.reduceToNat]
  refine Mark_sub 12 (by omega) (j := 0) (k := k) (k' := k + wL w1 us) (zi := 1) (es := us.map inC) (es' := (mkL w1 mkIn k us).map inC) q0 q1 q5 hi hq hh he rfl rfl (by simpa using h57 us k none True trivial hk (by omega) hB) (in_pure _) (in_pure _) (by simp [mkL_len]) fun g1 h1 c1 r0 r1 r5 rh => ?_
  have he2 : (E.set i ((fkC ⟨us, x1, x2, x3, x4⟩).set 0 (.dat 1 ((mkL w1 mkIn k us).map inC))))[i]? = some [.dat 1 ((mkL w1 mkIn k us).map inC), .s x1, .i .i64 x2, .i .i64 x3, .b x4] := List.getElem?_set_self hlt
  have hmk : mkFk k ⟨us, x1, x2, x3, x4⟩ = ⟨mkL w1 mkIn k us, mark (k + wL w1 us), ((k + wL w1 us + 1 : Nat) : Int), ((k + wL w1 us + 1 + 1 : Nat) : Int), (k + wL w1 us + 1 + 1 + 1) % 3 == 0⟩ := rfl
  rw [hmk] at hA
  generalize mkL w1 mkIn k us = us2 at rh he2 hA
  have hE : ∀ y, (E.set i ((fkC ⟨us, x1, x2, x3, x4⟩).set 0 (.dat 1 (us2.map inC)))).set i y = E.set i y := fun y => List.set_set ..
  have hl2 : i < (E.set i ((fkC ⟨us, x1, x2, x3, x4⟩).set 0 (.dat 1 (us2.map inC)))).length := by rw [List.length_set]; exact hlt
  generalize E.set i ((fkC ⟨us, x1, x2, x3, x4⟩).set 0 (.dat 1 (us2.map inC))) = E2 at rh he2 hE hl2
  simp only [wFk, show k + (wL w1 us + 1 + 1 + 1 + 1) = k + wL w1 us + 1 + 1 + 1 + 1 by omega] at hA
  have hkw2 : k + wL w1 us + 1 + 1 + 1 + 1 ≤ 1000000000 := by omega
  have hk2 : 0 < k + wL w1 us := by omega
  clear hkw hk he q1 hmk
  generalize k + wL w1 us = k at hA hkw2 hk2 r1
  unfold obM at rh
  simp -implicitDefEqProofs -dsimp only [r0, r1, r5, rh, he2, hi, go_sem, ↓reduceIte, Nat.reduceEqDiff, Int.reduceLE, Int.reduceLT, Int.reduceNeg, Int.reduceEq, Int.reduceBEq, Int.reduceBNe, Nat.reduceMul, Nat.reduceAdd, Nat.reduceLeDiff, reduceCtorEq, Int.reduceToNat]
  refine Call_val (own := true) (h55 k (by omega) (by omega)) (by simp [ExpOk, AV.pure]) (.inl rfl) ?_
  simp -implicitDefEqProofs -dsimp only [r0, r1, r5, rh, he2, hi, t3, wnat1 (n := k) (by omega), wnat1 (n := k + 1) (by omega), wnat1 (n := k + 1 + 1) (by omega), wnat1 (n := k + 1 + 1 + 1) (by omega), List.getElem?_set_self hlt, List.set_set, List.length_set, hE, go_sem, ↓reduceIte, Nat.reduceEqDiff, Int.reduceLE, Int.reduceLT, Int.reduceNeg, Int.reduceEq, Int.reduceBEq, Int.reduceBNe, Nat.reduceMul, Nat.reduceAdd, Nat.reduceLeDiff, reduceCtorEq, Int.reduceToNat]
  refine hA _ _ _ _ (by simp [upd_at, r0]) (by simp [upd_at]; try omega) (by simp [upd_at, r5]) ?_ (by rw [hup_at, if_pos rfl]; rfl)
  simp [AM.NoDat, AV.isDat, hq]
theorem h60 (l : List Fk) (k : Nat) (cap : Option Nat) (q : Prop) (hq : q) (hk : 0 < k) (hkl : k + wL wFk l ≤ 1000000000) (hn : l.length ≤ 1048576) (hB : ∀ u ∈ l, u.cols.length ≤ 1048576) : HT 60 [.sl (.p 0) 0 0 l.length cap, i64 k] [obM 5 (l.map fkC) q] (i64 (k + wL wFk l : Nat)) true [obM 5 ((mkL wFk mkFk k l).map fkC) True] := by
  refine holds_of (c := Tryz.f60.body.getD .skip) (k := kMk 50 kBFkS) (ts := [4]) HOk mixedT hintT Tryz.func60 (by kernel_rfl) (by kernel_rfl) (by kernel_rfl) (by kernel_rfl) (by kernel_rfl) (le_of 2 _ (by kernel_rfl)) ?_
  exact mk_k fkC 5 50 (by omega) kBFkS f0 wFk mkFk (fun a => by simp [fkC, ils, AV.pure]) (fun u => u.cols.length ≤ 1048576) l hB (fun s g h c i k E q cc hB hk hkw hi q0 q1 q5 hq hh he hA => bFk s g h c i k E q cc hB hk hkw hi q0 q1 q5 hq hh he hA) k q hq hk hkl hn
end FrA
end
/-! MkB -/
section
open Go Go.AM
namespace FrA
open Go.Proofs
set_option maxRecDepth 100000
set_option linter.unusedSimpArgs false
open Go.AM.L
def kT1 : K := (R [G, m 20 0, m 21 5, o 22 (.idx 6 (.t 20) (.t 21)), o 23 (.fld 1 (.t 22)), o 24 (.load false 1 (.t 23)), m 25 1, o 26 (.call (.f 56) [.t 24, .t 25]), m 1 26, G])
def kT2 : K := (R [G, m 27 0, m 28 5, o 29 (.idx 6 (.t 27) (.t 28)), o 30 (.fld 2 (.t 29)), o 31 (.load false 1 (.t 30)), m 32 1, o 33 (.call (.f 57) [.t 31, .t 32]), m 1 33, G])
def kT3 : K := (R [G, m 34 0, m 35 5, o 36 (.idx 6 (.t 34) (.t 35)), o 37 (.fld 3 (.t 36)), o 38 (.load false 1 (.t 37)), m 39 1, o 40 (.call (.f 58) [.t 38, .t 39]), m 1 40, G])
def kT4 : K := (R [G, m 41 0, m 42 5, o 43 (.idx 6 (.t 41) (.t 42)), o 44 (.fld 4 (.t 43)), o 45 (.load false 1 (.t 44)), m 46 1, o 47 (.call (.f 59) [.t 45, .t 46]), m 1 47, G])
def kT5 : K := (R [G, m 48 0, m 49 5, o 50 (.idx 6 (.t 48) (.t 49)), o 51 (.fld 5 (.t 50)), o 52 (.load false 1 (.t 51)), m 53 1, o 54 (.call (.f 60) [.t 52, .t 53]), m 1 54, G])
def kBTableS : K := (.seq (R [m 12 0, m 13 5, m 14 1, o 15 (.call (.f 55) [.t 14]), o 16 (.idx 6 (.t 12) (.t 13)), o 17 (.fld 0 (.t 16)), x (.store 1 (.t 17) (.t 15))]) (.seq (R [m 18 1, o 19 (.bin .add (.t 18) (n 1)), m 1 19]) (.seq kT1 (.seq kT2 (.seq kT3 (.seq kT4 kT5))))))
theorem bTb {n : Nat} {cap : Option Nat} (s : Stk) (g : Slots) (h : Heap) (c i k : Nat) (E : List (List AV)) (q : Prop) (cc : _) (hB : BTb cc) (hk : 0 < k) (hkw : k + wTb cc ≤ 1000000000) (hi : i < n) (q0 : g 0 = .sl (.p 0) 0 0 n cap) (q1 : g 1 = i64 k) (q5 : g 5 = i64 i) (hq : q) (hh : h (.p 0) = some (obM 6 E q)) (he : E[i]? = some (tbC cc))
      (hA : ∀ g' h' c' (q' : Prop), g' 0 = .sl (.p 0) 0 0 n cap → g' 1 = i64 (k + wTb cc : Nat) → g' 5 = i64 i → q' → h' (.p 0) = some (obM 6 (E.set i (tbC (mkTb k cc))) q') → Ret HC .normal s g' h' c') : RunK HC kBTableS s g h c := by
  obtain ⟨nm, cs, ks, us, es, fs⟩ := cc
  obtain ⟨b1, b2, b3, b4, b5, b6, b7, b8⟩ := hB
  simp only at b1 b2 b3 b4 b5 b6 b7 b8
  simp only [wTb] at hkw
  have he2 := he
  simp only [tbC, cls, ils, uns, cks, fkk] at he2
  have hh2 := hh
  unfold obM at hh2
  have hlt := (List.getElem?_eq_some_iff.1 he).1
  have hmk : mkTb k ⟨nm, cs, ks, us, es, fs⟩ = ⟨mark k, mkL w6 mkCl (k + 1) cs, mkL w1 mkIn (k + 1 + wL w6 cs) ks, mkL wUn mkUn (k + 1 + wL w6 cs + wL w1 ks) us, mkL wCk mkCk (k + 1 + wL w6 cs + wL w1 ks + wL wUn us) es, mkL wFk mkFk (k + 1 + wL w6 cs + wL w1 ks + wL wUn us + wL wCk es) fs⟩ := rfl
  rw [hmk] at hA
  unfold kBTableS
  simp -implicitDefEqProofs -dsimp only [q0, q1, q5, hh2, he2, hi, go_sem, ↓reduceIte, Nat.reduceEqDiff, Int.reduceLE, Int.reduceLT, Int.reduceNeg, Int.reduceEq, Int.reduceBEq, Int.reduceBNe, Nat.reduceMul, Nat.reduceAdd, Nat.reduceLeDiff, reduceCtorEq, Int.reduceToNat]
  refine Call_val (own := true) (h55 k (by omega) (by omega)) (by simp [ExpOk, AV.pure]) (.inl rfl) ?_
  simp -implicitDefEqProofs -dsimp only [q0, q1, q5, hh2, he2, hi, wnat1 (n := k) (by omega), kT1, go_sem, ↓reduceIte, Nat.reduceEqDiff, Int.reduceLE, Int.reduceLT, Int.reduceNeg, Int.reduceEq, Int.reduceBEq, Int.reduceBNe, Nat.reduceMul, Nat.reduceAdd, Nat.reduceLeDiff, reduceCtorEq, Int.reduceToNat]
  have hq1 : q ∧ NoDat [.s (mark k)] := ⟨hq, by simp [AM.NoDat, AV.isDat]⟩
  refine Mark_sub 20 (by omega) (n := n) (i := i) (cap := cap) (k := k + 1) (k' := k + 1 + wL w6 cs) (z := 6) (zi := 6) (j := 1) (E := E.set i [.s (mark k), .dat 6 (cs.map clC), .dat 1 (ks.map inC), .dat 1 (us.map unC), .dat 1 (es.map ckC), .dat 5 (fs.map fkC)]) (row := [.s (mark k), .dat 6 (cs.map clC), .dat 1 (ks.map inC), .dat 1 (us.map unC), .dat 1 (es.map ckC), .dat 5 (fs.map fkC)]) (q := q ∧ NoDat [.s (mark k)]) (es := cs.map clC) (es' := (mkL w6 mkCl (k + 1) cs).map clC) (by simp [upd_at, q0]) (by simp [upd_at]) (by simp [upd_at, q5]) hi (hq1 : q ∧ NoDat [.s (mark k)]) (by rw [hup_at, if_pos rfl]; rfl) (List.getElem?_set_self hlt) rfl rfl (by simpa using h56 cs (k + 1) none True trivial (by omega) (by omega) b1) (cl_pure _) (cl_pure _) (by simp [mkL_len]) fun g1 h1 c1 r0 r1 r5 rh => ?_
  rw [List.set_set] at rh
  simp only [List.set_cons_succ, List.set_cons_zero] at rh
  simp -implicitDefEqProofs -dsimp only [kT2, go_sem, ↓reduceIte, Nat.reduceEqDiff, Int.reduceLE, Int.reduceLT, Int.reduceNeg, Int.reduceEq, Int.reduceBEq, Int.reduceBNe, Nat.reduceMul, Nat.reduceAdd, Nat.reduceLeDiff, reduceCtorEq, Int.reduceToNat]
  refine Mark_sub 27 (by omega) (n := n) (i := i) (cap := cap) (k := k + 1 + wL w6 cs) (k' := k + 1 + wL w6 cs + wL w1 ks) (z := 6) (zi := 1) (j := 2) (E := E.set i [.s (mark k), .dat 6 ((mkL w6 mkCl (k + 1) cs).map clC), .dat 1 (ks.map inC), .dat 1 (us.map unC), .dat 1 (es.map ckC), .dat 5 (fs.map fkC)]) (row := [.s (mark k), .dat 6 ((mkL w6 mkCl (k + 1) cs).map clC), .dat 1 (ks.map inC), .dat 1 (us.map unC), .dat 1 (es.map ckC), .dat 5 (fs.map fkC)]) (q := q ∧ NoDat [.s (mark k)]) (es := ks.map inC) (es' := (mkL w1 mkIn (k + 1 + wL w6 cs) ks).map inC) r0 r1 r5 hi hq1 rh (List.getElem?_set_self hlt) rfl rfl (by simpa using h57 ks (k + 1 + wL w6 cs) none True trivial (by omega) (by omega) b2) (in_pure _) (in_pure _) (by simp [mkL_len]) fun g1 h1 c1 r0 r1 r5 rh => ?_
  rw [List.set_set] at rh
  simp only [List.set_cons_succ, List.set_cons_zero] at rh
  simp -implicitDefEqProofs -dsimp only [kT3, go_sem, ↓reduceIte, Nat.reduceEqDiff, Int.reduceLE, Int.reduceLT, Int.reduceNeg, Int.reduceEq, Int.reduceBEq, Int.reduceBNe, Nat.reduceMul, Nat.reduceAdd, Nat.reduceLeDiff, reduceCtorEq, Int.reduceToNat]
  refine Mark_sub 34 (by omega) (n := n) (i := i) (cap := cap) (k := k + 1 + wL w6 cs + wL w1 ks) (k' := k + 1 + wL w6 cs + wL w1 ks + wL wUn us) (z := 6) (zi := 1) (j := 3) (E := E.set i [.s (mark k), .dat 6 ((mkL w6 mkCl (k + 1) cs).map clC), .dat 1 ((mkL w1 mkIn (k + 1 + wL w6 cs) ks).map inC), .dat 1 (us.map unC), .dat 1 (es.map ckC), .dat 5 (fs.map fkC)]) (row := [.s (mark k), .dat 6 ((mkL w6 mkCl (k + 1) cs).map clC), .dat 1 ((mkL w1 mkIn (k + 1 + wL w6 cs) ks).map inC), .dat 1 (us.map unC), .dat 1 (es.map ckC), .dat 5 (fs.map fkC)]) (q := q ∧ NoDat [.s (mark k)]) (es := us.map unC) (es' := (mkL wUn mkUn (k + 1 + wL w6 cs + wL w1 ks) us).map unC) r0 r1 r5 hi hq1 rh (List.getElem?_set_self hlt) rfl rfl (by simpa using h58 us (k + 1 + wL w6 cs + wL w1 ks) none True trivial (by omega) (by omega) b3 b4) (un_pure _) (un_pure _) (by simp [mkL_len]) fun g1 h1 c1 r0 r1 r5 rh => ?_
  rw [List.set_set] at rh
  simp only [List.set_cons_succ, List.set_cons_zero] at rh
  simp -implicitDefEqProofs -dsimp only [kT4, go_sem, ↓reduceIte, Nat.reduceEqDiff, Int.reduceLE, Int.reduceLT, Int.reduceNeg, Int.reduceEq, Int.reduceBEq, Int.reduceBNe, Nat.reduceMul, Nat.reduceAdd, Nat.reduceLeDiff, reduceCtorEq, Int.reduceToNat]
  refine Mark_sub 41 (by omega) (n := n) (i := i) (cap := cap) (k := k + 1 + wL w6 cs + wL w1 ks + wL wUn us) (k' := k + 1 + wL w6 cs + wL w1 ks + wL wUn us + wL wCk es) (z := 6) (zi := 1) (j := 4) (E := E.set i [.s (mark k), .dat 6 ((mkL w6 mkCl (k + 1) cs).map clC), .dat 1 ((mkL w1 mkIn (k + 1 + wL w6 cs) ks).map inC), .dat 1 ((mkL wUn mkUn (k + 1 + wL w6 cs + wL w1 ks) us).map unC), .dat 1 (es.map ckC), .dat 5 (fs.map fkC)]) (row := [.s (mark k), .dat 6 ((mkL w6 mkCl (k + 1) cs).map clC), .dat 1 ((mkL w1 mkIn (k + 1 + wL w6 cs) ks).map inC), .dat 1 ((mkL wUn mkUn (k + 1 + wL w6 cs + wL w1 ks) us).map unC), .dat 1 (es.map ckC), .dat 5 (fs.map fkC)]) (q := q ∧ NoDat [.s (mark k)]) (es := es.map ckC) (es' := (mkL wCk mkCk (k + 1 + wL w6 cs + wL w1 ks + wL wUn us) es).map ckC) r0 r1 r5 hi hq1 rh (List.getElem?_set_self hlt) rfl rfl (by simpa using h59 es (k + 1 + wL w6 cs + wL w1 ks + wL wUn us) none True trivial (by omega) (by omega) b5 b6) (ck_pure _) (ck_pure _) (by simp [mkL_len]) fun g1 h1 c1 r0 r1 r5 rh => ?_
  rw [List.set_set] at rh
  simp only [List.set_cons_succ, List.set_cons_zero] at rh
  simp -implicitDefEqProofs -dsimp only [kT5, go_sem, ↓reduceIte, Nat.reduceEqDiff, Int.reduceLE, Int.reduceLT, Int.reduceNeg, Int.reduceEq, Int.reduceBEq, Int.reduceBNe, Nat.reduceMul, Nat.reduceAdd, Nat.reduceLeDiff, reduceCtorEq, Int.reduceToNat]
  refine Mark_sub 48 (by omega) (n := n) (i := i) (cap := cap) (k := k + 1 + wL w6 cs + wL w1 ks + wL wUn us + wL wCk es) (k' := k + 1 + wL w6 cs + wL w1 ks + wL wUn us + wL wCk es + wL wFk fs) (z := 6) (zi := 5) (j := 5) (E := E.set i [.s (mark k), .dat 6 ((mkL w6 mkCl (k + 1) cs).map clC), .dat 1 ((mkL w1 mkIn (k + 1 + wL w6 cs) ks).map inC), .dat 1 ((mkL wUn mkUn (k + 1 + wL w6 cs + wL w1 ks) us).map unC), .dat 1 ((mkL wCk mkCk (k + 1 + wL w6 cs + wL w1 ks + wL wUn us) es).map ckC), .dat 5 (fs.map fkC)]) (row := [.s (mark k), .dat 6 ((mkL w6 mkCl (k + 1) cs).map clC), .dat 1 ((mkL w1 mkIn (k + 1 + wL w6 cs) ks).map inC), .dat 1 ((mkL wUn mkUn (k + 1 + wL w6 cs + wL w1 ks) us).map unC), .dat 1 ((mkL wCk mkCk (k + 1 + wL w6 cs + wL w1 ks + wL wUn us) es).map ckC), .dat 5 (fs.map fkC)]) (q := q ∧ NoDat [.s (mark k)]) (es := fs.map fkC) (es' := (mkL wFk mkFk (k + 1 + wL w6 cs + wL w1 ks + wL wUn us + wL wCk es) fs).map fkC) r0 r1 r5 hi hq1 rh (List.getElem?_set_self hlt) rfl rfl (by simpa using h60 fs (k + 1 + wL w6 cs + wL w1 ks + wL wUn us + wL wCk es) none True trivial (by omega) (by omega) b7 b8) (fk_pure _) (fk_pure _) (by simp [mkL_len]) fun g1 h1 c1 r0 r1 r5 rh => ?_
  rw [List.set_set] at rh
  simp only [List.set_cons_succ, List.set_cons_zero] at rh
  refine hA _ _ _ (q ∧ NoDat [.s (mark k)]) r0 (by rw [r1, wTb]; exact congrArg i64 (congrArg Int.ofNat (by simp only; omega))) r5 hq1 (by rw [rh]; rfl)
theorem h18 (l : List Tb) (k : Nat) (cap : Option Nat) (q : Prop) (hq : q) (hk : 0 < k) (hkl : k + wL wTb l ≤ 1000000000) (hn : l.length ≤ 1048576) (hB : ∀ u ∈ l, BTb u) : HT 18 [.sl (.p 0) 0 0 l.length cap, i64 k] [obM 6 (l.map tbC) q] (i64 (k + wL wTb l : Nat)) true [obM 6 ((mkL wTb mkTb k l).map tbC) True] := by
  refine holds_of (c := Tryz.f18.body.getD .skip) (k := kMk 55 kBTableS) (ts := [4]) HOk mixedT hintT Tryz.func18 (by kernel_rfl) (by kernel_rfl) (by kernel_rfl) (by kernel_rfl) (by kernel_rfl) (le_of 2 _ (by kernel_rfl)) ?_
  exact mk_k tbC 6 55 (by omega) kBTableS t0 wTb mkTb (fun a => by simp [tbC, cls, ils, uns, cks, fkk, AV.pure]) (BTb) l hB (fun s g h c i k E q cc hB hk hkw hi q0 q1 q5 hq hh he hA => bTb s g h c i k E q cc hB hk hkw hi q0 q1 q5 hq hh he hA) k q hq hk hkl hn
end FrA
end
