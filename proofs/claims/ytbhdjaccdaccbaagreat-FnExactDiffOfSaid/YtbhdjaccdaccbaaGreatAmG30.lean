/- Databases: right ones, by the reference. Walked. No condition. -/
import Derived.Test.YtbhdjaccdaccbaaGreatAmG29
set_option linter.all false
set_option linter.unusedSimpArgs false
set_option linter.unusedVariables false
set_option linter.deprecated false
/-! DbB -/
section
open Go Go.AM
namespace FrA
open Go.Proofs
set_option maxRecDepth 100000
set_option linter.unusedSimpArgs false
theorem h134 (t : Tb) (l : List Vl) (hl : l.length ≤ 1048576) (hc : t.cols.length ≤ 1048576) : HT 134 [.agg (tbC t), vls l] [] (.b (tt (fitP t l))) true [] := by
  refine holds_of (c := Tryz.f134.body.getD .skip) (k := k134.1) (ts := [4]) HOk mixedT hintT Tryz.func134 (by kernel_rfl) (by kernel_rfl) (by kernel_rfl) k134.2 (by kernel_rfl) (le_of 2 _ (by kernel_rfl)) ?_
  generalize hP : fitP t l = P
  have hdef : P ↔ (l.length = t.cols.length ∧ ∀ i, i < l.length → ft1 t l i) := by rw [← hP]; exact Iff.rfl
  clear hP
  obtain ⟨nm, cs, ks, us, es, fs⟩ := t
  simp only at hdef hc
  simp only [tbC, cls, ils, uns, cks, fkk]
  unfold vls
  by_cases h1 : l.length = cs.length
  rotate_left
  · have e1 : ((l.length : Int) != (cs.length : Int)) = true := by simp; omega
    rw [tt_f fun q => h1 (hdef.1 q).1]
    simp -implicitDefEqProofs -dsimp only [k134, e1, go_sem, ↓reduceIte, Nat.reduceEqDiff, Int.reduceLE, Int.reduceLT, Int.reduceNeg, Int.reduceEq, Int.reduceBEq, Int.reduceBNe, Nat.reduceMul, Nat.reduceAdd, Nat.reduceLeDiff, reduceCtorEq, Int.reduceToNat]
    exact Fin_val (by simp [resV, upd_at, retA]) (by simp [resV, upd_at, ResOk])
  have e1 : ((l.length : Int) != (cs.length : Int)) = false := by simp; omega
  obtain ⟨B, hB⟩ : ∃ B : Ob, B = { ver := 1, es := [[.s nm, .dat 6 (cs.map clC), .dat 1 (ks.map inC), .dat 1 (us.map unC), .dat 1 (es.map ckC), .dat 5 (fs.map fkC)]], esz := 6, own := False, fixed := true } := ⟨_, rfl⟩
  simp -implicitDefEqProofs -dsimp only [k134, e1, go_sem, ↓reduceIte, Nat.reduceEqDiff, Int.reduceLE, Int.reduceLT, Int.reduceNeg, Int.reduceEq, Int.reduceBEq, Int.reduceBNe, Nat.reduceMul, Nat.reduceAdd, Nat.reduceLeDiff, reduceCtorEq, Int.reduceToNat]
  refine K_for l.length (fun i g h c => g 1 = .dat 3 (l.map vC) ∧ g 2 = .ptr (.l 2) 1 0 0 ∧ g 5 = i64 i ∧ h (.l 2) = some B ∧ ∀ j, j < i → ft1 ⟨nm, cs, ks, us, es, fs⟩ l j) ?_ ?_ ?_
  · exact ⟨by simp [upd_at, S_1], by simp [upd_at], by simp [upd_at], by simp [hup_at, hB], fun j hj => absurd hj (by omega)⟩
  · rintro i A hi hA g h c ⟨q1, q2, q5, hh, hb⟩
    have hc : (i : Int) < (l.length : Int) := by omega
    have w2 : IntKind.i64.wrap ((i : Int) + 1) = ((i + 1 : Nat) : Int) := wnat1 (by omega)
    have hg := mget v0 hi
    have hg2 := mget c0 (show i < cs.length by omega)
    have hbad : ¬ ft1 ⟨nm, cs, ks, us, es, fs⟩ l i → tt P = false := fun q => tt_f fun r => q ((hdef.1 r).2 i hi)
    have hst := upto_step (P := ft1 ⟨nm, cs, ks, us, es, fs⟩ l) hb
    unfold ft1 isOfP at hbad hst
    simp only at hbad hst
    generalize l.getD i v0 = v at hg hbad hst
    generalize cs.getD i c0 = cc at hg2 hbad hst
    obtain ⟨cn, k, b, a1, a2, a3⟩ := cc
    have d1 := h186 v
    obtain ⟨x1, x2, x3⟩ := v
    simp only [vC] at d1
    simp only at hbad hst
    have hh' := hh
    rw [hB] at hh'
    simp -implicitDefEqProofs -dsimp only [q1, q2, q5, hh', hc, hg, hg2, vC, clC, Nat.reduceLT, go_sem, ↓reduceIte, Nat.reduceEqDiff, Int.reduceLE, Int.reduceLT, Int.reduceNeg, Int.reduceEq, Int.reduceBEq, Int.reduceBNe, Nat.reduceMul, Nat.reduceAdd, Nat.reduceLeDiff, reduceCtorEq, Int.reduceToNat]
    refine Call0_val true (d1) (by simp [AV.free, AV.pure]) (.inl rfl) ?_
    by_cases e : vOk (x1, x2, x3)
    rotate_left
    · simp -implicitDefEqProofs -dsimp only [e, go_sem, ↓reduceIte, Nat.reduceEqDiff, Int.reduceLE, Int.reduceLT, Int.reduceNeg, Int.reduceEq, Int.reduceBEq, Int.reduceBNe, Nat.reduceMul, Nat.reduceAdd, Nat.reduceLeDiff, reduceCtorEq, Int.reduceToNat]
      have hf := hbad fun q => e q.1
      exact Fin_val (by simp [resV, upd_at, retA, hf]) (by simp [resV, upd_at, ResOk])
    by_cases e2 : x1 = 0
    · have e2' : (x1 != 0) = false := by simp [e2]
      simp -implicitDefEqProofs -dsimp only [e, e2', q1, q2, q5, hh', hc, hg, hg2, vC, clC, Nat.reduceLT, w2, go_sem, ↓reduceIte, Nat.reduceEqDiff, Int.reduceLE, Int.reduceLT, Int.reduceNeg, Int.reduceEq, Int.reduceBEq, Int.reduceBNe, Nat.reduceMul, Nat.reduceAdd, Nat.reduceLeDiff, reduceCtorEq, Int.reduceToNat]
      exact hA _ _ _ ⟨by simp [upd_at, q1], by simp [upd_at, q2], by simp [upd_at], by simp [hup_at, hh], hst ⟨e, .inl e2⟩⟩
    by_cases e3 : x1 = k
    · have e3' : (x1 != k) = false := by simp [e3]
      simp -implicitDefEqProofs -dsimp only [e, knn e2, e3', q1, q2, q5, hh', hc, hg, hg2, vC, clC, Nat.reduceLT, w2, go_sem, ↓reduceIte, Nat.reduceEqDiff, Int.reduceLE, Int.reduceLT, Int.reduceNeg, Int.reduceEq, Int.reduceBEq, Int.reduceBNe, Nat.reduceMul, Nat.reduceAdd, Nat.reduceLeDiff, reduceCtorEq, Int.reduceToNat]
      exact hA _ _ _ ⟨by simp [upd_at, q1], by simp [upd_at, q2], by simp [upd_at], by simp [hup_at, hh], hst ⟨e, .inr e3⟩⟩
    · simp -implicitDefEqProofs -dsimp only [e, knn e2, knn e3, q1, q2, q5, hh', hc, hg, hg2, vC, clC, Nat.reduceLT, go_sem, ↓reduceIte, Nat.reduceEqDiff, Int.reduceLE, Int.reduceLT, Int.reduceNeg, Int.reduceEq, Int.reduceBEq, Int.reduceBNe, Nat.reduceMul, Nat.reduceAdd, Nat.reduceLeDiff, reduceCtorEq, Int.reduceToNat]
      have hf := hbad fun q => q.2.elim e2 e3
      exact Fin_val (by simp [resV, upd_at, retA, hf]) (by simp [resV, upd_at, ResOk])
  · rintro A g h c ⟨q1, q2, q5, hh, hb⟩
    have hc : ¬ (l.length : Int) < (l.length : Int) := by omega
    have hf : tt P = true := tt_t (hdef.2 ⟨h1, hb⟩)
    simp -implicitDefEqProofs -dsimp only [q1, q2, q5, hc, go_sem, ↓reduceIte, Nat.reduceEqDiff, Int.reduceLE, Int.reduceLT, Int.reduceNeg, Int.reduceEq, Int.reduceBEq, Int.reduceBNe, Nat.reduceMul, Nat.reduceAdd, Nat.reduceLeDiff, reduceCtorEq, Int.reduceToNat]
    exact Fin_val (by simp [resV, upd_at, retA, hf]) (by simp [resV, upd_at, ResOk])
theorem h77 (s : List Tb) (db : Db) (G : GDb s db) : HT 77 [tbs s, dbs db] [] (.b (tt (dbP s db))) true [] := by
  refine holds_of (c := Tryz.f77.body.getD .skip) (k := k77.1) (ts := [4]) HOk mixedT hintT Tryz.func77 (by kernel_rfl) (by kernel_rfl) (by kernel_rfl) k77.2 (by kernel_rfl) (le_of 2 _ (by kernel_rfl)) ?_
  generalize hP : dbP s db = P
  have hdef : P ↔ db.length = s.length ∧ ∀ i, i < db.length → rowsOk (s.getD i t0) (db.getD i []) := by rw [← hP]; exact Iff.rfl
  clear hP
  have hdl := G.g3.1
  unfold tbs dbs
  by_cases h1 : db.length = s.length
  rotate_left
  · have e1 : ((db.length : Int) != (s.length : Int)) = true := by simp; omega
    rw [tt_f fun q => h1 (hdef.1 q).1]
    simp -implicitDefEqProofs -dsimp only [k77, e1, go_sem, ↓reduceIte, Nat.reduceEqDiff, Int.reduceLE, Int.reduceLT, Int.reduceNeg, Int.reduceEq, Int.reduceBEq, Int.reduceBNe, Nat.reduceMul, Nat.reduceAdd, Nat.reduceLeDiff, reduceCtorEq, Int.reduceToNat]
    exact Fin_val (by simp [resV, upd_at, retA]) (by simp [resV, upd_at, ResOk])
  have e1 : ((db.length : Int) != (s.length : Int)) = false := by simp; omega
  simp -implicitDefEqProofs -dsimp only [k77, e1, go_sem, ↓reduceIte, Nat.reduceEqDiff, Int.reduceLE, Int.reduceLT, Int.reduceNeg, Int.reduceEq, Int.reduceBEq, Int.reduceBNe, Nat.reduceMul, Nat.reduceAdd, Nat.reduceLeDiff, reduceCtorEq, Int.reduceToNat]
  refine K_for db.length (fun i g h c => g 0 = .dat 6 (s.map tbC) ∧ g 1 = .dat 1 (db.map dtC) ∧ g 5 = i64 i ∧ ∀ j, j < i → rowsOk (s.getD j t0) (db.getD j [])) ?_ ?_ ?_
  · exact ⟨by simp [upd_at, S_0], by simp [upd_at, S_1], by simp [upd_at], fun j hj => absurd hj (by omega)⟩
  · rintro i A hi hA g h c ⟨q0, q1, q5, hb⟩
    have hc : (i : Int) < (db.length : Int) := by omega
    have w2 : IntKind.i64.wrap ((i : Int) + 1) = ((i + 1 : Nat) : Int) := wnat1 (by omega)
    have hg := mget ([] : Dt) hi
    have hg2 := mget t0 (show i < s.length by omega)
    have hm := G.g3.2 _ (mmem [] hi)
    have hm2 := G.g1 _ (mmem t0 (show i < s.length by omega))
    have hbad : ¬ rowsOk (s.getD i t0) (db.getD i []) → tt P = false := fun q => tt_f fun r => q ((hdef.1 r).2 i hi)
    have hst := upto_step (P := fun j => rowsOk (s.getD j t0) (db.getD j [])) hb
    generalize db.getD i [] = l at hg hm hbad hst
    generalize s.getD i t0 = u at hg2 hm2 hbad hst
    have hn := hm.1
    have d3 := fun (r : Rw) (hr : r.vals.length ≤ 1048576) => h134 u r.vals hr hm2.b1
    generalize hF : (fun l => fitP u l) = F at *
    have hF2 : ∀ l, fitP u l = F l := fun l => by rw [← hF]
    have hro : ∀ i, ro1 u l i = ((1 ≤ (l.getD i r0).id ∧ (l.getD i r0).id ≤ 1000000000) ∧ (0 < i → (l.getD (i - 1) r0).id < (l.getD i r0).id) ∧ F (l.getD i r0).vals) := fun i => by rw [← hF2]; rfl
    simp only [hF2] at d3
    have hbadr : ∀ k, k < l.length → ¬ ro1 u l k → tt P = false := fun k hk q => hbad fun r => q (r.1 k hk)
    have hbadl : ¬ l.length ≤ 60 → tt P = false := fun q => hbad fun r => q r.2
    have hgood : (∀ k, k < l.length → ro1 u l k) → l.length ≤ 60 → rowsOk u l := fun a b => ⟨a, b⟩
    generalize hRO : ro1 u l = RO at hbadr hgood hro
    obtain ⟨nm, cs, ks, us, es, fs⟩ := u
    simp only [tbC, cls, ils, uns, cks, fkk] at d3
    simp -implicitDefEqProofs -dsimp only [q0, q1, q5, hc, hg, dtC, rws, Nat.reduceLT, go_sem, ↓reduceIte, Nat.reduceEqDiff, Int.reduceLE, Int.reduceLT, Int.reduceNeg, Int.reduceEq, Int.reduceBEq, Int.reduceBNe, Nat.reduceMul, Nat.reduceAdd, Nat.reduceLeDiff, reduceCtorEq, Int.reduceToNat]
    refine K_for l.length (fun k g h c => g 0 = .dat 6 (s.map tbC) ∧ g 1 = .dat 1 (db.map dtC) ∧ g 5 = i64 i ∧ g 6 = .dat 2 (l.map rwC) ∧ g 7 = i64 k ∧ ∀ j, j < k → RO j) ?_ ?_ ?_
    · exact ⟨by simp [upd_at, q0], by simp [upd_at, q1], by simp [upd_at, q5], by simp [upd_at], by simp [upd_at], fun j hj => absurd hj (by omega)⟩
    · rintro k A' hk hA' g h c ⟨q0, q1, q5, q6, q7, hbk⟩
      have hck : (k : Int) < (l.length : Int) := by omega
      have w3 : IntKind.i64.wrap ((k : Int) + 1) = ((k + 1 : Nat) : Int) := wnat1 (by omega)
      have hgr := mget r0 hk
      have hmr := hm.2 _ (mmem r0 hk)
      have hbk2 := hbadr k hk
      have hstk := upto_step (P := RO) hbk
      rw [hro k] at hbk2 hstk
      generalize l.getD k r0 = r at hgr hmr hbk2 hstk
      have d1 := h132 r.id 1 1000000000
      have d2 := d3 r hmr
      obtain ⟨id, vs⟩ := r
      unfold vls at d2
      simp only at d1 d2 hbk2 hstk
      simp -implicitDefEqProofs -dsimp only [q0, q1, q5, q6, q7, hck, hgr, rwC, vls, Nat.reduceLT, go_sem, ↓reduceIte, Nat.reduceEqDiff, Int.reduceLE, Int.reduceLT, Int.reduceNeg, Int.reduceEq, Int.reduceBEq, Int.reduceBNe, Nat.reduceMul, Nat.reduceAdd, Nat.reduceLeDiff, reduceCtorEq, Int.reduceToNat]
      refine Call0_val true (d1) (by simp [AV.free, AV.pure]) (.inl rfl) ?_
      by_cases e1 : 1 ≤ id ∧ id ≤ 1000000000
      rotate_left
      · simp -implicitDefEqProofs -dsimp only [e1, go_sem, ↓reduceIte, Nat.reduceEqDiff, Int.reduceLE, Int.reduceLT, Int.reduceNeg, Int.reduceEq, Int.reduceBEq, Int.reduceBNe, Nat.reduceMul, Nat.reduceAdd, Nat.reduceLeDiff, reduceCtorEq, Int.reduceToNat]
        have hf := hbk2 fun q => e1 q.1
        exact Fin_val (by simp [resV, upd_at, retA, hf]) (by simp [resV, upd_at, ResOk])
      by_cases e2 : k = 0
      · subst e2
        have hi0 : ¬ ((0 : Nat) : Int) > 0 := by omega
        simp -implicitDefEqProofs -dsimp only [e1, q0, q1, q5, q6, q7, hi0, hg2, hgr, rwC, vls, tbC, cls, ils, uns, cks, fkk, Nat.reduceLT, go_sem, ↓reduceIte, Nat.reduceEqDiff, Int.reduceLE, Int.reduceLT, Int.reduceNeg, Int.reduceEq, Int.reduceBEq, Int.reduceBNe, Nat.reduceMul, Nat.reduceAdd, Nat.reduceLeDiff, reduceCtorEq, Int.reduceToNat]
        refine Call0_val true (d2) (by simp [AV.free, AV.pure]) (.inl rfl) ?_
        by_cases e4 : F vs
        · rw [tt_t e4]
          simp -implicitDefEqProofs -dsimp only [q7, w3, go_sem, ↓reduceIte, Nat.reduceEqDiff, Int.reduceLE, Int.reduceLT, Int.reduceNeg, Int.reduceEq, Int.reduceBEq, Int.reduceBNe, Nat.reduceMul, Nat.reduceAdd, Nat.reduceLeDiff, reduceCtorEq, Int.reduceToNat]
          exact hA' _ _ _ ⟨by simp [upd_at, q0], by simp [upd_at, q1], by simp [upd_at, q5], by simp [upd_at, q6], by simp [upd_at], hstk ⟨e1, fun q => absurd q (by omega), e4⟩⟩
        · rw [tt_f e4]
          simp -implicitDefEqProofs -dsimp only [go_sem, ↓reduceIte, Nat.reduceEqDiff, Int.reduceLE, Int.reduceLT, Int.reduceNeg, Int.reduceEq, Int.reduceBEq, Int.reduceBNe, Nat.reduceMul, Nat.reduceAdd, Nat.reduceLeDiff, reduceCtorEq, Int.reduceToNat]
          have hf := hbk2 fun q => e4 q.2.2
          exact Fin_val (by simp [resV, upd_at, retA, hf]) (by simp [resV, upd_at, ResOk])
      · have hi0 : (k : Int) > 0 := by omega
        have wm : IntKind.i64.wrap ((k : Int) - 1) = ((k - 1 : Nat) : Int) := by rw [wr (by omega) (by omega)]; omega
        have hgp := mget r0 (show k - 1 < l.length by omega)
        generalize l.getD (k - 1) r0 = p at hgp hbk2 hstk
        obtain ⟨pid, pv⟩ := p
        simp only at hbk2 hstk
        by_cases e3 : pid ≥ id
        · simp -implicitDefEqProofs -dsimp only [e1, q0, q1, q5, q6, q7, hi0, wm, hgp, hgr, rwC, vls, Nat.reduceLT, e3, go_sem, ↓reduceIte, Nat.reduceEqDiff, Int.reduceLE, Int.reduceLT, Int.reduceNeg, Int.reduceEq, Int.reduceBEq, Int.reduceBNe, Nat.reduceMul, Nat.reduceAdd, Nat.reduceLeDiff, reduceCtorEq, Int.reduceToNat]
          have hf := hbk2 fun q => by have := q.2.1 (by omega); omega
          exact Fin_val (by simp [resV, upd_at, retA, hf]) (by simp [resV, upd_at, ResOk])
        · simp -implicitDefEqProofs -dsimp only [e1, q0, q1, q5, q6, q7, hi0, wm, hgp, hgr, hg2, rwC, vls, tbC, cls, ils, uns, cks, fkk, Nat.reduceLT, e3, go_sem, ↓reduceIte, Nat.reduceEqDiff, Int.reduceLE, Int.reduceLT, Int.reduceNeg, Int.reduceEq, Int.reduceBEq, Int.reduceBNe, Nat.reduceMul, Nat.reduceAdd, Nat.reduceLeDiff, reduceCtorEq, Int.reduceToNat]
          refine Call0_val true (d2) (by simp [AV.free, AV.pure]) (.inl rfl) ?_
          by_cases e4 : F vs
          · rw [tt_t e4]
            simp -implicitDefEqProofs -dsimp only [q7, w3, go_sem, ↓reduceIte, Nat.reduceEqDiff, Int.reduceLE, Int.reduceLT, Int.reduceNeg, Int.reduceEq, Int.reduceBEq, Int.reduceBNe, Nat.reduceMul, Nat.reduceAdd, Nat.reduceLeDiff, reduceCtorEq, Int.reduceToNat]
            exact hA' _ _ _ ⟨by simp [upd_at, q0], by simp [upd_at, q1], by simp [upd_at, q5], by simp [upd_at, q6], by simp [upd_at], hstk ⟨e1, fun q => by omega, e4⟩⟩
          · rw [tt_f e4]
            simp -implicitDefEqProofs -dsimp only [go_sem, ↓reduceIte, Nat.reduceEqDiff, Int.reduceLE, Int.reduceLT, Int.reduceNeg, Int.reduceEq, Int.reduceBEq, Int.reduceBNe, Nat.reduceMul, Nat.reduceAdd, Nat.reduceLeDiff, reduceCtorEq, Int.reduceToNat]
            have hf := hbk2 fun q => e4 q.2.2
            exact Fin_val (by simp [resV, upd_at, retA, hf]) (by simp [resV, upd_at, ResOk])
    · rintro A' g h c ⟨q0, q1, q5, q6, q7, hbk⟩
      have hck : ¬ (l.length : Int) < (l.length : Int) := by omega
      by_cases h60 : l.length ≤ 60
      · have g60 : ¬ (l.length : Int) > 60 := by omega
        simp -implicitDefEqProofs -dsimp only [q0, q1, q5, q6, q7, hck, g60, w2, go_sem, ↓reduceIte, Nat.reduceEqDiff, Int.reduceLE, Int.reduceLT, Int.reduceNeg, Int.reduceEq, Int.reduceBEq, Int.reduceBNe, Nat.reduceMul, Nat.reduceAdd, Nat.reduceLeDiff, reduceCtorEq, Int.reduceToNat]
        exact hA _ _ _ ⟨by simp [upd_at, q0], by simp [upd_at, q1], by simp [upd_at], hst (hgood hbk h60)⟩
      · have g60 : (l.length : Int) > 60 := by omega
        have hf := hbadl h60
        simp -implicitDefEqProofs -dsimp only [q0, q1, q5, q6, q7, hck, g60, go_sem, ↓reduceIte, Nat.reduceEqDiff, Int.reduceLE, Int.reduceLT, Int.reduceNeg, Int.reduceEq, Int.reduceBEq, Int.reduceBNe, Nat.reduceMul, Nat.reduceAdd, Nat.reduceLeDiff, reduceCtorEq, Int.reduceToNat]
        exact Fin_val (by simp [resV, upd_at, retA, hf]) (by simp [resV, upd_at, ResOk])
  · rintro A g h c ⟨q0, q1, q5, hb⟩
    have hc : ¬ (db.length : Int) < (db.length : Int) := by omega
    have hf : tt P = true := tt_t (hdef.2 ⟨h1, hb⟩)
    simp -implicitDefEqProofs -dsimp only [q0, q1, q5, hc, go_sem, ↓reduceIte, Nat.reduceEqDiff, Int.reduceLE, Int.reduceLT, Int.reduceNeg, Int.reduceEq, Int.reduceBEq, Int.reduceBNe, Nat.reduceMul, Nat.reduceAdd, Nat.reduceLeDiff, reduceCtorEq, Int.reduceToNat]
    exact Fin_val (by simp [resV, upd_at, retA, hf]) (by simp [resV, upd_at, ResOk])
theorem h38 (s : List Tb) (db : Db) (G : GDb s db) : HT 38 [tbs s, dbs db] [] (.b (tt (dbOk s db))) true [] := by
  refine holds_of (c := Tryz.f38.body.getD .skip) (k := k38.1) (ts := [4]) HOk mixedT hintT Tryz.func38 (by kernel_rfl) (by kernel_rfl) (by kernel_rfl) k38.2 (by kernel_rfl) (le_of 2 _ (by kernel_rfl)) ?_
  have d1 := h99 s G.g1 G.g2
  have d2 := h77 s db G
  unfold dbOk
  unfold tbs at d1
  unfold tbs dbs at d2
  unfold tbs dbs
  by_cases h0 : schOk s
  · rw [tt_t h0] at d1
    rw [tt_iff (show (schOk s ∧ dbP s db) ↔ dbP s db from ⟨fun q => q.2, fun q => ⟨h0, q⟩⟩)]
    simp -implicitDefEqProofs -dsimp only [k38, go_sem, ↓reduceIte, Nat.reduceEqDiff, Int.reduceLE, Int.reduceLT, Int.reduceNeg, Int.reduceEq, Int.reduceBEq, Int.reduceBNe, Nat.reduceMul, Nat.reduceAdd, Nat.reduceLeDiff, reduceCtorEq, Int.reduceToNat]
    refine Call_val (own := true) (d1) (by simp [ExpOk, AV.pure]) (.inl rfl) ?_
    simp -implicitDefEqProofs -dsimp only [go_sem, ↓reduceIte, Nat.reduceEqDiff, Int.reduceLE, Int.reduceLT, Int.reduceNeg, Int.reduceEq, Int.reduceBEq, Int.reduceBNe, Nat.reduceMul, Nat.reduceAdd, Nat.reduceLeDiff, reduceCtorEq, Int.reduceToNat]
    refine Call_val (own := true) (d2) (by simp [ExpOk, AV.pure]) (.inl rfl) ?_
    simp -implicitDefEqProofs -dsimp only [go_sem, ↓reduceIte, Nat.reduceEqDiff, Int.reduceLE, Int.reduceLT, Int.reduceNeg, Int.reduceEq, Int.reduceBEq, Int.reduceBNe, Nat.reduceMul, Nat.reduceAdd, Nat.reduceLeDiff, reduceCtorEq, Int.reduceToNat]
    exact Fin_val (by simp [resV, upd_at, retA]) (by simp [resV, upd_at, ResOk])
  · rw [tt_f h0] at d1
    rw [tt_f fun q : schOk s ∧ dbP s db => h0 q.1]
    simp -implicitDefEqProofs -dsimp only [k38, go_sem, ↓reduceIte, Nat.reduceEqDiff, Int.reduceLE, Int.reduceLT, Int.reduceNeg, Int.reduceEq, Int.reduceBEq, Int.reduceBNe, Nat.reduceMul, Nat.reduceAdd, Nat.reduceLeDiff, reduceCtorEq, Int.reduceToNat]
    refine Call_val (own := true) (d1) (by simp [ExpOk, AV.pure]) (.inl rfl) ?_
    simp -implicitDefEqProofs -dsimp only [go_sem, ↓reduceIte, Nat.reduceEqDiff, Int.reduceLE, Int.reduceLT, Int.reduceNeg, Int.reduceEq, Int.reduceBEq, Int.reduceBNe, Nat.reduceMul, Nat.reduceAdd, Nat.reduceLeDiff, reduceCtorEq, Int.reduceToNat]
    exact Fin_val (by simp [resV, upd_at, retA]) (by simp [resV, upd_at, ResOk])
end FrA
end
