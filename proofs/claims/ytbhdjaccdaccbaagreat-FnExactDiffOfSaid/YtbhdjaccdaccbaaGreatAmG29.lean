/- Databases: right ones, by the program. Walked. No condition. -/
import Derived.Test.YtbhdjaccdaccbaaGreatAmG19
import Derived.Test.YtbhdjaccdaccbaaGreatAmG28
import Derived.Test.YtbhdjaccdaccbaaGreatAmG25
import Derived.Test.YtbhdjaccdaccbaaGreatAmG26
set_option linter.all false
set_option linter.unusedSimpArgs false
set_option linter.unusedVariables false
set_option linter.deprecated false
/-! DbA -/
section
open Go Go.AM
namespace FrA
open Go.Proofs
set_option maxRecDepth 100000
set_option linter.unusedSimpArgs false
def ft1 (t : Tb) (l : List Vl) (i : Nat) : Prop := isOfP (l.getD i v0) (t.cols.getD i c0).kind
def fitP (t : Tb) (l : List Vl) : Prop := l.length = t.cols.length ∧ ∀ i, i < l.length → ft1 t l i
def ro1 (t : Tb) (l : List Rw) (i : Nat) : Prop := (1 ≤ (l.getD i r0).id ∧ (l.getD i r0).id ≤ 1000000000) ∧ (0 < i → (l.getD (i - 1) r0).id < (l.getD i r0).id) ∧ fitP t (l.getD i r0).vals
def rowsOk (t : Tb) (l : List Rw) : Prop := (∀ i, i < l.length → ro1 t l i) ∧ l.length ≤ 60
def dbP (s : List Tb) (db : Db) : Prop := db.length = s.length ∧ ∀ i, i < db.length → rowsOk (s.getD i t0) (db.getD i [])
def dbOk (s : List Tb) (db : Db) : Prop := schOk s ∧ dbP s db
theorem h82 (t : Tb) (l : List Vl) (hl : l.length ≤ 1048576) (hc : t.cols.length ≤ 1048576) : HT 82 [.agg (tbC t), vls l] [] (.b (tt (fitP t l))) true [] := by
  refine holds_of (c := Tryz.f82.body.getD .skip) (k := k82.1) (ts := [4]) HOk mixedT hintT Tryz.func82 (by kernel_rfl) (by kernel_rfl) (by kernel_rfl) k82.2 (by kernel_rfl) (le_of 2 _ (by kernel_rfl)) ?_
  generalize hP : fitP t l = P
  have hdef : P ↔ (l.length = t.cols.length ∧ ∀ i, i < l.length → ft1 t l i) := by rw [← hP]; exact Iff.rfl
  clear hP
  obtain ⟨nm, cs, ks, us, es, fs⟩ := t
  simp only at hdef hc
  simp only [tbC, cls, ils, uns, cks, fkk]
  unfold vls
  by_cases h1 : l.length = cs.length
  rotate_left
  · have e1 : ((l.length : Int) != (cs.length : Int)) = true := by simp; omega
    rw [tt_f fun q => h1 (hdef.1 q).1]
    simp -implicitDefEqProofs -dsimp only [k82, e1, go_sem, ↓reduceIte, Nat.reduceEqDiff, Int.reduceLE, Int.reduceLT, Int.reduceNeg, Int.reduceEq, Int.reduceBEq, Int.reduceBNe, Nat.reduceMul, Nat.reduceAdd, Nat.reduceLeDiff, reduceCtorEq, Int.reduceToNat]
    exact Fin_val (by simp [resV, upd_at, retA]) (by simp [resV, upd_at, ResOk])
  have e1 : ((l.length : Int) != (cs.length : Int)) = false := by simp; omega
  obtain ⟨B, hB⟩ : ∃ B : Ob, B = { ver := 1, es := [[.s nm, .dat 6 (cs.map clC), .dat 1 (ks.map inC), .dat 1 (us.map unC), .dat 1 (es.map ckC), .dat 5 (fs.map fkC)]], esz := 6, own := False, fixed := true } := ⟨_, rfl⟩
  simp -implicitDefEqProofs -dsimp only [k82, e1, go_sem, ↓reduceIte, Nat.reduceEqDiff, Int.reduceLE, Int.reduceLT, Int.reduceNeg, Int.reduceEq, Int.reduceBEq, Int.reduceBNe, Nat.reduceMul, Nat.reduceAdd, Nat.reduceLeDiff, reduceCtorEq, Int.reduceToNat]
  refine K_for l.length (fun i g h c => g 2 = .ptr (.l 2) 1 0 0 ∧ g 13 = .dat 3 (l.map vC) ∧ g 14 = i64 l.length ∧ g 15 = i64 i ∧ h (.l 2) = some B ∧ ∀ j, j < i → ft1 ⟨nm, cs, ks, us, es, fs⟩ l j) ?_ ?_ ?_
  · exact ⟨by simp [upd_at], by simp [upd_at, S_1], by simp [upd_at], by simp [upd_at], by simp [hup_at, hB], fun j hj => absurd hj (by omega)⟩
  · rintro i A hi hA g h c ⟨q2, q13, q14, q15, hh, hb⟩
    have hc : (i : Int) < (l.length : Int) := by omega
    have w2 : IntKind.i64.wrap ((i : Int) + 1) = ((i + 1 : Nat) : Int) := wnat1 (by omega)
    have hg := mget v0 hi
    have hg2 := mget c0 (show i < cs.length by omega)
    have hbad : ¬ ft1 ⟨nm, cs, ks, us, es, fs⟩ l i → tt P = false := fun q => tt_f fun r => q ((hdef.1 r).2 i hi)
    have hst := upto_step (P := ft1 ⟨nm, cs, ks, us, es, fs⟩ l) hb
    unfold ft1 at hbad hst
    simp only at hbad hst
    generalize l.getD i v0 = v at hg hbad hst
    generalize cs.getD i c0 = cc at hg2 hbad hst
    obtain ⟨cn, k, b, a1, a2, a3⟩ := cc
    have d1 := h136 v k
    obtain ⟨x1, x2, x3⟩ := v
    simp only [vC] at d1
    simp only at hbad hst
    have hh' := hh
    rw [hB] at hh'
    simp -implicitDefEqProofs -dsimp only [q2, q13, q14, q15, hh', hc, hg, hg2, vC, clC, Nat.reduceLT, go_sem, ↓reduceIte, Nat.reduceEqDiff, Int.reduceLE, Int.reduceLT, Int.reduceNeg, Int.reduceEq, Int.reduceBEq, Int.reduceBNe, Nat.reduceMul, Nat.reduceAdd, Nat.reduceLeDiff, reduceCtorEq, Int.reduceToNat]
    refine Call0_val true (d1) (by simp [AV.free, AV.pure]) (.inl rfl) ?_
    by_cases e : isOfP (x1, x2, x3) k
    · rw [tt_t e]
      simp -implicitDefEqProofs -dsimp only [q15, w2, go_sem, ↓reduceIte, Nat.reduceEqDiff, Int.reduceLE, Int.reduceLT, Int.reduceNeg, Int.reduceEq, Int.reduceBEq, Int.reduceBNe, Nat.reduceMul, Nat.reduceAdd, Nat.reduceLeDiff, reduceCtorEq, Int.reduceToNat]
      exact hA _ _ _ ⟨by simp [upd_at, q2], by simp [upd_at, q13], by simp [upd_at, q14], by simp [upd_at], by simp [hup_at, hh], hst e⟩
    · rw [tt_f e]
      have hf := hbad e
      simp -implicitDefEqProofs -dsimp only [go_sem, ↓reduceIte, Nat.reduceEqDiff, Int.reduceLE, Int.reduceLT, Int.reduceNeg, Int.reduceEq, Int.reduceBEq, Int.reduceBNe, Nat.reduceMul, Nat.reduceAdd, Nat.reduceLeDiff, reduceCtorEq, Int.reduceToNat]
      exact Fin_val (by simp [resV, upd_at, retA, hf]) (by simp [resV, upd_at, ResOk])
  · rintro A g h c ⟨q2, q13, q14, q15, hh, hb⟩
    have hc : ¬ (l.length : Int) < (l.length : Int) := by omega
    have hf : tt P = true := tt_t (hdef.2 ⟨h1, hb⟩)
    simp -implicitDefEqProofs -dsimp only [q2, q13, q14, q15, hc, go_sem, ↓reduceIte, Nat.reduceEqDiff, Int.reduceLE, Int.reduceLT, Int.reduceNeg, Int.reduceEq, Int.reduceBEq, Int.reduceBNe, Nat.reduceMul, Nat.reduceAdd, Nat.reduceLeDiff, reduceCtorEq, Int.reduceToNat]
    exact Fin_val (by simp [resV, upd_at, retA, hf]) (by simp [resV, upd_at, ResOk])
theorem h92 (t : Tb) (l : List Rw) (hl : l.length ≤ 1048576) (hv : ∀ r ∈ l, r.vals.length ≤ 1048576) (hc : t.cols.length ≤ 1048576) : HT 92 [.agg (tbC t), rws l] [] (.b (tt (rowsOk t l))) true [] := by
  refine holds_of (c := Tryz.f92.body.getD .skip) (k := k92.1) (ts := [4]) HOk mixedT hintT Tryz.func92 (by kernel_rfl) (by kernel_rfl) (by kernel_rfl) k92.2 (by kernel_rfl) (le_of 2 _ (by kernel_rfl)) ?_
  generalize hP : rowsOk t l = P
  have hdef : P ↔ (∀ i, i < l.length → ro1 t l i) ∧ l.length ≤ 60 := by rw [← hP]; exact Iff.rfl
  clear hP
  have d3 := fun (r : Rw) (hr : r.vals.length ≤ 1048576) => h82 t r.vals hr hc
  obtain ⟨B, hB⟩ : ∃ B : Ob, B = { ver := 1, es := [tbC t], esz := 6, own := False, fixed := true } := ⟨_, rfl⟩
  have hbadA : ∀ i, i < l.length → ¬ ro1 t l i → tt P = false := fun i hi q => tt_f fun r => q ((hdef.1 r).1 i hi)
  unfold ro1 at hbadA
  generalize hF : (fun l => fitP t l) = F at *
  have hF2 : ∀ l, fitP t l = F l := fun l => by rw [← hF]
  simp only [hF2] at d3 hbadA
  have hdef2 : (∀ i, i < l.length → ro1 t l i) → l.length ≤ 60 → P := fun a b => hdef.2 ⟨a, b⟩
  have hro : ∀ i, ro1 t l i = ((1 ≤ (l.getD i r0).id ∧ (l.getD i r0).id ≤ 1000000000) ∧ (0 < i → (l.getD (i - 1) r0).id < (l.getD i r0).id) ∧ F (l.getD i r0).vals) := fun i => by rw [← hF2]; rfl
  obtain ⟨nm, cs, ks, us, es, fs⟩ := t
  simp only [tbC, cls, ils, uns, cks, fkk] at d3 hB ⊢
  unfold rws
  simp -implicitDefEqProofs -dsimp only [k92, go_sem, ↓reduceIte, Nat.reduceEqDiff, Int.reduceLE, Int.reduceLT, Int.reduceNeg, Int.reduceEq, Int.reduceBEq, Int.reduceBNe, Nat.reduceMul, Nat.reduceAdd, Nat.reduceLeDiff, reduceCtorEq, Int.reduceToNat]
  refine K_for l.length (fun i g h c => g 1 = .dat 2 (l.map rwC) ∧ g 2 = .ptr (.l 2) 1 0 0 ∧ g 7 = .dat 2 (l.map rwC) ∧ g 8 = i64 l.length ∧ g 9 = i64 i ∧ h (.l 2) = some B ∧ ∀ j, j < i → ro1 ⟨nm, cs, ks, us, es, fs⟩ l j) ?_ ?_ ?_
  · exact ⟨by simp [upd_at, S_1], by simp [upd_at], by simp [upd_at, S_1], by simp [upd_at], by simp [upd_at], by simp [hup_at, hB], fun j hj => absurd hj (by omega)⟩
  · rintro i A hi hA g h c ⟨q1, q2, q7, q8, q9, hh, hb⟩
    have hc : (i : Int) < (l.length : Int) := by omega
    have w2 : IntKind.i64.wrap ((i : Int) + 1) = ((i + 1 : Nat) : Int) := wnat1 (by omega)
    have hg := mget r0 hi
    have hm := hv _ (mmem r0 hi)
    have hbad := hbadA i hi
    have hst := upto_step (P := ro1 ⟨nm, cs, ks, us, es, fs⟩ l) hb
    rw [hro i] at hst
    generalize l.getD i r0 = r at hg hm hbad hst
    have d1 := h81 r.id 1 1000000000
    have d2 := d3 r hm
    obtain ⟨id, vs⟩ := r
    unfold vls at d2
    simp only at d1 d2 hbad hst
    have hh' := hh
    rw [hB] at hh'
    simp -implicitDefEqProofs -dsimp only [q1, q2, q7, q8, q9, hh', hc, hg, rwC, vls, Nat.reduceLT, go_sem, ↓reduceIte, Nat.reduceEqDiff, Int.reduceLE, Int.reduceLT, Int.reduceNeg, Int.reduceEq, Int.reduceBEq, Int.reduceBNe, Nat.reduceMul, Nat.reduceAdd, Nat.reduceLeDiff, reduceCtorEq, Int.reduceToNat]
    refine Call0_val true (d1) (by simp [AV.free, AV.pure]) (.inl rfl) ?_
    by_cases e1 : 1 ≤ id ∧ id ≤ 1000000000
    rotate_left
    · simp -implicitDefEqProofs -dsimp only [e1, go_sem, ↓reduceIte, Nat.reduceEqDiff, Int.reduceLE, Int.reduceLT, Int.reduceNeg, Int.reduceEq, Int.reduceBEq, Int.reduceBNe, Nat.reduceMul, Nat.reduceAdd, Nat.reduceLeDiff, reduceCtorEq, Int.reduceToNat]
      have hf := hbad fun q => e1 q.1
      exact Fin_val (by simp [resV, upd_at, retA, hf]) (by simp [resV, upd_at, ResOk])
    by_cases e2 : i = 0
    · subst e2
      have hi0 : ¬ ((0 : Nat) : Int) > 0 := by omega
      simp -implicitDefEqProofs -dsimp only [e1, q1, q2, q7, q8, q9, hh', hi0, go_sem, ↓reduceIte, Nat.reduceEqDiff, Int.reduceLE, Int.reduceLT, Int.reduceNeg, Int.reduceEq, Int.reduceBEq, Int.reduceBNe, Nat.reduceMul, Nat.reduceAdd, Nat.reduceLeDiff, reduceCtorEq, Int.reduceToNat]
      refine Call0_val true (d2) (by simp [AV.free, AV.pure]) (.inl rfl) ?_
      by_cases e4 : F vs
      · rw [tt_t e4]
        simp -implicitDefEqProofs -dsimp only [q9, w2, go_sem, ↓reduceIte, Nat.reduceEqDiff, Int.reduceLE, Int.reduceLT, Int.reduceNeg, Int.reduceEq, Int.reduceBEq, Int.reduceBNe, Nat.reduceMul, Nat.reduceAdd, Nat.reduceLeDiff, reduceCtorEq, Int.reduceToNat]
        exact hA _ _ _ ⟨by simp [upd_at, q1], by simp [upd_at, q2], by simp [upd_at, q7], by simp [upd_at, q8], by simp [upd_at], by simp [hup_at, hh], hst ⟨e1, fun q => absurd q (by omega), e4⟩⟩
      · rw [tt_f e4]
        simp -implicitDefEqProofs -dsimp only [go_sem, ↓reduceIte, Nat.reduceEqDiff, Int.reduceLE, Int.reduceLT, Int.reduceNeg, Int.reduceEq, Int.reduceBEq, Int.reduceBNe, Nat.reduceMul, Nat.reduceAdd, Nat.reduceLeDiff, reduceCtorEq, Int.reduceToNat]
        have hf := hbad fun q => e4 q.2.2
        exact Fin_val (by simp [resV, upd_at, retA, hf]) (by simp [resV, upd_at, ResOk])
    · have hi0 : (i : Int) > 0 := by omega
      have wm : IntKind.i64.wrap ((i : Int) - 1) = ((i - 1 : Nat) : Int) := by rw [wr (by omega) (by omega)]; omega
      have hg2 := mget r0 (show i - 1 < l.length by omega)
      generalize l.getD (i - 1) r0 = p at hg2 hbad hst
      obtain ⟨pid, pv⟩ := p
      simp only at hbad hst
      by_cases e3 : pid ≥ id
      · simp -implicitDefEqProofs -dsimp only [e1, q1, q2, q7, q8, q9, hh', hi0, wm, hg2, rwC, vls, Nat.reduceLT, e3, go_sem, ↓reduceIte, Nat.reduceEqDiff, Int.reduceLE, Int.reduceLT, Int.reduceNeg, Int.reduceEq, Int.reduceBEq, Int.reduceBNe, Nat.reduceMul, Nat.reduceAdd, Nat.reduceLeDiff, reduceCtorEq, Int.reduceToNat]
        have hf := hbad fun q => by have := q.2.1 (by omega); omega
        exact Fin_val (by simp [resV, upd_at, retA, hf]) (by simp [resV, upd_at, ResOk])
      · simp -implicitDefEqProofs -dsimp only [e1, q1, q2, q7, q8, q9, hh', hi0, wm, hg2, rwC, vls, Nat.reduceLT, e3, go_sem, ↓reduceIte, Nat.reduceEqDiff, Int.reduceLE, Int.reduceLT, Int.reduceNeg, Int.reduceEq, Int.reduceBEq, Int.reduceBNe, Nat.reduceMul, Nat.reduceAdd, Nat.reduceLeDiff, reduceCtorEq, Int.reduceToNat]
        refine Call0_val true (d2) (by simp [AV.free, AV.pure]) (.inl rfl) ?_
        by_cases e4 : F vs
        · rw [tt_t e4]
          simp -implicitDefEqProofs -dsimp only [q9, w2, go_sem, ↓reduceIte, Nat.reduceEqDiff, Int.reduceLE, Int.reduceLT, Int.reduceNeg, Int.reduceEq, Int.reduceBEq, Int.reduceBNe, Nat.reduceMul, Nat.reduceAdd, Nat.reduceLeDiff, reduceCtorEq, Int.reduceToNat]
          exact hA _ _ _ ⟨by simp [upd_at, q1], by simp [upd_at, q2], by simp [upd_at, q7], by simp [upd_at, q8], by simp [upd_at], by simp [hup_at, hh], hst ⟨e1, fun q => by omega, e4⟩⟩
        · rw [tt_f e4]
          simp -implicitDefEqProofs -dsimp only [go_sem, ↓reduceIte, Nat.reduceEqDiff, Int.reduceLE, Int.reduceLT, Int.reduceNeg, Int.reduceEq, Int.reduceBEq, Int.reduceBNe, Nat.reduceMul, Nat.reduceAdd, Nat.reduceLeDiff, reduceCtorEq, Int.reduceToNat]
          have hf := hbad fun q => e4 q.2.2
          exact Fin_val (by simp [resV, upd_at, retA, hf]) (by simp [resV, upd_at, ResOk])
  · rintro A g h c ⟨q1, q2, q7, q8, q9, hh, hb⟩
    have hc : ¬ (l.length : Int) < (l.length : Int) := by omega
    have e : decide ((l.length : Int) ≤ 60) = tt P := by
      by_cases h5 : l.length ≤ 60
      · rw [tt_t (hdef2 hb h5), decide_eq_true (by omega)]
      · rw [tt_f fun q => h5 (hdef.1 q).2, decide_eq_false (by omega)]
    simp -implicitDefEqProofs -dsimp only [q1, q2, q7, q8, q9, hc, e, go_sem, ↓reduceIte, Nat.reduceEqDiff, Int.reduceLE, Int.reduceLT, Int.reduceNeg, Int.reduceEq, Int.reduceBEq, Int.reduceBNe, Nat.reduceMul, Nat.reduceAdd, Nat.reduceLeDiff, reduceCtorEq, Int.reduceToNat]
    exact Fin_val (by simp [resV, upd_at, retA]) (by simp [resV, upd_at, ResOk])
/-- How great a database may be. -/
structure GDb (s : List Tb) (db : Db) : Prop where
  g1 : ∀ t ∈ s, GTb t
  g2 : s.length ≤ 1048576
  g3 : BDb db
theorem h35 (s : List Tb) (db : Db) (G : GDb s db) : HT 35 [tbs s, dbs db] [] (.b (tt (dbOk s db))) true [] := by
  refine holds_of (c := Tryz.f35.body.getD .skip) (k := k35.1) (ts := [4]) HOk mixedT hintT Tryz.func35 (by kernel_rfl) (by kernel_rfl) (by kernel_rfl) k35.2 (by kernel_rfl) (le_of 2 _ (by kernel_rfl)) ?_
  generalize hP : dbOk s db = P
  have hdef : P ↔ schOk s ∧ db.length = s.length ∧ ∀ i, i < db.length → rowsOk (s.getD i t0) (db.getD i []) := by rw [← hP]; exact Iff.rfl
  clear hP
  have d0 := h91 s G.g1 G.g2
  have hdl := G.g3.1
  unfold tbs at d0 ⊢
  unfold dbs
  simp -implicitDefEqProofs -dsimp only [k35, go_sem, ↓reduceIte, Nat.reduceEqDiff, Int.reduceLE, Int.reduceLT, Int.reduceNeg, Int.reduceEq, Int.reduceBEq, Int.reduceBNe, Nat.reduceMul, Nat.reduceAdd, Nat.reduceLeDiff, reduceCtorEq, Int.reduceToNat]
  refine Call_val (own := true) (d0) (by simp [ExpOk, AV.pure]) (.inl rfl) ?_
  by_cases h0 : schOk s
  rotate_left
  · rw [tt_f h0]
    have hf : tt P = false := tt_f fun q => h0 (hdef.1 q).1
    simp -implicitDefEqProofs -dsimp only [go_sem, ↓reduceIte, Nat.reduceEqDiff, Int.reduceLE, Int.reduceLT, Int.reduceNeg, Int.reduceEq, Int.reduceBEq, Int.reduceBNe, Nat.reduceMul, Nat.reduceAdd, Nat.reduceLeDiff, reduceCtorEq, Int.reduceToNat]
    exact Fin_val (by simp [resV, upd_at, retA, hf]) (by simp [resV, upd_at, ResOk])
  rw [tt_t h0]
  by_cases h1 : db.length = s.length
  rotate_left
  · have e1 : ((db.length : Int) != (s.length : Int)) = true := by simp; omega
    have hf : tt P = false := tt_f fun q => h1 (hdef.1 q).2.1
    simp -implicitDefEqProofs -dsimp only [e1, go_sem, ↓reduceIte, Nat.reduceEqDiff, Int.reduceLE, Int.reduceLT, Int.reduceNeg, Int.reduceEq, Int.reduceBEq, Int.reduceBNe, Nat.reduceMul, Nat.reduceAdd, Nat.reduceLeDiff, reduceCtorEq, Int.reduceToNat]
    exact Fin_val (by simp [resV, upd_at, retA, hf]) (by simp [resV, upd_at, ResOk])
  have e1 : ((db.length : Int) != (s.length : Int)) = false := by simp; omega
  simp -implicitDefEqProofs -dsimp only [e1, go_sem, ↓reduceIte, Nat.reduceEqDiff, Int.reduceLE, Int.reduceLT, Int.reduceNeg, Int.reduceEq, Int.reduceBEq, Int.reduceBNe, Nat.reduceMul, Nat.reduceAdd, Nat.reduceLeDiff, reduceCtorEq, Int.reduceToNat]
  refine K_for db.length (fun i g h c => g 0 = .dat 6 (s.map tbC) ∧ g 17 = .dat 1 (db.map dtC) ∧ g 18 = i64 db.length ∧ g 19 = i64 i ∧ ∀ j, j < i → rowsOk (s.getD j t0) (db.getD j [])) ?_ ?_ ?_
  · exact ⟨by simp [upd_at, S_0], by simp [upd_at, S_1], by simp [upd_at], by simp [upd_at], fun j hj => absurd hj (by omega)⟩
  · rintro i A hi hA g h c ⟨q0, q17, q18, q19, hb⟩
    have hc : (i : Int) < (db.length : Int) := by omega
    have w2 : IntKind.i64.wrap ((i : Int) + 1) = ((i + 1 : Nat) : Int) := wnat1 (by omega)
    have hg := mget ([] : Dt) hi
    have hg2 := mget t0 (show i < s.length by omega)
    have hm := G.g3.2 _ (mmem [] hi)
    have hm2 := G.g1 _ (mmem t0 (show i < s.length by omega))
    have hbad : ¬ rowsOk (s.getD i t0) (db.getD i []) → tt P = false := fun q => tt_f fun r => q ((hdef.1 r).2.2 i hi)
    have hst := upto_step (P := fun j => rowsOk (s.getD j t0) (db.getD j [])) hb
    generalize db.getD i [] = rs at hg hm hbad hst
    generalize s.getD i t0 = u at hg2 hm2 hbad hst
    have d1 := h92 u rs hm.1 hm.2 hm2.b1
    generalize rowsOk u rs = R at d1 hbad hst
    obtain ⟨nm, cs, ks, us, es, fs⟩ := u
    simp only [tbC, cls, ils, uns, cks, fkk] at d1
    unfold rws at d1
    simp -implicitDefEqProofs -dsimp only [q0, q17, q18, q19, hc, hg, hg2, tbC, dtC, cls, ils, uns, cks, fkk, rws, Nat.reduceLT, go_sem, ↓reduceIte, Nat.reduceEqDiff, Int.reduceLE, Int.reduceLT, Int.reduceNeg, Int.reduceEq, Int.reduceBEq, Int.reduceBNe, Nat.reduceMul, Nat.reduceAdd, Nat.reduceLeDiff, reduceCtorEq, Int.reduceToNat]
    refine Call0_val true (d1) (by simp [AV.free, AV.pure]) (.inl rfl) ?_
    by_cases e : R
    · rw [tt_t e]
      simp -implicitDefEqProofs -dsimp only [q19, w2, go_sem, ↓reduceIte, Nat.reduceEqDiff, Int.reduceLE, Int.reduceLT, Int.reduceNeg, Int.reduceEq, Int.reduceBEq, Int.reduceBNe, Nat.reduceMul, Nat.reduceAdd, Nat.reduceLeDiff, reduceCtorEq, Int.reduceToNat]
      exact hA _ _ _ ⟨by simp [upd_at, q0], by simp [upd_at, q17], by simp [upd_at, q18], by simp [upd_at], hst e⟩
    · rw [tt_f e]
      have hf := hbad e
      simp -implicitDefEqProofs -dsimp only [go_sem, ↓reduceIte, Nat.reduceEqDiff, Int.reduceLE, Int.reduceLT, Int.reduceNeg, Int.reduceEq, Int.reduceBEq, Int.reduceBNe, Nat.reduceMul, Nat.reduceAdd, Nat.reduceLeDiff, reduceCtorEq, Int.reduceToNat]
      exact Fin_val (by simp [resV, upd_at, retA, hf]) (by simp [resV, upd_at, ResOk])
  · rintro A g h c ⟨q0, q17, q18, q19, hb⟩
    have hc : ¬ (db.length : Int) < (db.length : Int) := by omega
    have hf : tt P = true := tt_t (hdef.2 ⟨h0, h1, hb⟩)
    simp -implicitDefEqProofs -dsimp only [q0, q17, q18, q19, hc, go_sem, ↓reduceIte, Nat.reduceEqDiff, Int.reduceLE, Int.reduceLT, Int.reduceNeg, Int.reduceEq, Int.reduceBEq, Int.reduceBNe, Nat.reduceMul, Nat.reduceAdd, Nat.reduceLeDiff, reduceCtorEq, Int.reduceToNat]
    exact Fin_val (by simp [resV, upd_at, retA, hf]) (by simp [resV, upd_at, ResOk])
end FrA
end
/-! DfP -/
section
open Go Go.AM
namespace FrA
/-- Numbers, and those of other rows that are not among them. -/
def addNew (ids : List Int) (b : Dt) : List Int := b.foldl (fun o r => if r.id ∈ o then o else o ++ [r.id]) ids
def diff1 (i : Int) (a b : Dt) (y : Int) : List Ch := if valsP a y = valsP b y then [] else [⟨i, y, valsP a y, valsP b y⟩]
/-- The changes of one table. -/
def diffT (i : Int) (a b : Dt) : List Ch := (isort (addNew (a.map Rw.id) b)).flatMap (diff1 i a b)
/-- The changes of the first n tables. -/
def diffN (A B : Db) : Nat → List Ch
  | 0 => []
  | n + 1 => diffN A B n ++ diffT n (A.getD n []) (B.getD n [])
theorem addNew_step {ids : List Int} {b : Dt} {i : Nat} (h : i < b.length) : addNew ids (b.take (i + 1)) = if (b.getD i r0).id ∈ addNew ids (b.take i) then addNew ids (b.take i) else addNew ids (b.take i) ++ [(b.getD i r0).id] := by
  rw [mtake r0 h]; simp [addNew]
end FrA
end
/-! PrD -/
section
open Go Go.AM
namespace FrA
open Go.Proofs
set_option maxRecDepth 100000
set_option linter.unusedSimpArgs false
theorem if_yes {p : Prop} {a b : Int} (h : p) : (@ite Int p (Classical.propDecidable p) a b) = a := by rw [if_pos h]
theorem if_no {p : Prop} {a b : Int} (h : ¬ p) : (@ite Int p (Classical.propDecidable p) a b) = b := by rw [if_neg h]
/-- How many a token takes; -1: it is not right. -/
noncomputable def tk2 (t : Tk) (n : Int) : Int := @ite Int (tkOk t n) (Classical.propDecidable _) (tkTakes t) (-1)
theorem tk2_yes {t : Tk} {n : Int} (h : tkOk t n) : tk2 t n = tkTakes t := if_yes h
theorem tk2_no {t : Tk} {n : Int} (h : ¬ tkOk t n) : tk2 t n = -1 := if_no h
theorem h230 (t : Tk) (n : Nat) (hn : n ≤ 9000000000000000) : HT 230 [.agg (tkC t), i64 n] [] (i64 (tk2 t n)) true [] := by
  refine holds_of (c := Tryz.f230.body.getD .skip) (k := k230.1) (ts := [4]) HOk mixedT hintT Tryz.func230 (by kernel_rfl) (by kernel_rfl) (by kernel_rfl) k230.2 (by kernel_rfl) (le_of 2 _ (by kernel_rfl)) ?_
  have wn : IntKind.i64.wrap ((n : Int) - 1) = (n : Int) - 1 := IntWalk.i64_in _ ⟨by omega, by omega⟩
  obtain ⟨k, c, a, b, s⟩ := t
  have dv := h186 (a, b, s)
  simp only [vC] at dv
  have d1 := h132 c 0 ((n : Int) - 1)
  have ev := eqv0 a b s
  rw [Bool.and_true] at ev
  simp only [tkC]
  have en1 : ∀ m : Int, (m != m) = false := fun m => by simp
  by_cases h1 : k = 1
  · subst h1
    have e : tkOk ⟨1, c, a, b, s⟩ n ↔ (0 ≤ c ∧ c ≤ (n : Int) - 1) ∧ (a, b, s) = v0 := by simp [tkOk]
    by_cases hv : (a, b, s) = v0
    · rw [tt_t hv] at ev
      by_cases h2 : 0 ≤ c ∧ c ≤ (n : Int) - 1
      · rw [tk2_yes (e.2 ⟨h2, hv⟩), show tkTakes ⟨1, c, a, b, s⟩ = 0 by simp [tkTakes]]
        simp -implicitDefEqProofs -dsimp only [k230, wn, ev, N_tt, go_sem, ↓reduceIte, Nat.reduceEqDiff, Int.reduceLE, Int.reduceLT, Int.reduceNeg, Int.reduceEq, Int.reduceBEq, Int.reduceBNe, Nat.reduceMul, Nat.reduceAdd, Nat.reduceLeDiff, reduceCtorEq, Int.reduceToNat]
        refine Call_val (own := true) (d1) (by simp [ExpOk, AV.pure]) (.inl rfl) ?_
        simp -implicitDefEqProofs -dsimp only [h2, go_sem, ↓reduceIte, Nat.reduceEqDiff, Int.reduceLE, Int.reduceLT, Int.reduceNeg, Int.reduceEq, Int.reduceBEq, Int.reduceBNe, Nat.reduceMul, Nat.reduceAdd, Nat.reduceLeDiff, reduceCtorEq, Int.reduceToNat]
        exact Fin_val (by simp [resV, upd_at, retA]) (by simp [resV, upd_at, ResOk])
      · rw [tk2_no fun q => h2 (e.1 q).1]
        simp -implicitDefEqProofs -dsimp only [k230, wn, ev, N_tt, go_sem, ↓reduceIte, Nat.reduceEqDiff, Int.reduceLE, Int.reduceLT, Int.reduceNeg, Int.reduceEq, Int.reduceBEq, Int.reduceBNe, Nat.reduceMul, Nat.reduceAdd, Nat.reduceLeDiff, reduceCtorEq, Int.reduceToNat]
        refine Call_val (own := true) (d1) (by simp [ExpOk, AV.pure]) (.inl rfl) ?_
        simp -implicitDefEqProofs -dsimp only [h2, go_sem, ↓reduceIte, Nat.reduceEqDiff, Int.reduceLE, Int.reduceLT, Int.reduceNeg, Int.reduceEq, Int.reduceBEq, Int.reduceBNe, Nat.reduceMul, Nat.reduceAdd, Nat.reduceLeDiff, reduceCtorEq, Int.reduceToNat]
        exact Fin_val (by simp [resV, upd_at, retA]) (by simp [resV, upd_at, ResOk])
    · rw [tt_f hv] at ev
      rw [tk2_no fun q => hv (e.1 q).2]
      simp -implicitDefEqProofs -dsimp only [k230, wn, ev, N_ft, go_sem, ↓reduceIte, Nat.reduceEqDiff, Int.reduceLE, Int.reduceLT, Int.reduceNeg, Int.reduceEq, Int.reduceBEq, Int.reduceBNe, Nat.reduceMul, Nat.reduceAdd, Nat.reduceLeDiff, reduceCtorEq, Int.reduceToNat]
      exact Fin_val (by simp [resV, upd_at, retA]) (by simp [resV, upd_at, ResOk])
  · by_cases h2 : k = 2
    · subst h2
      have e : tkOk ⟨2, c, a, b, s⟩ n ↔ c = 0 ∧ vOk (a, b, s) := by simp [tkOk]
      by_cases h3 : c = 0
      · subst h3
        by_cases h4 : vOk (a, b, s)
        · rw [tk2_yes (e.2 ⟨rfl, h4⟩), show tkTakes ⟨2, 0, a, b, s⟩ = 0 by simp [tkTakes]]
          simp -implicitDefEqProofs -dsimp only [k230, wn, go_sem, ↓reduceIte, Nat.reduceEqDiff, Int.reduceLE, Int.reduceLT, Int.reduceNeg, Int.reduceEq, Int.reduceBEq, Int.reduceBNe, Nat.reduceMul, Nat.reduceAdd, Nat.reduceLeDiff, reduceCtorEq, Int.reduceToNat]
          refine Call_val (own := true) (dv) (by simp [ExpOk, AV.pure]) (.inl rfl) ?_
          simp -implicitDefEqProofs -dsimp only [h4, go_sem, ↓reduceIte, Nat.reduceEqDiff, Int.reduceLE, Int.reduceLT, Int.reduceNeg, Int.reduceEq, Int.reduceBEq, Int.reduceBNe, Nat.reduceMul, Nat.reduceAdd, Nat.reduceLeDiff, reduceCtorEq, Int.reduceToNat]
          exact Fin_val (by simp [resV, upd_at, retA]) (by simp [resV, upd_at, ResOk])
        · rw [tk2_no fun q => h4 (e.1 q).2]
          simp -implicitDefEqProofs -dsimp only [k230, wn, go_sem, ↓reduceIte, Nat.reduceEqDiff, Int.reduceLE, Int.reduceLT, Int.reduceNeg, Int.reduceEq, Int.reduceBEq, Int.reduceBNe, Nat.reduceMul, Nat.reduceAdd, Nat.reduceLeDiff, reduceCtorEq, Int.reduceToNat]
          refine Call_val (own := true) (dv) (by simp [ExpOk, AV.pure]) (.inl rfl) ?_
          simp -implicitDefEqProofs -dsimp only [h4, go_sem, ↓reduceIte, Nat.reduceEqDiff, Int.reduceLE, Int.reduceLT, Int.reduceNeg, Int.reduceEq, Int.reduceBEq, Int.reduceBNe, Nat.reduceMul, Nat.reduceAdd, Nat.reduceLeDiff, reduceCtorEq, Int.reduceToNat]
          exact Fin_val (by simp [resV, upd_at, retA]) (by simp [resV, upd_at, ResOk])
      · rw [tk2_no fun q => h3 (e.1 q).1]
        simp -implicitDefEqProofs -dsimp only [k230, knn h3, go_sem, ↓reduceIte, Nat.reduceEqDiff, Int.reduceLE, Int.reduceLT, Int.reduceNeg, Int.reduceEq, Int.reduceBEq, Int.reduceBNe, Nat.reduceMul, Nat.reduceAdd, Nat.reduceLeDiff, reduceCtorEq, Int.reduceToNat]
        exact Fin_val (by simp [resV, upd_at, retA]) (by simp [resV, upd_at, ResOk])
    · have e : tkOk ⟨k, c, a, b, s⟩ n ↔ (3 ≤ k ∧ k ≤ 10) ∧ c = 0 ∧ (a, b, s) = v0 := by simp [tkOk, h1, h2]
      by_cases h3 : c = 0
      · subst h3
        by_cases hv : (a, b, s) = v0
        · rw [tt_t hv] at ev
          by_cases h7 : k = 7
          · subst h7
            rw [tk2_yes (e.2 ⟨by omega, rfl, hv⟩), show tkTakes ⟨7, 0, a, b, s⟩ = 1 by simp [tkTakes]]
            simp -implicitDefEqProofs -dsimp only [k230, ev, N_tt, go_sem, ↓reduceIte, Nat.reduceEqDiff, Int.reduceLE, Int.reduceLT, Int.reduceNeg, Int.reduceEq, Int.reduceBEq, Int.reduceBNe, Nat.reduceMul, Nat.reduceAdd, Nat.reduceLeDiff, reduceCtorEq, Int.reduceToNat]
            exact Fin_val (by simp [resV, upd_at, retA]) (by simp [resV, upd_at, ResOk])
          · by_cases h8 : k = 8
            · subst h8
              rw [tk2_yes (e.2 ⟨by omega, rfl, hv⟩), show tkTakes ⟨8, 0, a, b, s⟩ = 1 by simp [tkTakes]]
              simp -implicitDefEqProofs -dsimp only [k230, ev, N_tt, go_sem, ↓reduceIte, Nat.reduceEqDiff, Int.reduceLE, Int.reduceLT, Int.reduceNeg, Int.reduceEq, Int.reduceBEq, Int.reduceBNe, Nat.reduceMul, Nat.reduceAdd, Nat.reduceLeDiff, reduceCtorEq, Int.reduceToNat]
              exact Fin_val (by simp [resV, upd_at, retA]) (by simp [resV, upd_at, ResOk])
            · have et : tkTakes ⟨k, 0, a, b, s⟩ = 2 := by simp [tkTakes, h1, h2, h7, h8]
              by_cases hk : 3 ≤ k ∧ k ≤ 10
              · rw [tk2_yes (e.2 ⟨hk, rfl, hv⟩), et]
                have hk2 : k = 3 ∨ k = 4 ∨ k = 5 ∨ k = 6 ∨ k = 9 ∨ k = 10 := by omega
                rcases hk2 with rfl | rfl | rfl | rfl | rfl | rfl <;> simp -implicitDefEqProofs -dsimp only [k230, ev, N_tt, go_sem, ↓reduceIte, Nat.reduceEqDiff, Int.reduceLE, Int.reduceLT, Int.reduceNeg, Int.reduceEq, Int.reduceBEq, Int.reduceBNe, Nat.reduceMul, Nat.reduceAdd, Nat.reduceLeDiff, reduceCtorEq, Int.reduceToNat] <;> exact Fin_val (by simp [resV, upd_at, retA]) (by simp [resV, upd_at, ResOk])
              · rw [tk2_no fun q => hk (e.1 q).1]
                simp -implicitDefEqProofs -dsimp only [k230, ev, N_tt, kne h1, kne h2, knn h1, knn h2, kne h7, kne h8, kne (show ¬ k = 3 by omega), kne (show ¬ k = 4 by omega), kne (show ¬ k = 5 by omega), kne (show ¬ k = 6 by omega), kne (show ¬ k = 9 by omega), kne (show ¬ k = 10 by omega), go_sem, ↓reduceIte, Nat.reduceEqDiff, Int.reduceLE, Int.reduceLT, Int.reduceNeg, Int.reduceEq, Int.reduceBEq, Int.reduceBNe, Nat.reduceMul, Nat.reduceAdd, Nat.reduceLeDiff, reduceCtorEq, Int.reduceToNat]
                exact Fin_val (by simp [resV, upd_at, retA]) (by simp [resV, upd_at, ResOk])
        · rw [tt_f hv] at ev
          rw [tk2_no fun q => hv (e.1 q).2.2]
          simp -implicitDefEqProofs -dsimp only [k230, ev, N_ft, knn h1, knn h2, go_sem, ↓reduceIte, Nat.reduceEqDiff, Int.reduceLE, Int.reduceLT, Int.reduceNeg, Int.reduceEq, Int.reduceBEq, Int.reduceBNe, Nat.reduceMul, Nat.reduceAdd, Nat.reduceLeDiff, reduceCtorEq, Int.reduceToNat]
          exact Fin_val (by simp [resV, upd_at, retA]) (by simp [resV, upd_at, ResOk])
      · rw [tk2_no fun q => h3 (e.1 q).2.1]
        simp -implicitDefEqProofs -dsimp only [k230, knn h1, knn h3, go_sem, ↓reduceIte, Nat.reduceEqDiff, Int.reduceLE, Int.reduceLT, Int.reduceNeg, Int.reduceEq, Int.reduceBEq, Int.reduceBNe, Nat.reduceMul, Nat.reduceAdd, Nat.reduceLeDiff, reduceCtorEq, Int.reduceToNat]
        exact Fin_val (by simp [resV, upd_at, retA]) (by simp [resV, upd_at, ResOk])
theorem h181 (e : List Tk) (n : Nat) (he : e.length ≤ 9000000000000000) (hn : n ≤ 9000000000000000) : HT 181 [tks e, i64 n] [] (.b (tt (exOk e n))) true [] := by
  refine holds_of (c := Tryz.f181.body.getD .skip) (k := k181.1) (ts := [4]) HOk mixedT hintT Tryz.func181 (by kernel_rfl) (by kernel_rfl) (by kernel_rfl) k181.2 (by kernel_rfl) (le_of 2 _ (by kernel_rfl)) ?_
  unfold tks
  simp -implicitDefEqProofs -dsimp only [k181, go_sem, ↓reduceIte, Nat.reduceEqDiff, Int.reduceLE, Int.reduceLT, Int.reduceNeg, Int.reduceEq, Int.reduceBEq, Int.reduceBNe, Nat.reduceMul, Nat.reduceAdd, Nat.reduceLeDiff, reduceCtorEq, Int.reduceToNat]
  refine K_for e.length (fun i g h c => g 0 = .dat 5 (e.map tkC) ∧ g 1 = i64 n ∧ g 5 = i64 (exLeft (e.take i) 0) ∧ g 6 = i64 i ∧ ∀ j, j < i → exOk1 e n j) ?_ ?_ ?_
  · exact ⟨by simp [upd_at, S_0], by simp [upd_at, S_1], by simp [upd_at, exLeft], by simp [upd_at], fun j hj => absurd hj (by omega)⟩
  · rintro i A hi hA g h c ⟨q0, q1, q5, q6, hb⟩
    have hc : (i : Int) < (e.length : Int) := by omega
    have w2 : IntKind.i64.wrap ((i : Int) + 1) = ((i + 1 : Nat) : Int) := wnat1 (by omega)
    have hg := mget k0 hi
    have hbad := ex_bad (e := e) (n := n) hi
    have hst := upto_step (P := exOk1 e n) hb
    have hex := exLeft_step hi
    have hr := exLeft_rng (e.take i) 0
    have hr2 : (e.take i).length = i := by rw [List.length_take]; omega
    rw [hr2] at hr
    unfold exOk1 at hbad hst
    generalize e.getD i k0 = t at hg hbad hst hex
    have d1 := h230 t n hn
    have ht := tk_range t
    obtain ⟨k, c', a, b, s⟩ := t
    simp only [tkC] at d1
    generalize exLeft (e.take i) 0 = L at q5 hbad hst hex hr
    simp -implicitDefEqProofs -dsimp only [q0, q1, q5, q6, hc, hg, tkC, go_sem, ↓reduceIte, Nat.reduceEqDiff, Int.reduceLE, Int.reduceLT, Int.reduceNeg, Int.reduceEq, Int.reduceBEq, Int.reduceBNe, Nat.reduceMul, Nat.reduceAdd, Nat.reduceLeDiff, reduceCtorEq, Int.reduceToNat]
    refine Call_val (own := true) (d1) (by simp [ExpOk, AV.pure]) (.inl rfl) ?_
    by_cases h1 : tkOk ⟨k, c', a, b, s⟩ n
    · rw [tk2_yes h1]
      generalize tkTakes ⟨k, c', a, b, s⟩ = m at hbad hst hex ht
      have w3 : IntKind.i64.wrap (L - m) = L - m := IntWalk.i64_in _ ⟨by omega, by omega⟩
      have w4 : IntKind.i64.wrap (L - m + 1) = L - m + 1 := IntWalk.i64_in _ ⟨by omega, by omega⟩
      have hm0 : ¬ m < 0 := by omega
      by_cases h2 : m > L
      · simp -implicitDefEqProofs -dsimp only [h2, q5, hm0, go_sem, ↓reduceIte, Nat.reduceEqDiff, Int.reduceLE, Int.reduceLT, Int.reduceNeg, Int.reduceEq, Int.reduceBEq, Int.reduceBNe, Nat.reduceMul, Nat.reduceAdd, Nat.reduceLeDiff, reduceCtorEq, Int.reduceToNat]
        exact Fin_val (by simp [resV, upd_at, retA, hbad (fun q => by have := q.2; omega)]) (by simp [resV, upd_at, ResOk])
      · simp -implicitDefEqProofs -dsimp only [h2, q5, hm0, w3, w4, q6, w2, go_sem, ↓reduceIte, Nat.reduceEqDiff, Int.reduceLE, Int.reduceLT, Int.reduceNeg, Int.reduceEq, Int.reduceBEq, Int.reduceBNe, Nat.reduceMul, Nat.reduceAdd, Nat.reduceLeDiff, reduceCtorEq, Int.reduceToNat]
        exact hA _ _ _ ⟨by simp [upd_at, q0], by simp [upd_at, q1], by simp [upd_at, hex]; omega, by simp [upd_at], hst ⟨h1, by omega⟩⟩
    · rw [tk2_no h1]
      simp -implicitDefEqProofs -dsimp only [neg1, go_sem, ↓reduceIte, Nat.reduceEqDiff, Int.reduceLE, Int.reduceLT, Int.reduceNeg, Int.reduceEq, Int.reduceBEq, Int.reduceBNe, Nat.reduceMul, Nat.reduceAdd, Nat.reduceLeDiff, reduceCtorEq, Int.reduceToNat]
      exact Fin_val (by simp [resV, upd_at, retA, hbad (fun q => h1 q.1)]) (by simp [resV, upd_at, ResOk])
  · rintro A g h c ⟨q0, q1, q5, q6, hb⟩
    have hc : ¬ (e.length : Int) < (e.length : Int) := by omega
    rw [List.take_length] at q5
    by_cases hl : e.length ≤ 24
    · have hl2 : (e.length : Int) ≤ 24 := by omega
      rw [ex_end hb hl]
      cases hx : (exLeft e 0 == 1) with
      | true =>
        simp -implicitDefEqProofs -dsimp only [q0, q1, q5, q6, hc, hx, hl2, go_sem, ↓reduceIte, Nat.reduceEqDiff, Int.reduceLE, Int.reduceLT, Int.reduceNeg, Int.reduceEq, Int.reduceBEq, Int.reduceBNe, Nat.reduceMul, Nat.reduceAdd, Nat.reduceLeDiff, reduceCtorEq, Int.reduceToNat]
        exact Fin_val (by simp [resV, upd_at, retA]) (by simp [resV, upd_at, ResOk])
      | false =>
        simp -implicitDefEqProofs -dsimp only [q0, q1, q5, q6, hc, hx, hl2, go_sem, ↓reduceIte, Nat.reduceEqDiff, Int.reduceLE, Int.reduceLT, Int.reduceNeg, Int.reduceEq, Int.reduceBEq, Int.reduceBNe, Nat.reduceMul, Nat.reduceAdd, Nat.reduceLeDiff, reduceCtorEq, Int.reduceToNat]
        exact Fin_val (by simp [resV, upd_at, retA]) (by simp [resV, upd_at, ResOk])
    · have hl2 : ¬ (e.length : Int) ≤ 24 := by omega
      rw [ex_long hl]
      cases hx : (exLeft e 0 == 1) with
      | true =>
        simp -implicitDefEqProofs -dsimp only [q0, q1, q5, q6, hc, hx, hl2, go_sem, ↓reduceIte, Nat.reduceEqDiff, Int.reduceLE, Int.reduceLT, Int.reduceNeg, Int.reduceEq, Int.reduceBEq, Int.reduceBNe, Nat.reduceMul, Nat.reduceAdd, Nat.reduceLeDiff, reduceCtorEq, Int.reduceToNat]
        exact Fin_val (by simp [resV, upd_at, retA]) (by simp [resV, upd_at, ResOk])
      | false =>
        simp -implicitDefEqProofs -dsimp only [q0, q1, q5, q6, hc, hx, hl2, go_sem, ↓reduceIte, Nat.reduceEqDiff, Int.reduceLE, Int.reduceLT, Int.reduceNeg, Int.reduceEq, Int.reduceBEq, Int.reduceBNe, Nat.reduceMul, Nat.reduceAdd, Nat.reduceLeDiff, reduceCtorEq, Int.reduceToNat]
        exact Fin_val (by simp [resV, upd_at, retA]) (by simp [resV, upd_at, ResOk])
end FrA
end
/-! PrG -/
section
open Go Go.AM
namespace FrA
open Go.Proofs
set_option maxRecDepth 100000
set_option linter.unusedSimpArgs false
theorem ix_step {α : Type} {p : α → Bool} {l : List α} {i : Nat} (d : α) (hi : i < l.length) (hb : ∀ x ∈ l.take i, p x = false) : (p (l.getD i d) = true → ix p l = (i : Int)) ∧ (p (l.getD i d) = false → ∀ x ∈ l.take (i + 1), p x = false) :=
  ⟨ix_some d hi hb, fun h => mall_step (p := fun x => p x = false) d hi hb h⟩
theorem h215 (l : List Cl) (nm : List UInt8) (hl : l.length ≤ 9000000000000000) : HT 215 [.agg [.s [], cls l, .nils, .nils, .nils, .nils], .s nm] [] (i64 (ix (fun c => c.name == nm) l)) true [] := by
  refine holds_of (c := Tryz.f215.body.getD .skip) (k := k215.1) (ts := [4]) HOk mixedT hintT Tryz.func215 (by kernel_rfl) (by kernel_rfl) (by kernel_rfl) k215.2 (by kernel_rfl) (le_of 2 _ (by kernel_rfl)) ?_
  unfold cls
  simp -implicitDefEqProofs -dsimp only [k215, go_sem, ↓reduceIte, Nat.reduceEqDiff, Int.reduceLE, Int.reduceLT, Int.reduceNeg, Int.reduceEq, Int.reduceBEq, Int.reduceBNe, Nat.reduceMul, Nat.reduceAdd, Nat.reduceLeDiff, reduceCtorEq, Int.reduceToNat]
  refine K_for l.length (fun i g h c => g 1 = .s nm ∧ g 2 = .ptr (.l 2) 1 0 0 ∧ g 5 = i64 i ∧ h (.l 2) = some { ver := 1, es := [[.s [], .dat 6 (l.map clC), .nils, .nils, .nils, .nils]], esz := 6, own := False, fixed := true } ∧ ∀ x ∈ l.take i, (x.name == nm) = false) ?_ ?_ ?_
  · exact ⟨by simp [upd_at, S_1], by simp [upd_at], by simp [upd_at], by simp [hup_at], by simp⟩
  · rintro i A hi hA g h c ⟨q1, q2, q5, hh, hb⟩
    have hc : (i : Int) < (l.length : Int) := by omega
    have w2 : IntKind.i64.wrap ((i : Int) + 1) = ((i + 1 : Nat) : Int) := wnat1 (by omega)
    have hg := mget c0 hi
    have hst := ix_step (p := fun c => c.name == nm) c0 hi hb
    generalize l.getD i c0 = cc at hg hst
    obtain ⟨n1, a1, a2, a3, a4, a5⟩ := cc
    simp only at hst
    cases hx : (n1 == nm) with
    | true =>
      have := hst.1 hx
      simp -implicitDefEqProofs -dsimp only [q1, q2, q5, hh, hc, hg, clC, hx, go_sem, ↓reduceIte, Nat.reduceEqDiff, Int.reduceLE, Int.reduceLT, Int.reduceNeg, Int.reduceEq, Int.reduceBEq, Int.reduceBNe, Nat.reduceMul, Nat.reduceAdd, Nat.reduceLeDiff, reduceCtorEq, Int.reduceToNat]
      refine VK_p (by first | omega | (simp only [List.length_cons, List.length_nil, List.length_append]; omega) | (refine ⟨by omega, by omega, ?_⟩; first | omega | (simp only [List.length_cons, List.length_nil, List.length_append]; omega)) | (simp; omega) | (simp; done)) ?_
      simp -implicitDefEqProofs -dsimp only [q1, q2, q5, hh, hc, hg, clC, hx, go_sem, ↓reduceIte, Nat.reduceEqDiff, Int.reduceLE, Int.reduceLT, Int.reduceNeg, Int.reduceEq, Int.reduceBEq, Int.reduceBNe, Nat.reduceMul, Nat.reduceAdd, Nat.reduceLeDiff, reduceCtorEq, Int.reduceToNat]
      exact Fin_val (by simp [resV, upd_at, retA, this]) (by simp [resV, upd_at, ResOk])
    | false =>
      simp -implicitDefEqProofs -dsimp only [q1, q2, q5, hh, hc, hg, clC, hx, w2, go_sem, ↓reduceIte, Nat.reduceEqDiff, Int.reduceLE, Int.reduceLT, Int.reduceNeg, Int.reduceEq, Int.reduceBEq, Int.reduceBNe, Nat.reduceMul, Nat.reduceAdd, Nat.reduceLeDiff, reduceCtorEq, Int.reduceToNat]
      refine VK_p (by first | omega | (simp only [List.length_cons, List.length_nil, List.length_append]; omega) | (refine ⟨by omega, by omega, ?_⟩; first | omega | (simp only [List.length_cons, List.length_nil, List.length_append]; omega)) | (simp; omega) | (simp; done)) ?_
      simp -implicitDefEqProofs -dsimp only [q1, q2, q5, hh, hc, hg, clC, hx, w2, go_sem, ↓reduceIte, Nat.reduceEqDiff, Int.reduceLE, Int.reduceLT, Int.reduceNeg, Int.reduceEq, Int.reduceBEq, Int.reduceBNe, Nat.reduceMul, Nat.reduceAdd, Nat.reduceLeDiff, reduceCtorEq, Int.reduceToNat]
      exact hA _ _ _ ⟨by simp [upd_at, q1], by simp [upd_at, q2], by simp [upd_at], hh, hst.2 hx⟩
  · rintro A g h c ⟨q1, q2, q5, hh, hb⟩
    have hc : ¬ (l.length : Int) < (l.length : Int) := by omega
    rw [List.take_length] at hb
    simp -implicitDefEqProofs -dsimp only [q1, q2, q5, hh, hc, go_sem, ↓reduceIte, Nat.reduceEqDiff, Int.reduceLE, Int.reduceLT, Int.reduceNeg, Int.reduceEq, Int.reduceBEq, Int.reduceBNe, Nat.reduceMul, Nat.reduceAdd, Nat.reduceLeDiff, reduceCtorEq, Int.reduceToNat]
    exact Fin_val (by simp [resV, upd_at, retA, ix_none hb]) (by simp [resV, upd_at, ResOk])
theorem h153 (l : List Tb) (nm : List UInt8) (hl : l.length ≤ 9000000000000000) : HT 153 [tbs l, .s nm] [] (i64 (ix (fun c => c.name == nm) l)) true [] := by
  refine holds_of (c := Tryz.f153.body.getD .skip) (k := k153.1) (ts := [4]) HOk mixedT hintT Tryz.func153 (by kernel_rfl) (by kernel_rfl) (by kernel_rfl) k153.2 (by kernel_rfl) (le_of 2 _ (by kernel_rfl)) ?_
  unfold tbs
  simp -implicitDefEqProofs -dsimp only [k153, go_sem, ↓reduceIte, Nat.reduceEqDiff, Int.reduceLE, Int.reduceLT, Int.reduceNeg, Int.reduceEq, Int.reduceBEq, Int.reduceBNe, Nat.reduceMul, Nat.reduceAdd, Nat.reduceLeDiff, reduceCtorEq, Int.reduceToNat]
  refine K_for l.length (fun i g h c => g 0 = .dat 6 (l.map tbC) ∧ g 1 = .s nm ∧ g 5 = i64 i ∧ ∀ x ∈ l.take i, (x.name == nm) = false) ?_ ?_ ?_
  · exact ⟨by simp [upd_at, S_0], by simp [upd_at, S_1], by simp [upd_at], by simp⟩
  · rintro i A hi hA g h c ⟨q0, q1, q5, hb⟩
    have hc : (i : Int) < (l.length : Int) := by omega
    have w2 : IntKind.i64.wrap ((i : Int) + 1) = ((i + 1 : Nat) : Int) := wnat1 (by omega)
    have hg := mget t0 hi
    have hst := ix_step (p := fun c => c.name == nm) t0 hi hb
    generalize l.getD i t0 = cc at hg hst
    obtain ⟨n1, a1, a2, a3, a4, a5⟩ := cc
    simp only at hst
    cases hx : (n1 == nm) with
    | true =>
      have := hst.1 hx
      simp -implicitDefEqProofs -dsimp only [q0, q1, q5, hc, hg, tbC, hx, go_sem, ↓reduceIte, Nat.reduceEqDiff, Int.reduceLE, Int.reduceLT, Int.reduceNeg, Int.reduceEq, Int.reduceBEq, Int.reduceBNe, Nat.reduceMul, Nat.reduceAdd, Nat.reduceLeDiff, reduceCtorEq, Int.reduceToNat]
      refine VK_p (by first | omega | (simp only [List.length_cons, List.length_nil, List.length_append]; omega) | (refine ⟨by omega, by omega, ?_⟩; first | omega | (simp only [List.length_cons, List.length_nil, List.length_append]; omega)) | (simp; omega) | (simp; done)) ?_
      simp -implicitDefEqProofs -dsimp only [q0, q1, q5, hc, hg, tbC, hx, go_sem, ↓reduceIte, Nat.reduceEqDiff, Int.reduceLE, Int.reduceLT, Int.reduceNeg, Int.reduceEq, Int.reduceBEq, Int.reduceBNe, Nat.reduceMul, Nat.reduceAdd, Nat.reduceLeDiff, reduceCtorEq, Int.reduceToNat]
      exact Fin_val (by simp [resV, upd_at, retA, this]) (by simp [resV, upd_at, ResOk])
    | false =>
      simp -implicitDefEqProofs -dsimp only [q0, q1, q5, hc, hg, tbC, hx, w2, go_sem, ↓reduceIte, Nat.reduceEqDiff, Int.reduceLE, Int.reduceLT, Int.reduceNeg, Int.reduceEq, Int.reduceBEq, Int.reduceBNe, Nat.reduceMul, Nat.reduceAdd, Nat.reduceLeDiff, reduceCtorEq, Int.reduceToNat]
      refine VK_p (by first | omega | (simp only [List.length_cons, List.length_nil, List.length_append]; omega) | (refine ⟨by omega, by omega, ?_⟩; first | omega | (simp only [List.length_cons, List.length_nil, List.length_append]; omega)) | (simp; omega) | (simp; done)) ?_
      simp -implicitDefEqProofs -dsimp only [q0, q1, q5, hc, hg, tbC, hx, w2, go_sem, ↓reduceIte, Nat.reduceEqDiff, Int.reduceLE, Int.reduceLT, Int.reduceNeg, Int.reduceEq, Int.reduceBEq, Int.reduceBNe, Nat.reduceMul, Nat.reduceAdd, Nat.reduceLeDiff, reduceCtorEq, Int.reduceToNat]
      exact hA _ _ _ ⟨by simp [upd_at, q0], by simp [upd_at, q1], by simp [upd_at], hst.2 hx⟩
  · rintro A g h c ⟨q0, q1, q5, hb⟩
    have hc : ¬ (l.length : Int) < (l.length : Int) := by omega
    rw [List.take_length] at hb
    simp -implicitDefEqProofs -dsimp only [q0, q1, q5, hc, go_sem, ↓reduceIte, Nat.reduceEqDiff, Int.reduceLE, Int.reduceLT, Int.reduceNeg, Int.reduceEq, Int.reduceBEq, Int.reduceBNe, Nat.reduceMul, Nat.reduceAdd, Nat.reduceLeDiff, reduceCtorEq, Int.reduceToNat]
    exact Fin_val (by simp [resV, upd_at, retA, ix_none hb]) (by simp [resV, upd_at, ResOk])
end FrA
end
/-! PrH -/
section
open Go Go.AM
namespace FrA
open Go.Proofs
set_option maxRecDepth 100000
set_option linter.unusedSimpArgs false
theorem h152 (t : Tb) (hb : GTb t) : HT 152 [.agg (tbC t)] [] (.b (tt (tbOk t))) true [] := by
  refine holds_of (c := Tryz.f152.body.getD .skip) (k := k152.1) (ts := [2]) HOk mixedT hintT Tryz.func152 (by kernel_rfl) (by kernel_rfl) (by kernel_rfl) k152.2 (by kernel_rfl) (le_of 1 _ (by kernel_rfl)) ?_
  have hn := hb.b1
  have d1 := h213 t.name (by have := hb.n1; omega)
  have d2 := h132 (t.cols.length : Int) 1 8
  have d3 := h214 t.key t.cols.length (by have := hb.b2; omega) (by omega)
  have hkey : colsOk t.key t.cols.length → ∀ j, j < t.key.length → 0 ≤ t.key.getD j 0 ∧ (t.key.getD j 0).toNat < t.cols.length := fun hk j hj => by
    have h1 := (hk.1 j hj).1
    omega
  have bad : ¬ tbOk t → tt (tbOk t) = false := tt_f
  have hdef : tbOk t ↔ nmOk t.name ∧ clsOk t.cols ∧ colsOk t.key t.cols.length ∧ t.uniq.length ≤ 3 ∧ t.chk.length ≤ 3 ∧ t.fks.length ≤ 3 ∧ (∀ c ∈ t.key, (t.cols.getD c.toNat c0).nn = true) ∧ (∀ u ∈ t.uniq, colsOk u t.cols.length) ∧ (∀ e ∈ t.chk, exOk e t.cols.length) ∧ (∀ f ∈ t.fks, fkOk f t.cols.length) := Iff.rfl
  have hcl : clsOk t.cols → 1 ≤ t.cols.length ∧ t.cols.length ≤ 8 := fun hk => ⟨by have := hk.2; omega, by
    by_cases h9 : 8 < t.cols.length
    · have := (hk.1 8 h9).1; omega
    · omega⟩
  obtain ⟨nm, cs, ks, us, es, fs⟩ := t
  simp only at hn d1 d2 d3 hkey hdef hcl
  generalize hT : tbOk ⟨nm, cs, ks, us, es, fs⟩ = TB at bad hdef ⊢
  have b2 : ks.length ≤ 1048576 := hb.b2
  have b3 : us.length ≤ 1048576 := hb.b3
  have b4 : ∀ u ∈ us, u.length ≤ 1048576 := hb.b4
  have b5 : es.length ≤ 1048576 := hb.b5
  have b6 : ∀ u ∈ es, u.length ≤ 1048576 := hb.b6
  have b7 : fs.length ≤ 1048576 := hb.b7
  have b8 : ∀ u ∈ fs, u.cols.length ≤ 1048576 := hb.b8
  have n2 : ∀ c ∈ cs, c.name.length ≤ 1048576 := hb.n2
  have n3 : ∀ f ∈ fs, f.tab.length ≤ 1048576 := hb.n3
  clear hb hT
  simp only [cls, ils, uns, cks, fkk, tbC] at d3 ⊢
  simp -implicitDefEqProofs -dsimp only [k152, go_sem, ↓reduceIte, Nat.reduceEqDiff, Int.reduceLE, Int.reduceLT, Int.reduceNeg, Int.reduceEq, Int.reduceBEq, Int.reduceBNe, Nat.reduceMul, Nat.reduceAdd, Nat.reduceLeDiff, reduceCtorEq, Int.reduceToNat]
  refine Call_val (own := true) (d1) (by simp [ExpOk, AV.pure]) (.inl rfl) ?_
  by_cases h1 : nmOk nm
  rotate_left
  · rw [tt_f h1]
    simp -implicitDefEqProofs -dsimp only [go_sem, ↓reduceIte, Nat.reduceEqDiff, Int.reduceLE, Int.reduceLT, Int.reduceNeg, Int.reduceEq, Int.reduceBEq, Int.reduceBNe, Nat.reduceMul, Nat.reduceAdd, Nat.reduceLeDiff, reduceCtorEq, Int.reduceToNat]
    have hf := bad fun q => h1 (hdef.1 q).1
    exact Fin_val (by simp [resV, upd_at, retA, hf]) (by simp [resV, upd_at, ResOk])
  rw [tt_t h1]
  simp -implicitDefEqProofs -dsimp only [go_sem, ↓reduceIte, Nat.reduceEqDiff, Int.reduceLE, Int.reduceLT, Int.reduceNeg, Int.reduceEq, Int.reduceBEq, Int.reduceBNe, Nat.reduceMul, Nat.reduceAdd, Nat.reduceLeDiff, reduceCtorEq, Int.reduceToNat]
  refine Call_val (own := true) (d2) (by simp [ExpOk, AV.pure]) (.inl rfl) ?_
  by_cases h2 : (1 : Int) ≤ cs.length ∧ (cs.length : Int) ≤ 8
  rotate_left
  · simp -implicitDefEqProofs -dsimp only [h2, go_sem, ↓reduceIte, Nat.reduceEqDiff, Int.reduceLE, Int.reduceLT, Int.reduceNeg, Int.reduceEq, Int.reduceBEq, Int.reduceBNe, Nat.reduceMul, Nat.reduceAdd, Nat.reduceLeDiff, reduceCtorEq, Int.reduceToNat]
    have hf := bad fun q => h2 (by have := hcl (hdef.1 q).2.1; omega)
    exact Fin_val (by simp [resV, upd_at, retA, hf]) (by simp [resV, upd_at, ResOk])
  simp -implicitDefEqProofs -dsimp only [h2, go_sem, ↓reduceIte, Nat.reduceEqDiff, Int.reduceLE, Int.reduceLT, Int.reduceNeg, Int.reduceEq, Int.reduceBEq, Int.reduceBNe, Nat.reduceMul, Nat.reduceAdd, Nat.reduceLeDiff, reduceCtorEq, Int.reduceToNat]
  refine Call_val (own := true) (d3) (by simp [ExpOk, AV.pure]) (.inl rfl) ?_
  by_cases h3 : colsOk ks cs.length
  rotate_left
  · rw [tt_f h3]
    simp -implicitDefEqProofs -dsimp only [go_sem, ↓reduceIte, Nat.reduceEqDiff, Int.reduceLE, Int.reduceLT, Int.reduceNeg, Int.reduceEq, Int.reduceBEq, Int.reduceBNe, Nat.reduceMul, Nat.reduceAdd, Nat.reduceLeDiff, reduceCtorEq, Int.reduceToNat]
    have hf := bad fun q => h3 (hdef.1 q).2.2.1
    exact Fin_val (by simp [resV, upd_at, retA, hf]) (by simp [resV, upd_at, ResOk])
  rw [tt_t h3]
  have hkey := hkey h3
  by_cases h4 : us.length ≤ 3
  rotate_left
  · have g4 : (us.length : Int) > 3 := by omega
    simp -implicitDefEqProofs -dsimp only [g4, go_sem, ↓reduceIte, Nat.reduceEqDiff, Int.reduceLE, Int.reduceLT, Int.reduceNeg, Int.reduceEq, Int.reduceBEq, Int.reduceBNe, Nat.reduceMul, Nat.reduceAdd, Nat.reduceLeDiff, reduceCtorEq, Int.reduceToNat]
    have hf := bad fun q => h4 (hdef.1 q).2.2.2.1
    exact Fin_val (by simp [resV, upd_at, retA, hf]) (by simp [resV, upd_at, ResOk])
  have g4 : ¬ (us.length : Int) > 3 := by omega
  by_cases h5 : es.length ≤ 3
  rotate_left
  · have g5 : (es.length : Int) > 3 := by omega
    simp -implicitDefEqProofs -dsimp only [g4, g5, go_sem, ↓reduceIte, Nat.reduceEqDiff, Int.reduceLE, Int.reduceLT, Int.reduceNeg, Int.reduceEq, Int.reduceBEq, Int.reduceBNe, Nat.reduceMul, Nat.reduceAdd, Nat.reduceLeDiff, reduceCtorEq, Int.reduceToNat]
    have hf := bad fun q => h5 (hdef.1 q).2.2.2.2.1
    exact Fin_val (by simp [resV, upd_at, retA, hf]) (by simp [resV, upd_at, ResOk])
  have g5 : ¬ (es.length : Int) > 3 := by omega
  by_cases h6 : fs.length ≤ 3
  rotate_left
  · have g6 : (fs.length : Int) > 3 := by omega
    simp -implicitDefEqProofs -dsimp only [g4, g5, g6, go_sem, ↓reduceIte, Nat.reduceEqDiff, Int.reduceLE, Int.reduceLT, Int.reduceNeg, Int.reduceEq, Int.reduceBEq, Int.reduceBNe, Nat.reduceMul, Nat.reduceAdd, Nat.reduceLeDiff, reduceCtorEq, Int.reduceToNat]
    have hf := bad fun q => h6 (hdef.1 q).2.2.2.2.2.1
    exact Fin_val (by simp [resV, upd_at, retA, hf]) (by simp [resV, upd_at, ResOk])
  have g6 : ¬ (fs.length : Int) > 3 := by omega
  simp -implicitDefEqProofs -dsimp only [g4, g5, g6, go_sem, ↓reduceIte, Nat.reduceEqDiff, Int.reduceLE, Int.reduceLT, Int.reduceNeg, Int.reduceEq, Int.reduceBEq, Int.reduceBNe, Nat.reduceMul, Nat.reduceAdd, Nat.reduceLeDiff, reduceCtorEq, Int.reduceToNat]
  obtain ⟨B, hB⟩ : ∃ B : Ob, B = { ver := 1, es := [[.s nm, .dat 6 (cs.map clC), .dat 1 (ks.map inC), .dat 1 (us.map unC), .dat 1 (es.map ckC), .dat 5 (fs.map fkC)]], esz := 6, own := False, fixed := true } := ⟨_, rfl⟩
  -- the columns
  refine K_for cs.length (fun i g h c => g 1 = .ptr (.l 1) 1 0 0 ∧ g 3 = i64 cs.length ∧ g 4 = i64 i ∧ h (.l 1) = some B ∧ ∀ j, j < i → cl1 cs j) ?_ ?_ ?_
  · exact ⟨by simp [upd_at], by simp [upd_at], by simp [upd_at], by simp [hup_at, hB], fun j hj => absurd hj (by omega)⟩
  · rintro i A hi hA g h c ⟨q1, q3, q4, hh, hbl⟩
    have hc : (i : Int) < (cs.length : Int) := by omega
    have hle : (i : Int) ≤ (cs.length : Int) := by omega
    have hne : ¬ i = cs.length := by omega
    have w2 : IntKind.i64.wrap ((i : Int) + 1) = ((i + 1 : Nat) : Int) := wnat1 (by omega)
    have hg := mget c0 hi
    have hbad : ¬ cl1 cs i → tt TB = false := fun q => bad fun r => q ((hdef.1 r).2.1.1 i hi)
    have hst := upto_step (P := cl1 cs) hbl
    have hm := n2 _ (mmem c0 hi)
    unfold cl1 clOk1 at hbad hst
    generalize cs.getD i c0 = cc at hg hbad hst hm
    have dn := h213 cc.name (by omega)
    have dv := h186 cc.dflt
    have dk := h132 cc.kind 1 2
    have dc := h215 (cs.take i) cc.name (by rw [List.length_take]; omega)
    have hany := ix_any (fun c : Cl => c.name == cc.name) (cs.take i)
    generalize hix : ix (fun c : Cl => c.name == cc.name) (cs.take i) = I at dc hany
    obtain ⟨cn, k, b, x1, x2, x3⟩ := cc
    simp only [clC, vC, isOfP] at dn dv dk dc hbad hst hm hany
    unfold cls at dc
    rw [List.map_take] at dc
    have hh' := hh
    rw [hB] at hh'
    have i8 : i < 8 := by omega
    have kk : (1 ≤ k ∧ k ≤ 2) ↔ (k = 1 ∨ k = 2) := by omega
    simp -implicitDefEqProofs -dsimp only [q1, q3, q4, hh', hc, hg, clC, go_sem, ↓reduceIte, Nat.reduceEqDiff, Int.reduceLE, Int.reduceLT, Int.reduceNeg, Int.reduceEq, Int.reduceBEq, Int.reduceBNe, Nat.reduceMul, Nat.reduceAdd, Nat.reduceLeDiff, reduceCtorEq, Int.reduceToNat]
    refine Call0_val true (dn) (by simp [AV.free, AV.pure]) (.inl rfl) ?_
    by_cases e1 : nmOk cn
    rotate_left
    · rw [tt_f e1]
      simp -implicitDefEqProofs -dsimp only [go_sem, ↓reduceIte, Nat.reduceEqDiff, Int.reduceLE, Int.reduceLT, Int.reduceNeg, Int.reduceEq, Int.reduceBEq, Int.reduceBNe, Nat.reduceMul, Nat.reduceAdd, Nat.reduceLeDiff, reduceCtorEq, Int.reduceToNat]
      have hf := hbad fun q => e1 q.2.1.1
      exact Fin_val (by simp [resV, upd_at, retA, hf]) (by simp [resV, upd_at, ResOk])
    rw [tt_t e1]
    simp -implicitDefEqProofs -dsimp only [q1, q3, q4, hh', hc, hle, hne, go_sem, ↓reduceIte, Nat.reduceEqDiff, Int.reduceLE, Int.reduceLT, Int.reduceNeg, Int.reduceEq, Int.reduceBEq, Int.reduceBNe, Nat.reduceMul, Nat.reduceAdd, Nat.reduceLeDiff, reduceCtorEq, Int.reduceToNat]
    refine VK_p (by first | omega | (simp only [List.length_cons, List.length_nil, List.length_append]; omega) | (refine ⟨by omega, by omega, ?_⟩; first | omega | (simp only [List.length_cons, List.length_nil, List.length_append]; omega)) | (simp; omega) | (simp; done)) ?_
    simp -implicitDefEqProofs -dsimp only [q1, q3, q4, hh', hc, hle, hne, go_sem, ↓reduceIte, Nat.reduceEqDiff, Int.reduceLE, Int.reduceLT, Int.reduceNeg, Int.reduceEq, Int.reduceBEq, Int.reduceBNe, Nat.reduceMul, Nat.reduceAdd, Nat.reduceLeDiff, reduceCtorEq, Int.reduceToNat]
    refine Call0_val true (dc) (by simp [AV.free, AV.pure]) (.inl rfl) ?_
    by_cases e2 : I ≥ 0
    · rw [decide_eq_true e2] at hany
      simp -implicitDefEqProofs -dsimp only [e2, go_sem, ↓reduceIte, Nat.reduceEqDiff, Int.reduceLE, Int.reduceLT, Int.reduceNeg, Int.reduceEq, Int.reduceBEq, Int.reduceBNe, Nat.reduceMul, Nat.reduceAdd, Nat.reduceLeDiff, reduceCtorEq, Int.reduceToNat]
      have hf := hbad fun q => by rw [← hany] at q; cases q.2.2
      exact Fin_val (by simp [resV, upd_at, retA, hf]) (by simp [resV, upd_at, ResOk])
    rw [decide_eq_false e2] at hany
    simp -implicitDefEqProofs -dsimp only [e2, go_sem, ↓reduceIte, Nat.reduceEqDiff, Int.reduceLE, Int.reduceLT, Int.reduceNeg, Int.reduceEq, Int.reduceBEq, Int.reduceBNe, Nat.reduceMul, Nat.reduceAdd, Nat.reduceLeDiff, reduceCtorEq, Int.reduceToNat]
    refine Call0_val true (dk) (by simp [AV.free, AV.pure]) (.inl rfl) ?_
    by_cases e3 : 1 ≤ k ∧ k ≤ 2
    rotate_left
    · simp -implicitDefEqProofs -dsimp only [e3, go_sem, ↓reduceIte, Nat.reduceEqDiff, Int.reduceLE, Int.reduceLT, Int.reduceNeg, Int.reduceEq, Int.reduceBEq, Int.reduceBNe, Nat.reduceMul, Nat.reduceAdd, Nat.reduceLeDiff, reduceCtorEq, Int.reduceToNat]
      have hf := hbad fun q => e3 (kk.2 q.2.1.2.1)
      exact Fin_val (by simp [resV, upd_at, retA, hf]) (by simp [resV, upd_at, ResOk])
    simp -implicitDefEqProofs -dsimp only [e3, go_sem, ↓reduceIte, Nat.reduceEqDiff, Int.reduceLE, Int.reduceLT, Int.reduceNeg, Int.reduceEq, Int.reduceBEq, Int.reduceBNe, Nat.reduceMul, Nat.reduceAdd, Nat.reduceLeDiff, reduceCtorEq, Int.reduceToNat]
    refine Call0_val true (dv) (by simp [AV.free, AV.pure]) (.inl rfl) ?_
    by_cases e4 : vOk (x1, x2, x3)
    rotate_left
    · simp -implicitDefEqProofs -dsimp only [e4, go_sem, ↓reduceIte, Nat.reduceEqDiff, Int.reduceLE, Int.reduceLT, Int.reduceNeg, Int.reduceEq, Int.reduceBEq, Int.reduceBNe, Nat.reduceMul, Nat.reduceAdd, Nat.reduceLeDiff, reduceCtorEq, Int.reduceToNat]
      have hf := hbad fun q => e4 q.2.1.2.2.1
      exact Fin_val (by simp [resV, upd_at, retA, hf]) (by simp [resV, upd_at, ResOk])
    by_cases e5 : x1 = 0
    · have e5' : (x1 != 0) = false := by simp [e5]
      simp -implicitDefEqProofs -dsimp only [e4, e5', q4, w2, go_sem, ↓reduceIte, Nat.reduceEqDiff, Int.reduceLE, Int.reduceLT, Int.reduceNeg, Int.reduceEq, Int.reduceBEq, Int.reduceBNe, Nat.reduceMul, Nat.reduceAdd, Nat.reduceLeDiff, reduceCtorEq, Int.reduceToNat]
      exact hA _ _ _ ⟨by simp [upd_at, q1], by simp [upd_at, q3], by simp [upd_at], by simp [hup_at, hh], hst ⟨i8, ⟨e1, kk.1 e3, e4, .inl e5⟩, hany.symm⟩⟩
    by_cases e6 : x1 = k
    · have e6' : (x1 != k) = false := by simp [e6]
      simp -implicitDefEqProofs -dsimp only [e4, knn e5, e6', q4, w2, go_sem, ↓reduceIte, Nat.reduceEqDiff, Int.reduceLE, Int.reduceLT, Int.reduceNeg, Int.reduceEq, Int.reduceBEq, Int.reduceBNe, Nat.reduceMul, Nat.reduceAdd, Nat.reduceLeDiff, reduceCtorEq, Int.reduceToNat]
      exact hA _ _ _ ⟨by simp [upd_at, q1], by simp [upd_at, q3], by simp [upd_at], by simp [hup_at, hh], hst ⟨i8, ⟨e1, kk.1 e3, e4, .inr e6⟩, hany.symm⟩⟩
    · simp -implicitDefEqProofs -dsimp only [e4, knn e5, knn e6, go_sem, ↓reduceIte, Nat.reduceEqDiff, Int.reduceLE, Int.reduceLT, Int.reduceNeg, Int.reduceEq, Int.reduceBEq, Int.reduceBNe, Nat.reduceMul, Nat.reduceAdd, Nat.reduceLeDiff, reduceCtorEq, Int.reduceToNat]
      have hf := hbad fun q => q.2.1.2.2.2.elim e5 e6
      exact Fin_val (by simp [resV, upd_at, retA, hf]) (by simp [resV, upd_at, ResOk])
  · rintro A g h c ⟨q1, q3, q4, hh, hbl⟩
    have hc : ¬ (cs.length : Int) < (cs.length : Int) := by omega
    have hcls : clsOk cs := ⟨hbl, by omega⟩
    clear hbl
    simp -implicitDefEqProofs -dsimp only [q1, q3, q4, hc, go_sem, ↓reduceIte, Nat.reduceEqDiff, Int.reduceLE, Int.reduceLT, Int.reduceNeg, Int.reduceEq, Int.reduceBEq, Int.reduceBNe, Nat.reduceMul, Nat.reduceAdd, Nat.reduceLeDiff, reduceCtorEq, Int.reduceToNat]
    -- the key
    refine K_for ks.length (fun i g h c => g 1 = .ptr (.l 1) 1 0 0 ∧ g 3 = i64 cs.length ∧ g 6 = i64 i ∧ h (.l 1) = some B ∧ ∀ c ∈ ks.take i, (cs.getD c.toNat c0).nn = true) ?_ ?_ ?_
    · exact ⟨by simp [upd_at, q1], by simp [upd_at, q3], by simp [upd_at], hh, by simp⟩
    · rintro i A hi hA g h c ⟨q1, q3, q6, hh, hbl⟩
      have hc : (i : Int) < (ks.length : Int) := by omega
      have w2 : IntKind.i64.wrap ((i : Int) + 1) = ((i + 1 : Nat) : Int) := wnat1 (by omega)
      have hg := mget (0 : Int) hi
      have hbad : ¬ (cs.getD (ks.getD i 0).toNat c0).nn = true → tt TB = false := fun q => bad fun r => q ((hdef.1 r).2.2.2.2.2.2.1 _ (mmem 0 hi))
      have hst := mall_step (p := fun c : Int => (cs.getD c.toNat c0).nn = true) 0 hi hbl
      obtain ⟨y0, y1⟩ := hkey i hi
      generalize ks.getD i 0 = y at hg hbad hst y0 y1
      have hg2 := mget c0 y1
      generalize cs.getD y.toNat c0 = cc at hg2 hbad hst
      obtain ⟨cn, k, b, x1, x2, x3⟩ := cc
      simp only at hbad hst
      have hh' := hh
      rw [hB] at hh'
      simp -implicitDefEqProofs -dsimp only [q1, q3, q6, hh', hc, hg, inC, y0, hg2, clC, go_sem, ↓reduceIte, Nat.reduceEqDiff, Int.reduceLE, Int.reduceLT, Int.reduceNeg, Int.reduceEq, Int.reduceBEq, Int.reduceBNe, Nat.reduceMul, Nat.reduceAdd, Nat.reduceLeDiff, reduceCtorEq, Int.reduceToNat]
      refine VK_p (by first | omega | (simp only [List.length_cons, List.length_nil, List.length_append]; omega) | (refine ⟨by omega, by omega, ?_⟩; first | omega | (simp only [List.length_cons, List.length_nil, List.length_append]; omega)) | (simp; omega) | (simp; done)) ?_
      simp -implicitDefEqProofs -dsimp only [q1, q3, q6, hh', hc, hg, inC, y0, hg2, clC, go_sem, ↓reduceIte, Nat.reduceEqDiff, Int.reduceLE, Int.reduceLT, Int.reduceNeg, Int.reduceEq, Int.reduceBEq, Int.reduceBNe, Nat.reduceMul, Nat.reduceAdd, Nat.reduceLeDiff, reduceCtorEq, Int.reduceToNat]
      cases b with
      | true =>
        simp -implicitDefEqProofs -dsimp only [q6, w2, go_sem, ↓reduceIte, Nat.reduceEqDiff, Int.reduceLE, Int.reduceLT, Int.reduceNeg, Int.reduceEq, Int.reduceBEq, Int.reduceBNe, Nat.reduceMul, Nat.reduceAdd, Nat.reduceLeDiff, reduceCtorEq, Int.reduceToNat]
        exact hA _ _ _ ⟨by simp [upd_at, q1], by simp [upd_at, q3], by simp [upd_at], hh, hst rfl⟩
      | false =>
        simp -implicitDefEqProofs -dsimp only [go_sem, ↓reduceIte, Nat.reduceEqDiff, Int.reduceLE, Int.reduceLT, Int.reduceNeg, Int.reduceEq, Int.reduceBEq, Int.reduceBNe, Nat.reduceMul, Nat.reduceAdd, Nat.reduceLeDiff, reduceCtorEq, Int.reduceToNat]
        have hf := hbad (by simp)
        exact Fin_val (by simp [resV, upd_at, retA, hf]) (by simp [resV, upd_at, ResOk])
    · rintro A g h c ⟨q1, q3, q6, hh, hb7⟩
      have hc : ¬ (ks.length : Int) < (ks.length : Int) := by omega
      rw [List.take_length] at hb7
      have hh' := hh
      rw [hB] at hh'
      simp -implicitDefEqProofs -dsimp only [q1, q3, q6, hc, hh', go_sem, ↓reduceIte, Nat.reduceEqDiff, Int.reduceLE, Int.reduceLT, Int.reduceNeg, Int.reduceEq, Int.reduceBEq, Int.reduceBNe, Nat.reduceMul, Nat.reduceAdd, Nat.reduceLeDiff, reduceCtorEq, Int.reduceToNat]
      -- unique ones
      refine K_for us.length (fun i g h c => g 1 = .ptr (.l 1) 1 0 0 ∧ g 3 = i64 cs.length ∧ g 7 = i64 i ∧ h (.l 1) = some B ∧ ∀ u ∈ us.take i, colsOk u cs.length) ?_ ?_ ?_
      · exact ⟨by simp [upd_at, q1], by simp [upd_at, q3], by simp [upd_at], hh, by simp⟩
      · rintro i A hi hA g h c ⟨q1, q3, q7, hh, hbl⟩
        have hc : (i : Int) < (us.length : Int) := by omega
        have w2 : IntKind.i64.wrap ((i : Int) + 1) = ((i + 1 : Nat) : Int) := wnat1 (by omega)
        have hg := mget ([] : List Int) hi
        have hm := b4 _ (mmem [] hi)
        have hbad : ¬ colsOk (us.getD i []) cs.length → tt TB = false := fun q => bad fun r => q ((hdef.1 r).2.2.2.2.2.2.2.1 _ (mmem [] hi))
        have hst := mall_step (p := fun u => colsOk u cs.length) [] hi hbl
        generalize us.getD i [] = u at hg hbad hst hm
        have d := h214 u cs.length (by omega) (by omega)
        unfold ils at d
        have hh' := hh
        rw [hB] at hh'
        simp -implicitDefEqProofs -dsimp only [q1, q3, q7, hh', hc, hg, unC, ils, go_sem, ↓reduceIte, Nat.reduceEqDiff, Int.reduceLE, Int.reduceLT, Int.reduceNeg, Int.reduceEq, Int.reduceBEq, Int.reduceBNe, Nat.reduceMul, Nat.reduceAdd, Nat.reduceLeDiff, reduceCtorEq, Int.reduceToNat]
        refine VK_p (by first | omega | (simp only [List.length_cons, List.length_nil, List.length_append]; omega) | (refine ⟨by omega, by omega, ?_⟩; first | omega | (simp only [List.length_cons, List.length_nil, List.length_append]; omega)) | (simp; omega) | (simp; done)) ?_
        simp -implicitDefEqProofs -dsimp only [q1, q3, q7, hh', hc, hg, unC, ils, go_sem, ↓reduceIte, Nat.reduceEqDiff, Int.reduceLE, Int.reduceLT, Int.reduceNeg, Int.reduceEq, Int.reduceBEq, Int.reduceBNe, Nat.reduceMul, Nat.reduceAdd, Nat.reduceLeDiff, reduceCtorEq, Int.reduceToNat]
        refine Call_val (own := true) (d) (by simp [ExpOk, AV.pure]) (.inl rfl) ?_
        by_cases e1 : colsOk u cs.length
        · rw [tt_t e1]
          simp -implicitDefEqProofs -dsimp only [q7, w2, go_sem, ↓reduceIte, Nat.reduceEqDiff, Int.reduceLE, Int.reduceLT, Int.reduceNeg, Int.reduceEq, Int.reduceBEq, Int.reduceBNe, Nat.reduceMul, Nat.reduceAdd, Nat.reduceLeDiff, reduceCtorEq, Int.reduceToNat]
          exact hA _ _ _ ⟨by simp [upd_at, q1], by simp [upd_at, q3], by simp [upd_at], hh, hst e1⟩
        · rw [tt_f e1]
          simp -implicitDefEqProofs -dsimp only [go_sem, ↓reduceIte, Nat.reduceEqDiff, Int.reduceLE, Int.reduceLT, Int.reduceNeg, Int.reduceEq, Int.reduceBEq, Int.reduceBNe, Nat.reduceMul, Nat.reduceAdd, Nat.reduceLeDiff, reduceCtorEq, Int.reduceToNat]
          have hf := hbad e1
          exact Fin_val (by simp [resV, upd_at, retA, hf]) (by simp [resV, upd_at, ResOk])
      · rintro A g h c ⟨q1, q3, q7, hh, hb8⟩
        have hc : ¬ (us.length : Int) < (us.length : Int) := by omega
        rw [List.take_length] at hb8
        have hh' := hh
        rw [hB] at hh'
        simp -implicitDefEqProofs -dsimp only [q1, q3, q7, hc, hh', go_sem, ↓reduceIte, Nat.reduceEqDiff, Int.reduceLE, Int.reduceLT, Int.reduceNeg, Int.reduceEq, Int.reduceBEq, Int.reduceBNe, Nat.reduceMul, Nat.reduceAdd, Nat.reduceLeDiff, reduceCtorEq, Int.reduceToNat]
        -- checks
        refine K_for es.length (fun i g h c => g 1 = .ptr (.l 1) 1 0 0 ∧ g 3 = i64 cs.length ∧ g 8 = i64 i ∧ h (.l 1) = some B ∧ ∀ u ∈ es.take i, exOk u cs.length) ?_ ?_ ?_
        · exact ⟨by simp [upd_at, q1], by simp [upd_at, q3], by simp [upd_at], hh, by simp⟩
        · rintro i A hi hA g h c ⟨q1, q3, q8, hh, hbl⟩
          have hc : (i : Int) < (es.length : Int) := by omega
          have w2 : IntKind.i64.wrap ((i : Int) + 1) = ((i + 1 : Nat) : Int) := wnat1 (by omega)
          have hg := mget ([] : List Tk) hi
          have hm := b6 _ (mmem [] hi)
          have hbad : ¬ exOk (es.getD i []) cs.length → tt TB = false := fun q => bad fun r => q ((hdef.1 r).2.2.2.2.2.2.2.2.1 _ (mmem [] hi))
          have hst := mall_step (p := fun u => exOk u cs.length) [] hi hbl
          generalize es.getD i [] = u at hg hbad hst hm
          have d := h181 u cs.length (by omega) (by omega)
          unfold tks at d
          have hh' := hh
          rw [hB] at hh'
          simp -implicitDefEqProofs -dsimp only [q1, q3, q8, hh', hc, hg, ckC, tks, go_sem, ↓reduceIte, Nat.reduceEqDiff, Int.reduceLE, Int.reduceLT, Int.reduceNeg, Int.reduceEq, Int.reduceBEq, Int.reduceBNe, Nat.reduceMul, Nat.reduceAdd, Nat.reduceLeDiff, reduceCtorEq, Int.reduceToNat]
          refine VK_p (by first | omega | (simp only [List.length_cons, List.length_nil, List.length_append]; omega) | (refine ⟨by omega, by omega, ?_⟩; first | omega | (simp only [List.length_cons, List.length_nil, List.length_append]; omega)) | (simp; omega) | (simp; done)) ?_
          simp -implicitDefEqProofs -dsimp only [q1, q3, q8, hh', hc, hg, ckC, tks, go_sem, ↓reduceIte, Nat.reduceEqDiff, Int.reduceLE, Int.reduceLT, Int.reduceNeg, Int.reduceEq, Int.reduceBEq, Int.reduceBNe, Nat.reduceMul, Nat.reduceAdd, Nat.reduceLeDiff, reduceCtorEq, Int.reduceToNat]
          refine Call_val (own := true) (d) (by simp [ExpOk, AV.pure]) (.inl rfl) ?_
          by_cases e1 : exOk u cs.length
          · rw [tt_t e1]
            simp -implicitDefEqProofs -dsimp only [q8, w2, go_sem, ↓reduceIte, Nat.reduceEqDiff, Int.reduceLE, Int.reduceLT, Int.reduceNeg, Int.reduceEq, Int.reduceBEq, Int.reduceBNe, Nat.reduceMul, Nat.reduceAdd, Nat.reduceLeDiff, reduceCtorEq, Int.reduceToNat]
            exact hA _ _ _ ⟨by simp [upd_at, q1], by simp [upd_at, q3], by simp [upd_at], hh, hst e1⟩
          · rw [tt_f e1]
            simp -implicitDefEqProofs -dsimp only [go_sem, ↓reduceIte, Nat.reduceEqDiff, Int.reduceLE, Int.reduceLT, Int.reduceNeg, Int.reduceEq, Int.reduceBEq, Int.reduceBNe, Nat.reduceMul, Nat.reduceAdd, Nat.reduceLeDiff, reduceCtorEq, Int.reduceToNat]
            have hf := hbad e1
            exact Fin_val (by simp [resV, upd_at, retA, hf]) (by simp [resV, upd_at, ResOk])
        · rintro A g h c ⟨q1, q3, q8, hh, hb9⟩
          have hc : ¬ (es.length : Int) < (es.length : Int) := by omega
          rw [List.take_length] at hb9
          have hh' := hh
          rw [hB] at hh'
          simp -implicitDefEqProofs -dsimp only [q1, q3, q8, hc, hh', go_sem, ↓reduceIte, Nat.reduceEqDiff, Int.reduceLE, Int.reduceLT, Int.reduceNeg, Int.reduceEq, Int.reduceBEq, Int.reduceBNe, Nat.reduceMul, Nat.reduceAdd, Nat.reduceLeDiff, reduceCtorEq, Int.reduceToNat]
          -- references
          refine K_for fs.length (fun i g h c => g 1 = .ptr (.l 1) 1 0 0 ∧ g 3 = i64 cs.length ∧ g 9 = i64 i ∧ h (.l 1) = some B ∧ ∀ u ∈ fs.take i, fkOk u cs.length) ?_ ?_ ?_
          · exact ⟨by simp [upd_at, q1], by simp [upd_at, q3], by simp [upd_at], hh, by simp⟩
          · rintro i A hi hA g h c ⟨q1, q3, q9, hh, hbl⟩
            have hc : (i : Int) < (fs.length : Int) := by omega
            have w2 : IntKind.i64.wrap ((i : Int) + 1) = ((i + 1 : Nat) : Int) := wnat1 (by omega)
            have hg := mget f0 hi
            have hm := b8 _ (mmem f0 hi)
            have hm3 := n3 _ (mmem f0 hi)
            have hbad : ¬ fkOk (fs.getD i f0) cs.length → tt TB = false := fun q => bad fun r => q ((hdef.1 r).2.2.2.2.2.2.2.2.2 _ (mmem f0 hi))
            have hst := mall_step (p := fun u => fkOk u cs.length) f0 hi hbl
            generalize fs.getD i f0 = u at hg hbad hst hm hm3
            obtain ⟨fc, fn, o1, o2, fd⟩ := u
            simp only at hm hm3
            simp only [fkOk] at hbad hst
            have dd1 := h214 fc cs.length (by omega) (by omega)
            have dd2 := h213 fn (by omega)
            have dd3 := h132 o1 0 2
            have dd4 := h132 o2 0 2
            unfold ils at dd1
            have hh' := hh
            rw [hB] at hh'
            simp -implicitDefEqProofs -dsimp only [q1, q3, q9, hh', hc, hg, fkC, ils, go_sem, ↓reduceIte, Nat.reduceEqDiff, Int.reduceLE, Int.reduceLT, Int.reduceNeg, Int.reduceEq, Int.reduceBEq, Int.reduceBNe, Nat.reduceMul, Nat.reduceAdd, Nat.reduceLeDiff, reduceCtorEq, Int.reduceToNat]
            refine Call_val (own := true) (dd1) (by simp [ExpOk, AV.pure]) (.inl rfl) ?_
            by_cases e1 : colsOk fc cs.length
            rotate_left
            · rw [tt_f e1]
              simp -implicitDefEqProofs -dsimp only [go_sem, ↓reduceIte, Nat.reduceEqDiff, Int.reduceLE, Int.reduceLT, Int.reduceNeg, Int.reduceEq, Int.reduceBEq, Int.reduceBNe, Nat.reduceMul, Nat.reduceAdd, Nat.reduceLeDiff, reduceCtorEq, Int.reduceToNat]
              have hf := hbad fun q => e1 q.1
              exact Fin_val (by simp [resV, upd_at, retA, hf]) (by simp [resV, upd_at, ResOk])
            rw [tt_t e1]
            simp -implicitDefEqProofs -dsimp only [go_sem, ↓reduceIte, Nat.reduceEqDiff, Int.reduceLE, Int.reduceLT, Int.reduceNeg, Int.reduceEq, Int.reduceBEq, Int.reduceBNe, Nat.reduceMul, Nat.reduceAdd, Nat.reduceLeDiff, reduceCtorEq, Int.reduceToNat]
            refine Call_val (own := true) (dd2) (by simp [ExpOk, AV.pure]) (.inl rfl) ?_
            by_cases e2 : nmOk fn
            rotate_left
            · rw [tt_f e2]
              simp -implicitDefEqProofs -dsimp only [go_sem, ↓reduceIte, Nat.reduceEqDiff, Int.reduceLE, Int.reduceLT, Int.reduceNeg, Int.reduceEq, Int.reduceBEq, Int.reduceBNe, Nat.reduceMul, Nat.reduceAdd, Nat.reduceLeDiff, reduceCtorEq, Int.reduceToNat]
              have hf := hbad fun q => e2 q.2.1
              exact Fin_val (by simp [resV, upd_at, retA, hf]) (by simp [resV, upd_at, ResOk])
            rw [tt_t e2]
            simp -implicitDefEqProofs -dsimp only [go_sem, ↓reduceIte, Nat.reduceEqDiff, Int.reduceLE, Int.reduceLT, Int.reduceNeg, Int.reduceEq, Int.reduceBEq, Int.reduceBNe, Nat.reduceMul, Nat.reduceAdd, Nat.reduceLeDiff, reduceCtorEq, Int.reduceToNat]
            refine Call_val (own := true) (dd3) (by simp [ExpOk, AV.pure]) (.inl rfl) ?_
            by_cases e3 : 0 ≤ o1 ∧ o1 ≤ 2
            rotate_left
            · simp -implicitDefEqProofs -dsimp only [e3, go_sem, ↓reduceIte, Nat.reduceEqDiff, Int.reduceLE, Int.reduceLT, Int.reduceNeg, Int.reduceEq, Int.reduceBEq, Int.reduceBNe, Nat.reduceMul, Nat.reduceAdd, Nat.reduceLeDiff, reduceCtorEq, Int.reduceToNat]
              have hf := hbad fun q => e3 q.2.2.1
              exact Fin_val (by simp [resV, upd_at, retA, hf]) (by simp [resV, upd_at, ResOk])
            simp -implicitDefEqProofs -dsimp only [e3, go_sem, ↓reduceIte, Nat.reduceEqDiff, Int.reduceLE, Int.reduceLT, Int.reduceNeg, Int.reduceEq, Int.reduceBEq, Int.reduceBNe, Nat.reduceMul, Nat.reduceAdd, Nat.reduceLeDiff, reduceCtorEq, Int.reduceToNat]
            refine Call_val (own := true) (dd4) (by simp [ExpOk, AV.pure]) (.inl rfl) ?_
            by_cases e4 : 0 ≤ o2 ∧ o2 ≤ 2
            rotate_left
            · simp -implicitDefEqProofs -dsimp only [e4, go_sem, ↓reduceIte, Nat.reduceEqDiff, Int.reduceLE, Int.reduceLT, Int.reduceNeg, Int.reduceEq, Int.reduceBEq, Int.reduceBNe, Nat.reduceMul, Nat.reduceAdd, Nat.reduceLeDiff, reduceCtorEq, Int.reduceToNat]
              have hf := hbad fun q => e4 q.2.2.2
              exact Fin_val (by simp [resV, upd_at, retA, hf]) (by simp [resV, upd_at, ResOk])
            simp -implicitDefEqProofs -dsimp only [e4, q9, w2, go_sem, ↓reduceIte, Nat.reduceEqDiff, Int.reduceLE, Int.reduceLT, Int.reduceNeg, Int.reduceEq, Int.reduceBEq, Int.reduceBNe, Nat.reduceMul, Nat.reduceAdd, Nat.reduceLeDiff, reduceCtorEq, Int.reduceToNat]
            exact hA _ _ _ ⟨by simp [upd_at, q1], by simp [upd_at, q3], by simp [upd_at], by simp [hup_at, hh], hst ⟨e1, e2, e3, e4⟩⟩
          · rintro A g h c ⟨q1, q3, q9, hh, hb10⟩
            have hc : ¬ (fs.length : Int) < (fs.length : Int) := by omega
            rw [List.take_length] at hb10
            have hh' := hh
            rw [hB] at hh'
            simp -implicitDefEqProofs -dsimp only [q1, q3, q9, hc, hh', go_sem, ↓reduceIte, Nat.reduceEqDiff, Int.reduceLE, Int.reduceLT, Int.reduceNeg, Int.reduceEq, Int.reduceBEq, Int.reduceBNe, Nat.reduceMul, Nat.reduceAdd, Nat.reduceLeDiff, reduceCtorEq, Int.reduceToNat]
            have good : tt TB = true := tt_t (hdef.2 ⟨h1, hcls, h3, h4, h5, h6, hb7, hb8, hb9, hb10⟩)
            exact Fin_val (by simp [resV, upd_at, retA, good]) (by simp [resV, upd_at, ResOk])
end FrA
end
/-! PsC -/
section
open Go Go.AM
namespace FrA
open Go.Proofs
set_option maxRecDepth 100000
set_option linter.unusedSimpArgs false
theorem h99 (s : List Tb) (hs : ∀ t ∈ s, GTb t) (hl : s.length ≤ 1048576) : HT 99 [tbs s] [] (.b (tt (schOk s))) true [] := by
  refine holds_of (c := Tryz.f99.body.getD .skip) (k := k99.1) (ts := [2]) HOk mixedT hintT Tryz.func99 (by kernel_rfl) (by kernel_rfl) (by kernel_rfl) k99.2 (by kernel_rfl) (le_of 1 _ (by kernel_rfl)) ?_
  generalize hP : schOk s = P
  have hdef : P ↔ s.length ≤ 5 ∧ (∀ i, i < s.length → sc1 s i) ∧ ∀ t ∈ s, ∀ f ∈ t.fks, metP s t f := by rw [← hP]; exact Iff.rfl
  clear hP
  unfold tbs
  simp -implicitDefEqProofs -dsimp only [k99, go_sem, ↓reduceIte, Nat.reduceEqDiff, Int.reduceLE, Int.reduceLT, Int.reduceNeg, Int.reduceEq, Int.reduceBEq, Int.reduceBNe, Nat.reduceMul, Nat.reduceAdd, Nat.reduceLeDiff, reduceCtorEq, Int.reduceToNat]
  refine K_for s.length (fun i g h c => g 0 = .dat 6 (s.map tbC) ∧ g 3 = i64 i ∧ ∀ j, j < i → sc1 s j) ?_ ?_ ?_
  · exact ⟨by simp [upd_at, S_0], by simp [upd_at], fun j hj => absurd hj (by omega)⟩
  · rintro i A hi hA g h c ⟨q0, q3, hb⟩
    have hc : (i : Int) < (s.length : Int) := by omega
    have hle : (i : Int) ≤ (s.length : Int) := by omega
    have hne : ¬ i = s.length := by omega
    have w2 : IntKind.i64.wrap ((i : Int) + 1) = ((i + 1 : Nat) : Int) := wnat1 (by omega)
    have hg := mget t0 hi
    have hm := hs _ (mmem t0 hi)
    have hbad : ¬ sc1 s i → tt P = false := fun q => tt_f fun r => q ((hdef.1 r).2.1 i hi)
    have hst := upto_step (P := sc1 s) hb
    unfold sc1 at hbad hst
    generalize s.getD i t0 = u at hg hm hbad hst
    have d1 := h152 u hm
    have d2 : HT 153 [tbs (s.take i), .s u.name] [] (i64 (tabAt (s.take i) u.name)) true [] := h153 (s.take i) u.name (by rw [List.length_take]; omega)
    generalize tabAt (s.take i) u.name = I at d2 hbad hst
    generalize tbOk u = TB at d1 hbad hst
    obtain ⟨nm, cs, ks, us, es, fs⟩ := u
    simp only [tbC, cls, ils, uns, cks, fkk] at d1 d2
    unfold tbs at d2
    rw [List.map_take] at d2
    simp -implicitDefEqProofs -dsimp only [q0, q3, hc, hg, tbC, cls, ils, uns, cks, fkk, go_sem, ↓reduceIte, Nat.reduceEqDiff, Int.reduceLE, Int.reduceLT, Int.reduceNeg, Int.reduceEq, Int.reduceBEq, Int.reduceBNe, Nat.reduceMul, Nat.reduceAdd, Nat.reduceLeDiff, reduceCtorEq, Int.reduceToNat]
    refine Call0_val true (d1) (by simp [AV.free, AV.pure]) (.inl rfl) ?_
    by_cases e1 : TB
    rotate_left
    · rw [tt_f e1]
      simp -implicitDefEqProofs -dsimp only [go_sem, ↓reduceIte, Nat.reduceEqDiff, Int.reduceLE, Int.reduceLT, Int.reduceNeg, Int.reduceEq, Int.reduceBEq, Int.reduceBNe, Nat.reduceMul, Nat.reduceAdd, Nat.reduceLeDiff, reduceCtorEq, Int.reduceToNat]
      have hf := hbad fun q => e1 q.1
      exact Fin_val (by simp [resV, upd_at, retA, hf]) (by simp [resV, upd_at, ResOk])
    rw [tt_t e1]
    simp -implicitDefEqProofs -dsimp only [q0, q3, hc, hle, hne, hg, tbC, cls, ils, uns, cks, fkk, Nat.reduceLT, go_sem, ↓reduceIte, Nat.reduceEqDiff, Int.reduceLE, Int.reduceLT, Int.reduceNeg, Int.reduceEq, Int.reduceBEq, Int.reduceBNe, Nat.reduceMul, Nat.reduceAdd, Nat.reduceLeDiff, reduceCtorEq, Int.reduceToNat]
    refine VK_p (by first | omega | (simp only [List.length_cons, List.length_nil, List.length_append]; omega) | (refine ⟨by omega, by omega, ?_⟩; first | omega | (simp only [List.length_cons, List.length_nil, List.length_append]; omega)) | (simp; omega) | (simp; done)) ?_
    simp -implicitDefEqProofs -dsimp only [q0, q3, hc, hle, hne, hg, tbC, cls, ils, uns, cks, fkk, Nat.reduceLT, go_sem, ↓reduceIte, Nat.reduceEqDiff, Int.reduceLE, Int.reduceLT, Int.reduceNeg, Int.reduceEq, Int.reduceBEq, Int.reduceBNe, Nat.reduceMul, Nat.reduceAdd, Nat.reduceLeDiff, reduceCtorEq, Int.reduceToNat]
    refine Call0_val true (d2) (by simp [AV.free, AV.pure]) (.inl rfl) ?_
    by_cases e2 : I ≥ 0
    · simp -implicitDefEqProofs -dsimp only [e2, go_sem, ↓reduceIte, Nat.reduceEqDiff, Int.reduceLE, Int.reduceLT, Int.reduceNeg, Int.reduceEq, Int.reduceBEq, Int.reduceBNe, Nat.reduceMul, Nat.reduceAdd, Nat.reduceLeDiff, reduceCtorEq, Int.reduceToNat]
      have hf := hbad fun q => q.2 e2
      exact Fin_val (by simp [resV, upd_at, retA, hf]) (by simp [resV, upd_at, ResOk])
    · simp -implicitDefEqProofs -dsimp only [e2, q3, w2, go_sem, ↓reduceIte, Nat.reduceEqDiff, Int.reduceLE, Int.reduceLT, Int.reduceNeg, Int.reduceEq, Int.reduceBEq, Int.reduceBNe, Nat.reduceMul, Nat.reduceAdd, Nat.reduceLeDiff, reduceCtorEq, Int.reduceToNat]
      exact hA _ _ _ ⟨by simp [upd_at, q0], by simp [upd_at], hst ⟨e1, e2⟩⟩
  · rintro A g h c ⟨q0, q3, hb⟩
    have hc : ¬ (s.length : Int) < (s.length : Int) := by omega
    obtain ⟨k1, k2⟩ := tb_in hs hb
    simp -implicitDefEqProofs -dsimp only [q0, q3, hc, go_sem, ↓reduceIte, Nat.reduceEqDiff, Int.reduceLE, Int.reduceLT, Int.reduceNeg, Int.reduceEq, Int.reduceBEq, Int.reduceBNe, Nat.reduceMul, Nat.reduceAdd, Nat.reduceLeDiff, reduceCtorEq, Int.reduceToNat]
    refine K_for s.length (fun i g h c => g 0 = .dat 6 (s.map tbC) ∧ g 4 = i64 i ∧ ∀ t ∈ s.take i, ∀ f ∈ t.fks, metP s t f) ?_ ?_ ?_
    · exact ⟨by simp [upd_at, q0], by simp [upd_at], by simp⟩
    · rintro i A hi hA g h c ⟨q0, q4, hbt⟩
      have hc : (i : Int) < (s.length : Int) := by omega
      have w2 : IntKind.i64.wrap ((i : Int) + 1) = ((i + 1 : Nat) : Int) := wnat1 (by omega)
      have hg := mget t0 hi
      have hm := hs _ (mmem t0 hi)
      have hk2 := k2 _ (mmem t0 hi)
      have hmem := mmem t0 hi
      have hst := mall_step (p := fun t : Tb => ∀ f ∈ t.fks, metP s t f) t0 hi hbt
      generalize s.getD i t0 = u at hg hm hk2 hmem hst
      have hbf : ∀ f ∈ u.fks, ¬ metP s u f → tt P = false := fun f hf q => tt_f fun r => q ((hdef.1 r).2.2 u hmem f hf)
      obtain ⟨nm, cs, ks, us, es, fs⟩ := u
      have b7 : fs.length ≤ 1048576 := hm.b7
      have n3 : ∀ f ∈ fs, f.tab.length ≤ 1048576 := hm.n3
      simp only at hk2 hst hbf
      simp -implicitDefEqProofs -dsimp only [q0, q4, hc, go_sem, ↓reduceIte, Nat.reduceEqDiff, Int.reduceLE, Int.reduceLT, Int.reduceNeg, Int.reduceEq, Int.reduceBEq, Int.reduceBNe, Nat.reduceMul, Nat.reduceAdd, Nat.reduceLeDiff, reduceCtorEq, Int.reduceToNat]
      refine K_for fs.length (fun j g h c => g 0 = .dat 6 (s.map tbC) ∧ g 4 = i64 i ∧ g 5 = i64 j ∧ ∀ f ∈ fs.take j, metP s ⟨nm, cs, ks, us, es, fs⟩ f) ?_ ?_ ?_
      · exact ⟨by simp [upd_at, q0], by simp [upd_at, q4], by simp [upd_at], by simp⟩
      · rintro j A' hj hA' g h c ⟨q0, q4, q5, hbj⟩
        have hcj : (j : Int) < (fs.length : Int) := by omega
        have w3 : IntKind.i64.wrap ((j : Int) + 1) = ((j + 1 : Nat) : Int) := wnat1 (by omega)
        have hgf := mget f0 hj
        obtain ⟨hfr, hfl⟩ := hk2 _ (mmem f0 hj)
        have hfn := n3 _ (mmem f0 hj)
        have hbad := hbf _ (mmem f0 hj)
        have hstj := mall_step (p := fun f => metP s ⟨nm, cs, ks, us, es, fs⟩ f) f0 hj hbj
        generalize fs.getD j f0 = f at hgf hfr hfl hfn hbad hstj
        obtain ⟨fc, fn, o1, o2, fd⟩ := f
        simp only at hfr hfl hfn
        generalize hM : metP s ⟨nm, cs, ks, us, es, fs⟩ ⟨fc, fn, o1, o2, fd⟩ = M at hbad hstj
        have hMd : M ↔ (0 ≤ tabAt s fn ∧ (s.getD (tabAt s fn).toNat t0).key.length = fc.length ∧ ∀ j, j < fc.length → ((s.getD (tabAt s fn).toNat t0).cols.getD ((s.getD (tabAt s fn).toNat t0).key.getD j 0).toNat c0).kind = (cs.getD (fc.getD j 0).toNat c0).kind) := by rw [← hM]; exact Iff.rfl
        clear hM
        have d1 : HT 153 [tbs s, .s fn] [] (i64 (tabAt s fn)) true [] := h153 s fn (by omega)
        generalize hT : tabAt s fn = I at d1 hMd
        unfold tbs at d1
        simp -implicitDefEqProofs -dsimp only [q0, q4, q5, hc, hcj, hg, hgf, tbC, fkC, cls, ils, uns, cks, fkk, Nat.reduceLT, go_sem, ↓reduceIte, Nat.reduceEqDiff, Int.reduceLE, Int.reduceLT, Int.reduceNeg, Int.reduceEq, Int.reduceBEq, Int.reduceBNe, Nat.reduceMul, Nat.reduceAdd, Nat.reduceLeDiff, reduceCtorEq, Int.reduceToNat]
        refine Call_val (own := true) (d1) (by simp [ExpOk, AV.pure]) (.inl rfl) ?_
        by_cases h1 : I < 0
        · simp -implicitDefEqProofs -dsimp only [h1, go_sem, ↓reduceIte, Nat.reduceEqDiff, Int.reduceLE, Int.reduceLT, Int.reduceNeg, Int.reduceEq, Int.reduceBEq, Int.reduceBNe, Nat.reduceMul, Nat.reduceAdd, Nat.reduceLeDiff, reduceCtorEq, Int.reduceToNat]
          have hf := hbad fun q => by have := (hMd.1 q).1; omega
          exact Fin_val (by simp [resV, upd_at, retA, hf]) (by simp [resV, upd_at, ResOk])
        have h0 : 0 ≤ I := by omega
        have hI : I.toNat < s.length := by rw [← hT] at h0 ⊢; exact ix_lt h0
        have hg2 := mget t0 hI
        have hm2 := k1 _ (mmem t0 hI)
        generalize s.getD I.toNat t0 = v at hg2 hm2 hMd
        obtain ⟨n2, cs2, ks2, us2, es2, fs2⟩ := v
        simp only at hm2 hMd
        by_cases h2 : ks2.length = fc.length
        rotate_left
        · have e2 : ((ks2.length : Int) != (fc.length : Int)) = true := by simp; omega
          simp -implicitDefEqProofs -dsimp only [h1, h0, q0, hg2, tbC, cls, ils, uns, cks, fkk, e2, Nat.reduceLT, go_sem, ↓reduceIte, Nat.reduceEqDiff, Int.reduceLE, Int.reduceLT, Int.reduceNeg, Int.reduceEq, Int.reduceBEq, Int.reduceBNe, Nat.reduceMul, Nat.reduceAdd, Nat.reduceLeDiff, reduceCtorEq, Int.reduceToNat]
          have hf := hbad fun q => h2 (hMd.1 q).2.1
          exact Fin_val (by simp [resV, upd_at, retA, hf]) (by simp [resV, upd_at, ResOk])
        have e2 : ((ks2.length : Int) != (fc.length : Int)) = false := by simp; omega
        simp -implicitDefEqProofs -dsimp only [h1, h0, q0, q4, q5, hg2, tbC, cls, ils, uns, cks, fkk, e2, Nat.reduceLT, go_sem, ↓reduceIte, Nat.reduceEqDiff, Int.reduceLE, Int.reduceLT, Int.reduceNeg, Int.reduceEq, Int.reduceBEq, Int.reduceBNe, Nat.reduceMul, Nat.reduceAdd, Nat.reduceLeDiff, reduceCtorEq, Int.reduceToNat]
        refine K_for fc.length (fun m g h _ => g 0 = .dat 6 (s.map tbC) ∧ g 4 = i64 i ∧ g 5 = i64 j ∧ g 6 = .ptr (.l 6) c 0 0 ∧ g 7 = i64 I ∧ g 8 = i64 m ∧ (∃ q : Prop, ¬ q ∧ h (.l 6) = some { ver := c, es := [[.dat 1 (fc.map inC), .s fn, .i .i64 o1, .i .i64 o2, .b fd]], esz := 5, own := q, fixed := true }) ∧ ∀ m', m' < m → (cs2.getD (ks2.getD m' 0).toNat c0).kind = (cs.getD (fc.getD m' 0).toNat c0).kind) ?_ ?_ ?_
        · exact ⟨by simp [upd_at, q0], by simp [upd_at, q4], by simp [upd_at, q5], by simp [upd_at], by simp [upd_at], by simp [upd_at], ⟨(False ∧ AM.NoDat [.dat 1 (fc.map inC), .s fn, .i .i64 o1, .i .i64 o2, .b fd]), fun q => q.1, by simp [hup_at]⟩, fun m' hm' => absurd hm' (by omega)⟩
        · rintro m A'' hmf hA'' g h c'' ⟨q0, q4, q5, q6, q7, q8, ⟨q, nq, hh⟩, hbm⟩
          have hcm : (m : Int) < (fc.length : Int) := by omega
          have w4 : IntKind.i64.wrap ((m : Int) + 1) = ((m + 1 : Nat) : Int) := wnat1 (by omega)
          have hstm := upto_step (P := fun m' => (cs2.getD (ks2.getD m' 0).toNat c0).kind = (cs.getD (fc.getD m' 0).toNat c0).kind) hbm
          have hbm2 : ¬ (cs2.getD (ks2.getD m 0).toNat c0).kind = (cs.getD (fc.getD m 0).toNat c0).kind → tt P = false := fun ne => hbad fun q => ne ((hMd.1 q).2.2 m hmf)
          obtain ⟨y0, y1⟩ := hfr m hmf
          obtain ⟨z0, z1⟩ := hm2.2 m (by omega)
          have hg3 := mget (0 : Int) hmf
          have hg4 := mget (0 : Int) (show m < ks2.length by omega)
          generalize fc.getD m 0 = y at y0 y1 hg3 hstm hbm2
          generalize ks2.getD m 0 = z at z0 z1 hg4 hstm hbm2
          have hg5 := mget c0 y1
          have hg6 := mget c0 z1
          generalize cs.getD y.toNat c0 = a at hg5 hstm hbm2
          generalize cs2.getD z.toNat c0 = b at hg6 hstm hbm2
          obtain ⟨an, ak, ab, a1, a2, a3⟩ := a
          obtain ⟨bn, bk, bb, b1, b2, b3⟩ := b
          simp only at hstm hbm2
          simp -implicitDefEqProofs -dsimp only [q0, q4, q5, q6, q7, q8, hh, nq, hc, hcm, hg, hg2, hg3, hg4, hg5, hg6, y0, z0, h0, tbC, cls, ils, uns, cks, fkk, inC, clC, Nat.reduceLT, go_sem, ↓reduceIte, Nat.reduceEqDiff, Int.reduceLE, Int.reduceLT, Int.reduceNeg, Int.reduceEq, Int.reduceBEq, Int.reduceBNe, Nat.reduceMul, Nat.reduceAdd, Nat.reduceLeDiff, reduceCtorEq, Int.reduceToNat]
          by_cases e : ak = bk
          · have e' : (ak != bk) = false := by simp [e]
            simp -implicitDefEqProofs -dsimp only [e', q8, w4, go_sem, ↓reduceIte, Nat.reduceEqDiff, Int.reduceLE, Int.reduceLT, Int.reduceNeg, Int.reduceEq, Int.reduceBEq, Int.reduceBNe, Nat.reduceMul, Nat.reduceAdd, Nat.reduceLeDiff, reduceCtorEq, Int.reduceToNat]
            exact hA'' _ _ _ ⟨by simp [upd_at, q0], by simp [upd_at, q4], by simp [upd_at, q5], by simp [upd_at, q6], by simp [upd_at, q7], by simp [upd_at], ⟨q, nq, hh⟩, hstm e.symm⟩
          · have hf := hbm2 fun q => e q.symm
            simp -implicitDefEqProofs -dsimp only [knn e, go_sem, ↓reduceIte, Nat.reduceEqDiff, Int.reduceLE, Int.reduceLT, Int.reduceNeg, Int.reduceEq, Int.reduceBEq, Int.reduceBNe, Nat.reduceMul, Nat.reduceAdd, Nat.reduceLeDiff, reduceCtorEq, Int.reduceToNat]
            exact Fin_val (by simp [resV, upd_at, retA, hf]) (by simp [resV, upd_at, ResOk])
        · rintro A'' g h c'' ⟨q0, q4, q5, q6, q7, q8, ⟨q, nq, hh⟩, hbm⟩
          have hcm : ¬ (fc.length : Int) < (fc.length : Int) := by omega
          simp -implicitDefEqProofs -dsimp only [q0, q4, q5, q6, q7, q8, hh, nq, hcm, w3, go_sem, ↓reduceIte, Nat.reduceEqDiff, Int.reduceLE, Int.reduceLT, Int.reduceNeg, Int.reduceEq, Int.reduceBEq, Int.reduceBNe, Nat.reduceMul, Nat.reduceAdd, Nat.reduceLeDiff, reduceCtorEq, Int.reduceToNat]
          exact hA' _ _ _ ⟨by simp [upd_at, q0], by simp [upd_at, q4], by simp [upd_at], hstj (hMd.2 ⟨h0, h2, hbm⟩)⟩
      · rintro A' g h c ⟨q0, q4, q5, hbj⟩
        have hcj : ¬ (fs.length : Int) < (fs.length : Int) := by omega
        rw [List.take_length] at hbj
        simp -implicitDefEqProofs -dsimp only [q0, q4, q5, hc, hcj, hg, tbC, cls, ils, uns, cks, fkk, Nat.reduceLT, w2, go_sem, ↓reduceIte, Nat.reduceEqDiff, Int.reduceLE, Int.reduceLT, Int.reduceNeg, Int.reduceEq, Int.reduceBEq, Int.reduceBNe, Nat.reduceMul, Nat.reduceAdd, Nat.reduceLeDiff, reduceCtorEq, Int.reduceToNat]
        exact hA _ _ _ ⟨by simp [upd_at, q0], by simp [upd_at], hst hbj⟩
    · rintro A g h c ⟨q0, q4, hbt⟩
      have hc : ¬ (s.length : Int) < (s.length : Int) := by omega
      rw [List.take_length] at hbt
      have e : decide ((s.length : Int) ≤ 5) = tt P := by
        by_cases h5 : s.length ≤ 5
        · rw [tt_t (hdef.2 ⟨h5, hb, hbt⟩), decide_eq_true (by omega)]
        · rw [tt_f fun q => h5 (hdef.1 q).1, decide_eq_false (by omega)]
      simp -implicitDefEqProofs -dsimp only [q0, q4, hc, e, go_sem, ↓reduceIte, Nat.reduceEqDiff, Int.reduceLE, Int.reduceLT, Int.reduceNeg, Int.reduceEq, Int.reduceBEq, Int.reduceBNe, Nat.reduceMul, Nat.reduceAdd, Nat.reduceLeDiff, reduceCtorEq, Int.reduceToNat]
      exact Fin_val (by simp [resV, upd_at, retA]) (by simp [resV, upd_at, ResOk])
end FrA
end
