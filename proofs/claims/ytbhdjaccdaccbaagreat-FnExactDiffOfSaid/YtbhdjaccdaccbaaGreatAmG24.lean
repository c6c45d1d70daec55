/- Lists with weights; lists that are marked; measuring a list: the walk for every kind of elements. No condition. -/
import Derived.Test.YtbhdjaccdaccbaaGreatAmG20
import Derived.Test.YtbhdjaccdaccbaaGreatAmG23
import Derived.Test.YtbhdjaccdaccbaaGreatAmG18
set_option linter.all false
set_option linter.unusedSimpArgs false
set_option linter.unusedVariables false
set_option linter.deprecated false
/-! GnA -/
section
open Go Go.AM
namespace FrA
open Go.Proofs
set_option maxRecDepth 100000
set_option linter.unusedSimpArgs false
abbrev Lg (n : Nat) : Prop := n ≤ 9223372036854775807
def lefts (left n : Nat) : Int := if n ≤ left then ((left - n : Nat) : Int) else -1
theorem lefts_no {left n : Nat} (h : ¬ n ≤ left) : lefts left n = -1 := if_neg h
theorem lefts_yes {left n : Nat} (h : n ≤ left) : lefts left n = ((left - n : Nat) : Int) := if_pos h
theorem neg1 : ((-1 : Int) < 0) = True := by simp
theorem natneg (n : Nat) : (((n : Nat) : Int) < 0) = False := by simp
theorem wsub_yes {left n : Nat} (hl : left ≤ 1048576) (h : n ≤ left) : IntKind.i64.wrap ((left : Int) - (n : Int)) = ((left - n : Nat) : Int) := by rw [wr (by omega) (by omega)]; omega
theorem wsub_no {left n : Nat} (hl : left ≤ 1048576) (hn : Lg n) (h : ¬ n ≤ left) : IntKind.i64.wrap ((left : Int) - (n : Int)) = (left : Int) - (n : Int) := by
  unfold IntKind.wrap; simp [IntKind.signed, IntKind.bits]; omega
theorem wnat {n : Nat} (h : n ≤ 9000000000000000000) : IntKind.i64.wrap (n : Int) = (n : Int) := wr (by omega) (by omega)
theorem wnat1 {n : Nat} (h : n ≤ 8000000000000000000) : IntKind.i64.wrap ((n : Int) + 1) = ((n + 1 : Nat) : Int) := by rw [wr (by omega) (by omega)]; rfl
section
variable {α : Type}
/-- The weight of a list. -/
def wL (w : α → Nat) : List α → Nat
  | [] => 0
  | a :: l => w a + wL w l
theorem wL_app (w : α → Nat) : ∀ a b : List α, wL w (a ++ b) = wL w a + wL w b
  | [], b => by simp [wL]
  | v :: a, b => by simp [wL, wL_app w a b]; omega
theorem wL_succ (w : α → Nat) (d : α) {l : List α} {i : Nat} (h : i < l.length) : wL w (l.take (i + 1)) = wL w (l.take i) + w (l.getD i d) := by
  rw [mtake d h, wL_app]; simp [wL]
theorem wL_le (w : α → Nat) (l : List α) (i : Nat) : wL w (l.take i) ≤ wL w l := by
  conv => rhs; rw [← List.take_append_drop i l, wL_app]
  omega
theorem wL_mem (w : α → Nat) {a : α} : ∀ {l : List α}, a ∈ l → w a ≤ wL w l
  | b :: l, h => by
    rcases List.mem_cons.1 h with rfl | h
    · simp [wL]
    · have := wL_mem w h; simp [wL]; omega
/-- What a list measures: its elements, and itself. -/
def szL (σ : α → Nat) (l : List α) : Nat := l.length + wL σ l
/-- A list of elements with a condition, and not too long. -/
def LL (p : α → Prop) (l : List α) : Prop := Lg l.length ∧ ∀ a ∈ l, p a
/-- Marks in the order of the elements. -/
def mkL (w : α → Nat) (m : Nat → α → α) : Nat → List α → List α
  | _, [] => []
  | k, a :: l => m k a :: mkL w m (k + w a) l
theorem mkL_len (w : α → Nat) (m : Nat → α → α) : ∀ (k : Nat) (l : List α), (mkL w m k l).length = l.length
  | _, [] => rfl
  | k, a :: l => by simp [mkL, mkL_len w m _ l]
theorem mkL_app (w : α → Nat) (m : Nat → α → α) : ∀ (k : Nat) (a b : List α), mkL w m k (a ++ b) = mkL w m k a ++ mkL w m (k + wL w a) b
  | _, [], b => by simp [mkL, wL]
  | k, c :: a, b => by rw [List.cons_append, mkL, mkL_app w m (k + w c) a b, mkL, wL, List.cons_append, Nat.add_assoc]
theorem mkL_succ (w : α → Nat) (m : Nat → α → α) (d : α) {k : Nat} {l : List α} {i : Nat} (h : i < l.length) : mkL w m k (l.take (i + 1)) = mkL w m k (l.take i) ++ [m (k + wL w (l.take i)) (l.getD i d)] := by
  rw [mtake d h, mkL_app]; rfl
theorem mkL_get (w : α → Nat) (m : Nat → α → α) (d : α) {k : Nat} {l : List α} {i : Nat} (h : i < l.length) : (mkL w m k l).getD i d = m (k + wL w (l.take i)) (l.getD i d) := by
  have e : l = l.take i ++ l.getD i d :: l.drop (i + 1) := by
    rw [List.getD_eq_getElem?_getD, List.getElem?_eq_getElem h, Option.getD_some, ← List.drop_eq_getElem_cons h, List.take_append_drop]
  have hl : (mkL w m k (l.take i)).length = i := by rw [mkL_len, List.length_take]; omega
  have e2 : mkL w m k l = mkL w m k (l.take i) ++ m (k + wL w (l.take i)) (l.getD i d) :: mkL w m (k + wL w (l.take i) + w (l.getD i d)) (l.drop (i + 1)) := by
    conv => lhs; rw [e, mkL_app, mkL]
  rw [e2, List.getD_eq_getElem?_getD, List.getElem?_append_right (by omega), hl]; simp
theorem dropD {l : List α} {i : Nat} (d : α) (h : i < l.length) : l.drop i = l.getD i d :: l.drop (i + 1) := by
  rw [List.getD_eq_getElem?_getD, List.getElem?_eq_getElem h, Option.getD_some]; exact List.drop_eq_getElem_cons h
/-- The first i of new ones, and the rest as it was: one more. -/
theorem set_step (e : List α) {i : Nat} {l : List α} (he : e.length = i) (h : i < l.length) (y : α) : (e ++ l.drop i).set i y = e ++ [y] ++ l.drop (i + 1) := by
  rw [List.set_append, if_neg (by omega), he, Nat.sub_self, List.drop_eq_getElem_cons h, List.set_cons_zero, List.append_assoc]; rfl
theorem get_step (e : List α) {i : Nat} {l : List α} (d : α) (he : e.length = i) (h : i < l.length) : (e ++ l.drop i)[i]? = some (l.getD i d) := by
  rw [List.getElem?_append_right (by omega), he, Nat.sub_self, dropD d h]; rfl
end
theorem expL_pure {h : Heap} {os : List Rid} : ∀ {cs : List AV}, (∀ x ∈ cs, x.pure = true) → expL h os cs = cs
  | [], _ => rfl
  | x :: r, hp => by
    rw [expL, expL_pure fun y hy => hp y (List.mem_cons_of_mem _ hy)]
    have := hp x (by simp)
    congr 1
    cases x <;> simp_all [AV.pure, expA]
theorem ExpOk_pure {h : Heap} {os : List Rid} {cs : List AV} (hp : ∀ x ∈ cs, x.pure = true) : ExpOk h os (.agg cs) := by
  intro c hc
  have := hp c hc
  cases c <;> simp_all [AV.pure]
/-! ### bounds -/
def BDt (d : Dt) : Prop := d.length ≤ 1048576 ∧ ∀ r ∈ d, r.vals.length ≤ 1048576
def BDb (d : Db) : Prop := d.length ≤ 1048576 ∧ ∀ r ∈ d, BDt r
structure BTb (t : Tb) : Prop where
  b1 : t.cols.length ≤ 1048576
  b2 : t.key.length ≤ 1048576
  b3 : t.uniq.length ≤ 1048576
  b4 : ∀ u ∈ t.uniq, u.length ≤ 1048576
  b5 : t.chk.length ≤ 1048576
  b6 : ∀ u ∈ t.chk, u.length ≤ 1048576
  b7 : t.fks.length ≤ 1048576
  b8 : ∀ u ∈ t.fks, u.cols.length ≤ 1048576
def BTbs (l : List Tb) : Prop := l.length ≤ 1048576 ∧ ∀ t ∈ l, BTb t
/-! ### measuring a list -/
open Go.AM.L
def kSzS (z f : Nat) : K := .seq (R [o 4 (.mv (n 0))]) (.seq (R [m 6 1, m 7 0, o 8 (.len false (.t 7)), o 9 (.bin .sub (.t 6) (.t 8)), m 1 9]) (.seq (.seq (R [m 10 1, o 11 (.bin .lss (.t 10) (n 0))]) (.cond (.t 11) (.seq (R [o 4 (.mv (n (-1)))]) .ret) .skip)) (.seq (.seq (R [o 5 (.mv (n 0))]) (.block 0 (.loop (.seq (.seq (R [m 12 5, m 13 0, o 14 (.len false (.t 13)), o 15 (.bin .lss (.t 12) (.t 14))]) (.cond (.t 15) .skip (.exit 0))) (.seq (.block 1 (.seq (R [m 18 0, m 19 5, o 20 (.idx z (.t 18) (.t 19)), o 21 (.load true z (.t 20)), m 22 1, o 23 (.call (.f f) [.t 21, .t 22]), m 1 23]) (.seq (R [m 24 1, o 25 (.bin .lss (.t 24) (n 0))]) (.cond (.t 25) (.seq (R [o 4 (.mv (n (-1)))]) .ret) .skip)))) (R [m 16 5, o 17 (.bin .add (.t 16) (n 1)), m 5 17])))))) (.seq (R [m 26 1, m 4 26]) .ret))))
theorem szS_k {α : Type} (enc : α → List AV) (z f : Nat) (d : α) (σ : α → Nat) (G : α → Prop) (hz : ∀ a, (enc a).length = z ∧ (enc a).all AV.pure = true)
    (hf : ∀ a (left : Nat), left ≤ 1048576 → G a → HT f [.agg (enc a), i64 left] [] (i64 (lefts left (σ a))) true [])
    (l : List α) (left : Nat) (hl : left ≤ 1048576) (hg : LL G l) :
    RunK HC (kSzS z f) (.done (FinP [4] [] true fun r o' => r = i64 (lefts left (szL σ l)) ∧ o' = [])) (slots0 [.dat z (l.map enc), i64 left]) (objs []) 1 := by
  have hn := hg.1
  unfold kSzS szL
  by_cases h1 : l.length ≤ left
  · have w1 := wsub_yes hl h1
    simp -implicitDefEqProofs -dsimp only [w1, natneg, S_0, S_1, go_sem, ↓reduceIte, Nat.reduceEqDiff, Int.reduceLE, Int.reduceLT, Int.reduceNeg, Int.reduceEq, Int.reduceBEq, Int.reduceBNe, Nat.reduceMul, Nat.reduceAdd, Nat.reduceLeDiff, reduceCtorEq, Int.reduceToNat]
    refine K_loop (fun g h c => ∃ i : Nat, i ≤ l.length ∧ l.length + wL σ (l.take i) ≤ left ∧ g 0 = .dat z (l.map enc) ∧ g 1 = i64 (left - l.length - wL σ (l.take i) : Nat) ∧ g 5 = i64 i) (fun g _ _ => match g 5 with | .i _ n => l.length - n.toNat | _ => 0) ?_ ?_
    · exact ⟨0, by omega, by simp [wL]; omega, by simp [upd_at, S_0], by simp [upd_at, wL], by simp [upd_at]⟩
    · rintro A n hA g h c ⟨i, hi, hsz, q0, q1, q5⟩ hm
      by_cases hlt : i < l.length
      · have hc : (i : Int) < (l.length : Int) := by omega
        have w2 : IntKind.i64.wrap ((i : Int) + 1) = ((i + 1 : Nat) : Int) := wnat1 (by omega)
        have hf1 := hg.2 _ (mmem d hlt)
        have hs := wL_succ σ d hlt
        have hle := wL_le σ l (i + 1)
        have hg1 := mget d hlt
        generalize l.getD i d = cc at hf1 hs hg1
        have d1 := hf cc (left - l.length - wL σ (l.take i)) (by omega) hf1
        have hz1 := (hz cc).1
        have hz2 := (hz cc).2
        have tk : (enc cc).take z = enc cc := List.take_of_length_le (by omega)
        have pu : ∀ x ∈ enc cc, x.pure = true := List.all_eq_true.1 hz2
        simp -implicitDefEqProofs -dsimp only [q0, q1, q5, hc, hg1, hz1, tk, go_sem, ↓reduceIte, Nat.reduceEqDiff, Int.reduceLE, Int.reduceLT, Int.reduceNeg, Int.reduceEq, Int.reduceBEq, Int.reduceBNe, Nat.reduceMul, Nat.reduceAdd, Nat.reduceLeDiff, reduceCtorEq, Int.reduceToNat]
        refine Call_val (own := true) (by simpa [expL, expA, expL_pure pu] using d1) (by simp only [List.append_nil, List.mem_cons, List.not_mem_nil, or_false, forall_eq_or_imp, forall_eq]; exact ⟨ExpOk_pure pu, rfl⟩) (.inl rfl) ?_
        by_cases h2 : σ cc ≤ left - l.length - wL σ (l.take i)
        · rw [lefts_yes h2]
          simp -implicitDefEqProofs -dsimp only [q0, q5, natneg, w2, go_sem, ↓reduceIte, Nat.reduceEqDiff, Int.reduceLE, Int.reduceLT, Int.reduceNeg, Int.reduceEq, Int.reduceBEq, Int.reduceBNe, Nat.reduceMul, Nat.reduceAdd, Nat.reduceLeDiff, reduceCtorEq, Int.reduceToNat]
          refine hA _ _ _ ?_ ?_
          · refine ⟨i + 1, by omega, by omega, by simp [upd_at, q0], ?_, by simp [upd_at]⟩
            simp only [upd_at]
            exact congrArg i64 (congrArg Int.ofNat (by omega))
          · rw [q5] at hm; simp [upd_at] at hm ⊢; omega
        · rw [lefts_no h2]
          simp -implicitDefEqProofs -dsimp only [neg1, go_sem, ↓reduceIte, Nat.reduceEqDiff, Int.reduceLE, Int.reduceLT, Int.reduceNeg, Int.reduceEq, Int.reduceBEq, Int.reduceBNe, Nat.reduceMul, Nat.reduceAdd, Nat.reduceLeDiff, reduceCtorEq, Int.reduceToNat]
          exact Fin_val (by simp [resV, upd_at, retA, lefts_no (show ¬ l.length + wL σ l ≤ left by omega)]) (by simp [resV, upd_at, ResOk])
      · have hc : ¬ (i : Int) < (l.length : Int) := by omega
        rw [List.take_of_length_le (by omega)] at hsz q1
        simp -implicitDefEqProofs -dsimp only [q0, q1, q5, hc, go_sem, ↓reduceIte, Nat.reduceEqDiff, Int.reduceLE, Int.reduceLT, Int.reduceNeg, Int.reduceEq, Int.reduceBEq, Int.reduceBNe, Nat.reduceMul, Nat.reduceAdd, Nat.reduceLeDiff, reduceCtorEq, Int.reduceToNat]
        refine Fin_val ?_ (by simp [resV, upd_at, ResOk, q1])
        simp only [resV, upd_at, q1, retA, lefts_yes hsz]
        exact congrArg i64 (congrArg Int.ofNat (by omega))
  · have w1 := wsub_no hl hn h1
    have c1 : (left : Int) - (l.length : Int) < 0 := by omega
    simp -implicitDefEqProofs -dsimp only [w1, c1, S_0, S_1, go_sem, ↓reduceIte, Nat.reduceEqDiff, Int.reduceLE, Int.reduceLT, Int.reduceNeg, Int.reduceEq, Int.reduceBEq, Int.reduceBNe, Nat.reduceMul, Nat.reduceAdd, Nat.reduceLeDiff, reduceCtorEq, Int.reduceToNat]
    exact Fin_val (by simp [resV, upd_at, retA, lefts_no (show ¬ l.length + wL σ l ≤ left by omega)]) (by simp [resV, upd_at, ResOk])
end FrA
end
/-! SzA -/
section
open Go Go.AM
namespace FrA
open Go.Proofs
set_option maxRecDepth 100000
set_option linter.unusedSimpArgs false
def LgVl (v : Vl) : Prop := Lg v.2.2.length
def LgTk (t : Tk) : Prop := LgVl t.v
def LgCl (c : Cl) : Prop := Lg c.name.length ∧ LgVl c.dflt
def LgFk (f : Fk) : Prop := Lg f.cols.length ∧ Lg f.tab.length
def LgUn (u : List Int) : Prop := Lg u.length
def LgTb (t : Tb) : Prop := Lg t.name.length ∧ LL LgCl t.cols ∧ Lg t.key.length ∧ LL LgUn t.uniq ∧ LL (LL LgTk) t.chk ∧ LL LgFk t.fks
def LgRw (r : Rw) : Prop := LL LgVl r.vals
def LgTbs (s : List Tb) : Prop := LL LgTb s
def LgDb (db : Db) : Prop := LL (LL LgRw) db
def szVl (v : Vl) : Nat := v.2.2.length
def szTk (t : Tk) : Nat := szVl t.v
def szCl (c : Cl) : Nat := c.name.length + szVl c.dflt
def szUn (u : List Int) : Nat := u.length
def szCk (e : List Tk) : Nat := szL szTk e
def szFk (f : Fk) : Nat := f.cols.length + f.tab.length
def szTb (t : Tb) : Nat := t.name.length + szL szCl t.cols + t.key.length + szL szUn t.uniq + szL szCk t.chk + szL szFk t.fks
def szRw (r : Rw) : Nat := szL szVl r.vals
def szDt (d : Dt) : Nat := szL szRw d
def szDb (d : Db) : Nat := szL szDt d
def szTbs (s : List Tb) : Nat := szL szTb s
theorem h185 (v : Vl) (left : Nat) (hl : left ≤ 1048576) (hs : LgVl v) : HT 185 [.agg (vC v), i64 left] [] (i64 (lefts left (szVl v))) true [] := by
  refine holds_of (c := Tryz.f185.body.getD .skip) (k := k185.1) (ts := [4]) HOk mixedT hintT Tryz.func185 (by kernel_rfl) (by kernel_rfl) (by kernel_rfl) k185.2 (by kernel_rfl) (le_of 2 _ (by kernel_rfl)) ?_
  obtain ⟨a, b, s⟩ := v
  simp only [vC, szVl, LgVl] at hs ⊢
  by_cases h1 : s.length ≤ left
  · have w1 := wsub_yes hl h1
    simp -implicitDefEqProofs -dsimp only [k185, w1, natneg, go_sem, ↓reduceIte, Nat.reduceEqDiff, Int.reduceLE, Int.reduceLT, Int.reduceNeg, Int.reduceEq, Int.reduceBEq, Int.reduceBNe, Nat.reduceMul, Nat.reduceAdd, Nat.reduceLeDiff, reduceCtorEq, Int.reduceToNat]
    exact Fin_val (by simp [resV, upd_at, retA, lefts_yes h1]) (by simp [resV, upd_at, ResOk])
  · have w1 := wsub_no hl hs h1
    have c1 : (left : Int) - (s.length : Int) < 0 := by omega
    simp -implicitDefEqProofs -dsimp only [k185, w1, c1, go_sem, ↓reduceIte, Nat.reduceEqDiff, Int.reduceLE, Int.reduceLT, Int.reduceNeg, Int.reduceEq, Int.reduceBEq, Int.reduceBNe, Nat.reduceMul, Nat.reduceAdd, Nat.reduceLeDiff, reduceCtorEq, Int.reduceToNat]
    exact Fin_val (by simp [resV, upd_at, retA, lefts_no h1]) (by simp [resV, upd_at, ResOk])
theorem h147 (v : Cl) (left : Nat) (hl : left ≤ 1048576) (hs : LgCl v) : HT 147 [.agg (clC v), i64 left] [] (i64 (lefts left (szCl v))) true [] := by
  refine holds_of (c := Tryz.f147.body.getD .skip) (k := k147.1) (ts := [4]) HOk mixedT hintT Tryz.func147 (by kernel_rfl) (by kernel_rfl) (by kernel_rfl) k147.2 (by kernel_rfl) (le_of 2 _ (by kernel_rfl)) ?_
  obtain ⟨nm, k, nn, a, b, s⟩ := v
  simp only [clC, szCl, LgCl] at hs ⊢
  by_cases h1 : nm.length ≤ left
  · have w1 := wsub_yes hl h1
    have d1 := h185 (a, b, s) (left - nm.length) (by omega) hs.2
    simp only [szVl, vC] at d1 ⊢
    simp -implicitDefEqProofs -dsimp only [k147, w1, natneg, go_sem, ↓reduceIte, Nat.reduceEqDiff, Int.reduceLE, Int.reduceLT, Int.reduceNeg, Int.reduceEq, Int.reduceBEq, Int.reduceBNe, Nat.reduceMul, Nat.reduceAdd, Nat.reduceLeDiff, reduceCtorEq, Int.reduceToNat]
    refine Call_val (own := true) (d1) (by simp [ExpOk, AV.pure]) (.inl rfl) ?_
    by_cases h2 : s.length ≤ left - nm.length
    · rw [lefts_yes h2]
      simp -implicitDefEqProofs -dsimp only [natneg, go_sem, ↓reduceIte, Nat.reduceEqDiff, Int.reduceLE, Int.reduceLT, Int.reduceNeg, Int.reduceEq, Int.reduceBEq, Int.reduceBNe, Nat.reduceMul, Nat.reduceAdd, Nat.reduceLeDiff, reduceCtorEq, Int.reduceToNat]
      exact Fin_val (by simp [resV, upd_at, retA, lefts_yes (show nm.length + s.length ≤ left by omega)]; omega) (by simp [resV, upd_at, ResOk])
    · rw [lefts_no h2]
      simp -implicitDefEqProofs -dsimp only [neg1, go_sem, ↓reduceIte, Nat.reduceEqDiff, Int.reduceLE, Int.reduceLT, Int.reduceNeg, Int.reduceEq, Int.reduceBEq, Int.reduceBNe, Nat.reduceMul, Nat.reduceAdd, Nat.reduceLeDiff, reduceCtorEq, Int.reduceToNat]
      exact Fin_val (by simp [resV, upd_at, retA, lefts_no (show ¬ nm.length + s.length ≤ left by omega)]) (by simp [resV, upd_at, ResOk])
  · have w1 := wsub_no hl hs.1 h1
    have c1 : (left : Int) - (nm.length : Int) < 0 := by omega
    simp -implicitDefEqProofs -dsimp only [k147, w1, c1, go_sem, ↓reduceIte, Nat.reduceEqDiff, Int.reduceLE, Int.reduceLT, Int.reduceNeg, Int.reduceEq, Int.reduceBEq, Int.reduceBNe, Nat.reduceMul, Nat.reduceAdd, Nat.reduceLeDiff, reduceCtorEq, Int.reduceToNat]
    simp only [szVl]
    exact Fin_val (by simp [resV, upd_at, retA, lefts_no (show ¬ nm.length + s.length ≤ left by omega)]) (by simp [resV, upd_at, ResOk])
theorem h94 (l : List Int) (left : Nat) (hl : left ≤ 1048576) (hs : Lg l.length) : HT 94 [ils l, i64 left] [] (i64 (lefts left l.length)) true [] := by
  refine holds_of (c := Tryz.f94.body.getD .skip) (k := k94.1) (ts := [4]) HOk mixedT hintT Tryz.func94 (by kernel_rfl) (by kernel_rfl) (by kernel_rfl) k94.2 (by kernel_rfl) (le_of 2 _ (by kernel_rfl)) ?_
  unfold ils
  by_cases h1 : l.length ≤ left
  · have w1 := wsub_yes hl h1
    simp -implicitDefEqProofs -dsimp only [k94, w1, natneg, go_sem, ↓reduceIte, Nat.reduceEqDiff, Int.reduceLE, Int.reduceLT, Int.reduceNeg, Int.reduceEq, Int.reduceBEq, Int.reduceBNe, Nat.reduceMul, Nat.reduceAdd, Nat.reduceLeDiff, reduceCtorEq, Int.reduceToNat]
    exact Fin_val (by simp [resV, upd_at, retA, lefts_yes h1]) (by simp [resV, upd_at, ResOk])
  · have w1 := wsub_no hl hs h1
    have c1 : (left : Int) - (l.length : Int) < 0 := by omega
    simp -implicitDefEqProofs -dsimp only [k94, w1, c1, go_sem, ↓reduceIte, Nat.reduceEqDiff, Int.reduceLE, Int.reduceLT, Int.reduceNeg, Int.reduceEq, Int.reduceBEq, Int.reduceBNe, Nat.reduceMul, Nat.reduceAdd, Nat.reduceLeDiff, reduceCtorEq, Int.reduceToNat]
    exact Fin_val (by simp [resV, upd_at, retA, lefts_no h1]) (by simp [resV, upd_at, ResOk])
theorem h148 (v : List Int) (left : Nat) (hl : left ≤ 1048576) (hs : LgUn v) : HT 148 [.agg (unC v), i64 left] [] (i64 (lefts left (szUn v))) true [] := by
  refine holds_of (c := Tryz.f148.body.getD .skip) (k := k148.1) (ts := [4]) HOk mixedT hintT Tryz.func148 (by kernel_rfl) (by kernel_rfl) (by kernel_rfl) k148.2 (by kernel_rfl) (le_of 2 _ (by kernel_rfl)) ?_
  have d1 := h94 v left hl hs
  unfold unC szUn
  unfold ils at d1 ⊢
  simp -implicitDefEqProofs -dsimp only [k148, go_sem, ↓reduceIte, Nat.reduceEqDiff, Int.reduceLE, Int.reduceLT, Int.reduceNeg, Int.reduceEq, Int.reduceBEq, Int.reduceBNe, Nat.reduceMul, Nat.reduceAdd, Nat.reduceLeDiff, reduceCtorEq, Int.reduceToNat]
  refine Call_val (own := true) (d1) (by simp [ExpOk, AV.pure]) (.inl rfl) ?_
  by_cases h2 : v.length ≤ left
  · rw [lefts_yes h2]
    simp -implicitDefEqProofs -dsimp only [natneg, go_sem, ↓reduceIte, Nat.reduceEqDiff, Int.reduceLE, Int.reduceLT, Int.reduceNeg, Int.reduceEq, Int.reduceBEq, Int.reduceBNe, Nat.reduceMul, Nat.reduceAdd, Nat.reduceLeDiff, reduceCtorEq, Int.reduceToNat]
    exact Fin_val (by simp [resV, upd_at, retA]) (by simp [resV, upd_at, ResOk])
  · rw [lefts_no h2]
    simp -implicitDefEqProofs -dsimp only [neg1, go_sem, ↓reduceIte, Nat.reduceEqDiff, Int.reduceLE, Int.reduceLT, Int.reduceNeg, Int.reduceEq, Int.reduceBEq, Int.reduceBNe, Nat.reduceMul, Nat.reduceAdd, Nat.reduceLeDiff, reduceCtorEq, Int.reduceToNat]
    exact Fin_val (by simp [resV, upd_at, retA]) (by simp [resV, upd_at, ResOk])
theorem h246 (v : Tk) (left : Nat) (hl : left ≤ 1048576) (hs : LgTk v) : HT 246 [.agg (tkC v), i64 left] [] (i64 (lefts left (szTk v))) true [] := by
  refine holds_of (c := Tryz.f246.body.getD .skip) (k := k246.1) (ts := [4]) HOk mixedT hintT Tryz.func246 (by kernel_rfl) (by kernel_rfl) (by kernel_rfl) k246.2 (by kernel_rfl) (le_of 2 _ (by kernel_rfl)) ?_
  obtain ⟨k, c, a, b, s⟩ := v
  have d1 := h185 (a, b, s) left hl hs
  simp only [tkC, vC, szTk, szVl] at d1 ⊢
  simp -implicitDefEqProofs -dsimp only [k246, go_sem, ↓reduceIte, Nat.reduceEqDiff, Int.reduceLE, Int.reduceLT, Int.reduceNeg, Int.reduceEq, Int.reduceBEq, Int.reduceBNe, Nat.reduceMul, Nat.reduceAdd, Nat.reduceLeDiff, reduceCtorEq, Int.reduceToNat]
  refine Call_val (own := true) (d1) (by simp [ExpOk, AV.pure]) (.inl rfl) ?_
  by_cases h2 : s.length ≤ left
  · rw [lefts_yes h2]
    simp -implicitDefEqProofs -dsimp only [natneg, go_sem, ↓reduceIte, Nat.reduceEqDiff, Int.reduceLE, Int.reduceLT, Int.reduceNeg, Int.reduceEq, Int.reduceBEq, Int.reduceBNe, Nat.reduceMul, Nat.reduceAdd, Nat.reduceLeDiff, reduceCtorEq, Int.reduceToNat]
    exact Fin_val (by simp [resV, upd_at, retA]) (by simp [resV, upd_at, ResOk])
  · rw [lefts_no h2]
    simp -implicitDefEqProofs -dsimp only [neg1, go_sem, ↓reduceIte, Nat.reduceEqDiff, Int.reduceLE, Int.reduceLT, Int.reduceNeg, Int.reduceEq, Int.reduceBEq, Int.reduceBNe, Nat.reduceMul, Nat.reduceAdd, Nat.reduceLeDiff, reduceCtorEq, Int.reduceToNat]
    exact Fin_val (by simp [resV, upd_at, retA]) (by simp [resV, upd_at, ResOk])
theorem h212 (l : List Tk) (left : Nat) (hl : left ≤ 1048576) (hg : LL LgTk l) : HT 212 [tks l, i64 left] [] (i64 (lefts left (szL szTk l))) true [] := by
  refine holds_of (c := Tryz.f212.body.getD .skip) (k := k212.1) (ts := [4]) HOk mixedT hintT Tryz.func212 (by kernel_rfl) (by kernel_rfl) (by kernel_rfl) k212.2 (by kernel_rfl) (le_of 2 _ (by kernel_rfl)) ?_
  exact szS_k tkC 5 246 k0 szTk LgTk (fun _ => ⟨rfl, rfl⟩) h246 l left hl hg
theorem h149 (v : List Tk) (left : Nat) (hl : left ≤ 1048576) (hs : LL LgTk v) : HT 149 [.agg (ckC v), i64 left] [] (i64 (lefts left (szCk v))) true [] := by
  refine holds_of (c := Tryz.f149.body.getD .skip) (k := k149.1) (ts := [4]) HOk mixedT hintT Tryz.func149 (by kernel_rfl) (by kernel_rfl) (by kernel_rfl) k149.2 (by kernel_rfl) (le_of 2 _ (by kernel_rfl)) ?_
  have d1 := h212 v left hl hs
  unfold ckC szCk
  unfold tks at d1 ⊢
  simp -implicitDefEqProofs -dsimp only [k149, go_sem, ↓reduceIte, Nat.reduceEqDiff, Int.reduceLE, Int.reduceLT, Int.reduceNeg, Int.reduceEq, Int.reduceBEq, Int.reduceBNe, Nat.reduceMul, Nat.reduceAdd, Nat.reduceLeDiff, reduceCtorEq, Int.reduceToNat]
  refine Call_val (own := true) (d1) (by simp [ExpOk, AV.pure]) (.inl rfl) ?_
  by_cases h2 : szL szTk v ≤ left
  · rw [lefts_yes h2]
    simp -implicitDefEqProofs -dsimp only [natneg, go_sem, ↓reduceIte, Nat.reduceEqDiff, Int.reduceLE, Int.reduceLT, Int.reduceNeg, Int.reduceEq, Int.reduceBEq, Int.reduceBNe, Nat.reduceMul, Nat.reduceAdd, Nat.reduceLeDiff, reduceCtorEq, Int.reduceToNat]
    exact Fin_val (by simp [resV, upd_at, retA]) (by simp [resV, upd_at, ResOk])
  · rw [lefts_no h2]
    simp -implicitDefEqProofs -dsimp only [neg1, go_sem, ↓reduceIte, Nat.reduceEqDiff, Int.reduceLE, Int.reduceLT, Int.reduceNeg, Int.reduceEq, Int.reduceBEq, Int.reduceBNe, Nat.reduceMul, Nat.reduceAdd, Nat.reduceLeDiff, reduceCtorEq, Int.reduceToNat]
    exact Fin_val (by simp [resV, upd_at, retA]) (by simp [resV, upd_at, ResOk])
theorem h150 (v : Fk) (left : Nat) (hl : left ≤ 1048576) (hs : LgFk v) : HT 150 [.agg (fkC v), i64 left] [] (i64 (lefts left (szFk v))) true [] := by
  refine holds_of (c := Tryz.f150.body.getD .skip) (k := k150.1) (ts := [4]) HOk mixedT hintT Tryz.func150 (by kernel_rfl) (by kernel_rfl) (by kernel_rfl) k150.2 (by kernel_rfl) (le_of 2 _ (by kernel_rfl)) ?_
  obtain ⟨cs, nm, x, y, z⟩ := v
  have d1 := h94 cs left hl hs.1
  have hs2 : Lg nm.length := hs.2
  simp only [fkC, szFk]
  unfold ils at d1 ⊢
  simp -implicitDefEqProofs -dsimp only [k150, go_sem, ↓reduceIte, Nat.reduceEqDiff, Int.reduceLE, Int.reduceLT, Int.reduceNeg, Int.reduceEq, Int.reduceBEq, Int.reduceBNe, Nat.reduceMul, Nat.reduceAdd, Nat.reduceLeDiff, reduceCtorEq, Int.reduceToNat]
  refine Call_val (own := true) (d1) (by simp [ExpOk, AV.pure]) (.inl rfl) ?_
  by_cases h2 : cs.length ≤ left
  · rw [lefts_yes h2]
    by_cases h1 : nm.length ≤ left - cs.length
    · have w1 := wsub_yes (left := left - cs.length) (by omega) h1
      simp -implicitDefEqProofs -dsimp only [natneg, w1, go_sem, ↓reduceIte, Nat.reduceEqDiff, Int.reduceLE, Int.reduceLT, Int.reduceNeg, Int.reduceEq, Int.reduceBEq, Int.reduceBNe, Nat.reduceMul, Nat.reduceAdd, Nat.reduceLeDiff, reduceCtorEq, Int.reduceToNat]
      exact Fin_val (by simp [resV, upd_at, retA, lefts_yes (show cs.length + nm.length ≤ left by omega)]; omega) (by simp [resV, upd_at, ResOk])
    · have w1 := wsub_no (left := left - cs.length) (by omega) hs2 h1
      have c1 : ((left - cs.length : Nat) : Int) - (nm.length : Int) < 0 := by omega
      simp -implicitDefEqProofs -dsimp only [natneg, w1, c1, go_sem, ↓reduceIte, Nat.reduceEqDiff, Int.reduceLE, Int.reduceLT, Int.reduceNeg, Int.reduceEq, Int.reduceBEq, Int.reduceBNe, Nat.reduceMul, Nat.reduceAdd, Nat.reduceLeDiff, reduceCtorEq, Int.reduceToNat]
      exact Fin_val (by simp [resV, upd_at, retA, lefts_no (show ¬ cs.length + nm.length ≤ left by omega)]) (by simp [resV, upd_at, ResOk])
  · rw [lefts_no h2]
    simp -implicitDefEqProofs -dsimp only [neg1, go_sem, ↓reduceIte, Nat.reduceEqDiff, Int.reduceLE, Int.reduceLT, Int.reduceNeg, Int.reduceEq, Int.reduceBEq, Int.reduceBNe, Nat.reduceMul, Nat.reduceAdd, Nat.reduceLeDiff, reduceCtorEq, Int.reduceToNat]
    exact Fin_val (by simp [resV, upd_at, retA, lefts_no (show ¬ cs.length + nm.length ≤ left by omega)]) (by simp [resV, upd_at, ResOk])
theorem h93 (l : List Cl) (left : Nat) (hl : left ≤ 1048576) (hg : LL LgCl l) : HT 93 [cls l, i64 left] [] (i64 (lefts left (szL szCl l))) true [] := by
  refine holds_of (c := Tryz.f93.body.getD .skip) (k := k93.1) (ts := [4]) HOk mixedT hintT Tryz.func93 (by kernel_rfl) (by kernel_rfl) (by kernel_rfl) k93.2 (by kernel_rfl) (le_of 2 _ (by kernel_rfl)) ?_
  exact szS_k clC 6 147 c0 szCl LgCl (fun _ => ⟨rfl, rfl⟩) h147 l left hl hg
theorem h95 (l : List (List Int)) (left : Nat) (hl : left ≤ 1048576) (hg : LL LgUn l) : HT 95 [uns l, i64 left] [] (i64 (lefts left (szL szUn l))) true [] := by
  refine holds_of (c := Tryz.f95.body.getD .skip) (k := k95.1) (ts := [4]) HOk mixedT hintT Tryz.func95 (by kernel_rfl) (by kernel_rfl) (by kernel_rfl) k95.2 (by kernel_rfl) (le_of 2 _ (by kernel_rfl)) ?_
  exact szS_k unC 1 148 [] szUn LgUn (fun _ => ⟨rfl, rfl⟩) h148 l left hl hg
theorem h96 (l : List (List Tk)) (left : Nat) (hl : left ≤ 1048576) (hg : LL (LL LgTk) l) : HT 96 [cks l, i64 left] [] (i64 (lefts left (szL szCk l))) true [] := by
  refine holds_of (c := Tryz.f96.body.getD .skip) (k := k96.1) (ts := [4]) HOk mixedT hintT Tryz.func96 (by kernel_rfl) (by kernel_rfl) (by kernel_rfl) k96.2 (by kernel_rfl) (le_of 2 _ (by kernel_rfl)) ?_
  exact szS_k ckC 1 149 [] szCk (LL LgTk) (fun _ => ⟨rfl, rfl⟩) h149 l left hl hg
theorem h97 (l : List Fk) (left : Nat) (hl : left ≤ 1048576) (hg : LL LgFk l) : HT 97 [fkk l, i64 left] [] (i64 (lefts left (szL szFk l))) true [] := by
  refine holds_of (c := Tryz.f97.body.getD .skip) (k := k97.1) (ts := [4]) HOk mixedT hintT Tryz.func97 (by kernel_rfl) (by kernel_rfl) (by kernel_rfl) k97.2 (by kernel_rfl) (le_of 2 _ (by kernel_rfl)) ?_
  exact szS_k fkC 5 150 f0 szFk LgFk (fun _ => ⟨rfl, rfl⟩) h150 l left hl hg
theorem h131 (l : List Vl) (left : Nat) (hl : left ≤ 1048576) (hg : LL LgVl l) : HT 131 [vls l, i64 left] [] (i64 (lefts left (szL szVl l))) true [] := by
  refine holds_of (c := Tryz.f131.body.getD .skip) (k := k131.1) (ts := [4]) HOk mixedT hintT Tryz.func131 (by kernel_rfl) (by kernel_rfl) (by kernel_rfl) k131.2 (by kernel_rfl) (le_of 2 _ (by kernel_rfl)) ?_
  exact szS_k vC 3 185 v0 szVl LgVl (fun _ => ⟨rfl, rfl⟩) h185 l left hl hg
theorem h151 (v : Rw) (left : Nat) (hl : left ≤ 1048576) (hs : LgRw v) : HT 151 [.agg (rwC v), i64 left] [] (i64 (lefts left (szRw v))) true [] := by
  refine holds_of (c := Tryz.f151.body.getD .skip) (k := k151.1) (ts := [4]) HOk mixedT hintT Tryz.func151 (by kernel_rfl) (by kernel_rfl) (by kernel_rfl) k151.2 (by kernel_rfl) (le_of 2 _ (by kernel_rfl)) ?_
  have d1 := h131 v.vals left hl hs
  unfold rwC szRw
  unfold vls at d1 ⊢
  simp -implicitDefEqProofs -dsimp only [k151, go_sem, ↓reduceIte, Nat.reduceEqDiff, Int.reduceLE, Int.reduceLT, Int.reduceNeg, Int.reduceEq, Int.reduceBEq, Int.reduceBNe, Nat.reduceMul, Nat.reduceAdd, Nat.reduceLeDiff, reduceCtorEq, Int.reduceToNat]
  refine Call_val (own := true) (d1) (by simp [ExpOk, AV.pure]) (.inl rfl) ?_
  by_cases h2 : szL szVl v.vals ≤ left
  · rw [lefts_yes h2]
    simp -implicitDefEqProofs -dsimp only [natneg, go_sem, ↓reduceIte, Nat.reduceEqDiff, Int.reduceLE, Int.reduceLT, Int.reduceNeg, Int.reduceEq, Int.reduceBEq, Int.reduceBNe, Nat.reduceMul, Nat.reduceAdd, Nat.reduceLeDiff, reduceCtorEq, Int.reduceToNat]
    exact Fin_val (by simp [resV, upd_at, retA]) (by simp [resV, upd_at, ResOk])
  · rw [lefts_no h2]
    simp -implicitDefEqProofs -dsimp only [neg1, go_sem, ↓reduceIte, Nat.reduceEqDiff, Int.reduceLE, Int.reduceLT, Int.reduceNeg, Int.reduceEq, Int.reduceBEq, Int.reduceBNe, Nat.reduceMul, Nat.reduceAdd, Nat.reduceLeDiff, reduceCtorEq, Int.reduceToNat]
    exact Fin_val (by simp [resV, upd_at, retA]) (by simp [resV, upd_at, ResOk])
theorem h98 (l : List Rw) (left : Nat) (hl : left ≤ 1048576) (hg : LL LgRw l) : HT 98 [rws l, i64 left] [] (i64 (lefts left (szL szRw l))) true [] := by
  refine holds_of (c := Tryz.f98.body.getD .skip) (k := k98.1) (ts := [4]) HOk mixedT hintT Tryz.func98 (by kernel_rfl) (by kernel_rfl) (by kernel_rfl) k98.2 (by kernel_rfl) (le_of 2 _ (by kernel_rfl)) ?_
  exact szS_k rwC 2 151 r0 szRw LgRw (fun _ => ⟨rfl, rfl⟩) h151 l left hl hg
theorem h37 (v : Dt) (left : Nat) (hl : left ≤ 1048576) (hs : LL LgRw v) : HT 37 [.agg (dtC v), i64 left] [] (i64 (lefts left (szDt v))) true [] := by
  refine holds_of (c := Tryz.f37.body.getD .skip) (k := k37.1) (ts := [4]) HOk mixedT hintT Tryz.func37 (by kernel_rfl) (by kernel_rfl) (by kernel_rfl) k37.2 (by kernel_rfl) (le_of 2 _ (by kernel_rfl)) ?_
  have d1 := h98 v left hl hs
  unfold dtC szDt
  unfold rws at d1 ⊢
  simp -implicitDefEqProofs -dsimp only [k37, go_sem, ↓reduceIte, Nat.reduceEqDiff, Int.reduceLE, Int.reduceLT, Int.reduceNeg, Int.reduceEq, Int.reduceBEq, Int.reduceBNe, Nat.reduceMul, Nat.reduceAdd, Nat.reduceLeDiff, reduceCtorEq, Int.reduceToNat]
  refine Call_val (own := true) (d1) (by simp [ExpOk, AV.pure]) (.inl rfl) ?_
  by_cases h2 : szL szRw v ≤ left
  · rw [lefts_yes h2]
    simp -implicitDefEqProofs -dsimp only [natneg, go_sem, ↓reduceIte, Nat.reduceEqDiff, Int.reduceLE, Int.reduceLT, Int.reduceNeg, Int.reduceEq, Int.reduceBEq, Int.reduceBNe, Nat.reduceMul, Nat.reduceAdd, Nat.reduceLeDiff, reduceCtorEq, Int.reduceToNat]
    exact Fin_val (by simp [resV, upd_at, retA]) (by simp [resV, upd_at, ResOk])
  · rw [lefts_no h2]
    simp -implicitDefEqProofs -dsimp only [neg1, go_sem, ↓reduceIte, Nat.reduceEqDiff, Int.reduceLE, Int.reduceLT, Int.reduceNeg, Int.reduceEq, Int.reduceBEq, Int.reduceBNe, Nat.reduceMul, Nat.reduceAdd, Nat.reduceLeDiff, reduceCtorEq, Int.reduceToNat]
    exact Fin_val (by simp [resV, upd_at, retA]) (by simp [resV, upd_at, ResOk])
theorem h10 (l : Db) (left : Nat) (hl : left ≤ 1048576) (hg : LgDb l) : HT 10 [dbs l, i64 left] [] (i64 (lefts left (szDb l))) true [] := by
  refine holds_of (c := Tryz.f10.body.getD .skip) (k := k10.1) (ts := [4]) HOk mixedT hintT Tryz.func10 (by kernel_rfl) (by kernel_rfl) (by kernel_rfl) k10.2 (by kernel_rfl) (le_of 2 _ (by kernel_rfl)) ?_
  exact szS_k dtC 1 37 [] szDt (LL LgRw) (fun _ => ⟨rfl, rfl⟩) h37 l left hl hg
theorem h36 (t : Tb) (left : Nat) (hl : left ≤ 1048576) (hs : LgTb t) : HT 36 [.agg (tbC t), i64 left] [] (i64 (lefts left (szTb t))) true [] := by
  refine holds_of (c := Tryz.f36.body.getD .skip) (k := k36.1) (ts := [4]) HOk mixedT hintT Tryz.func36 (by kernel_rfl) (by kernel_rfl) (by kernel_rfl) k36.2 (by kernel_rfl) (le_of 2 _ (by kernel_rfl)) ?_
  obtain ⟨nm, cs, ks, us, es, fs⟩ := t
  obtain ⟨g0, g1, g2, g3, g4, g5⟩ := hs
  simp only at g0 g1 g2 g3 g4 g5
  simp only [tbC, szTb]
  have d1 := fun l hl => h93 cs l hl g1
  have d2 := fun l hl => h94 ks l hl g2
  have d3 := fun l hl => h95 us l hl g3
  have d4 := fun l hl => h96 es l hl g4
  have d5 := fun l hl => h97 fs l hl g5
  generalize szL szCl cs = n1 at d1 ⊢
  generalize ks.length = n2 at d2 ⊢
  generalize szL szUn us = n3 at d3 ⊢
  generalize szL szCk es = n4 at d4 ⊢
  generalize szL szFk fs = n5 at d5 ⊢
  unfold cls at d1 ⊢
  unfold ils at d2 ⊢
  unfold uns at d3 ⊢
  unfold cks at d4 ⊢
  unfold fkk at d5 ⊢
  by_cases h1 : nm.length ≤ left
  · have w1 := wsub_yes hl h1
    simp -implicitDefEqProofs -dsimp only [k36, w1, natneg, go_sem, ↓reduceIte, Nat.reduceEqDiff, Int.reduceLE, Int.reduceLT, Int.reduceNeg, Int.reduceEq, Int.reduceBEq, Int.reduceBNe, Nat.reduceMul, Nat.reduceAdd, Nat.reduceLeDiff, reduceCtorEq, Int.reduceToNat]
    refine Call_val (own := true) (d1 (left - nm.length) (by omega)) (by simp [ExpOk, AV.pure]) (.inl rfl) ?_
    by_cases h2 : n1 ≤ left - nm.length
    · rw [lefts_yes h2]
      simp -implicitDefEqProofs -dsimp only [natneg, go_sem, ↓reduceIte, Nat.reduceEqDiff, Int.reduceLE, Int.reduceLT, Int.reduceNeg, Int.reduceEq, Int.reduceBEq, Int.reduceBNe, Nat.reduceMul, Nat.reduceAdd, Nat.reduceLeDiff, reduceCtorEq, Int.reduceToNat]
      refine Call_val (own := true) (d2 (left - nm.length - n1) (by omega)) (by simp [ExpOk, AV.pure]) (.inl rfl) ?_
      by_cases h3 : n2 ≤ left - nm.length - n1
      · rw [lefts_yes h3]
        simp -implicitDefEqProofs -dsimp only [natneg, go_sem, ↓reduceIte, Nat.reduceEqDiff, Int.reduceLE, Int.reduceLT, Int.reduceNeg, Int.reduceEq, Int.reduceBEq, Int.reduceBNe, Nat.reduceMul, Nat.reduceAdd, Nat.reduceLeDiff, reduceCtorEq, Int.reduceToNat]
        refine Call_val (own := true) (d3 (left - nm.length - n1 - n2) (by omega)) (by simp [ExpOk, AV.pure]) (.inl rfl) ?_
        by_cases h4 : n3 ≤ left - nm.length - n1 - n2
        · rw [lefts_yes h4]
          simp -implicitDefEqProofs -dsimp only [natneg, go_sem, ↓reduceIte, Nat.reduceEqDiff, Int.reduceLE, Int.reduceLT, Int.reduceNeg, Int.reduceEq, Int.reduceBEq, Int.reduceBNe, Nat.reduceMul, Nat.reduceAdd, Nat.reduceLeDiff, reduceCtorEq, Int.reduceToNat]
          refine Call_val (own := true) (d4 (left - nm.length - n1 - n2 - n3) (by omega)) (by simp [ExpOk, AV.pure]) (.inl rfl) ?_
          by_cases h5 : n4 ≤ left - nm.length - n1 - n2 - n3
          · rw [lefts_yes h5]
            simp -implicitDefEqProofs -dsimp only [natneg, go_sem, ↓reduceIte, Nat.reduceEqDiff, Int.reduceLE, Int.reduceLT, Int.reduceNeg, Int.reduceEq, Int.reduceBEq, Int.reduceBNe, Nat.reduceMul, Nat.reduceAdd, Nat.reduceLeDiff, reduceCtorEq, Int.reduceToNat]
            refine Call_val (own := true) (d5 (left - nm.length - n1 - n2 - n3 - n4) (by omega)) (by simp [ExpOk, AV.pure]) (.inl rfl) ?_
            by_cases h6 : n5 ≤ left - nm.length - n1 - n2 - n3 - n4
            · rw [lefts_yes h6]
              simp -implicitDefEqProofs -dsimp only [natneg, go_sem, ↓reduceIte, Nat.reduceEqDiff, Int.reduceLE, Int.reduceLT, Int.reduceNeg, Int.reduceEq, Int.reduceBEq, Int.reduceBNe, Nat.reduceMul, Nat.reduceAdd, Nat.reduceLeDiff, reduceCtorEq, Int.reduceToNat]
              exact Fin_val (by simp [resV, upd_at, retA, lefts_yes (show nm.length + n1 + n2 + n3 + n4 + n5 ≤ left by omega)]; omega) (by simp [resV, upd_at, ResOk])
            · rw [lefts_no h6]
              simp -implicitDefEqProofs -dsimp only [neg1, go_sem, ↓reduceIte, Nat.reduceEqDiff, Int.reduceLE, Int.reduceLT, Int.reduceNeg, Int.reduceEq, Int.reduceBEq, Int.reduceBNe, Nat.reduceMul, Nat.reduceAdd, Nat.reduceLeDiff, reduceCtorEq, Int.reduceToNat]
              exact Fin_val (by simp [resV, upd_at, retA, lefts_no (show ¬ nm.length + n1 + n2 + n3 + n4 + n5 ≤ left by omega)]) (by simp [resV, upd_at, ResOk])
          · rw [lefts_no h5]
            simp -implicitDefEqProofs -dsimp only [neg1, go_sem, ↓reduceIte, Nat.reduceEqDiff, Int.reduceLE, Int.reduceLT, Int.reduceNeg, Int.reduceEq, Int.reduceBEq, Int.reduceBNe, Nat.reduceMul, Nat.reduceAdd, Nat.reduceLeDiff, reduceCtorEq, Int.reduceToNat]
            exact Fin_val (by simp [resV, upd_at, retA, lefts_no (show ¬ nm.length + n1 + n2 + n3 + n4 + n5 ≤ left by omega)]) (by simp [resV, upd_at, ResOk])
        · rw [lefts_no h4]
          simp -implicitDefEqProofs -dsimp only [neg1, go_sem, ↓reduceIte, Nat.reduceEqDiff, Int.reduceLE, Int.reduceLT, Int.reduceNeg, Int.reduceEq, Int.reduceBEq, Int.reduceBNe, Nat.reduceMul, Nat.reduceAdd, Nat.reduceLeDiff, reduceCtorEq, Int.reduceToNat]
          exact Fin_val (by simp [resV, upd_at, retA, lefts_no (show ¬ nm.length + n1 + n2 + n3 + n4 + n5 ≤ left by omega)]) (by simp [resV, upd_at, ResOk])
      · rw [lefts_no h3]
        simp -implicitDefEqProofs -dsimp only [neg1, go_sem, ↓reduceIte, Nat.reduceEqDiff, Int.reduceLE, Int.reduceLT, Int.reduceNeg, Int.reduceEq, Int.reduceBEq, Int.reduceBNe, Nat.reduceMul, Nat.reduceAdd, Nat.reduceLeDiff, reduceCtorEq, Int.reduceToNat]
        exact Fin_val (by simp [resV, upd_at, retA, lefts_no (show ¬ nm.length + n1 + n2 + n3 + n4 + n5 ≤ left by omega)]) (by simp [resV, upd_at, ResOk])
    · rw [lefts_no h2]
      simp -implicitDefEqProofs -dsimp only [neg1, go_sem, ↓reduceIte, Nat.reduceEqDiff, Int.reduceLE, Int.reduceLT, Int.reduceNeg, Int.reduceEq, Int.reduceBEq, Int.reduceBNe, Nat.reduceMul, Nat.reduceAdd, Nat.reduceLeDiff, reduceCtorEq, Int.reduceToNat]
      exact Fin_val (by simp [resV, upd_at, retA, lefts_no (show ¬ nm.length + n1 + n2 + n3 + n4 + n5 ≤ left by omega)]) (by simp [resV, upd_at, ResOk])
  · have w1 := wsub_no hl g0 h1
    have c1 : (left : Int) - (nm.length : Int) < 0 := by omega
    simp -implicitDefEqProofs -dsimp only [k36, w1, c1, go_sem, ↓reduceIte, Nat.reduceEqDiff, Int.reduceLE, Int.reduceLT, Int.reduceNeg, Int.reduceEq, Int.reduceBEq, Int.reduceBNe, Nat.reduceMul, Nat.reduceAdd, Nat.reduceLeDiff, reduceCtorEq, Int.reduceToNat]
    exact Fin_val (by simp [resV, upd_at, retA, lefts_no (show ¬ nm.length + n1 + n2 + n3 + n4 + n5 ≤ left by omega)]) (by simp [resV, upd_at, ResOk])
theorem h9 (l : List Tb) (left : Nat) (hl : left ≤ 1048576) (hg : LgTbs l) : HT 9 [tbs l, i64 left] [] (i64 (lefts left (szTbs l))) true [] := by
  refine holds_of (c := Tryz.f9.body.getD .skip) (k := k9.1) (ts := [4]) HOk mixedT hintT Tryz.func9 (by kernel_rfl) (by kernel_rfl) (by kernel_rfl) k9.2 (by kernel_rfl) (le_of 2 _ (by kernel_rfl)) ?_
  exact szS_k tbC 6 36 t0 szTb LgTb (fun _ => ⟨rfl, rfl⟩) h36 l left hl hg
end FrA
end
/-! VaA -/
section
open Go Go.AM
namespace FrA
open Go.Proofs
set_option maxRecDepth 100000
set_option linter.unusedSimpArgs false
def vl (l : List Vl) : List (List AV) := l.map vC
theorem h81 (x lo hi : Int) : HT 81 [i64 x, i64 lo, i64 hi] [] (.b (decide (lo ≤ x ∧ x ≤ hi))) true [] := by
  refine holds_of (c := Tryz.f81.body.getD .skip) (k := k81.1) (ts := [6]) HOk mixedT hintT Tryz.func81 (by kernel_rfl) (by kernel_rfl) (by kernel_rfl) k81.2 (by kernel_rfl) (le_of 3 _ (by kernel_rfl)) ?_
  by_cases h1 : lo ≤ x <;> by_cases h2 : x ≤ hi <;> simp -implicitDefEqProofs -dsimp only [k81, h1, h2, go_sem, ↓reduceIte, Nat.reduceEqDiff, Int.reduceLE, Int.reduceLT, Int.reduceNeg, Int.reduceEq, Int.reduceBEq, Int.reduceBNe, Nat.reduceMul, Nat.reduceAdd, Nat.reduceLeDiff, reduceCtorEq, Int.reduceToNat] <;> exact Fin_val (by simp [resV, upd_at, retA, h1, h2]) (by simp [resV, upd_at, ResOk])
theorem h132 (x lo hi : Int) : HT 132 [i64 x, i64 lo, i64 hi] [] (.b (decide (lo ≤ x ∧ x ≤ hi))) true [] := by
  refine holds_of (c := Tryz.f132.body.getD .skip) (k := k132.1) (ts := [6]) HOk mixedT hintT Tryz.func132 (by kernel_rfl) (by kernel_rfl) (by kernel_rfl) k132.2 (by kernel_rfl) (le_of 3 _ (by kernel_rfl)) ?_
  by_cases h1 : lo ≤ x <;> by_cases h2 : x ≤ hi <;> simp -implicitDefEqProofs -dsimp only [k132, h1, h2, go_sem, ↓reduceIte, Nat.reduceEqDiff, Int.reduceLE, Int.reduceLT, Int.reduceNeg, Int.reduceEq, Int.reduceBEq, Int.reduceBNe, Nat.reduceMul, Nat.reduceAdd, Nat.reduceLeDiff, reduceCtorEq, Int.reduceToNat] <;> exact Fin_val (by simp [resV, upd_at, retA, h1, h2]) (by simp [resV, upd_at, ResOk])
theorem emp (s : List UInt8) : s.isEmpty = decide (s = []) := by cases s <;> simp
theorem beq_d (n m : Int) : (n == m) = decide (n = m) := by by_cases h : n = m <;> simp [h]
theorem nle (s : List UInt8) : ((s.length : Int) ≤ 12) ↔ s.length ≤ 12 := by omega
theorem h188 (v : Vl) : HT 188 [.agg (vC v)] [] (.b (decide (vOk v))) true [] := by
  obtain ⟨k, n, s⟩ := v
  refine holds_of (c := Tryz.f188.body.getD .skip) (k := k188.1) (ts := [2]) HOk mixedT hintT Tryz.func188 (by kernel_rfl) (by kernel_rfl) (by kernel_rfl) k188.2 (by kernel_rfl) (le_of 1 _ (by kernel_rfl)) ?_
  simp only [vC, vOk]
  by_cases a0 : k = 0
  · subst a0
    simp -implicitDefEqProofs -dsimp only [k188, go_sem, ↓reduceIte, Nat.reduceEqDiff, Int.reduceLE, Int.reduceLT, Int.reduceNeg, Int.reduceEq, Int.reduceBEq, Int.reduceBNe, Nat.reduceMul, Nat.reduceAdd, Nat.reduceLeDiff, reduceCtorEq, Int.reduceToNat]
    refine Fin_val ?_ (by simp [resV, upd_at, ResOk])
    simp [resV, upd_at, retA, emp, beq_d]
  · have e0 : (k == 0) = false := by simp [a0]
    by_cases a1 : k = 1
    · subst a1
      have d := h81 n (-1000000000) 1000000000
      simp -implicitDefEqProofs -dsimp only [k188, e0, go_sem, ↓reduceIte, Nat.reduceEqDiff, Int.reduceLE, Int.reduceLT, Int.reduceNeg, Int.reduceEq, Int.reduceBEq, Int.reduceBNe, Nat.reduceMul, Nat.reduceAdd, Nat.reduceLeDiff, reduceCtorEq, Int.reduceToNat]
      refine Call_val (own := true) (d) (by simp [ExpOk, AV.pure]) (.inl rfl) ?_
      by_cases h1 : -1000000000 ≤ n ∧ n ≤ 1000000000
      · simp -implicitDefEqProofs -dsimp only [h1, go_sem, ↓reduceIte, Nat.reduceEqDiff, Int.reduceLE, Int.reduceLT, Int.reduceNeg, Int.reduceEq, Int.reduceBEq, Int.reduceBNe, Nat.reduceMul, Nat.reduceAdd, Nat.reduceLeDiff, reduceCtorEq, Int.reduceToNat]
        refine Fin_val ?_ (by simp [resV, upd_at, ResOk])
        simp [resV, upd_at, retA, h1, emp]
      · simp -implicitDefEqProofs -dsimp only [h1, go_sem, ↓reduceIte, Nat.reduceEqDiff, Int.reduceLE, Int.reduceLT, Int.reduceNeg, Int.reduceEq, Int.reduceBEq, Int.reduceBNe, Nat.reduceMul, Nat.reduceAdd, Nat.reduceLeDiff, reduceCtorEq, Int.reduceToNat]
        refine Fin_val ?_ (by simp [resV, upd_at, ResOk])
        simp [resV, upd_at, retA, h1]
    · have e1 : (k == 1) = false := by simp [a1]
      by_cases a2 : k = 2
      · subst a2
        by_cases hn : n = 0
        · subst hn
          simp -implicitDefEqProofs -dsimp only [k188, e0, e1, go_sem, ↓reduceIte, Nat.reduceEqDiff, Int.reduceLE, Int.reduceLT, Int.reduceNeg, Int.reduceEq, Int.reduceBEq, Int.reduceBNe, Nat.reduceMul, Nat.reduceAdd, Nat.reduceLeDiff, reduceCtorEq, Int.reduceToNat]
          refine Fin_val ?_ (by simp [resV, upd_at, ResOk])
          simp [resV, upd_at, retA, nle]
        · have hn' : (n == 0) = false := by simp [hn]
          simp -implicitDefEqProofs -dsimp only [k188, e0, e1, hn', go_sem, ↓reduceIte, Nat.reduceEqDiff, Int.reduceLE, Int.reduceLT, Int.reduceNeg, Int.reduceEq, Int.reduceBEq, Int.reduceBNe, Nat.reduceMul, Nat.reduceAdd, Nat.reduceLeDiff, reduceCtorEq, Int.reduceToNat]
          refine Fin_val ?_ (by simp [resV, upd_at, ResOk])
          simp [resV, upd_at, retA, hn]
      · have e2 : (k == 2) = false := by simp [a2]
        simp -implicitDefEqProofs -dsimp only [k188, e0, e1, e2, go_sem, ↓reduceIte, Nat.reduceEqDiff, Int.reduceLE, Int.reduceLT, Int.reduceNeg, Int.reduceEq, Int.reduceBEq, Int.reduceBNe, Nat.reduceMul, Nat.reduceAdd, Nat.reduceLeDiff, reduceCtorEq, Int.reduceToNat]
        refine Fin_val ?_ (by simp [resV, upd_at, ResOk])
        simp [resV, upd_at, retA, a0, a1, a2]
theorem h186 (v : Vl) : HT 186 [.agg (vC v)] [] (.b (decide (vOk v))) true [] := by
  obtain ⟨k, n, s⟩ := v
  refine holds_of (c := Tryz.f186.body.getD .skip) (k := k186.1) (ts := [2]) HOk mixedT hintT Tryz.func186 (by kernel_rfl) (by kernel_rfl) (by kernel_rfl) k186.2 (by kernel_rfl) (le_of 1 _ (by kernel_rfl)) ?_
  simp only [vC, vOk]
  by_cases a0 : k = 0
  · subst a0
    simp -implicitDefEqProofs -dsimp only [k186, go_sem, ↓reduceIte, Nat.reduceEqDiff, Int.reduceLE, Int.reduceLT, Int.reduceNeg, Int.reduceEq, Int.reduceBEq, Int.reduceBNe, Nat.reduceMul, Nat.reduceAdd, Nat.reduceLeDiff, reduceCtorEq, Int.reduceToNat]
    refine Fin_val ?_ (by simp [resV, upd_at, ResOk])
    simp [resV, upd_at, retA, emp, beq_d]
  · have e0 : (k == 0) = false := by simp [a0]
    by_cases a1 : k = 1
    · subst a1
      have d := h132 n (-1000000000) 1000000000
      simp -implicitDefEqProofs -dsimp only [k186, e0, go_sem, ↓reduceIte, Nat.reduceEqDiff, Int.reduceLE, Int.reduceLT, Int.reduceNeg, Int.reduceEq, Int.reduceBEq, Int.reduceBNe, Nat.reduceMul, Nat.reduceAdd, Nat.reduceLeDiff, reduceCtorEq, Int.reduceToNat]
      refine Call_val (own := true) (d) (by simp [ExpOk, AV.pure]) (.inl rfl) ?_
      by_cases h1 : -1000000000 ≤ n ∧ n ≤ 1000000000
      · simp -implicitDefEqProofs -dsimp only [h1, go_sem, ↓reduceIte, Nat.reduceEqDiff, Int.reduceLE, Int.reduceLT, Int.reduceNeg, Int.reduceEq, Int.reduceBEq, Int.reduceBNe, Nat.reduceMul, Nat.reduceAdd, Nat.reduceLeDiff, reduceCtorEq, Int.reduceToNat]
        refine Fin_val ?_ (by simp [resV, upd_at, ResOk])
        simp [resV, upd_at, retA, h1, emp]
      · simp -implicitDefEqProofs -dsimp only [h1, go_sem, ↓reduceIte, Nat.reduceEqDiff, Int.reduceLE, Int.reduceLT, Int.reduceNeg, Int.reduceEq, Int.reduceBEq, Int.reduceBNe, Nat.reduceMul, Nat.reduceAdd, Nat.reduceLeDiff, reduceCtorEq, Int.reduceToNat]
        refine Fin_val ?_ (by simp [resV, upd_at, ResOk])
        simp [resV, upd_at, retA, h1]
    · have e1 : (k == 1) = false := by simp [a1]
      by_cases a2 : k = 2
      · subst a2
        by_cases hn : n = 0
        · subst hn
          simp -implicitDefEqProofs -dsimp only [k186, e0, e1, go_sem, ↓reduceIte, Nat.reduceEqDiff, Int.reduceLE, Int.reduceLT, Int.reduceNeg, Int.reduceEq, Int.reduceBEq, Int.reduceBNe, Nat.reduceMul, Nat.reduceAdd, Nat.reduceLeDiff, reduceCtorEq, Int.reduceToNat]
          refine Fin_val ?_ (by simp [resV, upd_at, ResOk])
          simp [resV, upd_at, retA, nle]
        · have hn' : (n == 0) = false := by simp [hn]
          simp -implicitDefEqProofs -dsimp only [k186, e0, e1, hn', go_sem, ↓reduceIte, Nat.reduceEqDiff, Int.reduceLE, Int.reduceLT, Int.reduceNeg, Int.reduceEq, Int.reduceBEq, Int.reduceBNe, Nat.reduceMul, Nat.reduceAdd, Nat.reduceLeDiff, reduceCtorEq, Int.reduceToNat]
          refine Fin_val ?_ (by simp [resV, upd_at, ResOk])
          simp [resV, upd_at, retA, hn]
      · have e2 : (k == 2) = false := by simp [a2]
        simp -implicitDefEqProofs -dsimp only [k186, e0, e1, e2, go_sem, ↓reduceIte, Nat.reduceEqDiff, Int.reduceLE, Int.reduceLT, Int.reduceNeg, Int.reduceEq, Int.reduceBEq, Int.reduceBNe, Nat.reduceMul, Nat.reduceAdd, Nat.reduceLeDiff, reduceCtorEq, Int.reduceToNat]
        refine Fin_val ?_ (by simp [resV, upd_at, ResOk])
        simp [resV, upd_at, retA, a0, a1, a2]
end FrA
end
/-! PrA -/
section
open Go Go.AM
namespace FrA
open Go.Proofs
set_option maxRecDepth 100000
set_option linter.unusedSimpArgs false
theorem nm_bad {s : List UInt8} {i : Nat} (h : i < s.length) (hb : ¬ nmB (s.getD i 0)) : tt (nmOk s) = false := tt_f fun k => hb (k.1 _ (mmem 0 h))
theorem nm_end {s : List UInt8} (h : ∀ c ∈ s, nmB c) : tt (nmOk s) = decide ((1 : Int) ≤ s.length ∧ (s.length : Int) ≤ 8) := by
  by_cases hh : (1 : Int) ≤ s.length ∧ (s.length : Int) ≤ 8
  · rw [tt_t ⟨h, by omega, by omega⟩, decide_eq_true hh]
  · rw [tt_f fun k => hh ⟨by have := k.2.1; omega, by have := k.2.2; omega⟩, decide_eq_false hh]
theorem h197 (s : List UInt8) (hs : s.length ≤ 9000000000000000) : HT 197 [.s s] [] (.b (tt (nmOk s))) true [] := by
  refine holds_of (c := Tryz.f197.body.getD .skip) (k := k197.1) (ts := [2]) HOk mixedT hintT Tryz.func197 (by kernel_rfl) (by kernel_rfl) (by kernel_rfl) k197.2 (by kernel_rfl) (le_of 1 _ (by kernel_rfl)) ?_
  have dn := h81 s.length 1 8
  simp -implicitDefEqProofs -dsimp only [k197, go_sem, ↓reduceIte, Nat.reduceEqDiff, Int.reduceLE, Int.reduceLT, Int.reduceNeg, Int.reduceEq, Int.reduceBEq, Int.reduceBNe, Nat.reduceMul, Nat.reduceAdd, Nat.reduceLeDiff, reduceCtorEq, Int.reduceToNat]
  refine K_for s.length (fun i g h c => g 0 = .s s ∧ g 5 = i64 s.length ∧ g 6 = i64 i ∧ ∀ c ∈ s.take i, nmB c) ?_ ?_ ?_
  · exact ⟨by simp [upd_at, S_0], by simp [upd_at], by simp [upd_at], by simp⟩
  · rintro i A hi hA g h c ⟨q0, q5, q6, hb⟩
    have hc : (i : Int) < (s.length : Int) := by omega
    have w2 : IntKind.i64.wrap ((i : Int) + 1) = ((i + 1 : Nat) : Int) := wnat1 (by omega)
    have hg := mget (0 : UInt8) hi
    have hbad := nm_bad (s := s) hi
    have hst := mall_step (p := nmB) (0 : UInt8) hi hb
    generalize s.getD i 0 = b at hg hbad hst
    by_cases h1 : (b.toNat : Int) < 97
    · simp -implicitDefEqProofs -dsimp only [q0, q5, q6, hc, hg, h1, go_sem, ↓reduceIte, Nat.reduceEqDiff, Int.reduceLE, Int.reduceLT, Int.reduceNeg, Int.reduceEq, Int.reduceBEq, Int.reduceBNe, Nat.reduceMul, Nat.reduceAdd, Nat.reduceLeDiff, reduceCtorEq, Int.reduceToNat]
      exact Fin_val (by simp [resV, upd_at, retA, hbad (fun k => by have := k.1; omega)]) (by simp [resV, upd_at, ResOk])
    · by_cases h2 : (b.toNat : Int) > 122
      · simp -implicitDefEqProofs -dsimp only [q0, q5, q6, hc, hg, h1, h2, go_sem, ↓reduceIte, Nat.reduceEqDiff, Int.reduceLE, Int.reduceLT, Int.reduceNeg, Int.reduceEq, Int.reduceBEq, Int.reduceBNe, Nat.reduceMul, Nat.reduceAdd, Nat.reduceLeDiff, reduceCtorEq, Int.reduceToNat]
        exact Fin_val (by simp [resV, upd_at, retA, hbad (fun k => by have := k.2; omega)]) (by simp [resV, upd_at, ResOk])
      · simp -implicitDefEqProofs -dsimp only [q0, q5, q6, hc, hg, h1, h2, w2, go_sem, ↓reduceIte, Nat.reduceEqDiff, Int.reduceLE, Int.reduceLT, Int.reduceNeg, Int.reduceEq, Int.reduceBEq, Int.reduceBNe, Nat.reduceMul, Nat.reduceAdd, Nat.reduceLeDiff, reduceCtorEq, Int.reduceToNat]
        exact hA _ _ _ ⟨by simp [upd_at, q0], by simp [upd_at, q5], by simp [upd_at], hst ⟨by omega, by omega⟩⟩
  · rintro A g h c ⟨q0, q5, q6, hb⟩
    have hc : ¬ (s.length : Int) < (s.length : Int) := by omega
    rw [List.take_length] at hb
    rw [nm_end hb]
    simp -implicitDefEqProofs -dsimp only [q0, q5, q6, hc, go_sem, ↓reduceIte, Nat.reduceEqDiff, Int.reduceLE, Int.reduceLT, Int.reduceNeg, Int.reduceEq, Int.reduceBEq, Int.reduceBNe, Nat.reduceMul, Nat.reduceAdd, Nat.reduceLeDiff, reduceCtorEq, Int.reduceToNat]
    refine Call_val (own := true) (dn) (by simp [ExpOk, AV.pure]) (.inl rfl) ?_
    simp -implicitDefEqProofs -dsimp only [go_sem, ↓reduceIte, Nat.reduceEqDiff, Int.reduceLE, Int.reduceLT, Int.reduceNeg, Int.reduceEq, Int.reduceBEq, Int.reduceBNe, Nat.reduceMul, Nat.reduceAdd, Nat.reduceLeDiff, reduceCtorEq, Int.reduceToNat]
    exact Fin_val (by simp [resV, upd_at, retA]) (by simp [resV, upd_at, ResOk])
theorem h213 (s : List UInt8) (hs : s.length ≤ 9000000000000000) : HT 213 [.s s] [] (.b (tt (nmOk s))) true [] := by
  refine holds_of (c := Tryz.f213.body.getD .skip) (k := k213.1) (ts := [2]) HOk mixedT hintT Tryz.func213 (by kernel_rfl) (by kernel_rfl) (by kernel_rfl) k213.2 (by kernel_rfl) (le_of 1 _ (by kernel_rfl)) ?_
  have dn := h132 s.length 1 8
  simp -implicitDefEqProofs -dsimp only [k213, go_sem, ↓reduceIte, Nat.reduceEqDiff, Int.reduceLE, Int.reduceLT, Int.reduceNeg, Int.reduceEq, Int.reduceBEq, Int.reduceBNe, Nat.reduceMul, Nat.reduceAdd, Nat.reduceLeDiff, reduceCtorEq, Int.reduceToNat]
  refine K_for s.length (fun i g h c => g 0 = .s s ∧ g 3 = i64 i ∧ ∀ c ∈ s.take i, nmB c) ?_ ?_ ?_
  · exact ⟨by simp [upd_at, S_0], by simp [upd_at], by simp⟩
  · rintro i A hi hA g h c ⟨q0, q3, hb⟩
    have hc : (i : Int) < (s.length : Int) := by omega
    have w2 : IntKind.i64.wrap ((i : Int) + 1) = ((i + 1 : Nat) : Int) := wnat1 (by omega)
    have hg := mget (0 : UInt8) hi
    have hbad := nm_bad (s := s) hi
    have hst := mall_step (p := nmB) (0 : UInt8) hi hb
    generalize s.getD i 0 = b at hg hbad hst
    by_cases h1 : (b.toNat : Int) < 97
    · simp -implicitDefEqProofs -dsimp only [q0, q3, hc, hg, h1, go_sem, ↓reduceIte, Nat.reduceEqDiff, Int.reduceLE, Int.reduceLT, Int.reduceNeg, Int.reduceEq, Int.reduceBEq, Int.reduceBNe, Nat.reduceMul, Nat.reduceAdd, Nat.reduceLeDiff, reduceCtorEq, Int.reduceToNat]
      exact Fin_val (by simp [resV, upd_at, retA, hbad (fun k => by have := k.1; omega)]) (by simp [resV, upd_at, ResOk])
    · by_cases h2 : (b.toNat : Int) > 122
      · simp -implicitDefEqProofs -dsimp only [q0, q3, hc, hg, h1, h2, go_sem, ↓reduceIte, Nat.reduceEqDiff, Int.reduceLE, Int.reduceLT, Int.reduceNeg, Int.reduceEq, Int.reduceBEq, Int.reduceBNe, Nat.reduceMul, Nat.reduceAdd, Nat.reduceLeDiff, reduceCtorEq, Int.reduceToNat]
        exact Fin_val (by simp [resV, upd_at, retA, hbad (fun k => by have := k.2; omega)]) (by simp [resV, upd_at, ResOk])
      · simp -implicitDefEqProofs -dsimp only [q0, q3, hc, hg, h1, h2, w2, go_sem, ↓reduceIte, Nat.reduceEqDiff, Int.reduceLE, Int.reduceLT, Int.reduceNeg, Int.reduceEq, Int.reduceBEq, Int.reduceBNe, Nat.reduceMul, Nat.reduceAdd, Nat.reduceLeDiff, reduceCtorEq, Int.reduceToNat]
        exact hA _ _ _ ⟨by simp [upd_at, q0], by simp [upd_at], hst ⟨by omega, by omega⟩⟩
  · rintro A g h c ⟨q0, q3, hb⟩
    have hc : ¬ (s.length : Int) < (s.length : Int) := by omega
    rw [List.take_length] at hb
    rw [nm_end hb]
    simp -implicitDefEqProofs -dsimp only [q0, q3, hc, go_sem, ↓reduceIte, Nat.reduceEqDiff, Int.reduceLE, Int.reduceLT, Int.reduceNeg, Int.reduceEq, Int.reduceBEq, Int.reduceBNe, Nat.reduceMul, Nat.reduceAdd, Nat.reduceLeDiff, reduceCtorEq, Int.reduceToNat]
    refine Call_val (own := true) (dn) (by simp [ExpOk, AV.pure]) (.inl rfl) ?_
    simp -implicitDefEqProofs -dsimp only [go_sem, ↓reduceIte, Nat.reduceEqDiff, Int.reduceLE, Int.reduceLT, Int.reduceNeg, Int.reduceEq, Int.reduceBEq, Int.reduceBNe, Nat.reduceMul, Nat.reduceAdd, Nat.reduceLeDiff, reduceCtorEq, Int.reduceToNat]
    exact Fin_val (by simp [resV, upd_at, retA]) (by simp [resV, upd_at, ResOk])
/-! ### numbers in a list -/
theorem h39 (l : List Int) (y : Int) (hn : l.length ≤ 9000000000000000) : HT 39 [ils l, i64 y] [] (.b (decide (y ∈ l))) true [] := by
  refine holds_of (c := Tryz.f39.body.getD .skip) (k := k39.1) (ts := [4]) HOk mixedT hintT Tryz.func39 (by kernel_rfl) (by kernel_rfl) (by kernel_rfl) k39.2 (by kernel_rfl) (le_of 2 _ (by kernel_rfl)) ?_
  unfold ils
  simp -implicitDefEqProofs -dsimp only [k39, go_sem, ↓reduceIte, Nat.reduceEqDiff, Int.reduceLE, Int.reduceLT, Int.reduceNeg, Int.reduceEq, Int.reduceBEq, Int.reduceBNe, Nat.reduceMul, Nat.reduceAdd, Nat.reduceLeDiff, reduceCtorEq, Int.reduceToNat]
  refine K_for l.length (fun i g h c => g 0 = .dat 1 (l.map inC) ∧ g 1 = i64 y ∧ g 5 = i64 i ∧ ∀ c ∈ l.take i, c ≠ y) ?_ ?_ ?_
  · exact ⟨by simp [upd_at, S_0], by simp [upd_at, S_1], by simp [upd_at], by simp⟩
  · rintro i A hi hA g h c ⟨q0, q1, q5, hb⟩
    have hc : (i : Int) < (l.length : Int) := by omega
    have w2 : IntKind.i64.wrap ((i : Int) + 1) = ((i + 1 : Nat) : Int) := wnat1 (by omega)
    have hg := mget (0 : Int) hi
    have hm := mmem (0 : Int) hi
    have hst := mall_step (p := fun c => c ≠ y) (0 : Int) hi hb
    generalize l.getD i 0 = b at hg hm hst
    by_cases h1 : b = y
    · subst h1
      have e1 : (b == b) = true := by simp
      simp -implicitDefEqProofs -dsimp only [q0, q1, q5, hc, hg, inC, e1, go_sem, ↓reduceIte, Nat.reduceEqDiff, Int.reduceLE, Int.reduceLT, Int.reduceNeg, Int.reduceEq, Int.reduceBEq, Int.reduceBNe, Nat.reduceMul, Nat.reduceAdd, Nat.reduceLeDiff, reduceCtorEq, Int.reduceToNat]
      exact Fin_val (by simp [resV, upd_at, retA, hm]) (by simp [resV, upd_at, ResOk])
    · have e1 : (b == y) = false := by simp [h1]
      simp -implicitDefEqProofs -dsimp only [q0, q1, q5, hc, hg, inC, e1, w2, go_sem, ↓reduceIte, Nat.reduceEqDiff, Int.reduceLE, Int.reduceLT, Int.reduceNeg, Int.reduceEq, Int.reduceBEq, Int.reduceBNe, Nat.reduceMul, Nat.reduceAdd, Nat.reduceLeDiff, reduceCtorEq, Int.reduceToNat]
      exact hA _ _ _ ⟨by simp [upd_at, q0], by simp [upd_at, q1], by simp [upd_at], hst h1⟩
  · rintro A g h c ⟨q0, q1, q5, hb⟩
    have hc : ¬ (l.length : Int) < (l.length : Int) := by omega
    rw [List.take_length] at hb
    have e : y ∉ l := fun hm => hb y hm rfl
    simp -implicitDefEqProofs -dsimp only [q0, q1, q5, hc, go_sem, ↓reduceIte, Nat.reduceEqDiff, Int.reduceLE, Int.reduceLT, Int.reduceNeg, Int.reduceEq, Int.reduceBEq, Int.reduceBNe, Nat.reduceMul, Nat.reduceAdd, Nat.reduceLeDiff, reduceCtorEq, Int.reduceToNat]
    exact Fin_val (by simp [resV, upd_at, retA, e]) (by simp [resV, upd_at, ResOk])
theorem h260 (l : List Int) (y : Int) (hn : l.length ≤ 9000000000000000) : HC.c 260 [ils l, i64 y] [] true (fun r o' => (∃ k : Int, r = i64 k ∧ (0 ≤ k ↔ y ∈ l)) ∧ o' = []) := by
  refine holds_of (c := Tryz.f260.body.getD .skip) (k := k260.1) (ts := [4]) HOk mixedT hintT Tryz.func260 (by kernel_rfl) (by kernel_rfl) (by kernel_rfl) k260.2 (by kernel_rfl) (le_of 2 _ (by kernel_rfl)) ?_
  unfold ils
  simp -implicitDefEqProofs -dsimp only [k260, go_sem, ↓reduceIte, Nat.reduceEqDiff, Int.reduceLE, Int.reduceLT, Int.reduceNeg, Int.reduceEq, Int.reduceBEq, Int.reduceBNe, Nat.reduceMul, Nat.reduceAdd, Nat.reduceLeDiff, reduceCtorEq, Int.reduceToNat]
  refine K_for l.length (fun i g h c => g 0 = .dat 1 (l.map inC) ∧ g 1 = i64 y ∧ g 7 = i64 l.length ∧ g 8 = i64 i ∧ ∀ c ∈ l.take i, c ≠ y) ?_ ?_ ?_
  · exact ⟨by simp [upd_at, S_0], by simp [upd_at, S_1], by simp [upd_at], by simp [upd_at], by simp⟩
  · rintro i A hi hA g h c ⟨q0, q1, q7, q8, hb⟩
    have hc : (i : Int) < (l.length : Int) := by omega
    have w2 : IntKind.i64.wrap ((i : Int) + 1) = ((i + 1 : Nat) : Int) := wnat1 (by omega)
    have hg := mget (0 : Int) hi
    have hm := mmem (0 : Int) hi
    have hst := mall_step (p := fun c => c ≠ y) (0 : Int) hi hb
    generalize l.getD i 0 = b at hg hm hst
    by_cases h1 : b = y
    · subst h1
      have e1 : (b == b) = true := by simp
      simp -implicitDefEqProofs -dsimp only [q0, q1, q7, q8, hc, hg, inC, e1, go_sem, ↓reduceIte, Nat.reduceEqDiff, Int.reduceLE, Int.reduceLT, Int.reduceNeg, Int.reduceEq, Int.reduceBEq, Int.reduceBNe, Nat.reduceMul, Nat.reduceAdd, Nat.reduceLeDiff, reduceCtorEq, Int.reduceToNat]
      exact FinA.q (r := i64 i) (FinA_val (by simp [resV, upd_at, retA]) (by simp [resV, upd_at, ResOk])) ⟨⟨i, rfl, by simp [hm]⟩, rfl⟩
    · have e1 : (y == b) = false := by simp; exact fun h => h1 h.symm
      simp -implicitDefEqProofs -dsimp only [q0, q1, q7, q8, hc, hg, inC, e1, w2, go_sem, ↓reduceIte, Nat.reduceEqDiff, Int.reduceLE, Int.reduceLT, Int.reduceNeg, Int.reduceEq, Int.reduceBEq, Int.reduceBNe, Nat.reduceMul, Nat.reduceAdd, Nat.reduceLeDiff, reduceCtorEq, Int.reduceToNat]
      exact hA _ _ _ ⟨by simp [upd_at, q0], by simp [upd_at, q1], by simp [upd_at, q7], by simp [upd_at], hst h1⟩
  · rintro A g h c ⟨q0, q1, q7, q8, hb⟩
    have hc : ¬ (l.length : Int) < (l.length : Int) := by omega
    rw [List.take_length] at hb
    have e : y ∉ l := fun hm => hb y hm rfl
    simp -implicitDefEqProofs -dsimp only [q0, q1, q7, q8, hc, go_sem, ↓reduceIte, Nat.reduceEqDiff, Int.reduceLE, Int.reduceLT, Int.reduceNeg, Int.reduceEq, Int.reduceBEq, Int.reduceBNe, Nat.reduceMul, Nat.reduceAdd, Nat.reduceLeDiff, reduceCtorEq, Int.reduceToNat]
    exact FinA.q (r := i64 (-1)) (FinA_val (by simp [resV, upd_at, retA]) (by simp [resV, upd_at, ResOk])) ⟨⟨-1, rfl, by simp [e]⟩, rfl⟩
theorem h240 (l : List Int) (y : Int) (hn : l.length ≤ 9000000000000000) : HT 240 [ils l, i64 y] [] (.b (decide (y ∈ l))) true [] := by
  refine holds_of (c := Tryz.f240.body.getD .skip) (k := k240.1) (ts := [4]) HOk mixedT hintT Tryz.func240 (by kernel_rfl) (by kernel_rfl) (by kernel_rfl) k240.2 (by kernel_rfl) (le_of 2 _ (by kernel_rfl)) ?_
  have d1 := h260 l y hn
  unfold ils at d1 ⊢
  simp -implicitDefEqProofs -dsimp only [k240, go_sem, ↓reduceIte, Nat.reduceEqDiff, Int.reduceLE, Int.reduceLT, Int.reduceNeg, Int.reduceEq, Int.reduceBEq, Int.reduceBNe, Nat.reduceMul, Nat.reduceAdd, Nat.reduceLeDiff, reduceCtorEq, Int.reduceToNat]
  refine Call_vals (own := true) (by simpa [expL, expA] using d1) (by simp [ExpOk, AV.pure]) (.inl rfl) ?_
  rintro v o' ⟨⟨k, rfl, hk⟩, rfl⟩
  refine ⟨rfl, fun _ _ _ => rfl, ?_⟩
  have e : decide (k ≥ 0) = decide (y ∈ l) := by by_cases h : y ∈ l <;> simp [h, hk.2, show ¬ 0 ≤ k ↔ ¬ y ∈ l from not_congr hk] <;> (have := not_congr hk; omega)
  simp -implicitDefEqProofs -dsimp only [e, go_sem, ↓reduceIte, Nat.reduceEqDiff, Int.reduceLE, Int.reduceLT, Int.reduceNeg, Int.reduceEq, Int.reduceBEq, Int.reduceBNe, Nat.reduceMul, Nat.reduceAdd, Nat.reduceLeDiff, reduceCtorEq, Int.reduceToNat]
  exact Fin_val (by simp [resV, upd_at, retA]) (by simp [resV, upd_at, ResOk])
end FrA
end
/-! GnB -/
section
open Go Go.AM
namespace FrA
open Go.Proofs
set_option maxRecDepth 100000
set_option linter.unusedSimpArgs false
open Go.AM.L
section
variable {C : Con} {s : Stk} {g : Slots} {h : Heap} {c : Nat} {r m : List KOp} {d : Option Nat}
/-- A call that gives back new objects, none or some. -/
theorem Call_any0 {f : Nat} {capt args : List AV} {v : AV} {own : Bool} {obs' : List Ob} (hc : C.det f (expL h [] (args ++ capt)) [] v own obs') (he : ∀ a ∈ args ++ capt, ExpOk h [] a) (hp : ∀ x ∈ obs', AM.Pure x.es) (hr : own = true ∨ ∀ a ∈ args ++ capt, a.rooted = false)
    (hw : own = true → ∀ x ∈ obs', x.own ∨ AM.Flat x.es) (hq : ∀ c', RunD C r m s (updO g d (impA (d.getD 0) 0 c v)) (newObs (d.getD 0) c 0 obs' h) c') : CallK C (.fn f capt) args d r m s g h c := by
  cases obs' with
  | nil =>
    refine Call_obs [] [] v own [] hc rfl .nil (Nat.le_refl _) he (fun _ hb => by cases hb) (fun _ hb => by cases hb) hr (fun _ _ hb => by cases hb) ?_
    rw [hcall_nil]
    exact hq _
  | cons b obs' => exact Call_news hc he hp hr hw (hq _)
end
theorem newObs_l {t c : Nat} {obs : List Ob} : ∀ {k : Nat} {h : Heap} {u : Rid}, (∀ j, u ≠ .r t j) → newObs t c k obs h u = h u := by
  induction obs with
  | nil => intro k h u _; rfl
  | cons b l ih =>
    intro k h u hu
    rw [newObs, ih hu, hup_at, if_neg (hu k)]
theorem newObs_at {t c : Nat} {obs : List Ob} : ∀ {k : Nat} {h : Heap} {i : Nat} {b : Ob}, obs[i]? = some b → newObs t c k obs h (.r t (k + i)) = some { b with ver := c } := by
  induction obs with
  | nil => intro k h i b hb; simp at hb
  | cons x l ih =>
    intro k h i b hb
    cases i with
    | zero =>
      simp at hb; subst hb
      have key : ∀ (l : List Ob) (k' : Nat) (h : Heap), k < k' → newObs t c k' l h (.r t k) = h (.r t k) := by
        intro l
        induction l with
        | nil => intro k' h _; rfl
        | cons y l ih2 =>
          intro k' h hk
          rw [newObs, ih2 (k' + 1) _ (by omega), hup_at, if_neg (by simp; omega)]
      show newObs t c (k + 1) l (hup h (.r t k) { x with ver := c }) (.r t k) = _
      rw [key l (k + 1) _ (by omega), hup_at, if_pos rfl]
    | succ i =>
      have := @ih (k + 1) (hup h (.r t k) { x with ver := c }) i b (by simpa using hb)
      rw [newObs, show k + (i + 1) = k + 1 + i by omega]
      exact this
/-- Objects, each at its place in a row, given into that row. -/
theorem Gh_gives {g : Slots} {t ν z v : Nat} {q : Prop} (hq : q) {o : Rid} (ho : ∀ k, o ≠ .r t k) {e : Nat} {c : Nat} : ∀ (gs : List (Nat × Ob)) (k0 : Nat) (h : Heap) (es : List (List AV)) (row : List AV), h o = some { ver := v, es := es, esz := z, own := q } → es[e]? = some row →
    (∀ i j b, gs[i]? = some (j, b) → row[j]? = some (.sl (.r t (k0 + i)) ν 0 b.es.length none) ∧ h (.r t (k0 + i)) = some { b with ver := ν } ∧ AM.Pure b.es ∧ (b.own ∨ AM.Flat b.es)) → (gs.map (·.1)).Nodup →
    ∃ h', Gh g h c g h' c ∧ h' o = some { ver := v, es := es.set e (gs.foldl (fun r p => r.set p.1 (.dat p.2.esz p.2.es)) row), esz := z, own := q } ∧ (∀ u, u ≠ o → (∀ k, u ≠ .r t k) → h' u = h u)
  | [], k0, h, es, row, h1, h2, _, _ => by
    refine ⟨h, .refl _ _ _, ?_, fun u _ _ => rfl⟩
    rw [h1, List.foldl_nil]
    have : es.set e row = es := by
      have hlt := (List.getElem?_eq_some_iff.1 h2).1
      rw [List.getElem?_eq_getElem hlt] at h2
      simp only [Option.some.injEq] at h2
      rw [← h2, List.set_getElem_self]
    rw [this]
  | (j, b) :: gs, k0, h, es, row, h1, h2, h3, nd => by
    obtain ⟨a1, a2, a3, a4⟩ := h3 0 j b rfl
    rw [Nat.add_zero] at a1 a2
    have hlt := (List.getElem?_eq_some_iff.1 h2).1
    have G1 := Gh.give g h c o (.r t k0) _ { b with ver := ν } row e j 0 b.es.length none h1 hq h2 a1 a2 (fun he => ho k0 he.symm) (by simp) a3 a4
    have hsub : sub b.es 0 b.es.length = b.es := by unfold sub; rw [if_pos ⟨rfl, rfl⟩]
    simp only [hsub] at G1
    obtain ⟨h', G2, q1, q2⟩ := Gh_gives hq ho gs (k0 + 1) (hup (hdel h (.r t k0)) o { ver := v, es := es.set e (row.set j (.dat b.esz b.es)), esz := z, own := q }) (es.set e (row.set j (.dat b.esz b.es))) (row.set j (.dat b.esz b.es)) (by rw [hup_at, if_pos rfl]) (List.getElem?_set_self hlt)
      (fun i j' b' hi => by
        obtain ⟨b1, b2, b3, b4⟩ := h3 (i + 1) j' b' (by simpa using hi)
        rw [show k0 + (i + 1) = k0 + 1 + i by omega] at b1 b2
        have hne : j ≠ j' := by
          rw [List.map_cons, List.nodup_cons] at nd
          intro he
          refine nd.1 (List.mem_map.2 ⟨(j', b'), List.mem_of_getElem? hi, he.symm⟩)
        refine ⟨by rw [List.getElem?_set_ne hne]; exact b1, ?_, b3, b4⟩
        rw [hup_at, if_neg (ho _).symm, hdel_at, if_neg (by simp; omega)]
        exact b2)
      (by rw [List.map_cons, List.nodup_cons] at nd; exact nd.2)
    refine ⟨h', .trans G1 G2, ?_, fun u hu hk => ?_⟩
    · rw [q1, List.set_set]; rfl
    · rw [q2 u hu hk, hup_at, if_neg hu, hdel_at, if_neg (hk k0)]
/-- How elements of a kind are copied: their cells, the callee's answer, what new objects there are and where they stand. -/
structure ToK {α : Type} (enc : α → List AV) (z f : Nat) (B : α → Prop) where
  cells : α → List AV
  gs : α → List (Nat × Ob)
  hf : ∀ a, B a → HT f [.agg (enc a)] [] (.agg (cells a)) true ((gs a).map (·.2))
  len : ∀ a t c, (impL t 0 c (cells a)).length = z
  sto : ∀ a t c, (impL t 0 c (cells a)).all AV.storable = true
  nod : ∀ a t c, NoDat (impL t 0 c (cells a))
  at_ : ∀ (a : α) (t c i j : Nat) (b : Ob), (gs a)[i]? = some (j, b) → (impL t 0 c (cells a))[j]? = some (AV.sl (.r t i) c 0 b.es.length none) ∧ AM.Pure b.es ∧ b.own
  fold : ∀ a t c, (gs a).foldl (fun r p => r.set p.1 (.dat p.2.esz p.2.es)) (impL t 0 c (cells a)) = enc a
  nd : ∀ a, ((gs a).map (·.1)).Nodup
  elen : ∀ a, (enc a).length = z
  epure : ∀ a, ∀ x ∈ enc a, x.pure = true
def kToS (z by_ : Nat) (zr : List AV) (f : Nat) : K := .seq (R [o 2 (.mv (.c .nils))]) (.seq (R [m 5 0, o 6 (.len false (.t 5)), o 7 (.mks z by_ zr (.t 6) (.t 6)), m 3 7]) (.seq (.seq (R [o 4 (.mv (n 0))]) (.block 0 (.loop (.seq (.seq (R [m 8 4, m 9 0, o 10 (.len false (.t 9)), o 11 (.bin .lss (.t 8) (.t 10))]) (.cond (.t 11) .skip (.exit 0))) (.seq (.block 1 (R [m 14 3, m 15 4, m 16 0, m 17 4, o 18 (.idx z (.t 16) (.t 17)), o 19 (.load true z (.t 18)), o 20 (.call (.f f) [.t 19]), o 21 (.idx z (.t 14) (.t 15)), x (.store z (.t 21) (.t 20)), G])) (R [m 12 4, o 13 (.bin .add (.t 12) (n 1)), m 4 13])))))) (.seq (R [m 22 3, m 2 22]) .ret)))
/-- A list's object. -/
def obL {α : Type} (enc : α → List AV) (z : Nat) (l : List α) : Ob := { ver := 1, es := l.map enc, esz := z, own := True }
theorem toS_k {α : Type} {enc : α → List AV} {z f : Nat} {B : α → Prop} (T : ToK enc z f B) (d : α) (by_ : Nat) (zr : List AV) (hzl : zr.length = z) (hzd : NoDat zr) (hby : by_ ≤ 1000)
    (l : List α) (hn : l.length ≤ 1048576) (hB : ∀ a ∈ l, B a) :
    RunK HC (kToS z by_ zr f) (.done (FinP [2] [] true fun r o' => r = .sl (.p 0) 1 0 l.length none ∧ o' = [obL enc z l])) (slots0 [.dat z (l.map enc)]) (objs []) 1 := by
  unfold kToS
  simp -implicitDefEqProofs -dsimp only [S_0, go_sem, ↓reduceIte, Nat.reduceEqDiff, Int.reduceLE, Int.reduceLT, Int.reduceNeg, Int.reduceEq, Int.reduceBEq, Int.reduceBNe, Nat.reduceMul, Nat.reduceAdd, Nat.reduceLeDiff, reduceCtorEq, Int.reduceToNat]
  have hby2 : l.length * by_ ≤ 1048576 * 1000 := Nat.mul_le_mul hn hby
  refine EK_p ⟨rfl, by omega, by unfold bigOk; rw [Int.toNat_natCast]; omega, by omega, hzl⟩ ?_
  simp -implicitDefEqProofs -dsimp only [Int.toNat_natCast, go_sem, ↓reduceIte, Nat.reduceEqDiff, Int.reduceLE, Int.reduceLT, Int.reduceNeg, Int.reduceEq, Int.reduceBEq, Int.reduceBNe, Nat.reduceMul, Nat.reduceAdd, Nat.reduceLeDiff, reduceCtorEq, Int.reduceToNat]
  have fin0 : ∀ e : List (List AV), e.length = l.length → True := fun _ _ => trivial
  refine K_for l.length (fun i g h c => g 0 = .dat z (l.map enc) ∧ g 3 = .sl (.l 7) 1 0 l.length none ∧ g 4 = i64 i ∧ ∃ q : Prop, q ∧ h (.l 7) = some { ver := 1, es := (l.take i).map enc ++ List.replicate (l.length - i) zr, esz := z, own := q }) ?_ ?_ ?_
  · exact ⟨by simp [upd_at, S_0], by simp [upd_at], by simp [upd_at], _, hzd, by simp [hup_at]⟩
  · rintro i A hi hA g h c ⟨q0, q3, q4, q, hq, hh⟩
    have hc : (i : Int) < (l.length : Int) := by omega
    have w2 : IntKind.i64.wrap ((i : Int) + 1) = ((i + 1 : Nat) : Int) := wnat1 (by omega)
    have hf1 := hB _ (mmem d hi)
    have hg1 := mget d hi
    have ht1 := mtake d hi
    generalize l.getD i d = cc at hf1 hg1 ht1
    have d1 := T.hf cc hf1
    have l1 := T.elen cc
    have tk : (enc cc).take z = enc cc := List.take_of_length_le (by omega)
    have pu := T.epure cc
    have hl1 : ((l.take i).map enc).length = i := by simp; omega
    have hz : ((l.take i).map enc ++ List.replicate (l.length - i) zr)[i]? = some zr := by
      rw [List.getElem?_append_right (by omega), hl1, Nat.sub_self, show l.length - i = (l.length - (i + 1)) + 1 by omega, List.replicate_succ]; rfl
    have hset : ∀ y : List AV, ((l.take i).map enc ++ List.replicate (l.length - i) zr).set i y = (l.take i).map enc ++ [y] ++ List.replicate (l.length - (i + 1)) zr := fun y => by
      rw [List.set_append, if_neg (by omega), hl1, Nat.sub_self, show l.length - i = (l.length - (i + 1)) + 1 by omega, List.replicate_succ, List.set_cons_zero, List.append_assoc]; rfl
    generalize hE : (l.take i).map enc ++ List.replicate (l.length - i) zr = E at hh hz hset
    simp -implicitDefEqProofs -dsimp only [q0, q3, q4, hc, hg1, l1, tk, go_sem, ↓reduceIte, Nat.reduceEqDiff, Int.reduceLE, Int.reduceLT, Int.reduceNeg, Int.reduceEq, Int.reduceBEq, Int.reduceBNe, Nat.reduceMul, Nat.reduceAdd, Nat.reduceLeDiff, reduceCtorEq, Int.reduceToNat]
    refine Call_any0 (own := true) (by simpa [expL, expA, expL_pure pu] using d1) (by simp only [List.append_nil, List.mem_cons, List.not_mem_nil, or_false, forall_eq]; exact ExpOk_pure pu)
      (fun x hx => by
        obtain ⟨p, hp, rfl⟩ := List.mem_map.1 hx
        obtain ⟨k, hk, hk2⟩ := List.getElem_of_mem hp
        exact (T.at_ cc 0 0 k p.1 p.2 (by rw [List.getElem?_eq_getElem hk, hk2])).2.1) (.inl rfl)
      (fun _ x hx => by
        obtain ⟨p, hp, rfl⟩ := List.mem_map.1 hx
        obtain ⟨k, hk, hk2⟩ := List.getElem_of_mem hp
        exact .inl (T.at_ cc 0 0 k p.1 p.2 (by rw [List.getElem?_eq_getElem hk, hk2])).2.2) (fun c' => ?_)
    simp only [Option.getD_some, impA]
    have e7 : newObs 20 c 0 ((T.gs cc).map (·.2)) h (.l 7) = h (.l 7) := newObs_l fun j => by simp
    have eat : ∀ i b, ((T.gs cc).map (·.2))[i]? = some b → newObs 20 c 0 ((T.gs cc).map (·.2)) h (.r 20 i) = some { b with ver := c } := fun i b hb => by
      have := @newObs_at 20 c ((T.gs cc).map (·.2)) 0 h i b hb
      rwa [Nat.zero_add] at this
    generalize newObs 20 c 0 ((T.gs cc).map (·.2)) h = H at e7 eat
    rw [hh] at e7
    have i1 := T.len cc 20 c
    have i2 := T.sto cc 20 c
    have i3 := T.nod cc 20 c
    have i4 := T.at_ cc 20 c
    have i5 := T.fold cc 20 c
    generalize impL 20 0 c (T.cells cc) = row at i1 i2 i3 i4 i5
    simp -implicitDefEqProofs -dsimp only [q0, q3, q4, e7, hz, go_sem, ↓reduceIte, Nat.reduceEqDiff, Int.reduceLE, Int.reduceLT, Int.reduceNeg, Int.reduceEq, Int.reduceBEq, Int.reduceBNe, Nat.reduceMul, Nat.reduceAdd, Nat.reduceLeDiff, reduceCtorEq, Int.reduceToNat]
    refine VK_p hi ?_
    simp -implicitDefEqProofs -dsimp only [q0, q3, q4, e7, hz, go_sem, ↓reduceIte, Nat.reduceEqDiff, Int.reduceLE, Int.reduceLT, Int.reduceNeg, Int.reduceEq, Int.reduceBEq, Int.reduceBNe, Nat.reduceMul, Nat.reduceAdd, Nat.reduceLeDiff, reduceCtorEq, Int.reduceToNat]
    refine WK_p ⟨i1, by omega, i2⟩ ?_
    have hEl : i < E.length := (List.getElem?_eq_some_iff.1 hz).1
    rw [show row ++ List.drop z zr = row by rw [List.drop_of_length_le (by omega), List.append_nil]]
    simp -implicitDefEqProofs -dsimp only [go_sem, ↓reduceIte, Nat.reduceEqDiff, Int.reduceLE, Int.reduceLT, Int.reduceNeg, Int.reduceEq, Int.reduceBEq, Int.reduceBNe, Nat.reduceMul, Nat.reduceAdd, Nat.reduceLeDiff, reduceCtorEq, Int.reduceToNat]
    obtain ⟨h', G1, r1, _⟩ := Gh_gives (g := updO (upd (upd (upd (upd (upd (upd (upd (upd (upd (upd (upd (upd g 8 (i64 i)) 9 (AV.dat z (List.map enc l))) 10 (i64 l.length)) 11 (AV.b true)) 14 (AV.sl (Rid.l 7) 1 0 l.length none)) 15 (i64 i)) 16 (AV.dat z (List.map enc l))) 17 (i64 i)) 18 (AV.eptr (enc cc) 0)) 19 (AV.agg (enc cc))) 20 (AV.agg row)) 21 (AV.ptr (Rid.l 7) 1 i 0)) none .undef)
      (t := 20) (ν := c) (z := z) (v := 1) (q := q ∧ NoDat row) ⟨hq, i3⟩ (o := .l 7) (by intro k; simp) (e := i) (c := c') (T.gs cc) 0 (hup H (.l 7) { ver := 1, es := E.set i row, esz := z, own := q ∧ NoDat row }) (E.set i row) row (by rw [hup_at, if_pos rfl]) (List.getElem?_set_self hEl)
      (fun k j b hk => by
        rw [Nat.zero_add]
        obtain ⟨a1, a2, a3⟩ := i4 k j b hk
        refine ⟨a1, ?_, a2, .inl a3⟩
        rw [hup_at, if_neg (by simp)]
        exact eat k b (by rw [List.getElem?_map, hk]; rfl)) (T.nd cc)
    refine Gh_of G1 ?_
    simp -implicitDefEqProofs -dsimp only [q0, q3, q4, w2, go_sem, ↓reduceIte, Nat.reduceEqDiff, Int.reduceLE, Int.reduceLT, Int.reduceNeg, Int.reduceEq, Int.reduceBEq, Int.reduceBNe, Nat.reduceMul, Nat.reduceAdd, Nat.reduceLeDiff, reduceCtorEq, Int.reduceToNat]
    refine hA _ _ _ ⟨by simp [upd_at, q0], by simp [upd_at, q3], by simp [upd_at], (q ∧ NoDat row), ⟨hq, i3⟩, ?_⟩
    rw [r1, List.set_set, i5, hset, ht1, List.map_append]
    rfl
  · rintro A g h c ⟨q0, q3, q4, q, hq, hh⟩
    have hc : ¬ (l.length : Int) < (l.length : Int) := by omega
    rw [Nat.sub_self, List.replicate_zero, List.append_nil, List.take_length] at hh
    simp -implicitDefEqProofs -dsimp only [q0, q3, q4, hc, go_sem, ↓reduceIte, Nat.reduceEqDiff, Int.reduceLE, Int.reduceLT, Int.reduceNeg, Int.reduceEq, Int.reduceBEq, Int.reduceBNe, Nat.reduceMul, Nat.reduceAdd, Nat.reduceLeDiff, reduceCtorEq, Int.reduceToNat]
    refine Fin_one (obs := []) (.l 7) { ver := 1, es := l.map enc, esz := z, own := q } (obL enc z l) rfl (by simp [hup_at, hh]) rfl (.inl ⟨fun _ => hq, fun _ => trivial⟩) (mpure T.epure l) (fun k x hk => by simp at hk) ?_ ?_
    · simp [resV, upd_at, q3, retA, cur, hup_at, hh, List.idxOf?_cons]
    · simp [resV, upd_at, q3, ResOk, cur, hup_at, hh]
end FrA
end
