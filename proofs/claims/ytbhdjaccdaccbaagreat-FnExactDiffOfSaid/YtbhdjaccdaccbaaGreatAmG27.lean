/- What is like itself is found alike: values, tables, rows, databases, changes. Walked. No condition. -/
import Derived.Test.YtbhdjaccdaccbaaGreatAmG18
import Derived.Test.YtbhdjaccdaccbaaGreatAmG24
import Derived.Test.YtbhdjaccdaccbaaGreatAmG26
set_option linter.all false
set_option linter.unusedSimpArgs false
set_option linter.unusedVariables false
set_option linter.deprecated false
/-! EqA -/
section
open Go Go.AM
namespace FrA
open Go.Proofs
set_option maxRecDepth 100000
set_option linter.unusedSimpArgs false
open Go.AM.L
theorem nii (k : Int) : (k != k) = false := by simp
theorem nss (x : List UInt8) : (!(x == x)) = false := by simp
theorem nbt (x : Bool) : ((x == x) != true) = false := by simp
theorem free_pure {cs : List AV} (hp : ∀ x ∈ cs, x.pure = true) : (AV.agg cs).free = true := List.all_eq_true.2 hp
def kEqS (z f : Nat) : K := .seq (R [o 4 (.mv (.c (.b false)))]) (.seq (.seq (R [m 6 0, o 7 (.len false (.t 6)), m 8 1, o 9 (.len false (.t 8)), o 10 (.bin .neq (.t 7) (.t 9))]) (.cond (.t 10) (.seq (R [o 4 (.mv (.c (.b false)))]) .ret) .skip)) (.seq (.seq (R [o 5 (.mv (n 0))]) (.block 0 (.loop (.seq (.seq (R [m 11 5, m 12 0, o 13 (.len false (.t 12)), o 14 (.bin .lss (.t 11) (.t 13))]) (.cond (.t 14) .skip (.exit 0))) (.seq (.block 1 (.seq (D [m 17 0, m 18 5, o 19 (.idx z (.t 17) (.t 18)), o 20 (.load true z (.t 19)), m 21 1, m 22 5, o 23 (.idx z (.t 21) (.t 22)), o 24 (.load true z (.t 23)), o 25 (.call0 (.f f) [.t 20, .t 24]), o 26 (.un .not (.t 25))] [[], [], [0, 1], [2], [], [], [4, 5], [6], [3, 7], [8]]) (.cond (.t 26) (.seq (R [o 4 (.mv (.c (.b false)))]) .ret) .skip))) (R [m 15 5, o 16 (.bin .add (.t 15) (n 1)), m 5 16])))))) (.seq (R [o 4 (.mv (.c (.b true)))]) .ret)))
theorem eqS_k {α : Type} (enc : α → List AV) (z f : Nat) (d : α) (hz : ∀ a, (enc a).length = z ∧ (enc a).all AV.pure = true) (B : α → Prop)
    (hf : ∀ a, B a → HT f [.agg (enc a), .agg (enc a)] [] (.b true) true []) (l : List α) (hn : l.length ≤ 1048576) (hB : ∀ a ∈ l, B a) :
    RunK HC (kEqS z f) (.done (FinP [4] [] true fun r o' => r = .b true ∧ o' = [])) (slots0 [.dat z (l.map enc), .dat z (l.map enc)]) (objs []) 1 := by
  unfold kEqS
  simp -implicitDefEqProofs -dsimp only [S_0, S_1, nii, go_sem, ↓reduceIte, Nat.reduceEqDiff, Int.reduceLE, Int.reduceLT, Int.reduceNeg, Int.reduceEq, Int.reduceBEq, Int.reduceBNe, Nat.reduceMul, Nat.reduceAdd, Nat.reduceLeDiff, reduceCtorEq, Int.reduceToNat]
  refine K_for l.length (fun i g h _ => g 0 = .dat z (l.map enc) ∧ g 1 = .dat z (l.map enc) ∧ g 5 = i64 i) ?_ ?_ ?_
  · exact ⟨by simp [upd_at, S_0], by simp [upd_at, S_1], by simp [upd_at]⟩
  · rintro i A hi hA g h c ⟨q0, q1, q5⟩
    have hc : (i : Int) < (l.length : Int) := by omega
    have w2 : IntKind.i64.wrap ((i : Int) + 1) = ((i + 1 : Nat) : Int) := wnat1 (by omega)
    have hf1 := hB _ (mmem d hi)
    have hg1 := mget d hi
    generalize l.getD i d = cc at hf1 hg1
    have d1 := hf cc hf1
    have l1 := (hz cc).1
    have tk : (enc cc).take z = enc cc := List.take_of_length_le (by omega)
    have pu : ∀ x ∈ enc cc, x.pure = true := List.all_eq_true.1 (hz cc).2
    simp -implicitDefEqProofs -dsimp only [q0, q1, q5, hc, hg1, l1, tk, go_sem, ↓reduceIte, Nat.reduceEqDiff, Int.reduceLE, Int.reduceLT, Int.reduceNeg, Int.reduceEq, Int.reduceBEq, Int.reduceBNe, Nat.reduceMul, Nat.reduceAdd, Nat.reduceLeDiff, reduceCtorEq, Int.reduceToNat]
    refine Call0_val true d1 (by simp [free_pure pu]) (.inl rfl) ?_
    simp -implicitDefEqProofs -dsimp only [q5, w2, go_sem, ↓reduceIte, Nat.reduceEqDiff, Int.reduceLE, Int.reduceLT, Int.reduceNeg, Int.reduceEq, Int.reduceBEq, Int.reduceBNe, Nat.reduceMul, Nat.reduceAdd, Nat.reduceLeDiff, reduceCtorEq, Int.reduceToNat]
    exact hA _ _ _ ⟨by simp [upd_at, q0], by simp [upd_at, q1], by simp [upd_at]⟩
  · rintro A g h c ⟨q0, q1, q5⟩
    have hc : ¬ (l.length : Int) < (l.length : Int) := by omega
    simp -implicitDefEqProofs -dsimp only [q0, q1, q5, hc, go_sem, ↓reduceIte, Nat.reduceEqDiff, Int.reduceLE, Int.reduceLT, Int.reduceNeg, Int.reduceEq, Int.reduceBEq, Int.reduceBNe, Nat.reduceMul, Nat.reduceAdd, Nat.reduceLeDiff, reduceCtorEq, Int.reduceToNat]
    exact Fin_val (by simp [resV, upd_at, retA]) (by simp [resV, upd_at, ResOk])
theorem h170 (v : Vl) : HT 170 [.agg (vC v), .agg (vC v)] [] (.b true) true [] := by
  refine holds_of (c := Tryz.f170.body.getD .skip) (k := k170.1) (ts := [4]) HOk mixedT hintT Tryz.func170 (by kernel_rfl) (by kernel_rfl) (by kernel_rfl) k170.2 (by kernel_rfl) (le_of 2 _ (by kernel_rfl)) ?_
  obtain ⟨a, b, s⟩ := v
  simp only [vC]
  simp -implicitDefEqProofs -dsimp only [k170, nii, nss, go_sem, ↓reduceIte, Nat.reduceEqDiff, Int.reduceLE, Int.reduceLT, Int.reduceNeg, Int.reduceEq, Int.reduceBEq, Int.reduceBNe, Nat.reduceMul, Nat.reduceAdd, Nat.reduceLeDiff, reduceCtorEq, Int.reduceToNat]
  exact Fin_val (by simp [resV, upd_at, retA]) (by simp [resV, upd_at, ResOk])
theorem h111 (l : List Vl) (hn : l.length ≤ 1048576) : HT 111 [vls l, vls l] [] (.b true) true [] := by
  refine holds_of (c := Tryz.f111.body.getD .skip) (k := kEqS 3 170) (ts := [4]) HOk mixedT hintT Tryz.func111 (by kernel_rfl) (by kernel_rfl) (by kernel_rfl) (by kernel_rfl) (by kernel_rfl) (le_of 2 _ (by kernel_rfl)) ?_
  exact eqS_k vC 3 170 v0 (fun _ => ⟨rfl, rfl⟩) (fun _ => True) (fun a _ => h170 a) l hn (fun _ _ => trivial)
theorem h171 (v : Cl) : HT 171 [.agg (clC v), .agg (clC v)] [] (.b true) true [] := by
  refine holds_of (c := Tryz.f171.body.getD .skip) (k := k171.1) (ts := [4]) HOk mixedT hintT Tryz.func171 (by kernel_rfl) (by kernel_rfl) (by kernel_rfl) k171.2 (by kernel_rfl) (le_of 2 _ (by kernel_rfl)) ?_
  obtain ⟨nm, k, nn, a, b, s⟩ := v
  have d1 := h170 (a, b, s)
  simp only [vC] at d1
  simp only [clC]
  simp -implicitDefEqProofs -dsimp only [k171, nii, nss, nbt, go_sem, ↓reduceIte, Nat.reduceEqDiff, Int.reduceLE, Int.reduceLT, Int.reduceNeg, Int.reduceEq, Int.reduceBEq, Int.reduceBNe, Nat.reduceMul, Nat.reduceAdd, Nat.reduceLeDiff, reduceCtorEq, Int.reduceToNat]
  refine Call_val (own := true) (d1) (by simp [ExpOk, AV.pure]) (.inl rfl) ?_
  simp -implicitDefEqProofs -dsimp only [go_sem, ↓reduceIte, Nat.reduceEqDiff, Int.reduceLE, Int.reduceLT, Int.reduceNeg, Int.reduceEq, Int.reduceBEq, Int.reduceBNe, Nat.reduceMul, Nat.reduceAdd, Nat.reduceLeDiff, reduceCtorEq, Int.reduceToNat]
  exact Fin_val (by simp [resV, upd_at, retA]) (by simp [resV, upd_at, ResOk])
theorem h112 (l : List Cl) (hn : l.length ≤ 1048576) : HT 112 [cls l, cls l] [] (.b true) true [] := by
  refine holds_of (c := Tryz.f112.body.getD .skip) (k := kEqS 6 171) (ts := [4]) HOk mixedT hintT Tryz.func112 (by kernel_rfl) (by kernel_rfl) (by kernel_rfl) (by kernel_rfl) (by kernel_rfl) (le_of 2 _ (by kernel_rfl)) ?_
  exact eqS_k clC 6 171 c0 (fun _ => ⟨rfl, rfl⟩) (fun _ => True) (fun a _ => h171 a) l hn (fun _ _ => trivial)
theorem h249 (v : Tk) : HT 249 [.agg (tkC v), .agg (tkC v)] [] (.b true) true [] := by
  refine holds_of (c := Tryz.f249.body.getD .skip) (k := k249.1) (ts := [4]) HOk mixedT hintT Tryz.func249 (by kernel_rfl) (by kernel_rfl) (by kernel_rfl) k249.2 (by kernel_rfl) (le_of 2 _ (by kernel_rfl)) ?_
  obtain ⟨k, c, a, b, s⟩ := v
  have d1 := h170 (a, b, s)
  simp only [vC] at d1
  simp only [tkC]
  simp -implicitDefEqProofs -dsimp only [k249, nii, nss, nbt, go_sem, ↓reduceIte, Nat.reduceEqDiff, Int.reduceLE, Int.reduceLT, Int.reduceNeg, Int.reduceEq, Int.reduceBEq, Int.reduceBNe, Nat.reduceMul, Nat.reduceAdd, Nat.reduceLeDiff, reduceCtorEq, Int.reduceToNat]
  refine Call_val (own := true) (d1) (by simp [ExpOk, AV.pure]) (.inl rfl) ?_
  simp -implicitDefEqProofs -dsimp only [go_sem, ↓reduceIte, Nat.reduceEqDiff, Int.reduceLE, Int.reduceLT, Int.reduceNeg, Int.reduceEq, Int.reduceBEq, Int.reduceBNe, Nat.reduceMul, Nat.reduceAdd, Nat.reduceLeDiff, reduceCtorEq, Int.reduceToNat]
  exact Fin_val (by simp [resV, upd_at, retA]) (by simp [resV, upd_at, ResOk])
theorem h222 (l : List Tk) (hn : l.length ≤ 1048576) : HT 222 [tks l, tks l] [] (.b true) true [] := by
  refine holds_of (c := Tryz.f222.body.getD .skip) (k := kEqS 5 249) (ts := [4]) HOk mixedT hintT Tryz.func222 (by kernel_rfl) (by kernel_rfl) (by kernel_rfl) (by kernel_rfl) (by kernel_rfl) (le_of 2 _ (by kernel_rfl)) ?_
  exact eqS_k tkC 5 249 k0 (fun _ => ⟨rfl, rfl⟩) (fun _ => True) (fun a _ => h249 a) l hn (fun _ _ => trivial)
theorem h113 (l : List Int) (hn : l.length ≤ 1048576) : HT 113 [ils l, ils l] [] (.b true) true [] := by
  refine holds_of (c := Tryz.f113.body.getD .skip) (k := k113.1) (ts := [4]) HOk mixedT hintT Tryz.func113 (by kernel_rfl) (by kernel_rfl) (by kernel_rfl) k113.2 (by kernel_rfl) (le_of 2 _ (by kernel_rfl)) ?_
  unfold ils
  simp -implicitDefEqProofs -dsimp only [k113, nii, go_sem, ↓reduceIte, Nat.reduceEqDiff, Int.reduceLE, Int.reduceLT, Int.reduceNeg, Int.reduceEq, Int.reduceBEq, Int.reduceBNe, Nat.reduceMul, Nat.reduceAdd, Nat.reduceLeDiff, reduceCtorEq, Int.reduceToNat]
  refine K_for l.length (fun i g h _ => g 0 = .dat 1 (l.map inC) ∧ g 1 = .dat 1 (l.map inC) ∧ g 5 = i64 i) ?_ ?_ ?_
  · exact ⟨by simp [upd_at, S_0], by simp [upd_at, S_1], by simp [upd_at]⟩
  · rintro i A hi hA g h c ⟨q0, q1, q5⟩
    have hc : (i : Int) < (l.length : Int) := by omega
    have w2 : IntKind.i64.wrap ((i : Int) + 1) = ((i + 1 : Nat) : Int) := wnat1 (by omega)
    have hg1 := mget (0 : Int) hi
    generalize l.getD i 0 = cc at hg1
    simp -implicitDefEqProofs -dsimp only [q0, q1, q5, hc, hg1, inC, nii, w2, go_sem, ↓reduceIte, Nat.reduceEqDiff, Int.reduceLE, Int.reduceLT, Int.reduceNeg, Int.reduceEq, Int.reduceBEq, Int.reduceBNe, Nat.reduceMul, Nat.reduceAdd, Nat.reduceLeDiff, reduceCtorEq, Int.reduceToNat]
    exact hA _ _ _ ⟨by simp [upd_at, q0], by simp [upd_at, q1], by simp [upd_at]⟩
  · rintro A g h c ⟨q0, q1, q5⟩
    have hc : ¬ (l.length : Int) < (l.length : Int) := by omega
    simp -implicitDefEqProofs -dsimp only [q0, q1, q5, hc, go_sem, ↓reduceIte, Nat.reduceEqDiff, Int.reduceLE, Int.reduceLT, Int.reduceNeg, Int.reduceEq, Int.reduceBEq, Int.reduceBNe, Nat.reduceMul, Nat.reduceAdd, Nat.reduceLeDiff, reduceCtorEq, Int.reduceToNat]
    exact Fin_val (by simp [resV, upd_at, retA]) (by simp [resV, upd_at, ResOk])
theorem h172 (u : List Int) (hn : u.length ≤ 1048576) : HT 172 [.agg (unC u), .agg (unC u)] [] (.b true) true [] := by
  refine holds_of (c := Tryz.f172.body.getD .skip) (k := k172.1) (ts := [4]) HOk mixedT hintT Tryz.func172 (by kernel_rfl) (by kernel_rfl) (by kernel_rfl) k172.2 (by kernel_rfl) (le_of 2 _ (by kernel_rfl)) ?_
  have d1 := h113 u hn
  unfold unC
  unfold ils at d1 ⊢
  simp -implicitDefEqProofs -dsimp only [k172, go_sem, ↓reduceIte, Nat.reduceEqDiff, Int.reduceLE, Int.reduceLT, Int.reduceNeg, Int.reduceEq, Int.reduceBEq, Int.reduceBNe, Nat.reduceMul, Nat.reduceAdd, Nat.reduceLeDiff, reduceCtorEq, Int.reduceToNat]
  refine Call_val (own := true) (d1) (by simp [ExpOk, AV.pure]) (.inl rfl) ?_
  simp -implicitDefEqProofs -dsimp only [go_sem, ↓reduceIte, Nat.reduceEqDiff, Int.reduceLE, Int.reduceLT, Int.reduceNeg, Int.reduceEq, Int.reduceBEq, Int.reduceBNe, Nat.reduceMul, Nat.reduceAdd, Nat.reduceLeDiff, reduceCtorEq, Int.reduceToNat]
  exact Fin_val (by simp [resV, upd_at, retA]) (by simp [resV, upd_at, ResOk])
theorem h114 (l : List (List Int)) (hn : l.length ≤ 1048576) (hB : ∀ a ∈ l, a.length ≤ 1048576) : HT 114 [uns l, uns l] [] (.b true) true [] := by
  refine holds_of (c := Tryz.f114.body.getD .skip) (k := kEqS 1 172) (ts := [4]) HOk mixedT hintT Tryz.func114 (by kernel_rfl) (by kernel_rfl) (by kernel_rfl) (by kernel_rfl) (by kernel_rfl) (le_of 2 _ (by kernel_rfl)) ?_
  exact eqS_k unC 1 172 [] (fun _ => ⟨rfl, rfl⟩) (fun u => u.length ≤ 1048576) h172 l hn hB
theorem h173 (u : List Tk) (hn : u.length ≤ 1048576) : HT 173 [.agg (ckC u), .agg (ckC u)] [] (.b true) true [] := by
  refine holds_of (c := Tryz.f173.body.getD .skip) (k := k173.1) (ts := [4]) HOk mixedT hintT Tryz.func173 (by kernel_rfl) (by kernel_rfl) (by kernel_rfl) k173.2 (by kernel_rfl) (le_of 2 _ (by kernel_rfl)) ?_
  have d1 := h222 u hn
  unfold ckC
  unfold tks at d1 ⊢
  simp -implicitDefEqProofs -dsimp only [k173, go_sem, ↓reduceIte, Nat.reduceEqDiff, Int.reduceLE, Int.reduceLT, Int.reduceNeg, Int.reduceEq, Int.reduceBEq, Int.reduceBNe, Nat.reduceMul, Nat.reduceAdd, Nat.reduceLeDiff, reduceCtorEq, Int.reduceToNat]
  refine Call_val (own := true) (d1) (by simp [ExpOk, AV.pure]) (.inl rfl) ?_
  simp -implicitDefEqProofs -dsimp only [go_sem, ↓reduceIte, Nat.reduceEqDiff, Int.reduceLE, Int.reduceLT, Int.reduceNeg, Int.reduceEq, Int.reduceBEq, Int.reduceBNe, Nat.reduceMul, Nat.reduceAdd, Nat.reduceLeDiff, reduceCtorEq, Int.reduceToNat]
  exact Fin_val (by simp [resV, upd_at, retA]) (by simp [resV, upd_at, ResOk])
theorem h115 (l : List (List Tk)) (hn : l.length ≤ 1048576) (hB : ∀ a ∈ l, a.length ≤ 1048576) : HT 115 [cks l, cks l] [] (.b true) true [] := by
  refine holds_of (c := Tryz.f115.body.getD .skip) (k := kEqS 1 173) (ts := [4]) HOk mixedT hintT Tryz.func115 (by kernel_rfl) (by kernel_rfl) (by kernel_rfl) (by kernel_rfl) (by kernel_rfl) (le_of 2 _ (by kernel_rfl)) ?_
  exact eqS_k ckC 1 173 [] (fun _ => ⟨rfl, rfl⟩) (fun u => u.length ≤ 1048576) h173 l hn hB
theorem h174 (f : Fk) (hn : f.cols.length ≤ 1048576) : HT 174 [.agg (fkC f), .agg (fkC f)] [] (.b true) true [] := by
  refine holds_of (c := Tryz.f174.body.getD .skip) (k := k174.1) (ts := [4]) HOk mixedT hintT Tryz.func174 (by kernel_rfl) (by kernel_rfl) (by kernel_rfl) k174.2 (by kernel_rfl) (le_of 2 _ (by kernel_rfl)) ?_
  obtain ⟨u, nm, x1, x2, x3⟩ := f
  have d1 := h113 u hn
  simp only [fkC]
  unfold ils at d1 ⊢
  simp -implicitDefEqProofs -dsimp only [k174, nii, nss, nbt, go_sem, ↓reduceIte, Nat.reduceEqDiff, Int.reduceLE, Int.reduceLT, Int.reduceNeg, Int.reduceEq, Int.reduceBEq, Int.reduceBNe, Nat.reduceMul, Nat.reduceAdd, Nat.reduceLeDiff, reduceCtorEq, Int.reduceToNat]
  refine Call_val (own := true) (d1) (by simp [ExpOk, AV.pure]) (.inl rfl) ?_
  simp -implicitDefEqProofs -dsimp only [nii, nss, nbt, go_sem, ↓reduceIte, Nat.reduceEqDiff, Int.reduceLE, Int.reduceLT, Int.reduceNeg, Int.reduceEq, Int.reduceBEq, Int.reduceBNe, Nat.reduceMul, Nat.reduceAdd, Nat.reduceLeDiff, reduceCtorEq, Int.reduceToNat]
  exact Fin_val (by simp [resV, upd_at, retA]) (by simp [resV, upd_at, ResOk])
theorem h116 (l : List Fk) (hn : l.length ≤ 1048576) (hB : ∀ a ∈ l, a.cols.length ≤ 1048576) : HT 116 [fkk l, fkk l] [] (.b true) true [] := by
  refine holds_of (c := Tryz.f116.body.getD .skip) (k := kEqS 5 174) (ts := [4]) HOk mixedT hintT Tryz.func116 (by kernel_rfl) (by kernel_rfl) (by kernel_rfl) (by kernel_rfl) (by kernel_rfl) (le_of 2 _ (by kernel_rfl)) ?_
  exact eqS_k fkC 5 174 f0 (fun _ => ⟨rfl, rfl⟩) (fun u => u.cols.length ≤ 1048576) h174 l hn hB
theorem h53 (t : Tb) (hb : BTb t) : HT 53 [.agg (tbC t), .agg (tbC t)] [] (.b true) true [] := by
  refine holds_of (c := Tryz.f53.body.getD .skip) (k := k53.1) (ts := [4]) HOk mixedT hintT Tryz.func53 (by kernel_rfl) (by kernel_rfl) (by kernel_rfl) k53.2 (by kernel_rfl) (le_of 2 _ (by kernel_rfl)) ?_
  obtain ⟨nm, cs, ks, us, es, fs⟩ := t
  obtain ⟨b1, b2, b3, b4, b5, b6, b7, b8⟩ := hb
  simp only at b1 b2 b3 b4 b5 b6 b7 b8
  have d1 := h112 cs b1
  have d2 := h113 ks b2
  have d3 := h114 us b3 b4
  have d4 := h115 es b5 b6
  have d5 := h116 fs b7 b8
  simp only [tbC]
  unfold cls at d1 ⊢
  unfold ils at d2 ⊢
  unfold uns at d3 ⊢
  unfold cks at d4 ⊢
  unfold fkk at d5 ⊢
  simp -implicitDefEqProofs -dsimp only [k53, nss, go_sem, ↓reduceIte, Nat.reduceEqDiff, Int.reduceLE, Int.reduceLT, Int.reduceNeg, Int.reduceEq, Int.reduceBEq, Int.reduceBNe, Nat.reduceMul, Nat.reduceAdd, Nat.reduceLeDiff, reduceCtorEq, Int.reduceToNat]
  refine Call_val (own := true) (d1) (by simp [ExpOk, AV.pure]) (.inl rfl) ?_
  simp -implicitDefEqProofs -dsimp only [go_sem, ↓reduceIte, Nat.reduceEqDiff, Int.reduceLE, Int.reduceLT, Int.reduceNeg, Int.reduceEq, Int.reduceBEq, Int.reduceBNe, Nat.reduceMul, Nat.reduceAdd, Nat.reduceLeDiff, reduceCtorEq, Int.reduceToNat]
  refine Call_val (own := true) (d2) (by simp [ExpOk, AV.pure]) (.inl rfl) ?_
  simp -implicitDefEqProofs -dsimp only [go_sem, ↓reduceIte, Nat.reduceEqDiff, Int.reduceLE, Int.reduceLT, Int.reduceNeg, Int.reduceEq, Int.reduceBEq, Int.reduceBNe, Nat.reduceMul, Nat.reduceAdd, Nat.reduceLeDiff, reduceCtorEq, Int.reduceToNat]
  refine Call_val (own := true) (d3) (by simp [ExpOk, AV.pure]) (.inl rfl) ?_
  simp -implicitDefEqProofs -dsimp only [go_sem, ↓reduceIte, Nat.reduceEqDiff, Int.reduceLE, Int.reduceLT, Int.reduceNeg, Int.reduceEq, Int.reduceBEq, Int.reduceBNe, Nat.reduceMul, Nat.reduceAdd, Nat.reduceLeDiff, reduceCtorEq, Int.reduceToNat]
  refine Call_val (own := true) (d4) (by simp [ExpOk, AV.pure]) (.inl rfl) ?_
  simp -implicitDefEqProofs -dsimp only [go_sem, ↓reduceIte, Nat.reduceEqDiff, Int.reduceLE, Int.reduceLT, Int.reduceNeg, Int.reduceEq, Int.reduceBEq, Int.reduceBNe, Nat.reduceMul, Nat.reduceAdd, Nat.reduceLeDiff, reduceCtorEq, Int.reduceToNat]
  refine Call_val (own := true) (d5) (by simp [ExpOk, AV.pure]) (.inl rfl) ?_
  simp -implicitDefEqProofs -dsimp only [go_sem, ↓reduceIte, Nat.reduceEqDiff, Int.reduceLE, Int.reduceLT, Int.reduceNeg, Int.reduceEq, Int.reduceBEq, Int.reduceBNe, Nat.reduceMul, Nat.reduceAdd, Nat.reduceLeDiff, reduceCtorEq, Int.reduceToNat]
  exact Fin_val (by simp [resV, upd_at, retA]) (by simp [resV, upd_at, ResOk])
theorem h16 (l : List Tb) (hB : BTbs l) : HT 16 [tbs l, tbs l] [] (.b true) true [] := by
  refine holds_of (c := Tryz.f16.body.getD .skip) (k := kEqS 6 53) (ts := [4]) HOk mixedT hintT Tryz.func16 (by kernel_rfl) (by kernel_rfl) (by kernel_rfl) (by kernel_rfl) (by kernel_rfl) (le_of 2 _ (by kernel_rfl)) ?_
  exact eqS_k tbC 6 53 t0 (fun _ => ⟨rfl, rfl⟩) BTb h53 l hB.1 hB.2
theorem h175 (r : Rw) (hn : r.vals.length ≤ 1048576) : HT 175 [.agg (rwC r), .agg (rwC r)] [] (.b true) true [] := by
  refine holds_of (c := Tryz.f175.body.getD .skip) (k := k175.1) (ts := [4]) HOk mixedT hintT Tryz.func175 (by kernel_rfl) (by kernel_rfl) (by kernel_rfl) k175.2 (by kernel_rfl) (le_of 2 _ (by kernel_rfl)) ?_
  obtain ⟨k, u⟩ := r
  have d1 := h111 u hn
  simp only [rwC]
  unfold vls at d1 ⊢
  simp -implicitDefEqProofs -dsimp only [k175, nii, go_sem, ↓reduceIte, Nat.reduceEqDiff, Int.reduceLE, Int.reduceLT, Int.reduceNeg, Int.reduceEq, Int.reduceBEq, Int.reduceBNe, Nat.reduceMul, Nat.reduceAdd, Nat.reduceLeDiff, reduceCtorEq, Int.reduceToNat]
  refine Call_val (own := true) (d1) (by simp [ExpOk, AV.pure]) (.inl rfl) ?_
  simp -implicitDefEqProofs -dsimp only [go_sem, ↓reduceIte, Nat.reduceEqDiff, Int.reduceLE, Int.reduceLT, Int.reduceNeg, Int.reduceEq, Int.reduceBEq, Int.reduceBNe, Nat.reduceMul, Nat.reduceAdd, Nat.reduceLeDiff, reduceCtorEq, Int.reduceToNat]
  exact Fin_val (by simp [resV, upd_at, retA]) (by simp [resV, upd_at, ResOk])
theorem h117 (l : List Rw) (hn : l.length ≤ 1048576) (hB : ∀ a ∈ l, a.vals.length ≤ 1048576) : HT 117 [rws l, rws l] [] (.b true) true [] := by
  refine holds_of (c := Tryz.f117.body.getD .skip) (k := kEqS 2 175) (ts := [4]) HOk mixedT hintT Tryz.func117 (by kernel_rfl) (by kernel_rfl) (by kernel_rfl) (by kernel_rfl) (by kernel_rfl) (le_of 2 _ (by kernel_rfl)) ?_
  exact eqS_k rwC 2 175 r0 (fun _ => ⟨rfl, rfl⟩) (fun u => u.vals.length ≤ 1048576) h175 l hn hB
theorem h54 (u : Dt) (hn : BDt u) : HT 54 [.agg (dtC u), .agg (dtC u)] [] (.b true) true [] := by
  refine holds_of (c := Tryz.f54.body.getD .skip) (k := k54.1) (ts := [4]) HOk mixedT hintT Tryz.func54 (by kernel_rfl) (by kernel_rfl) (by kernel_rfl) k54.2 (by kernel_rfl) (le_of 2 _ (by kernel_rfl)) ?_
  have d1 := h117 u hn.1 hn.2
  unfold dtC
  unfold rws at d1 ⊢
  simp -implicitDefEqProofs -dsimp only [k54, go_sem, ↓reduceIte, Nat.reduceEqDiff, Int.reduceLE, Int.reduceLT, Int.reduceNeg, Int.reduceEq, Int.reduceBEq, Int.reduceBNe, Nat.reduceMul, Nat.reduceAdd, Nat.reduceLeDiff, reduceCtorEq, Int.reduceToNat]
  refine Call_val (own := true) (d1) (by simp [ExpOk, AV.pure]) (.inl rfl) ?_
  simp -implicitDefEqProofs -dsimp only [go_sem, ↓reduceIte, Nat.reduceEqDiff, Int.reduceLE, Int.reduceLT, Int.reduceNeg, Int.reduceEq, Int.reduceBEq, Int.reduceBNe, Nat.reduceMul, Nat.reduceAdd, Nat.reduceLeDiff, reduceCtorEq, Int.reduceToNat]
  exact Fin_val (by simp [resV, upd_at, retA]) (by simp [resV, upd_at, ResOk])
theorem h17 (l : Db) (hB : BDb l) : HT 17 [dbs l, dbs l] [] (.b true) true [] := by
  refine holds_of (c := Tryz.f17.body.getD .skip) (k := kEqS 1 54) (ts := [4]) HOk mixedT hintT Tryz.func17 (by kernel_rfl) (by kernel_rfl) (by kernel_rfl) (by kernel_rfl) (by kernel_rfl) (le_of 2 _ (by kernel_rfl)) ?_
  exact eqS_k dtC 1 54 [] (fun _ => ⟨rfl, rfl⟩) BDt h54 l hB.1 hB.2
end FrA
end
/-! HdA -/
section
open Go Go.AM
namespace FrA
open Go.Proofs
set_option maxRecDepth 100000
set_option linter.unusedSimpArgs false
open Go.AM.L
def wCh (x : Ch) : Nat := 1 + 1 + wL w3 x.old + wL w3 x.now
def mkCh (k : Nat) (x : Ch) : Ch := ⟨(k : Int), ((k + 1 : Nat) : Int), mkL w3 mkVl (k + 1 + 1) x.old, mkL w3 mkVl (k + 1 + 1 + wL w3 x.old) x.now⟩
def BCh (x : Ch) : Prop := x.old.length ≤ 1048576 ∧ x.now.length ≤ 1048576
def kC1 : K := (R [G, m 26 0, m 27 5, o 28 (.idx 4 (.t 26) (.t 27)), o 29 (.fld 2 (.t 28)), o 30 (.load false 1 (.t 29)), m 31 1, o 32 (.call (.f 62) [.t 30, .t 31]), m 1 32, G])
def kC2 : K := (R [G, m 33 0, m 34 5, o 35 (.idx 4 (.t 33) (.t 34)), o 36 (.fld 3 (.t 35)), o 37 (.load false 1 (.t 36)), m 38 1, o 39 (.call (.f 62) [.t 37, .t 38]), m 1 39, G])
def kBChangeS : K := (.seq (R [m 12 0, m 13 5, m 14 1, o 15 (.idx 4 (.t 12) (.t 13)), o 16 (.fld 0 (.t 15)), x (.store 1 (.t 16) (.t 14))]) (.seq (R [m 17 1, o 18 (.bin .add (.t 17) (n 1)), m 1 18]) (.seq (R [m 19 0, m 20 5, m 21 1, o 22 (.idx 4 (.t 19) (.t 20)), o 23 (.fld 1 (.t 22)), x (.store 1 (.t 23) (.t 21))]) (.seq (R [m 24 1, o 25 (.bin .add (.t 24) (n 1)), m 1 25]) (.seq kC1 kC2)))))
theorem bCh {n : Nat} {cap : Option Nat} (s : Stk) (g : Slots) (h : Heap) (c i k : Nat) (E : List (List AV)) (q : Prop) (cc : _) (hB : BCh cc) (hk : 0 < k) (hkw : k + wCh cc ≤ 1000000000) (hi : i < n) (q0 : g 0 = .sl (.p 0) 0 0 n cap) (q1 : g 1 = i64 k) (q5 : g 5 = i64 i) (hq : q) (hh : h (.p 0) = some (obM 4 E q)) (he : E[i]? = some (chC cc))
      (hA : ∀ g' h' c' (q' : Prop), g' 0 = .sl (.p 0) 0 0 n cap → g' 1 = i64 (k + wCh cc : Nat) → g' 5 = i64 i → q' → h' (.p 0) = some (obM 4 (E.set i (chC (mkCh k cc))) q') → Ret HC .normal s g' h' c') : RunK HC kBChangeS s g h c := by
  obtain ⟨x1, x2, os, ns⟩ := cc
  obtain ⟨b1, b2⟩ := hB
  simp only at b1 b2
  simp only [wCh] at hkw
  have he2 := he
  simp only [chC, vls] at he2
  have hh2 := hh
  unfold obM at hh2
  have hlt := (List.getElem?_eq_some_iff.1 he).1
  have hmk : mkCh k ⟨x1, x2, os, ns⟩ = ⟨(k : Int), ((k + 1 : Nat) : Int), mkL w3 mkVl (k + 1 + 1) os, mkL w3 mkVl (k + 1 + 1 + wL w3 os) ns⟩ := rfl
  rw [hmk] at hA
  unfold kBChangeS
  simp -implicitDefEqProofs -dsimp only [q0, q1, q5, hh2, he2, hi, wnat1 (n := k) (by omega), wnat1 (n := k + 1) (by omega), List.getElem?_set_self hlt, List.set_set, List.length_set, kC1, go_sem, ↓reduceIte, Nat.reduceEqDiff, Int.reduceLE, Int.reduceLT, Int.reduceNeg, Int.reduceEq, Int.reduceBEq, Int.reduceBNe, Nat.reduceMul, Nat.reduceAdd, Nat.reduceLeDiff, reduceCtorEq, Int.reduceToNat]
  have hq1 : (q ∧ NoDat [.i .i64 k]) ∧ NoDat [.i .i64 (k + 1 : Nat)] := ⟨⟨hq, by simp [AM.NoDat, AV.isDat]⟩, by simp [AM.NoDat, AV.isDat]⟩
  refine Mark_sub 26 (by omega) (n := n) (i := i) (cap := cap) (k := k + 1 + 1) (k' := k + 1 + 1 + wL w3 os) (z := 4) (zi := 3) (j := 2) (E := E.set i [.i .i64 k, .i .i64 (k + 1 : Nat), .dat 3 (os.map vC), .dat 3 (ns.map vC)]) (row := [.i .i64 k, .i .i64 (k + 1 : Nat), .dat 3 (os.map vC), .dat 3 (ns.map vC)]) (q := (q ∧ NoDat [.i .i64 k]) ∧ NoDat [.i .i64 (k + 1 : Nat)]) (es := os.map vC) (es' := (mkL w3 mkVl (k + 1 + 1) os).map vC) (by simp [upd_at, q0]) (by simp [upd_at]) (by simp [upd_at, q5]) hi hq1 (by rw [hup_at, if_pos rfl]; rfl) (List.getElem?_set_self hlt) rfl rfl (by simpa using h62 os (k + 1 + 1) none True trivial (by omega) (by omega) b1) (v_pure _) (v_pure _) (by simp [mkL_len]) fun g1 h1 c1 r0 r1 r5 rh => ?_
  rw [List.set_set] at rh
  simp only [List.set_cons_succ, List.set_cons_zero] at rh
  simp -implicitDefEqProofs -dsimp only [kC2, go_sem, ↓reduceIte, Nat.reduceEqDiff, Int.reduceLE, Int.reduceLT, Int.reduceNeg, Int.reduceEq, Int.reduceBEq, Int.reduceBNe, Nat.reduceMul, Nat.reduceAdd, Nat.reduceLeDiff, reduceCtorEq, Int.reduceToNat]
  refine Mark_sub 33 (by omega) (n := n) (i := i) (cap := cap) (k := k + 1 + 1 + wL w3 os) (k' := k + 1 + 1 + wL w3 os + wL w3 ns) (z := 4) (zi := 3) (j := 3) (E := E.set i [.i .i64 k, .i .i64 (k + 1 : Nat), .dat 3 ((mkL w3 mkVl (k + 1 + 1) os).map vC), .dat 3 (ns.map vC)]) (row := [.i .i64 k, .i .i64 (k + 1 : Nat), .dat 3 ((mkL w3 mkVl (k + 1 + 1) os).map vC), .dat 3 (ns.map vC)]) (q := (q ∧ NoDat [.i .i64 k]) ∧ NoDat [.i .i64 (k + 1 : Nat)]) (es := ns.map vC) (es' := (mkL w3 mkVl (k + 1 + 1 + wL w3 os) ns).map vC) r0 r1 r5 hi hq1 rh (List.getElem?_set_self hlt) rfl rfl (by simpa using h62 ns (k + 1 + 1 + wL w3 os) none True trivial (by omega) (by omega) b2) (v_pure _) (v_pure _) (by simp [mkL_len]) fun g1 h1 c1 r0 r1 r5 rh => ?_
  rw [List.set_set] at rh
  simp only [List.set_cons_succ, List.set_cons_zero] at rh
  refine hA _ _ _ _ r0 (by rw [r1, wCh]; exact congrArg i64 (congrArg Int.ofNat (by simp only; omega))) r5 hq1 (by rw [rh]; rfl)
theorem h20 (l : List Ch) (k : Nat) (cap : Option Nat) (q : Prop) (hq : q) (hk : 0 < k) (hkl : k + wL wCh l ≤ 1000000000) (hn : l.length ≤ 1048576) (hB : ∀ u ∈ l, BCh u) : HT 20 [.sl (.p 0) 0 0 l.length cap, i64 k] [obM 4 (l.map chC) q] (i64 (k + wL wCh l : Nat)) true [obM 4 ((mkL wCh mkCh k l).map chC) True] := by
  refine holds_of (c := Tryz.f20.body.getD .skip) (k := kMk 40 kBChangeS) (ts := [4]) HOk mixedT hintT Tryz.func20 (by kernel_rfl) (by kernel_rfl) (by kernel_rfl) (by kernel_rfl) (by kernel_rfl) (le_of 2 _ (by kernel_rfl)) ?_
  exact mk_k chC 4 40 (by omega) kBChangeS h0 wCh mkCh (fun a => by simp [chC, vls, AV.pure]) BCh l hB (fun s g h c i k E q cc hB hk hkw hi q0 q1 q5 hq hh he hA => bCh s g h c i k E q cc hB hk hkw hi q0 q1 q5 hq hh he hA) k q hq hk hkl hn
/-- Marks that are looked for. -/
theorem hd_k {α : Type} (enc : α → List AV) (z T : Nat) (hT : 6 ≤ T) (b : K) (d : α) (w : α → Nat) (mk : Nat → α → α) (B : α → Prop) (l : List α) (hB : ∀ a ∈ l, B a)
    (hb : ∀ (s : Stk) (g : Slots) (h : Heap) (c i k : Nat) (E : List (List AV)) (cc : α) (ts : List Nat) (Q : Ex → Post), B cc → 0 < k → k + w cc ≤ 1000000000 → i < l.length → i < E.length → g 0 = .dat z E → g 1 = i64 k → g 5 = i64 i → E[i]? = some (enc (mk k cc)) →
      (∀ g' h' c', g' 0 = .dat z E → g' 1 = i64 (k + w cc : Nat) → g' 5 = i64 i → Ret HC .normal s g' h' c') → RunK HC b s g h c)
    (k : Nat) (hk : 0 < k) (hkl : k + wL w l ≤ 1000000000) (hn : l.length ≤ 1048576) :
    RunK HC (kMk T b) (.done (FinP [4] [] true fun r o' => r = i64 (k + wL w l : Nat) ∧ o' = [])) (slots0 [.dat z ((mkL w mk k l).map enc), i64 k]) (objs []) 1 := by
  unfold kMk
  simp -implicitDefEqProofs -dsimp only [go_sem, ↓reduceIte, Nat.reduceEqDiff, Int.reduceLE, Int.reduceLT, Int.reduceNeg, Int.reduceEq, Int.reduceBEq, Int.reduceBNe, Nat.reduceMul, Nat.reduceAdd, Nat.reduceLeDiff, reduceCtorEq, Int.reduceToNat]
  refine K_for l.length (fun i g h c => g 0 = .dat z ((mkL w mk k l).map enc) ∧ g 1 = i64 (k + wL w (l.take i) : Nat) ∧ g 5 = i64 i) ?_ ?_ ?_
  · exact ⟨by simp [upd_at, S_0], by simp [upd_at, S_1, wL], by simp [upd_at]⟩
  · rintro i A hi hA g h c ⟨q0, q1, q5⟩
    have hc : (i : Int) < (l.length : Int) := by omega
    have w2 : IntKind.i64.wrap ((i : Int) + 1) = ((i + 1 : Nat) : Int) := wnat1 (by omega)
    have hml : ((mkL w mk k l).map enc).length = l.length := by rw [List.length_map, mkL_len]
    have he : ((mkL w mk k l).map enc)[i]? = some (enc (mk (k + wL w (l.take i)) (l.getD i d))) := by rw [List.getElem?_map, mget d (by rw [mkL_len]; exact hi), mkL_get w mk d hi]; rfl
    have hws := wL_succ w d hi
    have hwl := wL_le w l (i + 1)
    have hB1 := hB _ (mmem d hi)
    have hml2 := mkL_len w mk k l
    simp -implicitDefEqProofs -dsimp only [q0, q5, hml2, hc, go_sem, ↓reduceIte, Nat.reduceEqDiff, Int.reduceLE, Int.reduceLT, Int.reduceNeg, Int.reduceEq, Int.reduceBEq, Int.reduceBNe, Nat.reduceMul, Nat.reduceAdd, Nat.reduceLeDiff, reduceCtorEq, Int.reduceToNat]
    refine hb _ _ _ _ i (k + wL w (l.take i)) ((mkL w mk k l).map enc) (l.getD i d) [] (fun _ _ _ _ => True) hB1 (by omega) (by omega) hi (by omega) (by simp [upd_at, q0]) (by simp [upd_at, q1]) (by simp [upd_at, q5]) he fun g' h' c' r0 r1 r5 => ?_
    simp -implicitDefEqProofs -dsimp only [r5, w2, go_sem, ↓reduceIte, Nat.reduceEqDiff, Int.reduceLE, Int.reduceLT, Int.reduceNeg, Int.reduceEq, Int.reduceBEq, Int.reduceBNe, Nat.reduceMul, Nat.reduceAdd, Nat.reduceLeDiff, reduceCtorEq, Int.reduceToNat]
    exact hA _ _ _ ⟨by simp [upd_at, r0], by simp [upd_at, r1, hws]; omega, by simp [upd_at]⟩
  · rintro A g h c ⟨q0, q1, q5⟩
    have hc : ¬ (l.length : Int) < (l.length : Int) := by omega
    rw [List.take_length] at q1
    have hml2 := mkL_len w mk k l
    have t0 : ((0 : Nat) = T) = False := by simp; omega
    have t1 : ((1 : Nat) = T) = False := by simp; omega
    simp -implicitDefEqProofs -dsimp only [q0, q1, q5, hc, hml2, go_sem, ↓reduceIte, Nat.reduceEqDiff, Int.reduceLE, Int.reduceLT, Int.reduceNeg, Int.reduceEq, Int.reduceBEq, Int.reduceBNe, Nat.reduceMul, Nat.reduceAdd, Nat.reduceLeDiff, reduceCtorEq, Int.reduceToNat]
    exact Fin_val (by simp [resV, upd_at, retA]) (by simp [resV, upd_at, ResOk])
def kHValS : K := (.seq (.seq (R [m 12 0, m 13 5, o 14 (.idx 3 (.t 12) (.t 13)), o 15 (.fld 0 (.t 14)), o 16 (.load false 1 (.t 15)), m 17 1, o 18 (.bin .neq (.t 16) (.t 17))]) (.cond (.t 18) (.seq (R [o 4 (.mv (n (-1)))]) .ret) .skip)) (.seq (R [m 19 1, o 20 (.bin .add (.t 19) (n 1)), m 1 20]) (.seq (.seq (R [m 21 0, m 22 5, o 23 (.idx 3 (.t 21) (.t 22)), o 24 (.fld 1 (.t 23)), o 25 (.load false 1 (.t 24)), m 26 1, o 27 (.bin .neq (.t 25) (.t 26))]) (.cond (.t 27) (.seq (R [o 4 (.mv (n (-1)))]) .ret) .skip)) (.seq (R [m 28 1, o 29 (.bin .add (.t 28) (n 1)), m 1 29]) (.seq (.seq (D [m 30 0, m 31 5, o 32 (.idx 3 (.t 30) (.t 31)), o 33 (.fld 2 (.t 32)), o 34 (.load false 1 (.t 33)), m 35 1, o 36 (.call0 (.f 55) [.t 35]), o 37 (.bin .neq (.t 34) (.t 36))] [[], [], [0, 1], [2], [3], [], [5], [4, 6]]) (.cond (.t 37) (.seq (R [o 4 (.mv (n (-1)))]) .ret) .skip)) (R [m 38 1, o 39 (.bin .add (.t 38) (n 1)), m 1 39]))))))
theorem dVl (s : Stk) (g : Slots) (h : Heap) (c i k : Nat) (E : List (List AV)) (cc : Vl) (hk : 0 < k) (hkw : k + w3 cc ≤ 1000000000) (hi : i < E.length) (q0 : g 0 = .dat 3 E) (q1 : g 1 = i64 k) (q5 : g 5 = i64 i) (he : E[i]? = some (vC (mkVl k cc)))
      (hA : ∀ g' h' c', g' 0 = .dat 3 E → g' 1 = i64 (k + w3 cc : Nat) → g' 5 = i64 i → Ret HC .normal s g' h' c') : RunK HC kHValS s g h c := by
  simp only [vC, w3, mkVl] at he hkw hA
  unfold kHValS
  simp -implicitDefEqProofs -dsimp only [q0, q1, q5, he, hi, nii, nss, wnat1 (n := k) (by omega), wnat1 (n := k + 1) (by omega), wnat1 (n := k + 1 + 1) (by omega), go_sem, ↓reduceIte, Nat.reduceEqDiff, Int.reduceLE, Int.reduceLT, Int.reduceNeg, Int.reduceEq, Int.reduceBEq, Int.reduceBNe, Nat.reduceMul, Nat.reduceAdd, Nat.reduceLeDiff, reduceCtorEq, Int.reduceToNat]
  refine Call0_val true (h55 (k + 1 + 1) (by omega) (by omega)) (by simp [AV.free, AV.pure]) (.inl rfl) ?_
  simp -implicitDefEqProofs -dsimp only [q0, q1, q5, he, hi, nii, nss, wnat1 (n := k) (by omega), wnat1 (n := k + 1) (by omega), wnat1 (n := k + 1 + 1) (by omega), go_sem, ↓reduceIte, Nat.reduceEqDiff, Int.reduceLE, Int.reduceLT, Int.reduceNeg, Int.reduceEq, Int.reduceBEq, Int.reduceBNe, Nat.reduceMul, Nat.reduceAdd, Nat.reduceLeDiff, reduceCtorEq, Int.reduceToNat]
  exact hA _ _ _ (by simp [upd_at, q0]) (by simp [upd_at]; try omega) (by simp [upd_at, q5])
theorem h63 (l : List Vl) (k : Nat) (hk : 0 < k) (hkl : k + wL w3 l ≤ 1000000000) (hn : l.length ≤ 1048576) : HT 63 [.dat 3 ((mkL w3 mkVl k l).map vC), i64 k] [] (i64 (k + wL w3 l : Nat)) true [] := by
  refine holds_of (c := Tryz.f63.body.getD .skip) (k := kMk 40 kHValS) (ts := [4]) HOk mixedT hintT Tryz.func63 (by kernel_rfl) (by kernel_rfl) (by kernel_rfl) (by kernel_rfl) (by kernel_rfl) (le_of 2 _ (by kernel_rfl)) ?_
  exact hd_k vC 3 40 (by omega) kHValS v0 w3 mkVl (fun _ => True) l (fun _ _ => trivial) (fun s g h c i k E cc _ _ _ hk hkw _ hi q0 q1 q5 he hA => dVl s g h c i k E cc hk hkw hi q0 q1 q5 he hA) k hk hkl hn
def kHChangeS : K := (.seq (.seq (R [m 12 0, m 13 5, o 14 (.idx 4 (.t 12) (.t 13)), o 15 (.fld 0 (.t 14)), o 16 (.load false 1 (.t 15)), m 17 1, o 18 (.bin .neq (.t 16) (.t 17))]) (.cond (.t 18) (.seq (R [o 4 (.mv (n (-1)))]) .ret) .skip)) (.seq (R [m 19 1, o 20 (.bin .add (.t 19) (n 1)), m 1 20]) (.seq (.seq (R [m 21 0, m 22 5, o 23 (.idx 4 (.t 21) (.t 22)), o 24 (.fld 1 (.t 23)), o 25 (.load false 1 (.t 24)), m 26 1, o 27 (.bin .neq (.t 25) (.t 26))]) (.cond (.t 27) (.seq (R [o 4 (.mv (n (-1)))]) .ret) .skip)) (.seq (R [m 28 1, o 29 (.bin .add (.t 28) (n 1)), m 1 29]) (.seq (R [m 30 0, m 31 5, o 32 (.idx 4 (.t 30) (.t 31)), o 33 (.fld 2 (.t 32)), o 34 (.load false 1 (.t 33)), m 35 1, o 36 (.call (.f 63) [.t 34, .t 35]), m 1 36]) (.seq (.seq (R [m 37 1, o 38 (.bin .lss (.t 37) (n 0))]) (.cond (.t 38) (.seq (R [o 4 (.mv (n (-1)))]) .ret) .skip)) (.seq (R [m 39 0, m 40 5, o 41 (.idx 4 (.t 39) (.t 40)), o 42 (.fld 3 (.t 41)), o 43 (.load false 1 (.t 42)), m 44 1, o 45 (.call (.f 63) [.t 43, .t 44]), m 1 45]) (.seq (R [m 46 1, o 47 (.bin .lss (.t 46) (n 0))]) (.cond (.t 47) (.seq (R [o 4 (.mv (n (-1)))]) .ret) .skip)))))))))
theorem dCh (s : Stk) (g : Slots) (h : Heap) (c i k : Nat) (E : List (List AV)) (cc : Ch) (hB : BCh cc) (hk : 0 < k) (hkw : k + wCh cc ≤ 1000000000) (hi : i < E.length) (q0 : g 0 = .dat 4 E) (q1 : g 1 = i64 k) (q5 : g 5 = i64 i) (he : E[i]? = some (chC (mkCh k cc)))
      (hA : ∀ g' h' c', g' 0 = .dat 4 E → g' 1 = i64 (k + wCh cc : Nat) → g' 5 = i64 i → Ret HC .normal s g' h' c') : RunK HC kHChangeS s g h c := by
  obtain ⟨x1, x2, os, ns⟩ := cc
  obtain ⟨b1, b2⟩ := hB
  simp only at b1 b2
  simp only [chC, wCh, mkCh, vls] at he hkw hA
  have d1 := h63 os (k + 1 + 1) (by omega) (by omega) b1
  have d2 := h63 ns (k + 1 + 1 + wL w3 os) (by omega) (by omega) b2
  generalize (mkL w3 mkVl (k + 1 + 1) os).map vC = o2 at he d1
  generalize (mkL w3 mkVl (k + 1 + 1 + wL w3 os) ns).map vC = n2 at he d2
  unfold kHChangeS
  simp -implicitDefEqProofs -dsimp only [q0, q1, q5, he, hi, nii, wnat1 (n := k) (by omega), wnat1 (n := k + 1) (by omega), go_sem, ↓reduceIte, Nat.reduceEqDiff, Int.reduceLE, Int.reduceLT, Int.reduceNeg, Int.reduceEq, Int.reduceBEq, Int.reduceBNe, Nat.reduceMul, Nat.reduceAdd, Nat.reduceLeDiff, reduceCtorEq, Int.reduceToNat]
  refine Call_val (own := true) (d1) (by simp [ExpOk, AV.pure]) (.inl rfl) ?_
  simp -implicitDefEqProofs -dsimp only [q0, q1, q5, he, hi, natneg, go_sem, ↓reduceIte, Nat.reduceEqDiff, Int.reduceLE, Int.reduceLT, Int.reduceNeg, Int.reduceEq, Int.reduceBEq, Int.reduceBNe, Nat.reduceMul, Nat.reduceAdd, Nat.reduceLeDiff, reduceCtorEq, Int.reduceToNat]
  refine Call_val (own := true) (d2) (by simp [ExpOk, AV.pure]) (.inl rfl) ?_
  simp -implicitDefEqProofs -dsimp only [q0, q1, q5, he, hi, natneg, go_sem, ↓reduceIte, Nat.reduceEqDiff, Int.reduceLE, Int.reduceLT, Int.reduceNeg, Int.reduceEq, Int.reduceBEq, Int.reduceBNe, Nat.reduceMul, Nat.reduceAdd, Nat.reduceLeDiff, reduceCtorEq, Int.reduceToNat]
  exact hA _ _ _ (by simp [upd_at, q0]) (by simp [upd_at]; try omega) (by simp [upd_at, q5])
theorem h21 (l : List Ch) (k : Nat) (hk : 0 < k) (hkl : k + wL wCh l ≤ 1000000000) (hn : l.length ≤ 1048576) (hB : ∀ u ∈ l, BCh u) : HT 21 [.dat 4 ((mkL wCh mkCh k l).map chC), i64 k] [] (i64 (k + wL wCh l : Nat)) true [] := by
  refine holds_of (c := Tryz.f21.body.getD .skip) (k := kMk 48 kHChangeS) (ts := [4]) HOk mixedT hintT Tryz.func21 (by kernel_rfl) (by kernel_rfl) (by kernel_rfl) (by kernel_rfl) (by kernel_rfl) (le_of 2 _ (by kernel_rfl)) ?_
  exact hd_k chC 4 48 (by omega) kHChangeS h0 wCh mkCh BCh l hB (fun s g h c i k E cc _ _ hB hk hkw _ hi q0 q1 q5 he hA => dCh s g h c i k E cc hB hk hkw hi q0 q1 q5 he hA) k hk hkl hn
theorem h52 (x : Ch) (hB : BCh x) : HT 52 [.agg (chC x), .agg (chC x)] [] (.b true) true [] := by
  refine holds_of (c := Tryz.f52.body.getD .skip) (k := k52.1) (ts := [4]) HOk mixedT hintT Tryz.func52 (by kernel_rfl) (by kernel_rfl) (by kernel_rfl) k52.2 (by kernel_rfl) (le_of 2 _ (by kernel_rfl)) ?_
  obtain ⟨a, b, os, ns⟩ := x
  have d1 := h111 os hB.1
  have d2 := h111 ns hB.2
  simp only [chC]
  unfold vls at d1 d2 ⊢
  simp -implicitDefEqProofs -dsimp only [k52, nii, go_sem, ↓reduceIte, Nat.reduceEqDiff, Int.reduceLE, Int.reduceLT, Int.reduceNeg, Int.reduceEq, Int.reduceBEq, Int.reduceBNe, Nat.reduceMul, Nat.reduceAdd, Nat.reduceLeDiff, reduceCtorEq, Int.reduceToNat]
  refine Call_val (own := true) (d1) (by simp [ExpOk, AV.pure]) (.inl rfl) ?_
  simp -implicitDefEqProofs -dsimp only [go_sem, ↓reduceIte, Nat.reduceEqDiff, Int.reduceLE, Int.reduceLT, Int.reduceNeg, Int.reduceEq, Int.reduceBEq, Int.reduceBNe, Nat.reduceMul, Nat.reduceAdd, Nat.reduceLeDiff, reduceCtorEq, Int.reduceToNat]
  refine Call_val (own := true) (d2) (by simp [ExpOk, AV.pure]) (.inl rfl) ?_
  simp -implicitDefEqProofs -dsimp only [go_sem, ↓reduceIte, Nat.reduceEqDiff, Int.reduceLE, Int.reduceLT, Int.reduceNeg, Int.reduceEq, Int.reduceBEq, Int.reduceBNe, Nat.reduceMul, Nat.reduceAdd, Nat.reduceLeDiff, reduceCtorEq, Int.reduceToNat]
  exact Fin_val (by simp [resV, upd_at, retA]) (by simp [resV, upd_at, ResOk])
theorem h15 (l : List Ch) (hn : l.length ≤ 1048576) (hB : ∀ a ∈ l, BCh a) : HT 15 [chs l, chs l] [] (.b true) true [] := by
  refine holds_of (c := Tryz.f15.body.getD .skip) (k := kEqS 4 52) (ts := [4]) HOk mixedT hintT Tryz.func15 (by kernel_rfl) (by kernel_rfl) (by kernel_rfl) (by kernel_rfl) (by kernel_rfl) (le_of 2 _ (by kernel_rfl)) ?_
  exact eqS_k chC 4 52 h0 (fun _ => ⟨rfl, rfl⟩) BCh h52 l hn hB
end FrA
end
/-! PsA -/
section
open Go Go.AM
namespace FrA
open Go.Proofs
set_option maxRecDepth 100000
set_option linter.unusedSimpArgs false
theorem ix_lt {α : Type} {p : α → Bool} {l : List α} (h : 0 ≤ ix p l) : (ix p l).toNat < l.length := by
  unfold ix at h ⊢
  cases hx : l.findIdx? p with
  | none => rw [hx] at h; simp at h
  | some i =>
    obtain ⟨h1, _, _⟩ := List.findIdx?_eq_some_iff_getElem.1 hx
    simpa using h1
def tabAt (s : List Tb) (nm : List UInt8) : Int := ix (fun t => t.name == nm) s
def metP (s : List Tb) (t : Tb) (f : Fk) : Prop := 0 ≤ tabAt s f.tab ∧ (s.getD (tabAt s f.tab).toNat t0).key.length = f.cols.length ∧
  ∀ j, j < f.cols.length → ((s.getD (tabAt s f.tab).toNat t0).cols.getD ((s.getD (tabAt s f.tab).toNat t0).key.getD j 0).toNat c0).kind = (t.cols.getD (f.cols.getD j 0).toNat c0).kind
theorem s1_pure (n : List UInt8) : ∀ x ∈ [AV.s n], x.pure = true := by simp [AV.pure]
theorem h210 (t : Tb) (nm : List UInt8) : HT 210 [.agg (tbC t), .ptr (.p 0) 0 0 0] [capO 1 [.s nm] False] (.b (t.name == nm)) false [capO 1 [.s nm] False] := by
  refine holds_of (c := Tryz.f210.body.getD .skip) (k := k210.1) (ts := [3]) HOk mixedT hintT Tryz.func210 (by kernel_rfl) (by kernel_rfl) (by kernel_rfl) k210.2 (by kernel_rfl) (le_of 2 _ (by kernel_rfl)) ?_
  obtain ⟨n1, cs, ks, us, es, fs⟩ := t
  simp only [tbC, cls, ils, uns, cks, fkk]
  simp -implicitDefEqProofs -dsimp only [k210, objs_p, capO, S_0, S_1, go_sem, ↓reduceIte, Nat.reduceEqDiff, Int.reduceLE, Int.reduceLT, Int.reduceNeg, Int.reduceEq, Int.reduceBEq, Int.reduceBNe, Nat.reduceMul, Nat.reduceAdd, Nat.reduceLeDiff, reduceCtorEq, Int.reduceToNat]
  exact fin_cap (s1_pure nm) (by simp [resV, upd_at, retA]) (by simp [resV, upd_at, ResOk]) (by simp [hup_at, objs_p, capO])
theorem h141 (s : List Tb) (nm : List UInt8) (hl : s.length ≤ 9000000000000000) : HT 141 [tbs s, .s nm] [] (i64 (tabAt s nm)) true [] := by
  refine holds_of (c := Tryz.f141.body.getD .skip) (k := k141.1) (ts := [4]) HOk mixedT hintT Tryz.func141 (by kernel_rfl) (by kernel_rfl) (by kernel_rfl) k141.2 (by kernel_rfl) (le_of 2 _ (by kernel_rfl)) ?_
  have dc := ixTb 210 [.ptr (.p 0) 0 0 0] [capO 1 [.s nm] False] (capO_ok (s1_pure nm)) false nofalse cap1 (fun t => t.name == nm) s (by omega) (fun t _ => h210 t nm)
  have npu : ∀ e ∈ [[AV.s nm]], ∀ x ∈ e, x.pure = true := fun e he x hx => by simp only [List.mem_cons, List.not_mem_nil, or_false] at he; subst he; exact s1_pure _ x hx
  unfold tbs at dc ⊢
  simp -implicitDefEqProofs -dsimp only [k141, go_sem, ↓reduceIte, Nat.reduceEqDiff, Int.reduceLE, Int.reduceLT, Int.reduceNeg, Int.reduceEq, Int.reduceBEq, Int.reduceBNe, Nat.reduceMul, Nat.reduceAdd, Nat.reduceLeDiff, reduceCtorEq, Int.reduceToNat]
  refine Call_one (own := false) (v := i64 (tabAt s nm)) (.l 3) _ (capO 1 _ _) (by simp only [hup_at, newObs, ↓reduceIte, Nat.reduceEqDiff, reduceCtorEq, Rid.r.injEq, Rid.l.injEq, Nat.reduceAdd, Nat.zero_add, and_self, and_true, and_false, false_and, true_and] <;> rfl) (by simpa [expL, expA, cur, hup_at, List.idxOf?_cons, List.idxOf?_nil, objs_l, objs_r, objs_p, capO, tabAt] using dc) (by simp [ExpOk, AV.pure, cur, hup_at, List.idxOf?_cons, List.idxOf?_nil, objs_l, objs_r, objs_p]) (by exact npu) (by exact npu) (.inr (by simp [AV.rooted, AV.ref1])) (fun h => by cases h) ?_
  simp -implicitDefEqProofs -dsimp only [go_sem, ↓reduceIte, Nat.reduceEqDiff, Int.reduceLE, Int.reduceLT, Int.reduceNeg, Int.reduceEq, Int.reduceBEq, Int.reduceBNe, Nat.reduceMul, Nat.reduceAdd, Nat.reduceLeDiff, reduceCtorEq, Int.reduceToNat]
  exact Fin_val (by simp [resV, upd_at, retA]) (by simp [resV, upd_at, ResOk])
/-- Columns of tables that are right are there. -/
def inR (l : List Int) (n : Nat) : Prop := ∀ j, j < l.length → 0 ≤ l.getD j 0 ∧ (l.getD j 0).toNat < n
theorem inR_of {l : List Int} {n : Nat} (h : colsOk l n) : inR l n := fun j hj => by have := (h.1 j hj).1; omega
theorem h146 (s : List Tb) (t : Tb) (f : Fk) (hl : s.length ≤ 1048576) (hk : ∀ t ∈ s, t.key.length ≤ 1048576 ∧ inR t.key t.cols.length) (hf : inR f.cols t.cols.length) (hfl : f.cols.length ≤ 1048576) : HT 146 [tbs s, .agg (tbC t), .agg (fkC f)] [] (.b (tt (metP s t f))) true [] := by
  refine holds_of (c := Tryz.f146.body.getD .skip) (k := k146.1) (ts := [6]) HOk mixedT hintT Tryz.func146 (by kernel_rfl) (by kernel_rfl) (by kernel_rfl) k146.2 (by kernel_rfl) (le_of 3 _ (by kernel_rfl)) ?_
  obtain ⟨n1, cs, ks, us, es, fs⟩ := t
  obtain ⟨fc, fn, o1, o2, fd⟩ := f
  have d1 := h141 s fn (by omega)
  simp only at hf hfl
  generalize hP : metP s ⟨n1, cs, ks, us, es, fs⟩ ⟨fc, fn, o1, o2, fd⟩ = P
  have hdef : P ↔ (0 ≤ tabAt s fn ∧ (s.getD (tabAt s fn).toNat t0).key.length = fc.length ∧ ∀ j, j < fc.length → ((s.getD (tabAt s fn).toNat t0).cols.getD ((s.getD (tabAt s fn).toNat t0).key.getD j 0).toNat c0).kind = (cs.getD (fc.getD j 0).toNat c0).kind) := by rw [← hP]; exact Iff.rfl
  clear hP
  generalize hT : tabAt s fn = I at d1 hdef
  simp only [tbC, fkC, cls, ils, uns, cks, fkk]
  unfold tbs at d1 ⊢
  simp -implicitDefEqProofs -dsimp only [k146, go_sem, ↓reduceIte, Nat.reduceEqDiff, Int.reduceLE, Int.reduceLT, Int.reduceNeg, Int.reduceEq, Int.reduceBEq, Int.reduceBNe, Nat.reduceMul, Nat.reduceAdd, Nat.reduceLeDiff, reduceCtorEq, Int.reduceToNat]
  refine Call_val (own := true) (d1) (by simp [ExpOk, AV.pure]) (.inl rfl) ?_
  by_cases h1 : I < 0
  · rw [tt_f fun q => by have := (hdef.1 q).1; omega]
    simp -implicitDefEqProofs -dsimp only [h1, go_sem, ↓reduceIte, Nat.reduceEqDiff, Int.reduceLE, Int.reduceLT, Int.reduceNeg, Int.reduceEq, Int.reduceBEq, Int.reduceBNe, Nat.reduceMul, Nat.reduceAdd, Nat.reduceLeDiff, reduceCtorEq, Int.reduceToNat]
    exact Fin_val (by simp [resV, upd_at, retA]) (by simp [resV, upd_at, ResOk])
  have h0 : 0 ≤ I := by omega
  have hI : I.toNat < s.length := by rw [← hT] at h0 ⊢; exact ix_lt h0
  have hg := mget t0 hI
  have hm := hk _ (mmem t0 hI)
  generalize s.getD I.toNat t0 = u at hg hm hdef
  obtain ⟨n2, cs2, ks2, us2, es2, fs2⟩ := u
  simp only at hm hdef
  have fpu : ∀ x ∈ [AV.s n1, .dat 6 (cs.map clC), .dat 1 (ks.map inC), .dat 1 (us.map unC), .dat 1 (es.map ckC), .dat 5 (fs.map fkC)], x.pure = true := by simp [AV.pure]
  by_cases h2 : ks2.length = fc.length
  rotate_left
  · have e2 : ((ks2.length : Int) != (fc.length : Int)) = true := by simp; omega
    rw [tt_f fun q => h2 (hdef.1 q).2.1]
    simp -implicitDefEqProofs -dsimp only [h1, h0, hg, tbC, cls, ils, uns, cks, fkk, e2, go_sem, ↓reduceIte, Nat.reduceEqDiff, Int.reduceLE, Int.reduceLT, Int.reduceNeg, Int.reduceEq, Int.reduceBEq, Int.reduceBNe, Nat.reduceMul, Nat.reduceAdd, Nat.reduceLeDiff, reduceCtorEq, Int.reduceToNat]
    refine VK_p (by first | omega | (simp only [List.length_cons, List.length_nil, List.length_append]; omega) | (refine ⟨by omega, by omega, ?_⟩; first | omega | (simp only [List.length_cons, List.length_nil, List.length_append]; omega)) | (simp; omega) | (simp; done)) ?_
    simp -implicitDefEqProofs -dsimp only [h1, h0, hg, tbC, cls, ils, uns, cks, fkk, e2, go_sem, ↓reduceIte, Nat.reduceEqDiff, Int.reduceLE, Int.reduceLT, Int.reduceNeg, Int.reduceEq, Int.reduceBEq, Int.reduceBNe, Nat.reduceMul, Nat.reduceAdd, Nat.reduceLeDiff, reduceCtorEq, Int.reduceToNat]
    exact Fin_val (by simp [resV, upd_at, retA]) (by simp [resV, upd_at, ResOk])
  have e2 : ((ks2.length : Int) != (fc.length : Int)) = false := by simp; omega
  simp -implicitDefEqProofs -dsimp only [h1, h0, hg, tbC, cls, ils, uns, cks, fkk, e2, go_sem, ↓reduceIte, Nat.reduceEqDiff, Int.reduceLE, Int.reduceLT, Int.reduceNeg, Int.reduceEq, Int.reduceBEq, Int.reduceBNe, Nat.reduceMul, Nat.reduceAdd, Nat.reduceLeDiff, reduceCtorEq, Int.reduceToNat]
  refine VK_p (by first | omega | (simp only [List.length_cons, List.length_nil, List.length_append]; omega) | (refine ⟨by omega, by omega, ?_⟩; first | omega | (simp only [List.length_cons, List.length_nil, List.length_append]; omega)) | (simp; omega) | (simp; done)) ?_
  simp -implicitDefEqProofs -dsimp only [h1, h0, hg, tbC, cls, ils, uns, cks, fkk, e2, go_sem, ↓reduceIte, Nat.reduceEqDiff, Int.reduceLE, Int.reduceLT, Int.reduceNeg, Int.reduceEq, Int.reduceBEq, Int.reduceBNe, Nat.reduceMul, Nat.reduceAdd, Nat.reduceLeDiff, reduceCtorEq, Int.reduceToNat]
  have badj : ∀ j, j < fc.length → ¬ (cs2.getD (ks2.getD j 0).toNat c0).kind = (cs.getD (fc.getD j 0).toNat c0).kind → tt P = false := fun j hj hne => tt_f fun q => hne ((hdef.1 q).2.2 j hj)
  obtain ⟨B, hB⟩ : ∃ B : Ob, B = { ver := 1, es := [[.s n1, .dat 6 (cs.map clC), .dat 1 (ks.map inC), .dat 1 (us.map unC), .dat 1 (es.map ckC), .dat 5 (fs.map fkC)]], esz := 6, own := False, fixed := true } := ⟨_, rfl⟩
  refine K_for fc.length (fun i g h c => g 0 = .dat 6 (s.map tbC) ∧ g 4 = .ptr (.l 4) 1 0 0 ∧ g 7 = i64 I ∧ g 29 = .dat 1 (fc.map inC) ∧ g 30 = i64 fc.length ∧ g 31 = i64 i ∧ h (.l 4) = some B ∧ ∀ j, j < i → (cs2.getD (ks2.getD j 0).toNat c0).kind = (cs.getD (fc.getD j 0).toNat c0).kind) ?_ ?_ ?_
  · exact ⟨by simp [upd_at, S_0], by simp [upd_at], by simp [upd_at], by simp [upd_at], by simp [upd_at], by simp [upd_at], by simp [hup_at, hB], fun j hj => absurd hj (by omega)⟩
  · rintro i A hi hA g h c ⟨q0, q4, q7, q29, q30, q31, hh, hb⟩
    have hc : (i : Int) < (fc.length : Int) := by omega
    have w2 : IntKind.i64.wrap ((i : Int) + 1) = ((i + 1 : Nat) : Int) := wnat1 (by omega)
    have hst := upto_step (P := fun j => (cs2.getD (ks2.getD j 0).toNat c0).kind = (cs.getD (fc.getD j 0).toNat c0).kind) hb
    have hbad := badj i hi
    obtain ⟨y0, y1⟩ := hf i hi
    obtain ⟨z0, z1⟩ := hm.2 i (by omega)
    have hg1 := mget (0 : Int) hi
    have hg2 := mget (0 : Int) (show i < ks2.length by omega)
    generalize fc.getD i 0 = y at y0 y1 hg1 hst hbad
    generalize ks2.getD i 0 = z at z0 z1 hg2 hst hbad
    have hg3 := mget c0 y1
    have hg4 := mget c0 z1
    generalize cs.getD y.toNat c0 = a at hg3 hst hbad
    generalize cs2.getD z.toNat c0 = b at hg4 hst hbad
    obtain ⟨an, ak, ab, a1, a2, a3⟩ := a
    obtain ⟨bn, bk, bb, b1, b2, b3⟩ := b
    simp only at hst hbad
    have hh' := hh
    rw [hB] at hh'
    simp -implicitDefEqProofs -dsimp only [q0, q4, q7, q29, q30, q31, hh', hc, hg, hg1, hg2, hg3, hg4, y0, z0, h0, tbC, cls, ils, uns, cks, fkk, inC, clC, go_sem, ↓reduceIte, Nat.reduceEqDiff, Int.reduceLE, Int.reduceLT, Int.reduceNeg, Int.reduceEq, Int.reduceBEq, Int.reduceBNe, Nat.reduceMul, Nat.reduceAdd, Nat.reduceLeDiff, reduceCtorEq, Int.reduceToNat]
    refine VK_p (by first | omega | (simp only [List.length_cons, List.length_nil, List.length_append]; omega) | (refine ⟨by omega, by omega, ?_⟩; first | omega | (simp only [List.length_cons, List.length_nil, List.length_append]; omega)) | (simp; omega) | (simp; done)) ?_
    simp -implicitDefEqProofs -dsimp only [q0, q4, q7, q29, q30, q31, hh', hc, hg, hg1, hg2, hg3, hg4, y0, z0, h0, tbC, cls, ils, uns, cks, fkk, inC, clC, go_sem, ↓reduceIte, Nat.reduceEqDiff, Int.reduceLE, Int.reduceLT, Int.reduceNeg, Int.reduceEq, Int.reduceBEq, Int.reduceBNe, Nat.reduceMul, Nat.reduceAdd, Nat.reduceLeDiff, reduceCtorEq, Int.reduceToNat]
    refine VK_p (by first | omega | (simp only [List.length_cons, List.length_nil, List.length_append]; omega) | (refine ⟨by omega, by omega, ?_⟩; first | omega | (simp only [List.length_cons, List.length_nil, List.length_append]; omega)) | (simp; omega) | (simp; done)) ?_
    simp -implicitDefEqProofs -dsimp only [q0, q4, q7, q29, q30, q31, hh', hc, hg, hg1, hg2, hg3, hg4, y0, z0, h0, tbC, cls, ils, uns, cks, fkk, inC, clC, go_sem, ↓reduceIte, Nat.reduceEqDiff, Int.reduceLE, Int.reduceLT, Int.reduceNeg, Int.reduceEq, Int.reduceBEq, Int.reduceBNe, Nat.reduceMul, Nat.reduceAdd, Nat.reduceLeDiff, reduceCtorEq, Int.reduceToNat]
    refine VK_p (by first | omega | (simp only [List.length_cons, List.length_nil, List.length_append]; omega) | (refine ⟨by omega, by omega, ?_⟩; first | omega | (simp only [List.length_cons, List.length_nil, List.length_append]; omega)) | (simp; omega) | (simp; done)) ?_
    simp -implicitDefEqProofs -dsimp only [q0, q4, q7, q29, q30, q31, hh', hc, hg, hg1, hg2, hg3, hg4, y0, z0, h0, tbC, cls, ils, uns, cks, fkk, inC, clC, go_sem, ↓reduceIte, Nat.reduceEqDiff, Int.reduceLE, Int.reduceLT, Int.reduceNeg, Int.reduceEq, Int.reduceBEq, Int.reduceBNe, Nat.reduceMul, Nat.reduceAdd, Nat.reduceLeDiff, reduceCtorEq, Int.reduceToNat]
    refine VK_p (by first | omega | (simp only [List.length_cons, List.length_nil, List.length_append]; omega) | (refine ⟨by omega, by omega, ?_⟩; first | omega | (simp only [List.length_cons, List.length_nil, List.length_append]; omega)) | (simp; omega) | (simp; done)) ?_
    simp -implicitDefEqProofs -dsimp only [q0, q4, q7, q29, q30, q31, hh', hc, hg, hg1, hg2, hg3, hg4, y0, z0, h0, tbC, cls, ils, uns, cks, fkk, inC, clC, go_sem, ↓reduceIte, Nat.reduceEqDiff, Int.reduceLE, Int.reduceLT, Int.reduceNeg, Int.reduceEq, Int.reduceBEq, Int.reduceBNe, Nat.reduceMul, Nat.reduceAdd, Nat.reduceLeDiff, reduceCtorEq, Int.reduceToNat]
    by_cases e : bk = ak
    · have e' : (bk != ak) = false := by simp [e]
      simp -implicitDefEqProofs -dsimp only [e', q31, w2, go_sem, ↓reduceIte, Nat.reduceEqDiff, Int.reduceLE, Int.reduceLT, Int.reduceNeg, Int.reduceEq, Int.reduceBEq, Int.reduceBNe, Nat.reduceMul, Nat.reduceAdd, Nat.reduceLeDiff, reduceCtorEq, Int.reduceToNat]
      exact hA _ _ _ ⟨by simp [upd_at, q0], by simp [upd_at, q4], by simp [upd_at, q7], by simp [upd_at, q29], by simp [upd_at, q30], by simp [upd_at], hh, hst e⟩
    · have hf := hbad e
      simp -implicitDefEqProofs -dsimp only [knn e, go_sem, ↓reduceIte, Nat.reduceEqDiff, Int.reduceLE, Int.reduceLT, Int.reduceNeg, Int.reduceEq, Int.reduceBEq, Int.reduceBNe, Nat.reduceMul, Nat.reduceAdd, Nat.reduceLeDiff, reduceCtorEq, Int.reduceToNat]
      exact Fin_val (by simp [resV, upd_at, retA, hf]) (by simp [resV, upd_at, ResOk])
  · rintro A g h c ⟨q0, q4, q7, q29, q30, q31, hh, hb⟩
    have hc : ¬ (fc.length : Int) < (fc.length : Int) := by omega
    have good : tt P = true := tt_t (hdef.2 ⟨h0, h2, hb⟩)
    simp -implicitDefEqProofs -dsimp only [q0, q4, q7, q29, q30, q31, hc, go_sem, ↓reduceIte, Nat.reduceEqDiff, Int.reduceLE, Int.reduceLT, Int.reduceNeg, Int.reduceEq, Int.reduceBEq, Int.reduceBNe, Nat.reduceMul, Nat.reduceAdd, Nat.reduceLeDiff, reduceCtorEq, Int.reduceToNat]
    exact Fin_val (by simp [resV, upd_at, retA, good]) (by simp [resV, upd_at, ResOk])
end FrA
end
/-! DfA -/
section
open Go Go.AM
namespace FrA
open Go.Proofs
set_option maxRecDepth 100000
set_option linter.unusedSimpArgs false
/-- A row of values, or nil. -/
def VlA (x : AV) (l : List Vl) : Prop := x = .dat 3 (l.map vC) ∨ (x = .nils ∧ l = [])
theorem vl_ne (a1 a2 : Int) (a3 : List UInt8) (b1 b2 : Int) (b3 : List UInt8) : ((a1 == b1 && (a2 == b2 && (a3 == b3))) != true) = !tt ((a1, a2, a3) = (b1, b2, b3)) := by
  by_cases h : ((a1, a2, a3) : Vl) = (b1, b2, b3)
  · rw [tt_t h]; cases h; simp
  · rw [tt_f h]
    by_cases h1 : a1 = b1
    · by_cases h2 : a2 = b2
      · have h3 : ¬ a3 = b3 := fun h3 => h (by rw [h1, h2, h3])
        simp [h1, h2, h3]
      · simp [h2]
    · simp [h1]
theorem list_ext0 {a b : List Vl} (hl : a.length = b.length) (h : ∀ i, i < a.length → a.getD i v0 = b.getD i v0) : a = b := by
  apply List.ext_getElem hl
  intro i h1 h2
  have := h i h1
  rwa [List.getD_eq_getElem?_getD, List.getElem?_eq_getElem h1, List.getD_eq_getElem?_getD, List.getElem?_eq_getElem h2] at this
theorem h43 {x y : AV} {a b : List Vl} (hx : VlA x a) (hy : VlA y b) (ha : a.length ≤ 1048576) : HT 43 [x, y] [] (.b (tt (a = b))) true [] := by
  refine holds_of (c := Tryz.f43.body.getD .skip) (k := k43.1) (ts := [4]) HOk mixedT hintT Tryz.func43 (by kernel_rfl) (by kernel_rfl) (by kernel_rfl) k43.2 (by kernel_rfl) (le_of 2 _ (by kernel_rfl)) ?_
  by_cases hl : a.length = b.length
  rotate_left
  · have hf : tt (a = b) = false := tt_f fun q => hl (by rw [q])
    rw [hf]
    rcases hx with rfl | ⟨rfl, rfl⟩ <;> rcases hy with rfl | ⟨rfl, rfl⟩
    · have e : ((a.length : Int) != (b.length : Int)) = true := by simp; omega
      simp -implicitDefEqProofs -dsimp only [k43, e, go_sem, ↓reduceIte, Nat.reduceEqDiff, Int.reduceLE, Int.reduceLT, Int.reduceNeg, Int.reduceEq, Int.reduceBEq, Int.reduceBNe, Nat.reduceMul, Nat.reduceAdd, Nat.reduceLeDiff, reduceCtorEq, Int.reduceToNat]
      exact Fin_val (by simp [resV, upd_at, retA, hf]) (by simp [resV, upd_at, ResOk])
    · have e : ((a.length : Int) != 0) = true := bne_iff_ne.2 fun q => hl (by rw [List.length_nil]; omega)
      simp -implicitDefEqProofs -dsimp only [k43, e, go_sem, ↓reduceIte, Nat.reduceEqDiff, Int.reduceLE, Int.reduceLT, Int.reduceNeg, Int.reduceEq, Int.reduceBEq, Int.reduceBNe, Nat.reduceMul, Nat.reduceAdd, Nat.reduceLeDiff, reduceCtorEq, Int.reduceToNat]
      exact Fin_val (by simp [resV, upd_at, retA, hf]) (by simp [resV, upd_at, ResOk])
    · have e : ((0 : Int) != (b.length : Int)) = true := bne_iff_ne.2 fun q => hl (by rw [List.length_nil]; omega)
      simp -implicitDefEqProofs -dsimp only [k43, e, go_sem, ↓reduceIte, Nat.reduceEqDiff, Int.reduceLE, Int.reduceLT, Int.reduceNeg, Int.reduceEq, Int.reduceBEq, Int.reduceBNe, Nat.reduceMul, Nat.reduceAdd, Nat.reduceLeDiff, reduceCtorEq, Int.reduceToNat]
      exact Fin_val (by simp [resV, upd_at, retA, hf]) (by simp [resV, upd_at, ResOk])
    · exact absurd rfl hl
  by_cases h0 : a = []
  · subst h0
    have hb0 : b = [] := List.length_eq_zero_iff.1 hl.symm
    subst hb0
    have hf : tt (([] : List Vl) = []) = true := tt_t rfl
    have hx' : x = .dat 3 [] ∨ x = .nils := hx.imp id And.left
    have hy' : y = .dat 3 [] ∨ y = .nils := hy.imp id And.left
    have z0 : ((0 : Nat) : Int) = 0 := rfl
    rw [hf]
    rcases hx' with rfl | rfl <;> rcases hy' with rfl | rfl
    all_goals
      simp -implicitDefEqProofs -dsimp only [k43, S_0, S_1, z0, go_sem, ↓reduceIte, Nat.reduceEqDiff, Int.reduceLE, Int.reduceLT, Int.reduceNeg, Int.reduceEq, Int.reduceBEq, Int.reduceBNe, Nat.reduceMul, Nat.reduceAdd, Nat.reduceLeDiff, reduceCtorEq, Int.reduceToNat]
      refine K_for 0 (fun i g h _ => (g 0 = .dat 3 [] ∨ g 0 = .nils) ∧ g 5 = i64 i) ?_ ?_ ?_
      · exact ⟨by simp [upd_at, S_0], by simp [upd_at]⟩
      · intro i A hi; omega
      · rintro A g h c ⟨q0 | q0, q5⟩
        all_goals
          simp -implicitDefEqProofs -dsimp only [q0, q5, z0, go_sem, ↓reduceIte, Nat.reduceEqDiff, Int.reduceLE, Int.reduceLT, Int.reduceNeg, Int.reduceEq, Int.reduceBEq, Int.reduceBNe, Nat.reduceMul, Nat.reduceAdd, Nat.reduceLeDiff, reduceCtorEq, Int.reduceToNat]
          exact Fin_val (by simp [resV, upd_at, retA]) (by simp [resV, upd_at, ResOk])
  have hb0 : ¬ b = [] := fun q => h0 (List.length_eq_zero_iff.1 (by rw [hl, q]; rfl))
  have hx' : x = .dat 3 (a.map vC) := hx.resolve_right fun q => h0 q.2
  have hy' : y = .dat 3 (b.map vC) := hy.resolve_right fun q => hb0 q.2
  subst hx'; subst hy'
  have e : ((a.length : Int) != (b.length : Int)) = false := by simp; omega
  simp -implicitDefEqProofs -dsimp only [k43, e, go_sem, ↓reduceIte, Nat.reduceEqDiff, Int.reduceLE, Int.reduceLT, Int.reduceNeg, Int.reduceEq, Int.reduceBEq, Int.reduceBNe, Nat.reduceMul, Nat.reduceAdd, Nat.reduceLeDiff, reduceCtorEq, Int.reduceToNat]
  refine K_for a.length (fun i g h _ => g 0 = .dat 3 (a.map vC) ∧ g 1 = .dat 3 (b.map vC) ∧ g 5 = i64 i ∧ ∀ j, j < i → a.getD j v0 = b.getD j v0) ?_ ?_ ?_
  · exact ⟨by simp [upd_at, S_0], by simp [upd_at, S_1], by simp [upd_at], fun j hj => absurd hj (by omega)⟩
  · rintro i A hi hA g h c ⟨q0, q1, q5, hb⟩
    have hc : (i : Int) < (a.length : Int) := by omega
    have w2 : IntKind.i64.wrap ((i : Int) + 1) = ((i + 1 : Nat) : Int) := wnat1 (by omega)
    have hg := mget v0 hi
    have hg2 := mget v0 (show i < b.length by omega)
    have hst := upto_step (P := fun j => a.getD j v0 = b.getD j v0) hb
    have hbad : ¬ a.getD i v0 = b.getD i v0 → tt (a = b) = false := fun q => tt_f fun r => q (by rw [r])
    generalize a.getD i v0 = u at hg hst hbad
    generalize b.getD i v0 = v at hg2 hst hbad
    obtain ⟨u1, u2, u3⟩ := u
    obtain ⟨z1, z2, z3⟩ := v
    have ev := vl_ne u1 u2 u3 z1 z2 z3
    by_cases h : ((u1, u2, u3) : Vl) = (z1, z2, z3)
    · rw [tt_t h] at ev
      simp -implicitDefEqProofs -dsimp only [q0, q1, q5, hc, hg, hg2, vC, ev, w2, go_sem, ↓reduceIte, Nat.reduceEqDiff, Int.reduceLE, Int.reduceLT, Int.reduceNeg, Int.reduceEq, Int.reduceBEq, Int.reduceBNe, Nat.reduceMul, Nat.reduceAdd, Nat.reduceLeDiff, reduceCtorEq, Int.reduceToNat]
      exact hA _ _ _ ⟨by simp [upd_at, q0], by simp [upd_at, q1], by simp [upd_at], hst h⟩
    · rw [tt_f h] at ev
      have hf := hbad h
      simp -implicitDefEqProofs -dsimp only [q0, q1, q5, hc, hg, hg2, vC, ev, go_sem, ↓reduceIte, Nat.reduceEqDiff, Int.reduceLE, Int.reduceLT, Int.reduceNeg, Int.reduceEq, Int.reduceBEq, Int.reduceBNe, Nat.reduceMul, Nat.reduceAdd, Nat.reduceLeDiff, reduceCtorEq, Int.reduceToNat]
      exact Fin_val (by simp [resV, upd_at, retA, hf]) (by simp [resV, upd_at, ResOk])
  · rintro A g h c ⟨q0, q1, q5, hb⟩
    have hc : ¬ (a.length : Int) < (a.length : Int) := by omega
    have hf : tt (a = b) = true := tt_t (list_ext0 hl hb)
    simp -implicitDefEqProofs -dsimp only [q0, q1, q5, hc, go_sem, ↓reduceIte, Nat.reduceEqDiff, Int.reduceLE, Int.reduceLT, Int.reduceNeg, Int.reduceEq, Int.reduceBEq, Int.reduceBNe, Nat.reduceMul, Nat.reduceAdd, Nat.reduceLeDiff, reduceCtorEq, Int.reduceToNat]
    exact Fin_val (by simp [resV, upd_at, retA, hf]) (by simp [resV, upd_at, ResOk])
theorem h50 {x y : AV} {a b : List Vl} (hx : VlA x a) (hy : VlA y b) (ha : a.length ≤ 1048576) : HT 50 [x, y] [] (.b (tt (a = b))) true [] := by
  refine holds_of (c := Tryz.f50.body.getD .skip) (k := k50.1) (ts := [4]) HOk mixedT hintT Tryz.func50 (by kernel_rfl) (by kernel_rfl) (by kernel_rfl) k50.2 (by kernel_rfl) (le_of 2 _ (by kernel_rfl)) ?_
  by_cases hl : a.length = b.length
  rotate_left
  · have hf : tt (a = b) = false := tt_f fun q => hl (by rw [q])
    rw [hf]
    rcases hx with rfl | ⟨rfl, rfl⟩ <;> rcases hy with rfl | ⟨rfl, rfl⟩
    · have e : ((a.length : Int) != (b.length : Int)) = true := by simp; omega
      simp -implicitDefEqProofs -dsimp only [k50, e, go_sem, ↓reduceIte, Nat.reduceEqDiff, Int.reduceLE, Int.reduceLT, Int.reduceNeg, Int.reduceEq, Int.reduceBEq, Int.reduceBNe, Nat.reduceMul, Nat.reduceAdd, Nat.reduceLeDiff, reduceCtorEq, Int.reduceToNat]
      exact Fin_val (by simp [resV, upd_at, retA, hf]) (by simp [resV, upd_at, ResOk])
    · have e : ((a.length : Int) != 0) = true := bne_iff_ne.2 fun q => hl (by rw [List.length_nil]; omega)
      simp -implicitDefEqProofs -dsimp only [k50, e, go_sem, ↓reduceIte, Nat.reduceEqDiff, Int.reduceLE, Int.reduceLT, Int.reduceNeg, Int.reduceEq, Int.reduceBEq, Int.reduceBNe, Nat.reduceMul, Nat.reduceAdd, Nat.reduceLeDiff, reduceCtorEq, Int.reduceToNat]
      exact Fin_val (by simp [resV, upd_at, retA, hf]) (by simp [resV, upd_at, ResOk])
    · have e : ((0 : Int) != (b.length : Int)) = true := bne_iff_ne.2 fun q => hl (by rw [List.length_nil]; omega)
      simp -implicitDefEqProofs -dsimp only [k50, e, go_sem, ↓reduceIte, Nat.reduceEqDiff, Int.reduceLE, Int.reduceLT, Int.reduceNeg, Int.reduceEq, Int.reduceBEq, Int.reduceBNe, Nat.reduceMul, Nat.reduceAdd, Nat.reduceLeDiff, reduceCtorEq, Int.reduceToNat]
      exact Fin_val (by simp [resV, upd_at, retA, hf]) (by simp [resV, upd_at, ResOk])
    · exact absurd rfl hl
  by_cases h0 : a = []
  · subst h0
    have hb0 : b = [] := List.length_eq_zero_iff.1 hl.symm
    subst hb0
    have hf : tt (([] : List Vl) = []) = true := tt_t rfl
    have hx' : x = .dat 3 [] ∨ x = .nils := hx.imp id And.left
    have hy' : y = .dat 3 [] ∨ y = .nils := hy.imp id And.left
    have z0 : ((0 : Nat) : Int) = 0 := rfl
    rw [hf]
    rcases hx' with rfl | rfl <;> rcases hy' with rfl | rfl
    all_goals
      simp -implicitDefEqProofs -dsimp only [k50, S_0, S_1, z0, go_sem, ↓reduceIte, Nat.reduceEqDiff, Int.reduceLE, Int.reduceLT, Int.reduceNeg, Int.reduceEq, Int.reduceBEq, Int.reduceBNe, Nat.reduceMul, Nat.reduceAdd, Nat.reduceLeDiff, reduceCtorEq, Int.reduceToNat]
      refine K_for 0 (fun i g h _ => (g 12 = i64 ((0 : Nat) : Int)) ∧ g 13 = i64 i) ?_ ?_ ?_
      · exact ⟨by simp [upd_at], by simp [upd_at]⟩
      · intro i A hi; omega
      · rintro A g h c ⟨q12, q13⟩
        simp -implicitDefEqProofs -dsimp only [q12, q13, z0, go_sem, ↓reduceIte, Nat.reduceEqDiff, Int.reduceLE, Int.reduceLT, Int.reduceNeg, Int.reduceEq, Int.reduceBEq, Int.reduceBNe, Nat.reduceMul, Nat.reduceAdd, Nat.reduceLeDiff, reduceCtorEq, Int.reduceToNat]
        exact Fin_val (by simp [resV, upd_at, retA]) (by simp [resV, upd_at, ResOk])
  have hb0 : ¬ b = [] := fun q => h0 (List.length_eq_zero_iff.1 (by rw [hl, q]; rfl))
  have hx' : x = .dat 3 (a.map vC) := hx.resolve_right fun q => h0 q.2
  have hy' : y = .dat 3 (b.map vC) := hy.resolve_right fun q => hb0 q.2
  subst hx'; subst hy'
  have e : ((a.length : Int) != (b.length : Int)) = false := by simp; omega
  simp -implicitDefEqProofs -dsimp only [k50, e, go_sem, ↓reduceIte, Nat.reduceEqDiff, Int.reduceLE, Int.reduceLT, Int.reduceNeg, Int.reduceEq, Int.reduceBEq, Int.reduceBNe, Nat.reduceMul, Nat.reduceAdd, Nat.reduceLeDiff, reduceCtorEq, Int.reduceToNat]
  refine K_for a.length (fun i g h _ => g 0 = .dat 3 (a.map vC) ∧ g 1 = .dat 3 (b.map vC) ∧ g 12 = i64 a.length ∧ g 13 = i64 i ∧ ∀ j, j < i → a.getD j v0 = b.getD j v0) ?_ ?_ ?_
  · exact ⟨by simp [upd_at, S_0], by simp [upd_at, S_1], by simp [upd_at], by simp [upd_at], fun j hj => absurd hj (by omega)⟩
  · rintro i A hi hA g h c ⟨q0, q1, q12, q13, hb⟩
    have hc : (i : Int) < (a.length : Int) := by omega
    have w2 : IntKind.i64.wrap ((i : Int) + 1) = ((i + 1 : Nat) : Int) := wnat1 (by omega)
    have hg := mget v0 hi
    have hg2 := mget v0 (show i < b.length by omega)
    have hst := upto_step (P := fun j => a.getD j v0 = b.getD j v0) hb
    have hbad : ¬ a.getD i v0 = b.getD i v0 → tt (a = b) = false := fun q => tt_f fun r => q (by rw [r])
    generalize a.getD i v0 = u at hg hst hbad
    generalize b.getD i v0 = v at hg2 hst hbad
    obtain ⟨u1, u2, u3⟩ := u
    obtain ⟨z1, z2, z3⟩ := v
    have ev := vl_ne u1 u2 u3 z1 z2 z3
    by_cases h : ((u1, u2, u3) : Vl) = (z1, z2, z3)
    · rw [tt_t h] at ev
      simp -implicitDefEqProofs -dsimp only [q0, q1, q12, q13, hc, hg, hg2, vC, ev, w2, go_sem, ↓reduceIte, Nat.reduceEqDiff, Int.reduceLE, Int.reduceLT, Int.reduceNeg, Int.reduceEq, Int.reduceBEq, Int.reduceBNe, Nat.reduceMul, Nat.reduceAdd, Nat.reduceLeDiff, reduceCtorEq, Int.reduceToNat]
      exact hA _ _ _ ⟨by simp [upd_at, q0], by simp [upd_at, q1], by simp [upd_at, q12], by simp [upd_at], hst h⟩
    · rw [tt_f h] at ev
      have hf := hbad h
      simp -implicitDefEqProofs -dsimp only [q0, q1, q12, q13, hc, hg, hg2, vC, ev, go_sem, ↓reduceIte, Nat.reduceEqDiff, Int.reduceLE, Int.reduceLT, Int.reduceNeg, Int.reduceEq, Int.reduceBEq, Int.reduceBNe, Nat.reduceMul, Nat.reduceAdd, Nat.reduceLeDiff, reduceCtorEq, Int.reduceToNat]
      exact Fin_val (by simp [resV, upd_at, retA, hf]) (by simp [resV, upd_at, ResOk])
  · rintro A g h c ⟨q0, q1, q12, q13, hb⟩
    have hc : ¬ (a.length : Int) < (a.length : Int) := by omega
    have hf : tt (a = b) = true := tt_t (list_ext0 hl hb)
    simp -implicitDefEqProofs -dsimp only [q0, q1, q12, q13, hc, go_sem, ↓reduceIte, Nat.reduceEqDiff, Int.reduceLE, Int.reduceLT, Int.reduceNeg, Int.reduceEq, Int.reduceBEq, Int.reduceBNe, Nat.reduceMul, Nat.reduceAdd, Nat.reduceLeDiff, reduceCtorEq, Int.reduceToNat]
    exact Fin_val (by simp [resV, upd_at, retA, hf]) (by simp [resV, upd_at, ResOk])
theorem h41 (l : Dt) (y : Int) (hl : l.length ≤ 1048576) : HT 41 [.agg (dtC l), i64 y] [] (i64 (ix (fun r : Rw => r.id == y) l)) true [] := by
  refine holds_of (c := Tryz.f41.body.getD .skip) (k := k41.1) (ts := [4]) HOk mixedT hintT Tryz.func41 (by kernel_rfl) (by kernel_rfl) (by kernel_rfl) k41.2 (by kernel_rfl) (le_of 2 _ (by kernel_rfl)) ?_
  unfold dtC rws
  obtain ⟨B, hB⟩ : ∃ B : Ob, B = { ver := 1, es := [[.dat 2 (l.map rwC)]], esz := 1, own := False, fixed := true } := ⟨_, rfl⟩
  simp -implicitDefEqProofs -dsimp only [k41, go_sem, ↓reduceIte, Nat.reduceEqDiff, Int.reduceLE, Int.reduceLT, Int.reduceNeg, Int.reduceEq, Int.reduceBEq, Int.reduceBNe, Nat.reduceMul, Nat.reduceAdd, Nat.reduceLeDiff, reduceCtorEq, Int.reduceToNat]
  refine K_for l.length (fun i g h c => g 1 = i64 y ∧ g 2 = .ptr (.l 2) 1 0 0 ∧ g 5 = i64 i ∧ h (.l 2) = some B ∧ ∀ x ∈ l.take i, (x.id == y) = false) ?_ ?_ ?_
  · exact ⟨by simp [upd_at, S_1], by simp [upd_at], by simp [upd_at], by simp [hup_at, hB], by simp⟩
  · rintro i A hi hA g h c ⟨q1, q2, q5, hh, hb⟩
    have hc : (i : Int) < (l.length : Int) := by omega
    have w2 : IntKind.i64.wrap ((i : Int) + 1) = ((i + 1 : Nat) : Int) := wnat1 (by omega)
    have hg := mget r0 hi
    have h1 := ix_some (p := fun r : Rw => r.id == y) r0 hi hb
    have h2 := mall_step (p := fun r : Rw => (r.id == y) = false) r0 hi hb
    generalize l.getD i r0 = r at hg h1 h2
    obtain ⟨id, vs⟩ := r
    simp only at h1 h2
    have hh' := hh
    rw [hB] at hh'
    cases hx : (id == y) with
    | true =>
      have hf := h1 hx
      simp -implicitDefEqProofs -dsimp only [q1, q2, q5, hh', hc, hg, rwC, vls, hx, Nat.reduceLT, go_sem, ↓reduceIte, Nat.reduceEqDiff, Int.reduceLE, Int.reduceLT, Int.reduceNeg, Int.reduceEq, Int.reduceBEq, Int.reduceBNe, Nat.reduceMul, Nat.reduceAdd, Nat.reduceLeDiff, reduceCtorEq, Int.reduceToNat]
      exact Fin_val (by simp [resV, upd_at, retA, hf]) (by simp [resV, upd_at, ResOk])
    | false =>
      simp -implicitDefEqProofs -dsimp only [q1, q2, q5, hh', hc, hg, rwC, vls, hx, w2, Nat.reduceLT, go_sem, ↓reduceIte, Nat.reduceEqDiff, Int.reduceLE, Int.reduceLT, Int.reduceNeg, Int.reduceEq, Int.reduceBEq, Int.reduceBNe, Nat.reduceMul, Nat.reduceAdd, Nat.reduceLeDiff, reduceCtorEq, Int.reduceToNat]
      exact hA _ _ _ ⟨by simp [upd_at, q1], by simp [upd_at, q2], by simp [upd_at], hh, h2 hx⟩
  · rintro A g h c ⟨q1, q2, q5, hh, hb⟩
    have hc : ¬ (l.length : Int) < (l.length : Int) := by omega
    rw [List.take_length] at hb
    have hf := ix_none (p := fun r : Rw => r.id == y) hb
    have hh' := hh
    rw [hB] at hh'
    simp -implicitDefEqProofs -dsimp only [q1, q2, q5, hh', hc, go_sem, ↓reduceIte, Nat.reduceEqDiff, Int.reduceLE, Int.reduceLT, Int.reduceNeg, Int.reduceEq, Int.reduceBEq, Int.reduceBNe, Nat.reduceMul, Nat.reduceAdd, Nat.reduceLeDiff, reduceCtorEq, Int.reduceToNat]
    exact Fin_val (by simp [resV, upd_at, retA, hf]) (by simp [resV, upd_at, ResOk])
theorem h110 (r : Rw) (y : Int) : HT 110 [.agg (rwC r), .ptr (.p 0) 0 0 0] [capO 1 [i64 y] False] (.b (r.id == y)) false [capO 1 [i64 y] False] := by
  refine holds_of (c := Tryz.f110.body.getD .skip) (k := k110.1) (ts := [3]) HOk mixedT hintT Tryz.func110 (by kernel_rfl) (by kernel_rfl) (by kernel_rfl) k110.2 (by kernel_rfl) (le_of 2 _ (by kernel_rfl)) ?_
  obtain ⟨id, vs⟩ := r
  simp only [rwC, vls]
  simp -implicitDefEqProofs -dsimp only [k110, objs_p, capO, S_0, S_1, Nat.reduceLT, go_sem, ↓reduceIte, Nat.reduceEqDiff, Int.reduceLE, Int.reduceLT, Int.reduceNeg, Int.reduceEq, Int.reduceBEq, Int.reduceBNe, Nat.reduceMul, Nat.reduceAdd, Nat.reduceLeDiff, reduceCtorEq, Int.reduceToNat]
  exact fin_cap (i1_pure y) (by simp [resV, upd_at, retA]) (by simp [resV, upd_at, ResOk]) (by simp [hup_at, objs_p, capO])
/-- The values of a row by its number; nil: it is not there. -/
def valsA (l : Dt) (y : Int) : AV := if ix (fun r : Rw => r.id == y) l < 0 then .nils else vls (l.getD (ix (fun r : Rw => r.id == y) l).toNat r0).vals
def valsP (l : Dt) (y : Int) : List Vl := if ix (fun r : Rw => r.id == y) l < 0 then [] else (l.getD (ix (fun r : Rw => r.id == y) l).toNat r0).vals
theorem valsA_ok (l : Dt) (y : Int) : VlA (valsA l y) (valsP l y) := by
  unfold valsA valsP
  split
  · exact .inr ⟨rfl, rfl⟩
  · exact .inl rfl
theorem h49 (l : Dt) (y : Int) (hl : l.length ≤ 1048576) : HT 49 [rws l, i64 y] [] (valsA l y) false [] := by
  refine holds_of (c := Tryz.f49.body.getD .skip) (k := k49.1) (ts := [4]) HOk mixedT hintT Tryz.func49 (by kernel_rfl) (by kernel_rfl) (by kernel_rfl) k49.2 (by kernel_rfl) (le_of 2 _ (by kernel_rfl)) ?_
  have dc := ixRw 110 [.ptr (.p 0) 0 0 0] [capO 1 [i64 y] False] (capO_ok (i1_pure y)) false nofalse cap1 (fun r : Rw => r.id == y) l (by omega) (fun r _ => h110 r y)
  have npu : ∀ e ∈ [[i64 y]], ∀ x ∈ e, x.pure = true := fun e he x hx => by simp only [List.mem_cons, List.not_mem_nil, or_false] at he; subst he; exact i1_pure _ x hx
  unfold valsA
  have hlt := fun h => @ix_lt _ (fun r : Rw => r.id == y) l h
  generalize ix (fun r : Rw => r.id == y) l = I at dc hlt ⊢
  unfold rws at dc ⊢
  simp -implicitDefEqProofs -dsimp only [k49, go_sem, ↓reduceIte, Nat.reduceEqDiff, Int.reduceLE, Int.reduceLT, Int.reduceNeg, Int.reduceEq, Int.reduceBEq, Int.reduceBNe, Nat.reduceMul, Nat.reduceAdd, Nat.reduceLeDiff, reduceCtorEq, Int.reduceToNat]
  refine Call_one (own := false) (v := i64 I) (.l 3) _ (capO 1 _ _) (by simp only [hup_at, newObs, ↓reduceIte, Nat.reduceEqDiff, reduceCtorEq, Rid.r.injEq, Rid.l.injEq, Nat.reduceAdd, Nat.zero_add, and_self, and_true, and_false, false_and, true_and] <;> rfl) (by simpa [expL, expA, cur, hup_at, List.idxOf?_cons, List.idxOf?_nil, objs_l, objs_r, objs_p, capO] using dc) (by simp [ExpOk, AV.pure, cur, hup_at, List.idxOf?_cons, List.idxOf?_nil, objs_l, objs_r, objs_p]) (by exact npu) (by exact npu) (.inr (by simp [AV.rooted, AV.ref1])) (fun h => by cases h) ?_
  by_cases h1 : I < 0
  · rw [if_pos h1]
    simp -implicitDefEqProofs -dsimp only [h1, go_sem, ↓reduceIte, Nat.reduceEqDiff, Int.reduceLE, Int.reduceLT, Int.reduceNeg, Int.reduceEq, Int.reduceBEq, Int.reduceBNe, Nat.reduceMul, Nat.reduceAdd, Nat.reduceLeDiff, reduceCtorEq, Int.reduceToNat]
    exact Fin_val (by simp [resV, upd_at, retA]) (by simp [resV, upd_at, ResOk])
  · rw [if_neg h1]
    have h0 : 0 ≤ I := by omega
    have hg := mget r0 (hlt h0)
    generalize l.getD I.toNat r0 = r at hg ⊢
    obtain ⟨id, vs⟩ := r
    simp only [vls]
    simp -implicitDefEqProofs -dsimp only [h1, h0, hg, rwC, vls, Nat.reduceLT, go_sem, ↓reduceIte, Nat.reduceEqDiff, Int.reduceLE, Int.reduceLT, Int.reduceNeg, Int.reduceEq, Int.reduceBEq, Int.reduceBNe, Nat.reduceMul, Nat.reduceAdd, Nat.reduceLeDiff, reduceCtorEq, Int.reduceToNat]
    exact Fin_val (by simp [resV, upd_at, retA]) (by simp [resV, upd_at, ResOk])
end FrA
end
