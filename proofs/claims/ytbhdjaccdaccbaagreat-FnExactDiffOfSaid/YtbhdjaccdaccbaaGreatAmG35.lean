/- FnExactDiffOf: walked. No condition. -/
import Derived.Test.YtbhdjaccdaccbaaGreatAmG18
import Derived.Test.YtbhdjaccdaccbaaGreatAmG34
import Derived.Test.YtbhdjaccdaccbaaGreatAmG28
import Derived.Test.YtbhdjaccdaccbaaGreatAmG27
set_option linter.all false
set_option linter.unusedSimpArgs false
set_option linter.unusedVariables false
set_option linter.deprecated false
/-! DfG -/
section
open Go Go.AM
namespace FrA
open Go.Proofs
set_option maxRecDepth 100000
set_option linter.unusedSimpArgs false
theorem h3 (S : List Tb) (A B : Db) (gS : LgTbs S) (gA : LgDb A) (gB : LgDb B) : HT 3 [tbs S, dbs A, dbs B] [] (.b true) true [] := by
  refine holds_of (c := Tryz.f3.body.getD .skip) (k := k3.1) (ts := [6]) HOk mixedT hintT Tryz.func3 (by kernel_rfl) (by kernel_rfl) (by kernel_rfl) k3.2 (by kernel_rfl) (le_of 3 _ (by kernel_rfl)) ?_
  have u0 : True := trivial
  unfold tbs dbs
  have z1 := h9 S 1048576 (by omega) gS
  unfold tbs at z1
  by_cases s1 : szTbs S ≤ 1048576
  rotate_left
  · rw [lefts_no s1] at z1
    simp -implicitDefEqProofs -dsimp only [k3, go_sem, ↓reduceIte, Nat.reduceEqDiff, Int.reduceLE, Int.reduceLT, Int.reduceNeg, Int.reduceEq, Int.reduceBEq, Int.reduceBNe, Nat.reduceMul, Nat.reduceAdd, Nat.reduceLeDiff, reduceCtorEq, Int.reduceToNat]
    refine Call_val (own := true) (z1) (by simp [ExpOk, AV.pure]) (.inl rfl) ?_
    simp -implicitDefEqProofs -dsimp only [neg1, go_sem, ↓reduceIte, Nat.reduceEqDiff, Int.reduceLE, Int.reduceLT, Int.reduceNeg, Int.reduceEq, Int.reduceBEq, Int.reduceBNe, Nat.reduceMul, Nat.reduceAdd, Nat.reduceLeDiff, reduceCtorEq, Int.reduceToNat]
    exact Fin_val (by simp [resV, upd_at, retA]) (by simp [resV, upd_at, ResOk])
  rw [lefts_yes s1] at z1
  have c1 : ¬ ((1048576 - szTbs S : Nat) : Int) < 0 := by omega
  have z2 := h10 A (1048576 - szTbs S) (by omega) gA
  unfold dbs at z2
  by_cases s2 : szDb A ≤ 1048576 - szTbs S
  rotate_left
  · rw [lefts_no s2] at z2
    simp -implicitDefEqProofs -dsimp only [k3, go_sem, ↓reduceIte, Nat.reduceEqDiff, Int.reduceLE, Int.reduceLT, Int.reduceNeg, Int.reduceEq, Int.reduceBEq, Int.reduceBNe, Nat.reduceMul, Nat.reduceAdd, Nat.reduceLeDiff, reduceCtorEq, Int.reduceToNat]
    refine Call_val (own := true) (z1) (by simp [ExpOk, AV.pure]) (.inl rfl) ?_
    simp -implicitDefEqProofs -dsimp only [c1, go_sem, ↓reduceIte, Nat.reduceEqDiff, Int.reduceLE, Int.reduceLT, Int.reduceNeg, Int.reduceEq, Int.reduceBEq, Int.reduceBNe, Nat.reduceMul, Nat.reduceAdd, Nat.reduceLeDiff, reduceCtorEq, Int.reduceToNat]
    refine Call_val (own := true) (z2) (by simp [ExpOk, AV.pure]) (.inl rfl) ?_
    simp -implicitDefEqProofs -dsimp only [neg1, go_sem, ↓reduceIte, Nat.reduceEqDiff, Int.reduceLE, Int.reduceLT, Int.reduceNeg, Int.reduceEq, Int.reduceBEq, Int.reduceBNe, Nat.reduceMul, Nat.reduceAdd, Nat.reduceLeDiff, reduceCtorEq, Int.reduceToNat]
    exact Fin_val (by simp [resV, upd_at, retA]) (by simp [resV, upd_at, ResOk])
  rw [lefts_yes s2] at z2
  have c2 : ¬ ((1048576 - szTbs S - szDb A : Nat) : Int) < 0 := by omega
  have z3 := h10 B (1048576 - szTbs S - szDb A) (by omega) gB
  unfold dbs at z3
  by_cases s3 : szDb B ≤ 1048576 - szTbs S - szDb A
  rotate_left
  · rw [lefts_no s3] at z3
    simp -implicitDefEqProofs -dsimp only [k3, go_sem, ↓reduceIte, Nat.reduceEqDiff, Int.reduceLE, Int.reduceLT, Int.reduceNeg, Int.reduceEq, Int.reduceBEq, Int.reduceBNe, Nat.reduceMul, Nat.reduceAdd, Nat.reduceLeDiff, reduceCtorEq, Int.reduceToNat]
    refine Call_val (own := true) (z1) (by simp [ExpOk, AV.pure]) (.inl rfl) ?_
    simp -implicitDefEqProofs -dsimp only [c1, go_sem, ↓reduceIte, Nat.reduceEqDiff, Int.reduceLE, Int.reduceLT, Int.reduceNeg, Int.reduceEq, Int.reduceBEq, Int.reduceBNe, Nat.reduceMul, Nat.reduceAdd, Nat.reduceLeDiff, reduceCtorEq, Int.reduceToNat]
    refine Call_val (own := true) (z2) (by simp [ExpOk, AV.pure]) (.inl rfl) ?_
    simp -implicitDefEqProofs -dsimp only [c2, go_sem, ↓reduceIte, Nat.reduceEqDiff, Int.reduceLE, Int.reduceLT, Int.reduceNeg, Int.reduceEq, Int.reduceBEq, Int.reduceBNe, Nat.reduceMul, Nat.reduceAdd, Nat.reduceLeDiff, reduceCtorEq, Int.reduceToNat]
    refine Call_val (own := true) (z3) (by simp [ExpOk, AV.pure]) (.inl rfl) ?_
    simp -implicitDefEqProofs -dsimp only [neg1, go_sem, ↓reduceIte, Nat.reduceEqDiff, Int.reduceLE, Int.reduceLT, Int.reduceNeg, Int.reduceEq, Int.reduceBEq, Int.reduceBNe, Nat.reduceMul, Nat.reduceAdd, Nat.reduceLeDiff, reduceCtorEq, Int.reduceToNat]
    exact Fin_val (by simp [resV, upd_at, retA]) (by simp [resV, upd_at, ResOk])
  rw [lefts_yes s3] at z3
  have c3 : ¬ ((1048576 - szTbs S - szDb A - szDb B : Nat) : Int) < 0 := by omega
  obtain ⟨t1, t2⟩ := gtbs_of (s := S) (by omega)
  have bA := bdb_of (d := A) (by omega)
  have bB := bdb_of (d := B) (by omega)
  have GA : GDb S A := ⟨t1, t2.1, bA⟩
  have GB : GDb S B := ⟨t1, t2.1, bB⟩
  have b1 : (!true) = false := rfl
  have oS := h12 S t2
  have oA := h13 A bA
  have oB := h13 B bB
  have hs := h11 S A B GA GB
  have hi := h14 S A B GA GB
  obtain ⟨l1, l2, l3⟩ := diffP_le S A B
  have wS := wTbs_le S
  have wA := wDb_le A
  have wB := wDb_le B
  generalize hD : diffP S A B = D at hs hi l1 l2 l3
  generalize hf : tt (dbOk S A ∧ dbOk S B) = f at hs hi
  have eqc := h15 D (by omega) (fun a ha => ⟨by have := (l2 a ha).1; omega, by have := (l2 a ha).2; omega⟩)
  have eqs := h16 S t2
  have eqA := h17 A bA
  have eqB := h17 B bB
  have mS := h18 S 1 none True trivial (by omega) (by omega) t2.1 t2.2
  have mA := h19 A (1 + wL wTb S) none True trivial (by omega) (by omega) bA.1 bA.2
  have mB := h19 B (1 + wL wTb S + wL wDt A) none True trivial (by omega) (by omega) bB.1 bB.2
  have mD := h20 D 1 (capE D.length) True trivial (by omega) (by omega) (by omega) (fun a ha => ⟨by have := (l2 a ha).1; omega, by have := (l2 a ha).2; omega⟩)
  have hD2 := h21 D 1 (by omega) (by omega) (by omega) (fun a ha => ⟨by have := (l2 a ha).1; omega, by have := (l2 a ha).2; omega⟩)
  have b2 : ((f == f) != true) = false := by cases f <;> rfl
  have ngk : ¬ ((1 + wL wTb S + wL wDt A + wL wDt B : Nat) : Int) < 0 := by omega
  have ngd : ¬ ((1 + wL wCh D : Nat) : Int) < 0 := by omega
  have eqd : (((1 + wL wCh D : Nat) : Int) != ((1 + wL wCh D : Nat) : Int)) = false := by simp
  have sub_mk : sub ((mkL wCh mkCh 1 D).map chC) 0 D.length = (mkL wCh mkCh 1 D).map chC := by unfold sub; rw [if_pos ⟨rfl, by rw [List.length_map, mkL_len]⟩]
  unfold tbs at oS eqs
  unfold dbs at oA oB eqA eqB
  unfold tbs dbs at hs hi
  unfold chs at hs eqc
  simp -implicitDefEqProofs -dsimp only [k3, go_sem, ↓reduceIte, Nat.reduceEqDiff, Int.reduceLE, Int.reduceLT, Int.reduceNeg, Int.reduceEq, Int.reduceBEq, Int.reduceBNe, Nat.reduceMul, Nat.reduceAdd, Nat.reduceLeDiff, reduceCtorEq, Int.reduceToNat]
  refine Call_val (own := true) (z1) (by simp [ExpOk, AV.pure]) (.inl rfl) ?_
  simp -implicitDefEqProofs -dsimp only [c1, go_sem, ↓reduceIte, Nat.reduceEqDiff, Int.reduceLE, Int.reduceLT, Int.reduceNeg, Int.reduceEq, Int.reduceBEq, Int.reduceBNe, Nat.reduceMul, Nat.reduceAdd, Nat.reduceLeDiff, reduceCtorEq, Int.reduceToNat]
  refine Call_val (own := true) (z2) (by simp [ExpOk, AV.pure]) (.inl rfl) ?_
  simp -implicitDefEqProofs -dsimp only [c2, go_sem, ↓reduceIte, Nat.reduceEqDiff, Int.reduceLE, Int.reduceLT, Int.reduceNeg, Int.reduceEq, Int.reduceBEq, Int.reduceBNe, Nat.reduceMul, Nat.reduceAdd, Nat.reduceLeDiff, reduceCtorEq, Int.reduceToNat]
  refine Call_val (own := true) (z3) (by simp [ExpOk, AV.pure]) (.inl rfl) ?_
  simp -implicitDefEqProofs -dsimp only [c3, go_sem, ↓reduceIte, Nat.reduceEqDiff, Int.reduceLE, Int.reduceLT, Int.reduceNeg, Int.reduceEq, Int.reduceBEq, Int.reduceBNe, Nat.reduceMul, Nat.reduceAdd, Nat.reduceLeDiff, reduceCtorEq, Int.reduceToNat]
  refine Call_news (own := true) (b := obTb S) (obs' := []) oS (by simp [ExpOk, AV.pure]) (by simp [obTb, obL, tb_pure]) (.inl rfl) (by simp [obTb, obL]) ?_
  simp -implicitDefEqProofs -dsimp only [impA, impL, Option.getD_some, Nat.sub_self, Nat.sub_zero, obTb, obL, go_sem, ↓reduceIte, Nat.reduceEqDiff, Int.reduceLE, Int.reduceLT, Int.reduceNeg, Int.reduceEq, Int.reduceBEq, Int.reduceBNe, Nat.reduceMul, Nat.reduceAdd, Nat.reduceLeDiff, reduceCtorEq, Int.reduceToNat]
  refine Call_news (own := true) (b := obDt A) (obs' := []) oA (by simp [ExpOk, AV.pure]) (by simp [obDt, obL, dt_pure]) (.inl rfl) (by simp [obDt, obL]) ?_
  simp -implicitDefEqProofs -dsimp only [impA, impL, Option.getD_some, Nat.sub_self, Nat.sub_zero, obDt, obL, go_sem, ↓reduceIte, Nat.reduceEqDiff, Int.reduceLE, Int.reduceLT, Int.reduceNeg, Int.reduceEq, Int.reduceBEq, Int.reduceBNe, Nat.reduceMul, Nat.reduceAdd, Nat.reduceLeDiff, reduceCtorEq, Int.reduceToNat]
  refine Call_news (own := true) (b := obDt B) (obs' := []) oB (by simp [ExpOk, AV.pure]) (by simp [obDt, obL, dt_pure]) (.inl rfl) (by simp [obDt, obL]) ?_
  simp -implicitDefEqProofs -dsimp only [impA, impL, Option.getD_some, Nat.sub_self, Nat.sub_zero, obDt, obL, go_sem, ↓reduceIte, Nat.reduceEqDiff, Int.reduceLE, Int.reduceLT, Int.reduceNeg, Int.reduceEq, Int.reduceBEq, Int.reduceBNe, Nat.reduceMul, Nat.reduceAdd, Nat.reduceLeDiff, reduceCtorEq, Int.reduceToNat]
  refine Gh_of (.read _ _ _ 37 (.r 37 0) { ver := 1, es := S.map tbC, esz := 6, own := True } 0 S.length none (by simp [upd_at]) (by simp [hup_at, hdel_at]) (by simp) (tb_pure _)) ?_
  simp -implicitDefEqProofs -dsimp only [sub_map, go_sem, ↓reduceIte, Nat.reduceEqDiff, Int.reduceLE, Int.reduceLT, Int.reduceNeg, Int.reduceEq, Int.reduceBEq, Int.reduceBNe, Nat.reduceMul, Nat.reduceAdd, Nat.reduceLeDiff, reduceCtorEq, Int.reduceToNat]
  refine Gh_of (.read _ _ _ 39 (.r 39 0) { ver := 2, es := A.map dtC, esz := 1, own := True } 0 A.length none (by simp [upd_at]) (by simp [hup_at, hdel_at]) (by simp) (dt_pure _)) ?_
  simp -implicitDefEqProofs -dsimp only [sub_map, go_sem, ↓reduceIte, Nat.reduceEqDiff, Int.reduceLE, Int.reduceLT, Int.reduceNeg, Int.reduceEq, Int.reduceBEq, Int.reduceBNe, Nat.reduceMul, Nat.reduceAdd, Nat.reduceLeDiff, reduceCtorEq, Int.reduceToNat]
  refine Gh_of (.read _ _ _ 41 (.r 41 0) { ver := 3, es := B.map dtC, esz := 1, own := True } 0 B.length none (by simp [upd_at]) (by simp [hup_at, hdel_at]) (by simp) (dt_pure _)) ?_
  simp -implicitDefEqProofs -dsimp only [sub_map, go_sem, ↓reduceIte, Nat.reduceEqDiff, Int.reduceLE, Int.reduceLT, Int.reduceNeg, Int.reduceEq, Int.reduceBEq, Int.reduceBNe, Nat.reduceMul, Nat.reduceAdd, Nat.reduceLeDiff, reduceCtorEq, Int.reduceToNat]
  refine Call_val (own := false) (hs) (by simp [ExpOk, AV.pure]) (.inr (by simp [AV.rooted, AV.ref1])) ?_
  simp -implicitDefEqProofs -dsimp only [go_sem, ↓reduceIte, Nat.reduceEqDiff, Int.reduceLE, Int.reduceLT, Int.reduceNeg, Int.reduceEq, Int.reduceBEq, Int.reduceBNe, Nat.reduceMul, Nat.reduceAdd, Nat.reduceLeDiff, reduceCtorEq, Int.reduceToNat]
  refine Call_news (own := true) (b := obTb S) (obs' := []) oS (by simp [ExpOk, AV.pure]) (by simp [obTb, obDt, obL, tb_pure, dt_pure]) (.inl rfl) (by simp [obTb, obDt, obL]) ?_
  simp -implicitDefEqProofs -dsimp only [impA, impL, Option.getD_some, Nat.sub_self, Nat.sub_zero, obTb, obDt, obL, go_sem, ↓reduceIte, Nat.reduceEqDiff, Int.reduceLE, Int.reduceLT, Int.reduceNeg, Int.reduceEq, Int.reduceBEq, Int.reduceBNe, Nat.reduceMul, Nat.reduceAdd, Nat.reduceLeDiff, reduceCtorEq, Int.reduceToNat]
  refine Call_news (own := true) (b := obDt A) (obs' := []) oA (by simp [ExpOk, AV.pure]) (by simp [obTb, obDt, obL, tb_pure, dt_pure]) (.inl rfl) (by simp [obTb, obDt, obL]) ?_
  simp -implicitDefEqProofs -dsimp only [impA, impL, Option.getD_some, Nat.sub_self, Nat.sub_zero, obTb, obDt, obL, go_sem, ↓reduceIte, Nat.reduceEqDiff, Int.reduceLE, Int.reduceLT, Int.reduceNeg, Int.reduceEq, Int.reduceBEq, Int.reduceBNe, Nat.reduceMul, Nat.reduceAdd, Nat.reduceLeDiff, reduceCtorEq, Int.reduceToNat]
  refine Call_news (own := true) (b := obDt B) (obs' := []) oB (by simp [ExpOk, AV.pure]) (by simp [obTb, obDt, obL, tb_pure, dt_pure]) (.inl rfl) (by simp [obTb, obDt, obL]) ?_
  simp -implicitDefEqProofs -dsimp only [impA, impL, Option.getD_some, Nat.sub_self, Nat.sub_zero, obTb, obDt, obL, go_sem, ↓reduceIte, Nat.reduceEqDiff, Int.reduceLE, Int.reduceLT, Int.reduceNeg, Int.reduceEq, Int.reduceBEq, Int.reduceBNe, Nat.reduceMul, Nat.reduceAdd, Nat.reduceLeDiff, reduceCtorEq, Int.reduceToNat]
  refine Call_news (own := true) (b := obCh D) (obs' := []) (v := .tup [.sl (.p 0) 1 0 D.length (capE D.length), .b f]) (by simpa [expL, expA, cur, hup_at, List.idxOf?_cons, List.idxOf?_nil, objs_l, objs_r, objs_p, sub_map, List.length_map, hdel_at] using hi) (by simp [ExpOk, AV.pure, cur, hup_at, List.idxOf?_cons, List.idxOf?_nil, objs_l, objs_r, objs_p, List.length_map, tb_pure, dt_pure, ch_pure, hdel_at]) (by simp [obCh, ch_pure]) (.inl rfl) (by simp [obCh]) ?_
  simp -implicitDefEqProofs -dsimp only [impA, impL, Option.getD_some, Nat.sub_self, Nat.sub_zero, obCh, go_sem, ↓reduceIte, Nat.reduceEqDiff, Int.reduceLE, Int.reduceLT, Int.reduceNeg, Int.reduceEq, Int.reduceBEq, Int.reduceBNe, Nat.reduceMul, Nat.reduceAdd, Nat.reduceLeDiff, reduceCtorEq, Int.reduceToNat]
  refine Call_val (own := true) (v := .b true) (by simpa [expL, expA, cur, hup_at, List.idxOf?_cons, List.idxOf?_nil, objs_l, objs_r, objs_p, sub_map, List.length_map, hdel_at, chs] using eqc) (by simp [ExpOk, AV.pure, cur, hup_at, List.idxOf?_cons, List.idxOf?_nil, objs_l, objs_r, objs_p, List.length_map, tb_pure, dt_pure, ch_pure, hdel_at, chs]) (.inl rfl) ?_
  simp -implicitDefEqProofs -dsimp only [b1, b2, go_sem, ↓reduceIte, Nat.reduceEqDiff, Int.reduceLE, Int.reduceLT, Int.reduceNeg, Int.reduceEq, Int.reduceBEq, Int.reduceBNe, Nat.reduceMul, Nat.reduceAdd, Nat.reduceLeDiff, reduceCtorEq, Int.reduceToNat]
  refine Call_news (own := true) (b := obTb S) (obs' := []) oS (by simp [ExpOk, AV.pure]) (by simp [obTb, obDt, obL, tb_pure, dt_pure]) (.inl rfl) (by simp [obTb, obDt, obL]) ?_
  simp -implicitDefEqProofs -dsimp only [impA, impL, Option.getD_some, Nat.sub_self, Nat.sub_zero, obTb, obDt, obL, go_sem, ↓reduceIte, Nat.reduceEqDiff, Int.reduceLE, Int.reduceLT, Int.reduceNeg, Int.reduceEq, Int.reduceBEq, Int.reduceBNe, Nat.reduceMul, Nat.reduceAdd, Nat.reduceLeDiff, reduceCtorEq, Int.reduceToNat]
  refine Call_val (own := true) (v := .b true) (by simpa [expL, expA, cur, hup_at, List.idxOf?_cons, List.idxOf?_nil, objs_l, objs_r, objs_p, sub_map, List.length_map, hdel_at] using eqs) (by simp [ExpOk, AV.pure, cur, hup_at, List.idxOf?_cons, List.idxOf?_nil, objs_l, objs_r, objs_p, List.length_map, tb_pure, dt_pure, ch_pure, hdel_at]) (.inl rfl) ?_
  simp -implicitDefEqProofs -dsimp only [b1, go_sem, ↓reduceIte, Nat.reduceEqDiff, Int.reduceLE, Int.reduceLT, Int.reduceNeg, Int.reduceEq, Int.reduceBEq, Int.reduceBNe, Nat.reduceMul, Nat.reduceAdd, Nat.reduceLeDiff, reduceCtorEq, Int.reduceToNat]
  refine Call_news (own := true) (b := obDt A) (obs' := []) oA (by simp [ExpOk, AV.pure]) (by simp [obTb, obDt, obL, tb_pure, dt_pure]) (.inl rfl) (by simp [obTb, obDt, obL]) ?_
  simp -implicitDefEqProofs -dsimp only [impA, impL, Option.getD_some, Nat.sub_self, Nat.sub_zero, obTb, obDt, obL, go_sem, ↓reduceIte, Nat.reduceEqDiff, Int.reduceLE, Int.reduceLT, Int.reduceNeg, Int.reduceEq, Int.reduceBEq, Int.reduceBNe, Nat.reduceMul, Nat.reduceAdd, Nat.reduceLeDiff, reduceCtorEq, Int.reduceToNat]
  refine Call_val (own := true) (v := .b true) (by simpa [expL, expA, cur, hup_at, List.idxOf?_cons, List.idxOf?_nil, objs_l, objs_r, objs_p, sub_map, List.length_map, hdel_at] using eqA) (by simp [ExpOk, AV.pure, cur, hup_at, List.idxOf?_cons, List.idxOf?_nil, objs_l, objs_r, objs_p, List.length_map, tb_pure, dt_pure, ch_pure, hdel_at]) (.inl rfl) ?_
  simp -implicitDefEqProofs -dsimp only [b1, go_sem, ↓reduceIte, Nat.reduceEqDiff, Int.reduceLE, Int.reduceLT, Int.reduceNeg, Int.reduceEq, Int.reduceBEq, Int.reduceBNe, Nat.reduceMul, Nat.reduceAdd, Nat.reduceLeDiff, reduceCtorEq, Int.reduceToNat]
  refine Call_news (own := true) (b := obDt B) (obs' := []) oB (by simp [ExpOk, AV.pure]) (by simp [obTb, obDt, obL, tb_pure, dt_pure]) (.inl rfl) (by simp [obTb, obDt, obL]) ?_
  simp -implicitDefEqProofs -dsimp only [impA, impL, Option.getD_some, Nat.sub_self, Nat.sub_zero, obTb, obDt, obL, go_sem, ↓reduceIte, Nat.reduceEqDiff, Int.reduceLE, Int.reduceLT, Int.reduceNeg, Int.reduceEq, Int.reduceBEq, Int.reduceBNe, Nat.reduceMul, Nat.reduceAdd, Nat.reduceLeDiff, reduceCtorEq, Int.reduceToNat]
  refine Call_val (own := true) (v := .b true) (by simpa [expL, expA, cur, hup_at, List.idxOf?_cons, List.idxOf?_nil, objs_l, objs_r, objs_p, sub_map, List.length_map, hdel_at] using eqB) (by simp [ExpOk, AV.pure, cur, hup_at, List.idxOf?_cons, List.idxOf?_nil, objs_l, objs_r, objs_p, List.length_map, tb_pure, dt_pure, ch_pure, hdel_at]) (.inl rfl) ?_
  simp -implicitDefEqProofs -dsimp only [b1, go_sem, ↓reduceIte, Nat.reduceEqDiff, Int.reduceLE, Int.reduceLT, Int.reduceNeg, Int.reduceEq, Int.reduceBEq, Int.reduceBNe, Nat.reduceMul, Nat.reduceAdd, Nat.reduceLeDiff, reduceCtorEq, Int.reduceToNat]
  refine Call_one (own := true) (v := i64 ((1 + wL wTb S : Nat) : Int)) (.r 46 0) { ver := 4, es := S.map tbC, esz := 6, own := True } (obM 6 ((mkL wTb mkTb (1) S).map tbC) True) (by simp [hup_at, hdel_at]) (by simpa [expL, expA, cur, hup_at, List.idxOf?_cons, List.idxOf?_nil, objs_l, objs_r, objs_p, sub_map, List.length_map, hdel_at, obM] using mS) (by simp [ExpOk, AV.pure, cur, hup_at, List.idxOf?_cons, List.idxOf?_nil, objs_l, objs_r, objs_p, List.length_map, tb_pure, dt_pure, ch_pure, hdel_at]) (tb_pure _) (tb_pure _) (.inl rfl) (fun _ => .inl trivial) ?_
  simp -implicitDefEqProofs -dsimp only [obM, go_sem, ↓reduceIte, Nat.reduceEqDiff, Int.reduceLE, Int.reduceLT, Int.reduceNeg, Int.reduceEq, Int.reduceBEq, Int.reduceBNe, Nat.reduceMul, Nat.reduceAdd, Nat.reduceLeDiff, reduceCtorEq, Int.reduceToNat]
  refine Call_one (own := true) (v := i64 ((1 + wL wTb S + wL wDt A : Nat) : Int)) (.r 48 0) { ver := 5, es := A.map dtC, esz := 1, own := True } (obM 1 ((mkL wDt mkDt (1 + wL wTb S) A).map dtC) True) (by simp [hup_at, hdel_at]) (by simpa [expL, expA, cur, hup_at, List.idxOf?_cons, List.idxOf?_nil, objs_l, objs_r, objs_p, sub_map, List.length_map, hdel_at, obM] using mA) (by simp [ExpOk, AV.pure, cur, hup_at, List.idxOf?_cons, List.idxOf?_nil, objs_l, objs_r, objs_p, List.length_map, tb_pure, dt_pure, ch_pure, hdel_at]) (dt_pure _) (dt_pure _) (.inl rfl) (fun _ => .inl trivial) ?_
  simp -implicitDefEqProofs -dsimp only [obM, go_sem, ↓reduceIte, Nat.reduceEqDiff, Int.reduceLE, Int.reduceLT, Int.reduceNeg, Int.reduceEq, Int.reduceBEq, Int.reduceBNe, Nat.reduceMul, Nat.reduceAdd, Nat.reduceLeDiff, reduceCtorEq, Int.reduceToNat]
  refine Call_one (own := true) (v := i64 ((1 + wL wTb S + wL wDt A + wL wDt B : Nat) : Int)) (.r 50 0) { ver := 6, es := B.map dtC, esz := 1, own := True } (obM 1 ((mkL wDt mkDt (1 + wL wTb S + wL wDt A) B).map dtC) True) (by simp [hup_at, hdel_at]) (by simpa [expL, expA, cur, hup_at, List.idxOf?_cons, List.idxOf?_nil, objs_l, objs_r, objs_p, sub_map, List.length_map, hdel_at, obM] using mB) (by simp [ExpOk, AV.pure, cur, hup_at, List.idxOf?_cons, List.idxOf?_nil, objs_l, objs_r, objs_p, List.length_map, tb_pure, dt_pure, ch_pure, hdel_at]) (dt_pure _) (dt_pure _) (.inl rfl) (fun _ => .inl trivial) ?_
  simp -implicitDefEqProofs -dsimp only [obM, go_sem, ↓reduceIte, Nat.reduceEqDiff, Int.reduceLE, Int.reduceLT, Int.reduceNeg, Int.reduceEq, Int.reduceBEq, Int.reduceBNe, Nat.reduceMul, Nat.reduceAdd, Nat.reduceLeDiff, reduceCtorEq, Int.reduceToNat]
  simp -implicitDefEqProofs -dsimp only [ngk, go_sem, ↓reduceIte, Nat.reduceEqDiff, Int.reduceLE, Int.reduceLT, Int.reduceNeg, Int.reduceEq, Int.reduceBEq, Int.reduceBNe, Nat.reduceMul, Nat.reduceAdd, Nat.reduceLeDiff, reduceCtorEq, Int.reduceToNat]
  refine Call_val (own := true) (v := .b true) (by simpa [expL, expA, cur, hup_at, List.idxOf?_cons, List.idxOf?_nil, objs_l, objs_r, objs_p, sub_map, List.length_map, hdel_at, chs] using eqc) (by simp [ExpOk, AV.pure, cur, hup_at, List.idxOf?_cons, List.idxOf?_nil, objs_l, objs_r, objs_p, List.length_map, tb_pure, dt_pure, ch_pure, hdel_at, chs]) (.inl rfl) ?_
  simp -implicitDefEqProofs -dsimp only [b1, b2, go_sem, ↓reduceIte, Nat.reduceEqDiff, Int.reduceLE, Int.reduceLT, Int.reduceNeg, Int.reduceEq, Int.reduceBEq, Int.reduceBNe, Nat.reduceMul, Nat.reduceAdd, Nat.reduceLeDiff, reduceCtorEq, Int.reduceToNat]
  refine Call_one (own := true) (v := i64 ((1 + wL wCh D : Nat) : Int)) (.r 55 0) { ver := 7, es := D.map chC, esz := 4, own := True } (obM 4 ((mkL wCh mkCh (1) D).map chC) True) (by simp [hup_at, hdel_at]) (by simpa [expL, expA, cur, hup_at, List.idxOf?_cons, List.idxOf?_nil, objs_l, objs_r, objs_p, sub_map, List.length_map, hdel_at, obM] using mD) (by simp [ExpOk, AV.pure, cur, hup_at, List.idxOf?_cons, List.idxOf?_nil, objs_l, objs_r, objs_p, List.length_map, tb_pure, dt_pure, ch_pure, hdel_at]) (ch_pure _) (ch_pure _) (.inl rfl) (fun _ => .inl trivial) ?_
  simp -implicitDefEqProofs -dsimp only [obM, go_sem, ↓reduceIte, Nat.reduceEqDiff, Int.reduceLE, Int.reduceLT, Int.reduceNeg, Int.reduceEq, Int.reduceBEq, Int.reduceBNe, Nat.reduceMul, Nat.reduceAdd, Nat.reduceLeDiff, reduceCtorEq, Int.reduceToNat]
  refine Call_val (own := true) (v := i64 ((1 + wL wCh D : Nat) : Int)) (by simpa [expL, expA, cur, hup_at, List.idxOf?_cons, List.idxOf?_nil, objs_l, objs_r, objs_p, sub_map, List.length_map, hdel_at, sub_mk] using hD2) (by simp [ExpOk, AV.pure, cur, hup_at, List.idxOf?_cons, List.idxOf?_nil, objs_l, objs_r, objs_p, List.length_map, tb_pure, dt_pure, ch_pure, hdel_at, mkL_len]) (.inl rfl) ?_
  simp -implicitDefEqProofs -dsimp only [ngd, eqd, go_sem, ↓reduceIte, Nat.reduceEqDiff, Int.reduceLE, Int.reduceLT, Int.reduceNeg, Int.reduceEq, Int.reduceBEq, Int.reduceBNe, Nat.reduceMul, Nat.reduceAdd, Nat.reduceLeDiff, reduceCtorEq, Int.reduceToNat]
  refine Call_news (own := true) (b := obTb S) (obs' := []) oS (by simp [ExpOk, AV.pure]) (by simp [obTb, obDt, obL, tb_pure, dt_pure]) (.inl rfl) (by simp [obTb, obDt, obL]) ?_
  simp -implicitDefEqProofs -dsimp only [impA, impL, Option.getD_some, Nat.sub_self, Nat.sub_zero, obTb, obDt, obL, go_sem, ↓reduceIte, Nat.reduceEqDiff, Int.reduceLE, Int.reduceLT, Int.reduceNeg, Int.reduceEq, Int.reduceBEq, Int.reduceBNe, Nat.reduceMul, Nat.reduceAdd, Nat.reduceLeDiff, reduceCtorEq, Int.reduceToNat]
  refine Call_news (own := true) (b := obDt A) (obs' := []) oA (by simp [ExpOk, AV.pure]) (by simp [obTb, obDt, obL, tb_pure, dt_pure]) (.inl rfl) (by simp [obTb, obDt, obL]) ?_
  simp -implicitDefEqProofs -dsimp only [impA, impL, Option.getD_some, Nat.sub_self, Nat.sub_zero, obTb, obDt, obL, go_sem, ↓reduceIte, Nat.reduceEqDiff, Int.reduceLE, Int.reduceLT, Int.reduceNeg, Int.reduceEq, Int.reduceBEq, Int.reduceBNe, Nat.reduceMul, Nat.reduceAdd, Nat.reduceLeDiff, reduceCtorEq, Int.reduceToNat]
  refine Call_news (own := true) (b := obDt B) (obs' := []) oB (by simp [ExpOk, AV.pure]) (by simp [obTb, obDt, obL, tb_pure, dt_pure]) (.inl rfl) (by simp [obTb, obDt, obL]) ?_
  simp -implicitDefEqProofs -dsimp only [impA, impL, Option.getD_some, Nat.sub_self, Nat.sub_zero, obTb, obDt, obL, go_sem, ↓reduceIte, Nat.reduceEqDiff, Int.reduceLE, Int.reduceLT, Int.reduceNeg, Int.reduceEq, Int.reduceBEq, Int.reduceBNe, Nat.reduceMul, Nat.reduceAdd, Nat.reduceLeDiff, reduceCtorEq, Int.reduceToNat]
  refine Call_news (own := true) (b := obCh D) (obs' := []) (v := .tup [.sl (.p 0) 1 0 D.length (capE D.length), .b f]) (by simpa [expL, expA, cur, hup_at, List.idxOf?_cons, List.idxOf?_nil, objs_l, objs_r, objs_p, sub_map, List.length_map, hdel_at] using hi) (by simp [ExpOk, AV.pure, cur, hup_at, List.idxOf?_cons, List.idxOf?_nil, objs_l, objs_r, objs_p, List.length_map, tb_pure, dt_pure, ch_pure, hdel_at]) (by simp [obCh, ch_pure]) (.inl rfl) (by simp [obCh]) ?_
  simp -implicitDefEqProofs -dsimp only [impA, impL, Option.getD_some, Nat.sub_self, Nat.sub_zero, obCh, go_sem, ↓reduceIte, Nat.reduceEqDiff, Int.reduceLE, Int.reduceLT, Int.reduceNeg, Int.reduceEq, Int.reduceBEq, Int.reduceBNe, Nat.reduceMul, Nat.reduceAdd, Nat.reduceLeDiff, reduceCtorEq, Int.reduceToNat]
  refine Call_val (own := true) (v := .b true) (by simpa [expL, expA, cur, hup_at, List.idxOf?_cons, List.idxOf?_nil, objs_l, objs_r, objs_p, sub_map, List.length_map, hdel_at, chs] using eqc) (by simp [ExpOk, AV.pure, cur, hup_at, List.idxOf?_cons, List.idxOf?_nil, objs_l, objs_r, objs_p, List.length_map, tb_pure, dt_pure, ch_pure, hdel_at, chs]) (.inl rfl) ?_
  simp -implicitDefEqProofs -dsimp only [b1, b2, go_sem, ↓reduceIte, Nat.reduceEqDiff, Int.reduceLE, Int.reduceLT, Int.reduceNeg, Int.reduceEq, Int.reduceBEq, Int.reduceBNe, Nat.reduceMul, Nat.reduceAdd, Nat.reduceLeDiff, reduceCtorEq, Int.reduceToNat]
  refine Call_val (own := true) (v := i64 ((1 + wL wCh D : Nat) : Int)) (by simpa [expL, expA, cur, hup_at, List.idxOf?_cons, List.idxOf?_nil, objs_l, objs_r, objs_p, sub_map, List.length_map, hdel_at, sub_mk] using hD2) (by simp [ExpOk, AV.pure, cur, hup_at, List.idxOf?_cons, List.idxOf?_nil, objs_l, objs_r, objs_p, List.length_map, tb_pure, dt_pure, ch_pure, hdel_at, mkL_len]) (.inl rfl) ?_
  simp -implicitDefEqProofs -dsimp only [ngd, eqd, go_sem, ↓reduceIte, Nat.reduceEqDiff, Int.reduceLE, Int.reduceLT, Int.reduceNeg, Int.reduceEq, Int.reduceBEq, Int.reduceBNe, Nat.reduceMul, Nat.reduceAdd, Nat.reduceLeDiff, reduceCtorEq, Int.reduceToNat]
  exact Fin_val (by simp [resV, upd_at, retA]) (by simp [resV, upd_at, ResOk])
end FrA
end
