/- What a loss of power leaves, when all or nothing is kept, in plain Lean. No condition. -/
import Derived.Test.YtpiegccohgdkdaaAmDk9
import Derived.Test.YtpiegccohgdkdaaAmRd3
set_option linter.all false
set_option linter.unusedSimpArgs false
set_option linter.unusedVariables false
set_option linter.deprecated false
/-! DkPl -/
open Go Go.AM
namespace FrA
theorem diskB_run {live safe : List File} {ops : List Dop} (h : diskB live safe ops = true) : runOps safe ops = some live := by
  unfold diskB at h
  simp only [Bool.and_eq_true] at h
  have h1 := h.2.2.2
  cases hr : runOps safe ops with
  | none => rw [hr] at h1; cases h1
  | some l =>
    rw [hr] at h1
    by_cases e : l = live
    · rw [e]
    · simp only [eqFs_f e] at h1; cases h1
theorem run_app (b : List Dop) : ∀ (a : List Dop) (l : List File), runOps l (a ++ b) = (runOps l a).bind fun m => runOps m b
  | [], l => by simp [runOps]
  | o :: r, l => by
    rw [List.cons_append, runOps, runOps]
    split
    · exact run_app b r _
    · rfl
theorem run_cons {l m : List File} {o : Dop} {r : List Dop} (h : runOps l (o :: r) = some m) : form o = true ∧ actB l o = true ∧ okF (act l o) = true ∧ runOps (act l o) r = some m := by
  rw [runOps] at h
  split at h
  · next hc => exact ⟨hc.1, hc.2.1, hc.2.2, h⟩
  · cases h
def allI (n : Nat) : List Int := (List.range n).map fun (i : Nat) => (i : Int)
theorem allI_len (n : Nat) : (allI n).length = n := by simp [allI]
theorem allI_get {n i : Nat} (h : i < n) : (allI n).getD i 0 = (i : Int) := by
  rw [List.getD_eq_getElem?_getD, allI, List.getElem?_map, List.getElem?_range h]; rfl
theorem allI_ok (n : Nat) : kOk n (allI n) := fun i hi => by
  rw [allI_len] at hi
  refine ⟨by rw [allI_get hi]; omega, by rw [allI_get hi]; omega, fun h0 => ?_⟩
  rw [allI_get hi, allI_get (by omega)]; omega
theorem tear_no (b : Bool) (t : Int) (o : Dop) (h : (o.2.2.2.length : Int) ≤ t) : tear b t o = o := by
  unfold tear; split
  · rw [List.take_of_length_le (by omega)]
  · rfl
theorem run_all {live safe : List File} {ops : List Dop} {torn : Int} (hr : runOps safe ops = some live) (hd : ∀ o ∈ ops, (o.2.2.2.length : Int) ≤ torn) : ∀ i, i ≤ ops.length → runOps safe (ops.take i) = some (crN ops (allI ops.length) torn safe i)
  | 0, _ => by simp [runOps, crN]
  | i + 1, hi => by
    have ih := run_all hr hd i (by omega)
    have hlt : i < ops.length := by omega
    have e1 : ops.take i ++ ops.getD i dop0 :: ops.drop (i + 1) = ops := by
      rw [List.getD_eq_getElem?_getD, List.getElem?_eq_getElem hlt, Option.getD_some, ← List.drop_eq_getElem_cons hlt, List.take_append_drop]
    have e2 : ops.take (i + 1) = ops.take i ++ [ops.getD i dop0] := by
      rw [List.getD_eq_getElem?_getD, List.getElem?_eq_getElem hlt, Option.getD_some, List.take_succ_eq_append_getElem hlt]
    have hr2 := hr
    rw [← e1, run_app, ih, Option.bind_some] at hr2
    obtain ⟨f1, f2, f3, _⟩ := run_cons hr2
    have hm : ops.getD i dop0 ∈ ops := getO_mem hlt
    have ek : opK ops (allI ops.length) torn i = ops.getD i dop0 := by
      unfold opK
      rw [allI_get hlt, Int.toNat_natCast, tear_no _ _ _ (hd _ hm)]
    rw [e2, run_app, ih, Option.bind_some, runOps_yes f1 f2 f3, runOps, crN, ek]
theorem crN_all {live safe : List File} {ops : List Dop} {torn : Int} (hk : diskB live safe ops = true) (hd : ∀ o ∈ ops, (o.2.2.2.length : Int) ≤ torn) : crN ops (allI ops.length) torn safe ops.length = live := by
  have h1 := run_all (diskB_run hk) hd ops.length (Nat.le_refl _)
  rw [List.take_length, diskB_run hk] at h1
  exact (Option.some.inj h1).symm
theorem crB_all {live safe : List File} {ops : List Dop} {torn : Int} (hk : diskB live safe ops = true) (ht : 0 ≤ torn) (hd : ∀ o ∈ ops, (o.2.2.2.length : Int) ≤ torn) : crB live safe ops (allI ops.length) torn = true :=
  crB_t.2 ⟨hk, ht, allI_ok _, by rw [allI_len, crN_all hk hd]; exact (diskB_ok hk).1⟩
theorem crB_none {live safe : List File} {ops : List Dop} (hk : diskB live safe ops = true) : crB live safe ops [] 0 = true :=
  crB_t.2 ⟨hk, by omega, fun i hi => by simp at hi, (diskB_ok hk).2.1⟩
end FrA

/-! RdF -/
open Go Go.AM
namespace FrA
open Go.Proofs
set_option maxRecDepth 100000
set_option linter.unusedSimpArgs false
theorem h39 (a : List File) (ha : a.length ≤ 1048576) : HT 39 [.dat 2 (fl a), .dat 2 (fl a)] [] (.b true) true [] := by
  refine holds_of (c := Try.f39.body.getD .skip) (k := k39.1) (ts := [4]) HOk mixedT hintT Try.func39 (by kernel_rfl) (by kernel_rfl) (by kernel_rfl) k39.2 (by kernel_rfl) (le_of 2 _ (by kernel_rfl)) ?_
  have hc : ((a.length : Int) != (a.length : Int)) = false := by simp
  simp -dsimp only [k39, hc, fl_len, go_sem, ↓reduceIte, Nat.reduceEqDiff, Int.reduceLE, Int.reduceLT, Int.reduceNeg, Int.reduceEq, Nat.reduceMul, Nat.reduceAdd, Nat.reduceLeDiff, reduceCtorEq]
  refine K_for a.length (fun i g h _ => g 0 = .dat 2 (fl a) ∧ g 1 = .dat 2 (fl a) ∧ g 5 = i64 i) ?_ ?_ ?_
  · exact ⟨by simp [upd_at, S_0], by simp [upd_at, S_1], by simp [upd_at]⟩
  · rintro i A hi hA g h c ⟨q0, q1, q5⟩
    have hc : (i : Int) < (a.length : Int) := by omega
    have w1 : IntKind.i64.wrap ((i : Int) + 1) = ((i + 1 : Nat) : Int) := by rw [wr (by omega) (by omega)]; rfl
    have ga := fl_get hi
    have ef : ((a.getD i ([], [])).1 == (a.getD i ([], [])).1 && (a.getD i ([], [])).2 == (a.getD i ([], [])).2) = true := by simp
    have e1 : (true != true) = false := rfl
    simp -dsimp only [q0, q1, q5, hc, ga, fl_len, ef, e1, w1, go_sem, ↓reduceIte, Nat.reduceEqDiff, Int.reduceLE, Int.reduceLT, Int.reduceNeg, Int.reduceEq, Nat.reduceMul, Nat.reduceAdd, Nat.reduceLeDiff, reduceCtorEq]
    exact hA _ _ _ ⟨by simp [upd_at, q0], by simp [upd_at, q1], by simp [upd_at]⟩
  · rintro A g h c ⟨q0, q1, q5⟩
    have hc : ¬ (a.length : Int) < (a.length : Int) := by omega
    simp -dsimp only [q0, q1, q5, hc, fl_len, go_sem, ↓reduceIte, Nat.reduceEqDiff, Int.reduceLE, Int.reduceLT, Int.reduceNeg, Int.reduceEq, Nat.reduceMul, Nat.reduceAdd, Nat.reduceLeDiff, reduceCtorEq]
    exact Fin_val (by simp [resV, upd_at, retA]) (by simp [resV, upd_at, ResOk])
theorem allI_succ (n : Nat) : allI (n + 1) = allI n ++ [(n : Int)] := by simp [allI, List.range_succ]
theorem il_snoc (l : List Int) (x : Int) : il l ++ [[.i .i64 x]] = il (l ++ [x]) := by simp [il]
theorem h7 (code : List UInt8) : HT 7 [.dat 1 (bts code)] [] (.b true) true [] := by
  refine holds_of (c := Try.f7.body.getD .skip) (k := k7.1) (ts := [2]) HOk mixedT hintT Try.func7 (by kernel_rfl) (by kernel_rfl) (by kernel_rfl) k7.2 (by kernel_rfl) (le_of 1 _ (by kernel_rfl)) ?_
  by_cases hs : code.length ≤ 1048576
  case neg =>
    have c0 : (code.length : Int) > 1048576 := by omega
    simp -dsimp only [k7, go_sem, ↓reduceIte, Nat.reduceEqDiff, Int.reduceLE, Int.reduceLT, Int.reduceNeg, Int.reduceEq, Nat.reduceMul, Nat.reduceAdd, Nat.reduceLeDiff, reduceCtorEq]
    refine Call_val (own := true) (h23 code) (by simp [ExpOk, AV.pure]) (.inl rfl) ?_
    simp -dsimp only [c0, go_sem, ↓reduceIte, Nat.reduceEqDiff, Int.reduceLE, Int.reduceLT, Int.reduceNeg, Int.reduceEq, Nat.reduceMul, Nat.reduceAdd, Nat.reduceLeDiff, reduceCtorEq]
    exact Fin_val (by simp [resV, upd_at, retA]) (by simp [resV, upd_at, ResOk])
  have c0 : ¬ (code.length : Int) > 1048576 := by omega
  simp -dsimp only [k7, go_sem, ↓reduceIte, Nat.reduceEqDiff, Int.reduceLE, Int.reduceLT, Int.reduceNeg, Int.reduceEq, Nat.reduceMul, Nat.reduceAdd, Nat.reduceLeDiff, reduceCtorEq]
  refine Call_val (own := true) (h23 code) (by simp [ExpOk, AV.pure]) (.inl rfl) ?_
  simp -dsimp only [c0, go_sem, ↓reduceIte, Nat.reduceEqDiff, Int.reduceLE, Int.reduceLT, Int.reduceNeg, Int.reduceEq, Nat.reduceMul, Nat.reduceAdd, Nat.reduceLeDiff, reduceCtorEq]
  refine Call_vals (own := false) (h34 code hs) (by simp [ExpOk, AV.pure]) (.inr (by simp [AV.rooted, AV.ref1])) fun r o' ⟨eo, L, S, O, b1, b2, b3, er⟩ => ⟨eo, by subst er; intros; simp [disk, impA, impL], ?_⟩
  subst er
  have d35 := h35 L S O b1 b2 b3
  have d36 := h36 L S O b1 b2 b3
  obtain ⟨B, hB⟩ : ∃ B, B = diskB L S O := ⟨_, rfl⟩
  rw [← hB] at d35 d36
  have eB : ((B == B) != true) = false := by cases B <;> rfl
  unfold disk at d35 d36 ⊢
  simp -dsimp only [go_sem, ↓reduceIte, Nat.reduceEqDiff, Int.reduceLE, Int.reduceLT, Int.reduceNeg, Int.reduceEq, Nat.reduceMul, Nat.reduceAdd, Nat.reduceLeDiff, reduceCtorEq]
  refine Call0_val true (d35) (by simp [AV.free, AV.pure]) (.inl rfl) ?_
  simp -dsimp only [go_sem, ↓reduceIte, Nat.reduceEqDiff, Int.reduceLE, Int.reduceLT, Int.reduceNeg, Int.reduceEq, Nat.reduceMul, Nat.reduceAdd, Nat.reduceLeDiff, reduceCtorEq]
  refine Call0_val true (d36) (by simp [AV.free, AV.pure]) (.inl rfl) ?_
  simp -dsimp only [eB, chunk, go_sem, ↓reduceIte, Nat.reduceEqDiff, Int.reduceLE, Int.reduceLT, Int.reduceNeg, Int.reduceEq, Nat.reduceMul, Nat.reduceAdd, Nat.reduceLeDiff, reduceCtorEq]
  have hO := b3.1
  refine K_for O.length (fun i g h c => ∃ (u : Nat) (cap : Option Nat) (q : Prop), g 3 = .ptr (.l 3) 1 0 0 ∧ g 4 = .sl (.l 20) u 0 i cap ∧ g 5 = i64 i ∧ h (.l 3) = some { ver := 1, es := [[.dat 2 (fl L), .dat 2 (fl S), .dat 4 (ol O)]], esz := 3, own := False, fixed := true } ∧ h (.l 20) = some { ver := u, es := il (allI i), esz := 1, own := q }) ?_ ?_ ?_
  · exact ⟨_, _, _, by simp [upd_at], by simp [upd_at]; exact ⟨rfl, rfl⟩, by simp [upd_at], by simp [hup_at], by simp [hup_at, allI, il]; rfl⟩
  · rintro i A hi hA g h c ⟨u, cap, q, q3, q4, q5, m3, m20⟩
    have hc : (i : Int) < (O.length : Int) := by omega
    have w1 : IntKind.i64.wrap ((i : Int) + 1) = ((i + 1 : Nat) : Int) := by rw [wr (by omega) (by omega)]; rfl
    have sn : il (allI i) ++ [[AV.i .i64 (i : Int)]] = il (allI (i + 1)) := by rw [il_snoc, allI_succ]
    simp -dsimp only [q3, q4, q5, m3, m20, hc, ol_len, il_len, allI_len, chunk, go_sem, ↓reduceIte, Nat.reduceEqDiff, Int.reduceLE, Int.reduceLT, Int.reduceNeg, Int.reduceEq, Nat.reduceMul, Nat.reduceAdd, Nat.reduceLeDiff, reduceCtorEq]
    refine EK_p ⟨⟨fun _ => il_flat [(i : Int)], il_good [(i : Int)]⟩, by unfold bigOk; omega, by omega⟩ ?_
    simp -dsimp only [q3, q4, q5, m3, m20, il_len, allI_len, w1, sn, go_sem, ↓reduceIte, Nat.reduceEqDiff, Int.reduceLE, Int.reduceLT, Int.reduceNeg, Int.reduceEq, Nat.reduceMul, Nat.reduceAdd, Nat.reduceLeDiff, reduceCtorEq]
    exact hA _ _ _ ⟨_, _, _, by simp [upd_at, q3], by simp [upd_at]; exact ⟨rfl, rfl⟩, by simp [upd_at], by simp [hup_at, m3], by simp [hup_at]; rfl⟩
  · rintro A g h c ⟨u, cap, q, q3, q4, q5, m3, m20⟩
    have hc : ¬ (O.length : Int) < (O.length : Int) := by omega
    have hal := allI_len O.length
    have hsa : sub (il (allI O.length)) 0 O.length = il (allI O.length) := sub_all (by rw [il_len, hal])
    have nilk : Le .nils (.dat 1 (il [])) := .nils 1
    cases B
    · have hk : diskB L S O = false := hB.symm
      have a37 := h37_no L S O (allI O.length) 1099511627776 b1 b2 b3 (by rw [hal]; exact hO) (crB_f fun hh => by rw [hk] at hh; cases hh.1)
      have n37 := h37_no L S O [] 0 b1 b2 b3 (by simp) (crB_f fun hh => by rw [hk] at hh; cases hh.1)
      have n37' : HT 37 [disk L S O, .nils, .i .i64 0] [] crNo true [] := Holds.args n37 rfl fun j x y hx hy => by
        match j, hx, hy with
        | 0, hx, hy => simp at hx hy; subst hx; subst hy; exact .refl _
        | 1, hx, hy => simp at hx hy; subst hx; subst hy; exact nilk
        | 2, hx, hy => simp at hx hy; subst hx; subst hy; exact .refl _
      unfold disk crNo nilA at a37 n37'
      have f0 : (false != false) = false := rfl
      have f1 : ((false == false) != true) = false := rfl
      simp -dsimp only [q3, q4, q5, m3, m20, hc, ol_len, go_sem, ↓reduceIte, Nat.reduceEqDiff, Int.reduceLE, Int.reduceLT, Int.reduceNeg, Int.reduceEq, Nat.reduceMul, Nat.reduceAdd, Nat.reduceLeDiff, reduceCtorEq]
      refine Call_val (own := true) (v := .tup [.agg [.nils, .nils, .nils], .b false]) (by simpa [expL, expA, cur, hup_at, List.idxOf?_cons, List.idxOf?_nil, obM, subF, subO, subFm, subOm, fl_len, ol_len, mkF_len, mkO_len, objs_l, objs_r, objs_p, subI, il_len, m20, hsa] using a37) (by simp [ExpOk, AV.pure, cur, hup_at, List.idxOf?_cons, List.idxOf?_nil, obM, fl_len, ol_len, fl_pure, ol_pure, mkF_len, mkO_len, objs_l, objs_r, objs_p, il_pure, il_len, m20, allI_len]) (.inl rfl) ?_
      simp -dsimp only [q3, q4, q5, m3, m20, go_sem, ↓reduceIte, Nat.reduceEqDiff, Int.reduceLE, Int.reduceLT, Int.reduceNeg, Int.reduceEq, Nat.reduceMul, Nat.reduceAdd, Nat.reduceLeDiff, reduceCtorEq]
      refine Call_val (own := true) (n37') (by simp [ExpOk, AV.pure]) (.inl rfl) ?_
      simp -dsimp only [q3, q4, q5, m3, m20, f0, go_sem, ↓reduceIte, Nat.reduceEqDiff, Int.reduceLE, Int.reduceLT, Int.reduceNeg, Int.reduceEq, Nat.reduceMul, Nat.reduceAdd, Nat.reduceLeDiff, reduceCtorEq]
      refine Call_val (own := true) (d35) (by simp [ExpOk, AV.pure]) (.inl rfl) ?_
      simp -dsimp only [q3, q4, q5, m3, m20, f0, f1, go_sem, ↓reduceIte, Nat.reduceEqDiff, Int.reduceLE, Int.reduceLT, Int.reduceNeg, Int.reduceEq, Nat.reduceMul, Nat.reduceAdd, Nat.reduceLeDiff, reduceCtorEq]
      exact Fin_val (by simp [resV, upd_at, retA]) (by simp [resV, upd_at, ResOk])
    · have hk : diskB L S O = true := hB.symm
      have hd : ∀ o ∈ O, (o.2.2.2.length : Int) ≤ 1099511627776 := fun o ho => by have := b3.2 o ho; omega
      have a37 := h37_yes L S O (allI O.length) 1099511627776 b1 b2 b3 (by rw [hal]; exact hO) (crB_all hk (by omega) hd)
      have n37 := h37_yes L S O [] 0 b1 b2 b3 (by simp) (crB_none hk)
      rw [hal, crN_all hk hd] at a37
      have e0 : crN O [] 0 S ([] : List Int).length = S := rfl
      rw [e0] at n37
      have n37' : HT 37 [disk L S O, .nils, .i .i64 0] [] (crYes S) true [obF S, obF S] := Holds.args n37 rfl fun j x y hx hy => by
        match j, hx, hy with
        | 0, hx, hy => simp at hx hy; subst hx; subst hy; exact .refl _
        | 1, hx, hy => simp at hx hy; subst hx; subst hy; exact nilk
        | 2, hx, hy => simp at hx hy; subst hx; subst hy; exact .refl _
      have d38 := h38 L S O b1 b2 b3 hk
      have l39 := h39 L b1.1
      have s39 := h39 S b2.1
      unfold disk crYes syncA at a37 n37'
      unfold disk syncA at d38
      have f0 : ((true == true) != true) = false := rfl
      simp -dsimp only [q3, q4, q5, m3, m20, hc, ol_len, go_sem, ↓reduceIte, Nat.reduceEqDiff, Int.reduceLE, Int.reduceLT, Int.reduceNeg, Int.reduceEq, Nat.reduceMul, Nat.reduceAdd, Nat.reduceLeDiff, reduceCtorEq]
      refine Call_news (own := true) (b := obF L) (obs' := [obF L]) (v := .tup [.agg [.sl (.p 0) 1 0 L.length none, .sl (.p 1) 1 0 L.length none, .nils], .b true]) (by simpa [expL, expA, cur, hup_at, List.idxOf?_cons, List.idxOf?_nil, obM, subF, subO, subFm, subOm, fl_len, ol_len, mkF_len, mkO_len, objs_l, objs_r, objs_p, subI, il_len, m20, hsa] using a37) (by simp [ExpOk, AV.pure, cur, hup_at, List.idxOf?_cons, List.idxOf?_nil, obM, fl_len, ol_len, fl_pure, ol_pure, mkF_len, mkO_len, objs_l, objs_r, objs_p, il_pure, il_len, m20, allI_len]) (by simp [obF, fl_pure]) (.inl rfl) (by simp [obF]) ?_
      simp -dsimp only [q3, q4, q5, m3, m20, impA, impL, Option.getD_some, Nat.sub_self, Nat.sub_zero, obF, go_sem, ↓reduceIte, Nat.reduceEqDiff, Int.reduceLE, Int.reduceLT, Int.reduceNeg, Int.reduceEq, Nat.reduceMul, Nat.reduceAdd, Nat.reduceLeDiff, reduceCtorEq]
      refine Call_news (own := true) (b := obF S) (obs' := [obF S]) (v := .tup [.agg [.sl (.p 0) 1 0 S.length none, .sl (.p 1) 1 0 S.length none, .nils], .b true]) n37' (by simp [ExpOk, AV.pure]) (by simp [obF, fl_pure]) (.inl rfl) (by simp [obF]) ?_
      simp -dsimp only [q3, q4, q5, m3, m20, impA, impL, Option.getD_some, Nat.sub_self, Nat.sub_zero, obF, f0, go_sem, ↓reduceIte, Nat.reduceEqDiff, Int.reduceLE, Int.reduceLT, Int.reduceNeg, Int.reduceEq, Nat.reduceMul, Nat.reduceAdd, Nat.reduceLeDiff, reduceCtorEq]
      refine Call_val (own := true) (d35) (by simp [ExpOk, AV.pure]) (.inl rfl) ?_
      simp -dsimp only [q3, q4, q5, m3, m20, f0, go_sem, ↓reduceIte, Nat.reduceEqDiff, Int.reduceLE, Int.reduceLT, Int.reduceNeg, Int.reduceEq, Nat.reduceMul, Nat.reduceAdd, Nat.reduceLeDiff, reduceCtorEq]
      refine Call_news (own := true) (b := obF L) (obs' := [obF L]) d38 (by simp [ExpOk, AV.pure]) (by simp [obF, fl_pure]) (.inl rfl) (by simp [obF]) ?_
      simp -dsimp only [q3, q4, q5, m3, m20, impA, impL, Option.getD_some, Nat.sub_self, Nat.sub_zero, obF, go_sem, ↓reduceIte, Nat.reduceEqDiff, Int.reduceLE, Int.reduceLT, Int.reduceNeg, Int.reduceEq, Nat.reduceMul, Nat.reduceAdd, Nat.reduceLeDiff, reduceCtorEq]
      refine Call_val (own := true) (v := .b true) (by simpa [expL, expA, cur, hup_at, List.idxOf?_cons, List.idxOf?_nil, obM, subF, subO, subFm, subOm, fl_len, ol_len, mkF_len, mkO_len, objs_l, objs_r, objs_p, subI, il_len] using l39) (by simp [ExpOk, AV.pure, cur, hup_at, List.idxOf?_cons, List.idxOf?_nil, obM, fl_len, ol_len, fl_pure, ol_pure, mkF_len, mkO_len, objs_l, objs_r, objs_p, il_pure, il_len]) (.inl rfl) ?_
      simp -dsimp only [q3, q4, q5, m3, m20, go_sem, ↓reduceIte, Nat.reduceEqDiff, Int.reduceLE, Int.reduceLT, Int.reduceNeg, Int.reduceEq, Nat.reduceMul, Nat.reduceAdd, Nat.reduceLeDiff, reduceCtorEq]
      refine Call_val (own := true) (v := .b true) (by simpa [expL, expA, cur, hup_at, List.idxOf?_cons, List.idxOf?_nil, obM, subF, subO, subFm, subOm, fl_len, ol_len, mkF_len, mkO_len, objs_l, objs_r, objs_p, subI, il_len] using l39) (by simp [ExpOk, AV.pure, cur, hup_at, List.idxOf?_cons, List.idxOf?_nil, obM, fl_len, ol_len, fl_pure, ol_pure, mkF_len, mkO_len, objs_l, objs_r, objs_p, il_pure, il_len]) (.inl rfl) ?_
      simp -dsimp only [q3, q4, q5, m3, m20, go_sem, ↓reduceIte, Nat.reduceEqDiff, Int.reduceLE, Int.reduceLT, Int.reduceNeg, Int.reduceEq, Nat.reduceMul, Nat.reduceAdd, Nat.reduceLeDiff, reduceCtorEq]
      refine Call_val (own := true) (v := .b true) (by simpa [expL, expA, cur, hup_at, List.idxOf?_cons, List.idxOf?_nil, obM, subF, subO, subFm, subOm, fl_len, ol_len, mkF_len, mkO_len, objs_l, objs_r, objs_p, subI, il_len] using s39) (by simp [ExpOk, AV.pure, cur, hup_at, List.idxOf?_cons, List.idxOf?_nil, obM, fl_len, ol_len, fl_pure, ol_pure, mkF_len, mkO_len, objs_l, objs_r, objs_p, il_pure, il_len]) (.inl rfl) ?_
      have w0 : (IntKind.i64.wrap (0 + 0) == 0) = true := by rw [wr (by omega) (by omega)]; rfl
      have e00 : ((0 : Int) == 0) = true := rfl
      simp -dsimp only [q3, q4, q5, m3, m20, w0, e00, go_sem, ↓reduceIte, Nat.reduceEqDiff, Int.reduceLE, Int.reduceLT, Int.reduceNeg, Int.reduceEq, Nat.reduceMul, Nat.reduceAdd, Nat.reduceLeDiff, reduceCtorEq]
      refine Call_val (own := true) (v := .b true) (by simpa [expL, expA, cur, hup_at, List.idxOf?_cons, List.idxOf?_nil, obM, subF, subO, subFm, subOm, fl_len, ol_len, mkF_len, mkO_len, objs_l, objs_r, objs_p, subI, il_len] using l39) (by simp [ExpOk, AV.pure, cur, hup_at, List.idxOf?_cons, List.idxOf?_nil, obM, fl_len, ol_len, fl_pure, ol_pure, mkF_len, mkO_len, objs_l, objs_r, objs_p, il_pure, il_len]) (.inl rfl) ?_
      simp -dsimp only [q3, q4, q5, m3, m20, w0, e00, go_sem, ↓reduceIte, Nat.reduceEqDiff, Int.reduceLE, Int.reduceLT, Int.reduceNeg, Int.reduceEq, Nat.reduceMul, Nat.reduceAdd, Nat.reduceLeDiff, reduceCtorEq]
      exact Fin_val (by simp [resV, upd_at, retA]) (by simp [resV, upd_at, ResOk])
end FrA

