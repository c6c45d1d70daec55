/- Replace, by the implementation: walked. No condition. -/
import Derived.Test.YtpiegccohgdkdaaAmDkUb
import Derived.Test.YtpiegccohgdkdaaAmDk9
import Derived.Test.YtpiegccohgdkdaaAmDk8
set_option linter.all false
set_option linter.unusedSimpArgs false
set_option linter.unusedVariables false
set_option linter.deprecated false
/-! DkRe -/
open Go Go.AM
namespace Go.AM
theorem hcall_un {h : Heap} {t0 : Nat} {b : Ob} (ho : h (.l t0) = some b) (b' n : Ob) (t c : Nat) : hcall h [.l t0] [b', n] t c = hup (hup h (.l t0) { b' with ver := b.ver, fixed := b.fixed }) (.r t 0) { n with ver := c } := by
  funext u
  unfold hcall
  cases u with
  | r t' j =>
    rw [tgt_r_eq, hup_at, hup_at]
    by_cases e : t' = t ∧ j = 0
    · obtain ⟨rfl, rfl⟩ := e
      simp
    · rw [if_neg (by simp; omega), if_neg (by intro h; cases h; exact e ⟨rfl, rfl⟩)]
      simp [List.idxOf?_cons]
  | p k => simp [tgt, hup_at, List.idxOf?_cons]
  | l k =>
    by_cases e : k = t0
    · subst e; simp [tgt, hup_at, List.idxOf?_cons, ho]
    · have e' : ¬ t0 = k := fun h => e h.symm
      simp [tgt, hup_at, List.idxOf?_cons, e, e']
section
variable {C : Con} {s : Stk} {g : Slots} {h : Heap} {c : Nat} {r m : List KOp} {d : Option Nat}
/-- A call that is handed an object, leaves it as it is, and gives back a new one. -/
theorem Call_un {f : Nat} {capt args : List AV} {v : AV} (t0 : Nat) (b b' n : Ob) (ho : h (.l t0) = some b) (hc : C.det f (expL h [.l t0] (args ++ capt)) [{ b with ver := 0, fixed := true }] v true [b', n])
    (he : ∀ a ∈ args ++ capt, ExpOk h [.l t0] a) (hp : Pure b.es) (hp' : Pure b'.es) (hn : Pure n.es) (hw : b'.own ∨ Flat b'.es) (hw' : n.own ∨ Flat n.es)
    (hq : RunD C r m s (updO g d (impA (d.getD 0) 1 c v)) (hup (hup h (.l t0) { b' with ver := b.ver, fixed := b.fixed }) (.r (d.getD 0) 0) { n with ver := c }) (c + 1)) : CallK C (.fn f capt) args d r m s g h c := by
  refine Call_obs [.l t0] [{ b with ver := 0, fixed := true }] v true [b', n] hc (by simp [ho]) (by simp) (by simp) he (fun x hx => by simp at hx; subst hx; exact hp) (fun x hx => ?_) (.inl rfl) (fun _ x hx => ?_) ?_
  · simp at hx; rcases hx with rfl | rfl <;> assumption
  · simp at hx; rcases hx with rfl | rfl <;> assumption
  · rw [hcall_un ho]; exact hq
end
end Go.AM
namespace FrA
open Go.Proofs
set_option maxRecDepth 100000
set_option linter.unusedSimpArgs false
def rpN (name : List UInt8) : List UInt8 := name ++ [46, 110, 101, 119]
noncomputable def rpO (live : List File) (name text : List UInt8) : List Dop :=
  (if has (rpN name) live = true then [(3, rpN name, [], [])] else []) ++ [(1, rpN name, [], text), (2, rpN name, name, [])]
abbrev RpS := List File × List Dop × Int
noncomputable def rp1 (s : RpS) (op : Dop) : RpS := if s.2.2 = 0 then (doL s.1 s.2.1 op, doO s.1 s.2.1 op, doC s.1 s.2.1 op) else s
noncomputable def rpS (live : List File) (ops : List Dop) (l : List Dop) : RpS := l.foldl rp1 (live, ops, 0)
noncomputable def rpF (live : List File) (ops : List Dop) (name text : List UInt8) : RpS :=
  let s := rpS live ops (rpO live name text)
  if s.2.2 = 0 then s else (live, ops, s.2.2)
theorem rp1_ok {s : RpS} {op : Dop} (h : okP s.1 ∧ s.2.1.length ≤ 200) : okP (rp1 s op).1 ∧ (rp1 s op).2.1.length ≤ 200 := by
  unfold rp1
  split
  · exact ⟨doL_ok h.1, doO_le h.2⟩
  · exact h
theorem rps_ok {l : List Dop} : ∀ {s : RpS}, okP s.1 ∧ s.2.1.length ≤ 200 → okP (l.foldl rp1 s).1 ∧ (l.foldl rp1 s).2.1.length ≤ 200 := by
  induction l with
  | nil => intro s h; exact h
  | cons x r ih => intro s h; exact ih (rp1_ok h)
theorem rps_stop {l : List Dop} : ∀ {s : RpS}, s.2.2 ≠ 0 → l.foldl rp1 s = s := by
  induction l with
  | nil => intro s h; rfl
  | cons x r ih =>
    intro s h
    have : rp1 s x = s := by unfold rp1; rw [if_neg h]
    rw [List.foldl_cons, this]; exact ih h
theorem rpS_take (live : List File) (ops l : List Dop) (i : Nat) (h : i < l.length) : rpS live ops (l.take (i + 1)) = rp1 (rpS live ops (l.take i)) (l.getD i dop0) := by
  unfold rpS
  rw [List.getD_eq_getElem?_getD, List.getElem?_eq_getElem h, Option.getD_some, List.take_succ_eq_append_getElem h, List.foldl_append]
  rfl
theorem rpS_stop (live : List File) (ops l : List Dop) (i : Nat) (h : (rpS live ops (l.take i)).2.2 ≠ 0) : rpS live ops l = rpS live ops (l.take i) := by
  conv => lhs; rw [← List.take_append_drop i l]
  unfold rpS at h ⊢
  rw [List.foldl_append, rps_stop h]
theorem rpO_d (live : List File) (name text : List UInt8) (ht : text.length ≤ 1000000000) : ∀ o ∈ rpO live name text, o.2.2.2.length ≤ 1000000000 := by
  intro o ho
  unfold rpO at ho
  split at ho <;> simp at ho <;> rcases ho with rfl | rfl | rfl <;> simp <;> omega
theorem h102 (a b x : Dop) (q : Prop) : HT 102 [.sl (.p 0) 0 0 2 (some 2), i64 0, .dat 4 (ol [x])] [obM 4 (ol [a, b]) q] (.sl (.p 1) 1 0 3 none) true [obM 4 (ol [a, b]) q, obO [x, a, b]] := by
  refine holds_of (c := Try.f102.body.getD .skip) (k := k102.1) (ts := [6]) HOk mixedT hintT Try.func102 (by kernel_rfl) (by kernel_rfl) (by kernel_rfl) k102.2 (by kernel_rfl) (le_of 3 _ (by kernel_rfl)) ?_
  have g1 := ol_good [x]
  have g2 := ol_good [a, b]
  have f1 := ol_flat [x]
  have f2 := ol_flat [a, b]
  unfold obM
  simp -dsimp only [k102, go_sem, ↓reduceIte, Nat.reduceEqDiff, Int.reduceLE, Int.reduceLT, Int.reduceNeg, Int.reduceEq, Nat.reduceMul, Nat.reduceAdd, Nat.reduceLeDiff, reduceCtorEq]
  refine VK_p (.inl (by omega)) ?_
  simp -dsimp only [Nat.sub_zero, ol_len, go_sem, ↓reduceIte, Nat.reduceEqDiff, Int.reduceLE, Int.reduceLT, Int.reduceNeg, Int.reduceEq, Nat.reduceMul, Nat.reduceAdd, Nat.reduceLeDiff, reduceCtorEq]
  have m1 : min 1 3 = 1 := rfl
  have m2 : min 2 2 = 2 := rfl
  have n1 : ((1 : Nat) : Int) = 1 := rfl
  have n2 : ((2 : Nat) : Int) = 2 := rfl
  have n3 : ((3 : Nat) : Int) = 3 := rfl
  have w1 : IntKind.i64.wrap (0 + 1) = 1 := by rw [wr (by omega) (by omega)]; rfl
  have b1 : ((1 : Int) == 0) = false := rfl
  have b2 : ((0 : Int) == 2) = false := rfl
  have b3 : (3 : Int) > 2 := by decide
  have b4 : (2 : Int) + 1 = 3 := rfl
  have w3 : IntKind.i64.wrap 3 = 3 := by rw [wr (by omega) (by omega)]
  simp -dsimp only [n1, n2, n3, b1, b2, b3, b4, w3, w1, m1, m2, Nat.sub_zero, ol_len, or_true, if_true, true_or, Int.reduceLE, Int.reduceSub, Int.reduceToNat, go_sem, ↓reduceIte, Nat.reduceEqDiff, Int.reduceLE, Int.reduceLT, Int.reduceNeg, Int.reduceEq, Nat.reduceMul, Nat.reduceAdd, Nat.reduceLeDiff, reduceCtorEq]
  refine EK_p ⟨by decide, by unfold bigOk; decide, by simp [AM.Good], by simp [AM.Flat], by simp [AM.NoDat, AV.isDat]⟩ ?_
  simp -dsimp only [n1, n2, n3, b1, b2, b3, b4, w3, w1, m1, m2, Nat.sub_zero, ol_len, or_true, if_true, true_or, Int.reduceLE, Int.reduceSub, Int.reduceToNat, go_sem, ↓reduceIte, Nat.reduceEqDiff, Int.reduceLE, Int.reduceLT, Int.reduceNeg, Int.reduceEq, Nat.reduceMul, Nat.reduceAdd, Nat.reduceLeDiff, reduceCtorEq]
  refine CpyK_p g1 ?_
  simp -dsimp only [n1, n2, n3, b1, b2, b3, b4, w3, w1, m1, m2, Nat.sub_zero, ol_len, or_true, if_true, true_or, Int.reduceLE, Int.reduceSub, Int.reduceToNat, go_sem, ↓reduceIte, Nat.reduceEqDiff, Int.reduceLE, Int.reduceLT, Int.reduceNeg, Int.reduceEq, Nat.reduceMul, Nat.reduceAdd, Nat.reduceLeDiff, reduceCtorEq]
  have e3 : List.take 1 (ol [x] ++ [[AV.i IntKind.i64 0, AV.s [], AV.s [], AV.s []], [AV.i IntKind.i64 0, AV.s [], AV.s [], AV.s []]]) ++ ol [a, b] ++ List.drop 3 (ol [x] ++ [[AV.i IntKind.i64 0, AV.s [], AV.s [], AV.s []], [AV.i IntKind.i64 0, AV.s [], AV.s [], AV.s []]]) = ol [x, a, b] := rfl
  rw [e3]
  refine CpyK_p ⟨fun _ => f2, g2⟩ ?_
  simp -dsimp only [go_sem, ↓reduceIte, Nat.reduceEqDiff, Int.reduceLE, Int.reduceLT, Int.reduceNeg, Int.reduceEq, Nat.reduceMul, Nat.reduceAdd, Nat.reduceLeDiff, reduceCtorEq]
  refine Fin_one (obs := [obM 4 (ol [a, b]) q]) (.l 40) { ver := 1, es := ol [x, a, b], esz := 4, own := Flat (ol [x]) ∧ Flat (ol [a, b]) } (obO [x, a, b]) rfl (by simp only [hup_at, newObs, ↓reduceIte, Nat.reduceEqDiff, reduceCtorEq, Rid.r.injEq, Rid.l.injEq, Nat.reduceAdd, Nat.zero_add, and_self, and_true, and_false, false_and, true_and] <;> rfl) (by simp [obO]) (.inr (ol_flat _)) (ol_pure _) ?_ ?_ ?_
  · intro k y hk
    cases k with
    | zero => simp at hk; subst hk; exact ⟨ol_pure _, by simp [hup_at, objs_p, obM], rfl⟩
    | succ k => simp at hk
  · simp [resV, upd_at, retA, cur, hup_at, List.idxOf?_cons]
  · simp [resV, upd_at, ResOk, cur, hup_at]
noncomputable def rpA (live safe : List File) (ops : List Dop) (name text : List UInt8) : AV := .tup [copyA (rpF live ops name text).1 safe (rpF live ops name text).2.1, i64 (rpF live ops name text).2.2]
noncomputable def rpOb (live safe : List File) (ops : List Dop) (name text : List UInt8) : List Ob := [obF (rpF live ops name text).1, obF safe, obO (rpF live ops name text).2.1]
theorem h49_no (live safe : List File) (ops : List Dop) (name text : List UInt8) (hl : BdF live) (hsf : BdF safe) (ho : BdO ops) (hd : diskB live safe ops = false) : HT 49 [disk live safe ops, .s name, .s text] [] (.tup [nilA, i64 1]) true [] := by
  refine holdsc_of (c := Try.f49.body.getD .skip) (k := k49.1) (cs := [(6, some (true, 3)), (7, none)]) HOk mixedT hintT Try.func49 (by kernel_rfl) (by kernel_rfl) (by kernel_rfl) k49.2 (by kernel_rfl) (le_of 3 _ (by kernel_rfl)) ?_
  have d35 := h35 live safe ops hl hsf ho
  rw [hd] at d35
  unfold disk at d35 ⊢
  simp -dsimp only [k49, go_sem, ↓reduceIte, Nat.reduceEqDiff, Int.reduceLE, Int.reduceLT, Int.reduceNeg, Int.reduceEq, Nat.reduceMul, Nat.reduceAdd, Nat.reduceLeDiff, reduceCtorEq]
  refine Call_val (own := true) (d35) (by simp [ExpOk, AV.pure]) (.inl rfl) ?_
  simp -dsimp only [go_sem, ↓reduceIte, Nat.reduceEqDiff, Int.reduceLE, Int.reduceLT, Int.reduceNeg, Int.reduceEq, Nat.reduceMul, Nat.reduceAdd, Nat.reduceLeDiff, reduceCtorEq]
  refine finC_val (p := True) (l := [nilA, i64 1]) (by simp [resM, resE, upd_at, loadF, cur, hup_at, nilA, yes]) trivial ?_ ?_
  · simp [resOne, retA, retL, nilA]
  · simp [resOne, ResOk, ResL, nilA]
theorem h49 (live safe : List File) (ops : List Dop) (name text : List UInt8) (hl : BdF live) (hsf : BdF safe) (ho : BdO ops) (hn : name.length ≤ 1000000000) (ht : text.length ≤ 1000000000) (hd : diskB live safe ops = true) : HT 49 [disk live safe ops, .s name, .s text] [] (rpA live safe ops name text) true (rpOb live safe ops name text) := by
  refine holdsc_of (c := Try.f49.body.getD .skip) (k := k49.1) (cs := [(6, some (true, 3)), (7, none)]) HOk mixedT hintT Try.func49 (by kernel_rfl) (by kernel_rfl) (by kernel_rfl) k49.2 (by kernel_rfl) (le_of 3 _ (by kernel_rfl)) ?_
  have d35 := h35 live safe ops hl hsf ho
  obtain ⟨q1, q2, q3⟩ := diskB_ok hd
  have d96 := h96 live safe ops (rpN name) (ok_srt q1) hl.1
  have d103 := h103 live safe ops hl.1 hsf.1 (by omega)
  rw [hd] at d35
  unfold disk at d35 d96 d103 ⊢
  have eN : name ++ [46, 110, 101, 119] = rpN name := rfl
  simp -dsimp only [k49, go_sem, ↓reduceIte, Nat.reduceEqDiff, Int.reduceLE, Int.reduceLT, Int.reduceNeg, Int.reduceEq, Nat.reduceMul, Nat.reduceAdd, Nat.reduceLeDiff, reduceCtorEq]
  refine Call_val (own := true) (d35) (by simp [ExpOk, AV.pure]) (.inl rfl) ?_
  simp -dsimp only [eN, go_sem, ↓reduceIte, Nat.reduceEqDiff, Int.reduceLE, Int.reduceLT, Int.reduceNeg, Int.reduceEq, Nat.reduceMul, Nat.reduceAdd, Nat.reduceLeDiff, reduceCtorEq]
  refine VK_p (by omega) ?_
  simp -dsimp only [go_sem, ↓reduceIte, Nat.reduceEqDiff, Int.reduceLE, Int.reduceLT, Int.reduceNeg, Int.reduceEq, Nat.reduceMul, Nat.reduceAdd, Nat.reduceLeDiff, reduceCtorEq]
  refine Call_val (own := true) (d96) (by simp [ExpOk, AV.pure]) (.inl rfl) ?_
  simp -dsimp only [go_sem, ↓reduceIte, Nat.reduceEqDiff, Int.reduceLE, Int.reduceLT, Int.reduceNeg, Int.reduceEq, Nat.reduceMul, Nat.reduceAdd, Nat.reduceLeDiff, reduceCtorEq]
  obtain ⟨rops, hro⟩ : ∃ l, l = rpO live name text := ⟨_, rfl⟩
  cases hh : has (rpN name) live
  case' false =>
    have er : rops = [(1, rpN name, [], text), (2, rpN name, name, [])] := by rw [hro]; unfold rpO; rw [hh]; rfl
    have en : ((2 : Nat) : Int) = ((rops.length : Nat) : Int) := by rw [er]; rfl
    obtain ⟨o, eo⟩ : ∃ o : Rid, o = .l 29 := ⟨_, rfl⟩
    obtain ⟨ov, eov⟩ : ∃ o : Nat, o = 3 := ⟨_, rfl⟩
    obtain ⟨u0, eu0⟩ : ∃ o : Nat, o = 4 := ⟨_, rfl⟩
    obtain ⟨v12, ev12⟩ : ∃ o : Nat, o = 5 := ⟨_, rfl⟩
    obtain ⟨cap, ecap⟩ : ∃ o : Option Nat, o = some 2 := ⟨_, rfl⟩
    simp -dsimp only [go_sem, ↓reduceIte, Nat.reduceEqDiff, Int.reduceLE, Int.reduceLT, Int.reduceNeg, Int.reduceEq, Nat.reduceMul, Nat.reduceAdd, Nat.reduceLeDiff, reduceCtorEq]
  case' true =>
    have er : rops = [(3, rpN name, [], []), (1, rpN name, [], text), (2, rpN name, name, [])] := by rw [hro]; unfold rpO; rw [hh]; rfl
    have en : ((3 : Nat) : Int) = ((rops.length : Nat) : Int) := by rw [er]; rfl
    simp -dsimp only [go_sem, ↓reduceIte, Nat.reduceEqDiff, Int.reduceLE, Int.reduceLT, Int.reduceNeg, Int.reduceEq, Nat.reduceMul, Nat.reduceAdd, Nat.reduceLeDiff, reduceCtorEq]
    obtain ⟨o, eo⟩ : ∃ o : Rid, o = .r 41 0 := ⟨_, rfl⟩
    obtain ⟨ov, eov⟩ : ∃ o : Nat, o = 5 := ⟨_, rfl⟩
    obtain ⟨u0, eu0⟩ : ∃ o : Nat, o = 6 := ⟨_, rfl⟩
    obtain ⟨v12, ev12⟩ : ∃ o : Nat, o = 7 := ⟨_, rfl⟩
    obtain ⟨cap, ecap⟩ : ∃ o : Option Nat, o = none := ⟨_, rfl⟩
    obtain ⟨qn, hqn⟩ : ∃ q, q = NoDat [.i .i64 1, .s (rpN name), .s [], .s text, .i .i64 2, .s (rpN name), .s name, .s []] := ⟨_, rfl⟩
    have hc := h102 (1, rpN name, [], text) (2, rpN name, name, []) (3, rpN name, [], []) qn
    simp only [ol, opC, List.map_cons, List.map_nil, obM, obO] at hc
    refine Call_un (v := .sl (.p 1) 1 0 3 none) 29 { ver := 3, es := ol [(1, rpN name, [], text), (2, rpN name, name, [])], esz := 4, own := qn } (obM 4 (ol [(1, rpN name, [], text), (2, rpN name, name, [])]) qn) (obO [(3, rpN name, [], []), (1, rpN name, [], text), (2, rpN name, name, [])]) ?_ ?_ ?_ (ol_pure [(1, rpN name, [], text), (2, rpN name, name, [])]) (ol_pure _) (ol_pure _) (.inr (ol_flat _)) (.inl trivial) ?_
    · rw [hqn]; simp [hup_at]; rfl
    · simpa [expL, expA, cur, hup_at, List.idxOf?_cons, ol, opC, obM, obO, sub] using hc
    · simp [ExpOk, cur, hup_at, List.idxOf?_cons, AM.Pure, AV.pure]
    simp -dsimp only [obM, obO, Option.getD_some, impA, go_sem, ↓reduceIte, Nat.reduceEqDiff, Int.reduceLE, Int.reduceLT, Int.reduceNeg, Int.reduceEq, Nat.reduceMul, Nat.reduceAdd, Nat.reduceLeDiff, reduceCtorEq]
  all_goals
    refine Call_news (own := true) d103 (by simp [ExpOk, AV.pure]) (by simp [obF, fl_pure, obO, ol_pure]) (.inl rfl) (by simp [obF, obO]) ?_
    simp -dsimp only [copyA, impA, impL, Option.getD_some, Nat.sub_self, Nat.sub_zero, obF, obO, en, go_sem, ↓reduceIte, Nat.reduceEqDiff, Int.reduceLE, Int.reduceLT, Int.reduceNeg, Int.reduceEq, Nat.reduceMul, Nat.reduceAdd, Nat.reduceLeDiff, reduceCtorEq]
    have hod := rpO_d live name text ht
    rw [← hro] at hod
    have o12 : (o = Rid.l 12) = False := by rw [eo]; simp
    have o14 : (o = Rid.l 14) = False := by rw [eo]; simp
    have o15 : (o = Rid.l 15) = False := by rw [eo]; simp
    have o53 : ∀ k, (o = Rid.r 53 k) = False := by rw [eo]; simp
    refine K_for rops.length (fun i g h c => ∃ (s : RpS) (t u : Nat), s = rpS live ops (rops.take i) ∧ s.2.2 = 0 ∧ g 3 = .ptr (.l 3) 1 0 0 ∧ g 6 = .ptr (.l 6) 2 0 0 ∧ g 12 = .ptr (.l 12) v12 0 0 ∧ g 44 = .sl o ov 0 rops.length cap ∧ g 45 = i64 rops.length ∧ g 46 = i64 i ∧
      h (.l 3) = some { ver := 1, es := [[.dat 2 (fl live), .dat 2 (fl safe), .dat 4 (ol ops)]], esz := 3, own := False, fixed := true } ∧ h (.l 6) = some { ver := 2, es := [[.nils, .nils, .nils]], esz := 3, own := False, fixed := true } ∧
      h (.l 12) = some { ver := v12, es := [[.sl (.r t 0) u 0 s.1.length none, .sl (.r t 1) u 0 safe.length none, .sl (.r t 2) u 0 s.2.1.length none]], esz := 3, own := False, fixed := true } ∧
      (∃ q, h o = some { ver := ov, es := ol rops, esz := 4, own := q }) ∧ (t = 43 ∨ t = 53) ∧
      h (.r t 0) = some { ver := u, es := fl s.1, esz := 2, own := True } ∧ h (.r t 1) = some { ver := u, es := fl safe, esz := 2, own := True } ∧ h (.r t 2) = some { ver := u, es := ol s.2.1, esz := 4, own := True }) ?_ ?_ ?_
    · subst eov eu0 ev12 ecap eo
      refine ⟨_, 43, _, rfl, rfl, by simp [upd_at], by simp [upd_at], by simp [upd_at], (by simp [upd_at, er]), (by simp [upd_at]), by simp [upd_at], (by simp only [hup_at, newObs, ↓reduceIte, Nat.reduceEqDiff, reduceCtorEq, Rid.r.injEq, Rid.l.injEq, Nat.reduceAdd, Nat.zero_add, and_self, and_true, and_false, false_and, true_and] <;> rfl), (by simp only [hup_at, newObs, ↓reduceIte, Nat.reduceEqDiff, reduceCtorEq, Rid.r.injEq, Rid.l.injEq, Nat.reduceAdd, Nat.zero_add, and_self, and_true, and_false, false_and, true_and] <;> rfl), (by simp only [hup_at, newObs, ↓reduceIte, Nat.reduceEqDiff, reduceCtorEq, Rid.r.injEq, Rid.l.injEq, Nat.reduceAdd, Nat.zero_add, and_self, and_true, and_false, false_and, true_and] <;> rfl), ⟨_, (by rw [er]; exact (by simp only [hup_at, newObs, ↓reduceIte, Nat.reduceEqDiff, reduceCtorEq, Rid.r.injEq, Rid.l.injEq, Nat.reduceAdd, Nat.zero_add, and_self, and_true, and_false, false_and, true_and] <;> rfl))⟩, .inl rfl, (by simp only [hup_at, newObs, ↓reduceIte, Nat.reduceEqDiff, reduceCtorEq, Rid.r.injEq, Rid.l.injEq, Nat.reduceAdd, Nat.zero_add, and_self, and_true, and_false, false_and, true_and] <;> rfl), (by simp only [hup_at, newObs, ↓reduceIte, Nat.reduceEqDiff, reduceCtorEq, Rid.r.injEq, Rid.l.injEq, Nat.reduceAdd, Nat.zero_add, and_self, and_true, and_false, false_and, true_and] <;> rfl), (by simp only [hup_at, newObs, ↓reduceIte, Nat.reduceEqDiff, reduceCtorEq, Rid.r.injEq, Rid.l.injEq, Nat.reduceAdd, Nat.zero_add, and_self, and_true, and_false, false_and, true_and] <;> rfl)⟩
    · rintro i A hi hA g h c ⟨s, t, u, hs, hs0, g3, g6, g12, g44, g45, g46, m3, m6, m12, ⟨q, mo⟩, ht', r0, r1, r2⟩
      have hc : (i : Int) < (rops.length : Int) := by omega
      have w1 : IntKind.i64.wrap ((i : Int) + 1) = ((i + 1 : Nat) : Int) := by rw [wr (by omega) (by rw [er] at hi; simp at hi; omega)]; rfl
      obtain ⟨op, hop⟩ : ∃ op, op = rops.getD i dop0 := ⟨_, rfl⟩
      have go := ol_get hi
      rw [← hop] at go
      have ec : opC op = [.i .i64 op.1, .s op.2.1, .s op.2.2.1, .s op.2.2.2] := rfl
      rw [ec] at go
      have hst := rpS_take live ops rops i hi
      rw [← hs, ← hop] at hst
      obtain ⟨k1, k2⟩ : okP s.1 ∧ s.2.1.length ≤ 200 := by rw [hs]; exact rps_ok ⟨q1, q3⟩
      have d99 := h99 s.1 safe s.2.1 op k1 hsf.1 k2 (by rw [hop]; exact hod _ (getO_mem hi))
      have pp := doOb_p s.1 safe s.2.1 op
      unfold doOb at d99 pp
      unfold disk at d99
      rw [ec] at d99
      simp -dsimp only [g3, g6, g12, g44, g45, g46, m3, m6, m12, mo, r0, r1, r2, o12, o14, o15, o53, hc, go, ol_len, go_sem, ↓reduceIte, Nat.reduceEqDiff, Int.reduceLE, Int.reduceLT, Int.reduceNeg, Int.reduceEq, Nat.reduceMul, Nat.reduceAdd, Nat.reduceLeDiff, reduceCtorEq]
      refine VK_p (fun _ => by have := ol_flat [op]; exact this) ?_
      simp -dsimp only [g3, g6, g12, g44, g45, g46, m3, m6, m12, mo, r0, r1, r2, o12, o14, o15, o53, hc, go, ol_len, go_sem, ↓reduceIte, Nat.reduceEqDiff, Int.reduceLE, Int.reduceLT, Int.reduceNeg, Int.reduceEq, Nat.reduceMul, Nat.reduceAdd, Nat.reduceLeDiff, reduceCtorEq]
      refine Call_news (own := true) (by simpa [expL, expA, cur, hup_at, List.idxOf?_cons, List.idxOf?_nil, subF, subO, r0, r1, r2] using d99) (by simp [ExpOk, AV.pure, cur, hup_at, List.idxOf?_nil, r0, r1, r2, fl_len, ol_len, fl_pure, ol_pure]) pp (.inl rfl) (by simp [obF, obO]) ?_
      simp -dsimp only [g3, g6, g12, g44, g45, g46, m3, m6, m12, mo, o12, o14, o15, o53, doR, copyA, impA, impL, Option.getD_some, Nat.sub_self, Nat.sub_zero, obF, obO, go_sem, ↓reduceIte, Nat.reduceEqDiff, Int.reduceLE, Int.reduceLT, Int.reduceNeg, Int.reduceEq, Nat.reduceMul, Nat.reduceAdd, Nat.reduceLeDiff, reduceCtorEq]
      by_cases e0 : doC s.1 s.2.1 op = 0
      · have f0 : (doC s.1 s.2.1 op != 0) = false := by simp [e0]
        have hst' : rpS live ops (rops.take (i + 1)) = (doL s.1 s.2.1 op, doO s.1 s.2.1 op, doC s.1 s.2.1 op) := by rw [hst]; unfold rp1; rw [if_pos hs0]
        simp -dsimp only [g3, g6, g12, g44, g45, g46, m3, m6, m12, mo, o12, o14, o15, o53, f0, w1, newObs, objs_r, objs_l, go_sem, ↓reduceIte, Nat.reduceEqDiff, Int.reduceLE, Int.reduceLT, Int.reduceNeg, Int.reduceEq, Nat.reduceMul, Nat.reduceAdd, Nat.reduceLeDiff, reduceCtorEq]
        exact hA _ _ _ ⟨_, 53, c + 1, hst'.symm, e0, by simp [upd_at, g3], by simp [upd_at, g6], by simp [upd_at, g12], (by simp [upd_at, g44]), (by simp [upd_at, g45]), by simp [upd_at], by simp [hup_at, m3], by simp [hup_at, m6], by simp [hup_at], ⟨_, (by simp [hup_at, o12, o14, o15, o53, mo]; rfl)⟩, .inr rfl, (by simp only [hup_at, newObs, ↓reduceIte, Nat.reduceEqDiff, reduceCtorEq, Rid.r.injEq, Rid.l.injEq, Nat.reduceAdd, Nat.zero_add, and_self, and_true, and_false, false_and, true_and] <;> rfl), (by simp only [hup_at, newObs, ↓reduceIte, Nat.reduceEqDiff, reduceCtorEq, Rid.r.injEq, Rid.l.injEq, Nat.reduceAdd, Nat.zero_add, and_self, and_true, and_false, false_and, true_and] <;> rfl), (by simp only [hup_at, newObs, ↓reduceIte, Nat.reduceEqDiff, reduceCtorEq, Rid.r.injEq, Rid.l.injEq, Nat.reduceAdd, Nat.zero_add, and_self, and_true, and_false, false_and, true_and] <;> rfl)⟩
      · have f0 : (doC s.1 s.2.1 op != 0) = true := by simp [e0]
        have hst' : rpS live ops (rops.take (i + 1)) = (doL s.1 s.2.1 op, doO s.1 s.2.1 op, doC s.1 s.2.1 op) := by rw [hst]; unfold rp1; rw [if_pos hs0]
        have hfl : rpF live ops name text = (live, ops, doC s.1 s.2.1 op) := by
          unfold rpF
          rw [← hro, rpS_stop live ops rops (i + 1) (by rw [hst']; exact e0), hst']
          simp only [e0, if_false]
        unfold rpA rpOb
        rw [hfl]
        simp -dsimp only [g3, g6, g12, g44, g45, g46, m3, m6, m12, mo, o12, o14, o15, o53, f0, go_sem, ↓reduceIte, Nat.reduceEqDiff, Int.reduceLE, Int.reduceLT, Int.reduceNeg, Int.reduceEq, Nat.reduceMul, Nat.reduceAdd, Nat.reduceLeDiff, reduceCtorEq]
        refine Call_news (own := true) d103 (by simp [ExpOk, AV.pure]) (by simp [obF, fl_pure, obO, ol_pure]) (.inl rfl) (by simp [obF, obO]) ?_
        simp -dsimp only [g3, g6, g12, g44, g45, g46, m3, m6, m12, mo, o12, o14, o15, o53, copyA, impA, impL, Option.getD_some, Nat.sub_self, Nat.sub_zero, obF, obO, go_sem, ↓reduceIte, Nat.reduceEqDiff, Int.reduceLE, Int.reduceLT, Int.reduceNeg, Int.reduceEq, Nat.reduceMul, Nat.reduceAdd, Nat.reduceLeDiff, reduceCtorEq]
        refine finC_outs [.r 59 0, .r 59 1, .r 59 2] (p := True) (l := [.agg [.sl (.r 59 0) (c + 1 + 1 + 1) 0 live.length none, .sl (.r 59 1) (c + 1 + 1 + 1) 0 safe.length none, .sl (.r 59 2) (c + 1 + 1 + 1) 0 ops.length none], i64 (doC s.1 s.2.1 op)]) ?_ trivial (by simp) (by simp [Rid.isP]) ?_ ?_ ?_
        · simp [resM, resE, upd_at, loadF, cur, hup_at, yes, g6, m6]
        · exact .flat (by simp only [hup_at, newObs, ↓reduceIte, Nat.reduceEqDiff, reduceCtorEq, Rid.r.injEq, Rid.l.injEq, Nat.reduceAdd, Nat.zero_add, and_self, and_true, and_false, false_and, true_and] <;> rfl) (fl_flat _) (fl_pure _) (.flat (by simp only [hup_at, newObs, ↓reduceIte, Nat.reduceEqDiff, reduceCtorEq, Rid.r.injEq, Rid.l.injEq, Nat.reduceAdd, Nat.zero_add, and_self, and_true, and_false, false_and, true_and] <;> rfl) (fl_flat _) (fl_pure _) (.flat (by simp only [hup_at, newObs, ↓reduceIte, Nat.reduceEqDiff, reduceCtorEq, Rid.r.injEq, Rid.l.injEq, Nat.reduceAdd, Nat.zero_add, and_self, and_true, and_false, false_and, true_and] <;> rfl) (ol_flat _) (ol_pure _) trivial))
        · simp [resOne, retA, retL, cur, hup_at, List.idxOf?_cons]
        · simp [resOne, ResOk, ResL, cur, hup_at]
    · rintro A g h c ⟨s, t, u, hs, hs0, g3, g6, g12, g44, g45, g46, m3, m6, m12, ⟨q, mo⟩, ht', r0, r1, r2⟩
      have hc : ¬ (rops.length : Int) < (rops.length : Int) := by omega
      rw [List.take_length] at hs
      have hfl : rpF live ops name text = s := by
        unfold rpF
        rw [← hro, ← hs]
        simp only [hs0, if_true]
      unfold rpA rpOb
      rw [hfl, hs0]
      simp -dsimp only [g3, g6, g12, g44, g45, g46, m3, m6, m12, hc, go_sem, ↓reduceIte, Nat.reduceEqDiff, Int.reduceLE, Int.reduceLT, Int.reduceNeg, Int.reduceEq, Nat.reduceMul, Nat.reduceAdd, Nat.reduceLeDiff, reduceCtorEq]
      refine finC_outs [.r t 0, .r t 1, .r t 2] (p := True) (l := [.agg [.sl (.r t 0) u 0 s.1.length none, .sl (.r t 1) u 0 safe.length none, .sl (.r t 2) u 0 s.2.1.length none], i64 0]) ?_ trivial (by simp) (by simp [Rid.isP]) ?_ ?_ ?_
      · simp [resM, resE, upd_at, loadF, cur, hup_at, yes, g6, m6]
      · exact .flat (by simp [hup_at]; exact r0) (fl_flat _) (fl_pure _) (.flat (by simp [hup_at]; exact r1) (fl_flat _) (fl_pure _) (.flat (by simp [hup_at]; exact r2) (ol_flat _) (ol_pure _) trivial))
      · simp [resOne, retA, retL, cur, hup_at, List.idxOf?_cons, r0, r1, r2, copyA]
      · simp [resOne, ResOk, ResL, cur, hup_at, r0, r1, r2]
end FrA

/-! DkRf -/
open Go Go.AM
namespace FrA
open Go.Proofs
set_option maxRecDepth 100000
set_option linter.unusedSimpArgs false
noncomputable def rpV (live safe : List File) (ops : List Dop) (name text : List UInt8) : AV := .tup [disk (rpF live ops name text).1 safe (rpF live ops name text).2.1, i64 (rpF live ops name text).2.2]
theorem h50_no (live safe : List File) (ops : List Dop) (name text : List UInt8) (hl : BdF live) (hsf : BdF safe) (ho : BdO ops) (hd : diskB live safe ops = false) : HT 50 [disk live safe ops, .s name, .s text] [] (.tup [nilA, i64 1]) true [] := by
  refine holdsc_of (c := Try.f50.body.getD .skip) (k := k50.1) (cs := [(6, some (true, 3)), (7, none)]) HOk mixedT hintT Try.func50 (by kernel_rfl) (by kernel_rfl) (by kernel_rfl) k50.2 (by kernel_rfl) (le_of 3 _ (by kernel_rfl)) ?_
  have d36 := h36 live safe ops hl hsf ho
  rw [hd] at d36
  unfold disk at d36 ⊢
  simp -dsimp only [k50, go_sem, ↓reduceIte, Nat.reduceEqDiff, Int.reduceLE, Int.reduceLT, Int.reduceNeg, Int.reduceEq, Nat.reduceMul, Nat.reduceAdd, Nat.reduceLeDiff, reduceCtorEq]
  refine Call_val (own := true) (d36) (by simp [ExpOk, AV.pure]) (.inl rfl) ?_
  simp -dsimp only [go_sem, ↓reduceIte, Nat.reduceEqDiff, Int.reduceLE, Int.reduceLT, Int.reduceNeg, Int.reduceEq, Nat.reduceMul, Nat.reduceAdd, Nat.reduceLeDiff, reduceCtorEq]
  refine finC_val (p := True) (l := [nilA, i64 1]) (by simp [resM, resE, upd_at, loadF, cur, hup_at, nilA, yes]) trivial ?_ ?_
  · simp [resOne, retA, retL, nilA]
  · simp [resOne, ResOk, ResL, nilA]
theorem h50 (live safe : List File) (ops : List Dop) (name text : List UInt8) (hl : BdF live) (hsf : BdF safe) (ho : BdO ops) (hn : name.length ≤ 1000000000) (ht : text.length ≤ 1000000000) (hd : diskB live safe ops = true) : HT 50 [disk live safe ops, .s name, .s text] [] (rpV live safe ops name text) false [] := by
  refine holdsc_of (c := Try.f50.body.getD .skip) (k := k50.1) (cs := [(6, some (true, 3)), (7, none)]) HOk mixedT hintT Try.func50 (by kernel_rfl) (by kernel_rfl) (by kernel_rfl) k50.2 (by kernel_rfl) (le_of 3 _ (by kernel_rfl)) ?_
  have d36 := h36 live safe ops hl hsf ho
  obtain ⟨q1, q2, q3⟩ := diskB_ok hd
  have d95 := h95 live (rpN name) hl.1
  have d104 := h104 live safe ops hl.1 hsf.1 (by omega)
  have p104 : ∀ x ∈ [obF live, obF safe, obO ops], AM.Pure x.es := by simp [obF, fl_pure, obO, ol_pure]
  have hsub : ∀ l : List File, sub (fl l) 0 l.length = fl l := fun l => sub_all (fl_len l).symm
  have hsubo : ∀ l : List Dop, sub (ol l) 0 l.length = ol l := fun l => sub_all (ol_len l).symm
  have hat := atR_eq (rpN name) live 0 (ok_srt q1)
  rw [Nat.zero_add] at hat
  rw [hd] at d36
  unfold disk at d36 d104 ⊢
  have eN : name ++ [46, 110, 101, 119] = rpN name := rfl
  simp -dsimp only [k50, go_sem, ↓reduceIte, Nat.reduceEqDiff, Int.reduceLE, Int.reduceLT, Int.reduceNeg, Int.reduceEq, Nat.reduceMul, Nat.reduceAdd, Nat.reduceLeDiff, reduceCtorEq]
  refine Call_val (own := true) (d36) (by simp [ExpOk, AV.pure]) (.inl rfl) ?_
  simp -dsimp only [eN, go_sem, ↓reduceIte, Nat.reduceEqDiff, Int.reduceLE, Int.reduceLT, Int.reduceNeg, Int.reduceEq, Nat.reduceMul, Nat.reduceAdd, Nat.reduceLeDiff, reduceCtorEq]
  refine VK_p (by omega) ?_
  simp -dsimp only [go_sem, ↓reduceIte, Nat.reduceEqDiff, Int.reduceLE, Int.reduceLT, Int.reduceNeg, Int.reduceEq, Nat.reduceMul, Nat.reduceAdd, Nat.reduceLeDiff, reduceCtorEq]
  refine Call_val (own := true) (d95) (by simp [ExpOk, AV.pure]) (.inl rfl) ?_
  cases hh : has (rpN name) live
  · rw [if_neg (by simp [hh])] at hat
    rw [hat]
    have f0 : ¬ (-1 : Int) ≥ 0 := by decide
    have b0 : ((0 : Int) == 0) = true := rfl
    simp -dsimp only [f0, b0, go_sem, ↓reduceIte, Nat.reduceEqDiff, Int.reduceLE, Int.reduceLT, Int.reduceNeg, Int.reduceEq, Nat.reduceMul, Nat.reduceAdd, Nat.reduceLeDiff, reduceCtorEq]
    have d1 := h100 live safe ops (1, rpN name, [], text) q1 hsf.1 q3 ht
    have k3 := doL_ok (ops := ops) (op := (1, rpN name, [], text)) q1
    have k4 := doO_le (live := live) (op := (1, rpN name, [], text)) q3
    unfold doV disk opC at d1
    obtain ⟨cc, hcc⟩ : ∃ c, c = doC live ops (1, rpN name, [], text) := ⟨_, rfl⟩
    rw [← hcc] at d1
    refine Call_val (own := false) (d1) (by simp [ExpOk, AV.pure]) (.inr (by simp [AV.rooted, AV.ref1])) ?_
    by_cases e2 : cc = 0
    · rw [hcc] at e2
      obtain ⟨M, hM⟩ : ∃ l, l = doL live ops (1, rpN name, [], text) := ⟨_, rfl⟩
      obtain ⟨P, hP⟩ : ∃ l, l = doO live ops (1, rpN name, [], text) := ⟨_, rfl⟩
      rw [← hM] at d1 k3 ⊢
      rw [← hP] at d1 k4 ⊢
      have f3 : (cc == 0) = true := by rw [hcc, e2]; rfl
      simp -dsimp only [f3, go_sem, ↓reduceIte, Nat.reduceEqDiff, Int.reduceLE, Int.reduceLT, Int.reduceNeg, Int.reduceEq, Nat.reduceMul, Nat.reduceAdd, Nat.reduceLeDiff, reduceCtorEq]
      clear f3
      clear hcc
      have d2 := h100 M safe P (2, rpN name, name, []) k3 hsf.1 k4 (by simp)
      unfold doV disk opC at d2
      obtain ⟨cc, hcc⟩ : ∃ c, c = doC M P (2, rpN name, name, []) := ⟨_, rfl⟩
      rw [← hcc] at d2
      refine Call_val (own := false) (d2) (by simp [ExpOk, AV.pure]) (.inr (by simp [AV.rooted, AV.ref1])) ?_
      by_cases e3 : cc = 0
      · rw [hcc] at e3
        obtain ⟨M2, hM2⟩ : ∃ l, l = doL M P (2, rpN name, name, []) := ⟨_, rfl⟩
        obtain ⟨P2, hP2⟩ : ∃ l, l = doO M P (2, rpN name, name, []) := ⟨_, rfl⟩
        have k5 := doL_ok (ops := P) (op := (2, rpN name, name, [])) k3
        have k6 := doO_le (live := M) (op := (2, rpN name, name, [])) k4
        rw [← hM2] at d2 k5 ⊢
        rw [← hP2] at d2 k6 ⊢
        have f3 : (cc != 0) = false := by rw [hcc, e3]; rfl
        have hfl : rpF live ops name text = (M2, P2, 0) := by subst hM hP hM2 hP2; simp [rpF, rpS, rpO, hh, rp1, e2, e3]
        unfold rpV
        rw [hfl]
        have d104' := h104 M2 safe P2 (by have := k5.1; omega) hsf.1 (by omega)
        unfold disk at d104'
        simp -dsimp only [f3, go_sem, ↓reduceIte, Nat.reduceEqDiff, Int.reduceLE, Int.reduceLT, Int.reduceNeg, Int.reduceEq, Nat.reduceMul, Nat.reduceAdd, Nat.reduceLeDiff, reduceCtorEq]
        refine Call_news (own := true) d104' (by simp [ExpOk, AV.pure]) (by simp [obF, fl_pure, obO, ol_pure]) (.inl rfl) (by simp [obF, obO]) ?_
        simp -dsimp only [copyA, impA, impL, Option.getD_some, Nat.sub_self, Nat.sub_zero, obF, obO, go_sem, ↓reduceIte, Nat.reduceEqDiff, Int.reduceLE, Int.reduceLT, Int.reduceNeg, Int.reduceEq, Nat.reduceMul, Nat.reduceAdd, Nat.reduceLeDiff, reduceCtorEq]
        unfold disk
        refine finC_val (p := True) (l := [.agg [.sl (.r 56 0) 4 0 M2.length none, .sl (.r 56 1) 4 0 safe.length none, .sl (.r 56 2) 4 0 P2.length none], i64 0]) (by simp [resM, resE, upd_at, loadF, cur, hup_at, yes]) trivial ?_ ?_
        · simp [resOne, retA, retL, cur, hup_at, List.idxOf?, hsub, hsubo]
        · simp [resOne, ResOk, ResL, cur, hup_at, fl_pure, fl_len, ol_pure, ol_len, Rid.isP]
      · have e3' : ¬ doC M P (2, rpN name, name, []) = 0 := by rw [← hcc]; exact e3
        have f1 : (cc == 0) = false := by simp [e3]
        have f2 : (cc != 0) = true := by simp [e3]
        have hfl : rpF live ops name text = (live, ops, cc) := by simp [rpF, rpS, rpO, hh, rp1, e2, e3', ← hM, ← hP, ← hcc, e3]
        unfold rpV
        rw [hfl]
        simp -dsimp only [f1, f2, go_sem, ↓reduceIte, Nat.reduceEqDiff, Int.reduceLE, Int.reduceLT, Int.reduceNeg, Int.reduceEq, Nat.reduceMul, Nat.reduceAdd, Nat.reduceLeDiff, reduceCtorEq]
        refine Call_news (own := true) d104 (by simp [ExpOk, AV.pure]) p104 (.inl rfl) (by simp [obF, obO]) ?_
        simp -dsimp only [copyA, impA, impL, Option.getD_some, Nat.sub_self, Nat.sub_zero, obF, obO, go_sem, ↓reduceIte, Nat.reduceEqDiff, Int.reduceLE, Int.reduceLT, Int.reduceNeg, Int.reduceEq, Nat.reduceMul, Nat.reduceAdd, Nat.reduceLeDiff, reduceCtorEq]
        unfold disk
        refine finC_val (p := True) (l := [.agg [.sl (.r 53 0) 4 0 live.length none, .sl (.r 53 1) 4 0 safe.length none, .sl (.r 53 2) 4 0 ops.length none], i64 cc]) (by simp [resM, resE, upd_at, loadF, cur, hup_at, yes]) trivial ?_ ?_
        · simp [resOne, retA, retL, cur, hup_at, List.idxOf?, hsub, hsubo]
        · simp [resOne, ResOk, ResL, cur, hup_at, fl_pure, fl_len, ol_pure, ol_len, Rid.isP]
    · have e2' : ¬ doC live ops (1, rpN name, [], text) = 0 := by rw [← hcc]; exact e2
      have f1 : (cc == 0) = false := by simp [e2]
      have f2 : (cc != 0) = true := by simp [e2]
      have hfl : rpF live ops name text = (live, ops, cc) := by simp [rpF, rpS, rpO, hh, rp1, e2', ← hcc, e2]
      unfold rpV
      rw [hfl]
      simp -dsimp only [f1, f2, go_sem, ↓reduceIte, Nat.reduceEqDiff, Int.reduceLE, Int.reduceLT, Int.reduceNeg, Int.reduceEq, Nat.reduceMul, Nat.reduceAdd, Nat.reduceLeDiff, reduceCtorEq]
      refine Call_news (own := true) d104 (by simp [ExpOk, AV.pure]) p104 (.inl rfl) (by simp [obF, obO]) ?_
      simp -dsimp only [copyA, impA, impL, Option.getD_some, Nat.sub_self, Nat.sub_zero, obF, obO, go_sem, ↓reduceIte, Nat.reduceEqDiff, Int.reduceLE, Int.reduceLT, Int.reduceNeg, Int.reduceEq, Nat.reduceMul, Nat.reduceAdd, Nat.reduceLeDiff, reduceCtorEq]
      unfold disk
      refine finC_val (p := True) (l := [.agg [.sl (.r 53 0) 4 0 live.length none, .sl (.r 53 1) 4 0 safe.length none, .sl (.r 53 2) 4 0 ops.length none], i64 cc]) (by simp [resM, resE, upd_at, loadF, cur, hup_at, yes]) trivial ?_ ?_
      · simp [resOne, retA, retL, cur, hup_at, List.idxOf?, hsub, hsubo]
      · simp [resOne, ResOk, ResL, cur, hup_at, fl_pure, fl_len, ol_pure, ol_len, Rid.isP]
  · rw [if_pos hh] at hat
    rw [hat]
    have f0 : ((pos (rpN name) live : Nat) : Int) ≥ 0 := by omega
    have d0 := h100 live safe ops (3, rpN name, [], []) q1 hsf.1 q3 (by simp)
    unfold doV disk opC at d0
    obtain ⟨cc, hcc⟩ : ∃ c, c = doC live ops (3, rpN name, [], []) := ⟨_, rfl⟩
    rw [← hcc] at d0
    simp -dsimp only [f0, go_sem, ↓reduceIte, Nat.reduceEqDiff, Int.reduceLE, Int.reduceLT, Int.reduceNeg, Int.reduceEq, Nat.reduceMul, Nat.reduceAdd, Nat.reduceLeDiff, reduceCtorEq]
    refine Call_val (own := false) (d0) (by simp [ExpOk, AV.pure]) (.inr (by simp [AV.rooted, AV.ref1])) ?_
    by_cases e1 : cc = 0
    · rw [hcc] at e1
      obtain ⟨L, hL⟩ : ∃ l, l = doL live ops (3, rpN name, [], []) := ⟨_, rfl⟩
      obtain ⟨O, hO⟩ : ∃ l, l = doO live ops (3, rpN name, [], []) := ⟨_, rfl⟩
      have kL := doL_ok (ops := ops) (op := (3, rpN name, [], [])) q1
      have kO := doO_le (live := live) (op := (3, rpN name, [], [])) q3
      rw [← hL] at d0 kL ⊢
      rw [← hO] at d0 kO ⊢
      have f4 : (cc == 0) = true := by rw [hcc, e1]; rfl
      simp -dsimp only [f4, go_sem, ↓reduceIte, Nat.reduceEqDiff, Int.reduceLE, Int.reduceLT, Int.reduceNeg, Int.reduceEq, Nat.reduceMul, Nat.reduceAdd, Nat.reduceLeDiff, reduceCtorEq]
      clear f4
      clear hcc
      have d1 := h100 L safe O (1, rpN name, [], text) kL hsf.1 kO ht
      have k3 := doL_ok (ops := O) (op := (1, rpN name, [], text)) kL
      have k4 := doO_le (live := L) (op := (1, rpN name, [], text)) kO
      unfold doV disk opC at d1
      obtain ⟨cc, hcc⟩ : ∃ c, c = doC L O (1, rpN name, [], text) := ⟨_, rfl⟩
      rw [← hcc] at d1
      refine Call_val (own := false) (d1) (by simp [ExpOk, AV.pure]) (.inr (by simp [AV.rooted, AV.ref1])) ?_
      by_cases e2 : cc = 0
      · rw [hcc] at e2
        obtain ⟨M, hM⟩ : ∃ l, l = doL L O (1, rpN name, [], text) := ⟨_, rfl⟩
        obtain ⟨P, hP⟩ : ∃ l, l = doO L O (1, rpN name, [], text) := ⟨_, rfl⟩
        rw [← hM] at d1 k3 ⊢
        rw [← hP] at d1 k4 ⊢
        have f3 : (cc == 0) = true := by rw [hcc, e2]; rfl
        simp -dsimp only [f3, go_sem, ↓reduceIte, Nat.reduceEqDiff, Int.reduceLE, Int.reduceLT, Int.reduceNeg, Int.reduceEq, Nat.reduceMul, Nat.reduceAdd, Nat.reduceLeDiff, reduceCtorEq]
        clear f3
        clear hcc
        have d2 := h100 M safe P (2, rpN name, name, []) k3 hsf.1 k4 (by simp)
        unfold doV disk opC at d2
        obtain ⟨cc, hcc⟩ : ∃ c, c = doC M P (2, rpN name, name, []) := ⟨_, rfl⟩
        rw [← hcc] at d2
        refine Call_val (own := false) (d2) (by simp [ExpOk, AV.pure]) (.inr (by simp [AV.rooted, AV.ref1])) ?_
        by_cases e3 : cc = 0
        · rw [hcc] at e3
          obtain ⟨M2, hM2⟩ : ∃ l, l = doL M P (2, rpN name, name, []) := ⟨_, rfl⟩
          obtain ⟨P2, hP2⟩ : ∃ l, l = doO M P (2, rpN name, name, []) := ⟨_, rfl⟩
          have k5 := doL_ok (ops := P) (op := (2, rpN name, name, [])) k3
          have k6 := doO_le (live := M) (op := (2, rpN name, name, [])) k4
          rw [← hM2] at d2 k5 ⊢
          rw [← hP2] at d2 k6 ⊢
          have f3 : (cc != 0) = false := by rw [hcc, e3]; rfl
          have hfl : rpF live ops name text = (M2, P2, 0) := by subst hM hP hM2 hP2; simp [rpF, rpS, rpO, hh, rp1, ← hL, ← hO, e1, e2, e3]
          unfold rpV
          rw [hfl]
          have d104' := h104 M2 safe P2 (by have := k5.1; omega) hsf.1 (by omega)
          unfold disk at d104'
          simp -dsimp only [f3, go_sem, ↓reduceIte, Nat.reduceEqDiff, Int.reduceLE, Int.reduceLT, Int.reduceNeg, Int.reduceEq, Nat.reduceMul, Nat.reduceAdd, Nat.reduceLeDiff, reduceCtorEq]
          refine Call_news (own := true) d104' (by simp [ExpOk, AV.pure]) (by simp [obF, fl_pure, obO, ol_pure]) (.inl rfl) (by simp [obF, obO]) ?_
          simp -dsimp only [copyA, impA, impL, Option.getD_some, Nat.sub_self, Nat.sub_zero, obF, obO, go_sem, ↓reduceIte, Nat.reduceEqDiff, Int.reduceLE, Int.reduceLT, Int.reduceNeg, Int.reduceEq, Nat.reduceMul, Nat.reduceAdd, Nat.reduceLeDiff, reduceCtorEq]
          unfold disk
          refine finC_val (p := True) (l := [.agg [.sl (.r 56 0) 4 0 M2.length none, .sl (.r 56 1) 4 0 safe.length none, .sl (.r 56 2) 4 0 P2.length none], i64 0]) (by simp [resM, resE, upd_at, loadF, cur, hup_at, yes]) trivial ?_ ?_
          · simp [resOne, retA, retL, cur, hup_at, List.idxOf?, hsub, hsubo]
          · simp [resOne, ResOk, ResL, cur, hup_at, fl_pure, fl_len, ol_pure, ol_len, Rid.isP]
        · have e3' : ¬ doC M P (2, rpN name, name, []) = 0 := by rw [← hcc]; exact e3
          have f1 : (cc == 0) = false := by simp [e3]
          have f2 : (cc != 0) = true := by simp [e3]
          have hfl : rpF live ops name text = (live, ops, cc) := by simp [rpF, rpS, rpO, hh, rp1, ← hL, ← hO, e1, e2, e3', ← hM, ← hP, ← hcc, e3]
          unfold rpV
          rw [hfl]
          simp -dsimp only [f1, f2, go_sem, ↓reduceIte, Nat.reduceEqDiff, Int.reduceLE, Int.reduceLT, Int.reduceNeg, Int.reduceEq, Nat.reduceMul, Nat.reduceAdd, Nat.reduceLeDiff, reduceCtorEq]
          refine Call_news (own := true) d104 (by simp [ExpOk, AV.pure]) p104 (.inl rfl) (by simp [obF, obO]) ?_
          simp -dsimp only [copyA, impA, impL, Option.getD_some, Nat.sub_self, Nat.sub_zero, obF, obO, go_sem, ↓reduceIte, Nat.reduceEqDiff, Int.reduceLE, Int.reduceLT, Int.reduceNeg, Int.reduceEq, Nat.reduceMul, Nat.reduceAdd, Nat.reduceLeDiff, reduceCtorEq]
          unfold disk
          refine finC_val (p := True) (l := [.agg [.sl (.r 53 0) 4 0 live.length none, .sl (.r 53 1) 4 0 safe.length none, .sl (.r 53 2) 4 0 ops.length none], i64 cc]) (by simp [resM, resE, upd_at, loadF, cur, hup_at, yes]) trivial ?_ ?_
          · simp [resOne, retA, retL, cur, hup_at, List.idxOf?, hsub, hsubo]
          · simp [resOne, ResOk, ResL, cur, hup_at, fl_pure, fl_len, ol_pure, ol_len, Rid.isP]
      · have e2' : ¬ doC L O (1, rpN name, [], text) = 0 := by rw [← hcc]; exact e2
        have f1 : (cc == 0) = false := by simp [e2]
        have f2 : (cc != 0) = true := by simp [e2]
        have hfl : rpF live ops name text = (live, ops, cc) := by simp [rpF, rpS, rpO, hh, rp1, ← hL, ← hO, e1, e2', ← hcc, e2]
        unfold rpV
        rw [hfl]
        simp -dsimp only [f1, f2, go_sem, ↓reduceIte, Nat.reduceEqDiff, Int.reduceLE, Int.reduceLT, Int.reduceNeg, Int.reduceEq, Nat.reduceMul, Nat.reduceAdd, Nat.reduceLeDiff, reduceCtorEq]
        refine Call_news (own := true) d104 (by simp [ExpOk, AV.pure]) p104 (.inl rfl) (by simp [obF, obO]) ?_
        simp -dsimp only [copyA, impA, impL, Option.getD_some, Nat.sub_self, Nat.sub_zero, obF, obO, go_sem, ↓reduceIte, Nat.reduceEqDiff, Int.reduceLE, Int.reduceLT, Int.reduceNeg, Int.reduceEq, Nat.reduceMul, Nat.reduceAdd, Nat.reduceLeDiff, reduceCtorEq]
        unfold disk
        refine finC_val (p := True) (l := [.agg [.sl (.r 53 0) 4 0 live.length none, .sl (.r 53 1) 4 0 safe.length none, .sl (.r 53 2) 4 0 ops.length none], i64 cc]) (by simp [resM, resE, upd_at, loadF, cur, hup_at, yes]) trivial ?_ ?_
        · simp [resOne, retA, retL, cur, hup_at, List.idxOf?, hsub, hsubo]
        · simp [resOne, ResOk, ResL, cur, hup_at, fl_pure, fl_len, ol_pure, ol_len, Rid.isP]
    · have e1' : ¬ doC live ops (3, rpN name, [], []) = 0 := by rw [← hcc]; exact e1
      have f1 : (cc == 0) = false := by simp [e1]
      have f2 : (cc != 0) = true := by simp [e1]
      have hfl : rpF live ops name text = (live, ops, cc) := by simp [rpF, rpS, rpO, hh, rp1, e1', ← hcc, e1]
      unfold rpV
      rw [hfl]
      simp -dsimp only [f1, f2, go_sem, ↓reduceIte, Nat.reduceEqDiff, Int.reduceLE, Int.reduceLT, Int.reduceNeg, Int.reduceEq, Nat.reduceMul, Nat.reduceAdd, Nat.reduceLeDiff, reduceCtorEq]
      refine Call_news (own := true) d104 (by simp [ExpOk, AV.pure]) p104 (.inl rfl) (by simp [obF, obO]) ?_
      simp -dsimp only [copyA, impA, impL, Option.getD_some, Nat.sub_self, Nat.sub_zero, obF, obO, go_sem, ↓reduceIte, Nat.reduceEqDiff, Int.reduceLE, Int.reduceLT, Int.reduceNeg, Int.reduceEq, Nat.reduceMul, Nat.reduceAdd, Nat.reduceLeDiff, reduceCtorEq]
      unfold disk
      refine finC_val (p := True) (l := [.agg [.sl (.r 53 0) 4 0 live.length none, .sl (.r 53 1) 4 0 safe.length none, .sl (.r 53 2) 4 0 ops.length none], i64 cc]) (by simp [resM, resE, upd_at, loadF, cur, hup_at, yes]) trivial ?_ ?_
      · simp [resOne, retA, retL, cur, hup_at, List.idxOf?, hsub, hsubo]
      · simp [resOne, ResOk, ResL, cur, hup_at, fl_pure, fl_len, ol_pure, ol_len, Rid.isP]
end FrA

