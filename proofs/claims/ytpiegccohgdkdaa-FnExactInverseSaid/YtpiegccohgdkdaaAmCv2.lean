/- Rows of changes: copied, turned round by the reference, marked. Walked. No condition. -/
import Derived.Test.YtpiegccohgdkdaaAmCv1
set_option linter.all false
set_option linter.unusedSimpArgs false
set_option linter.unusedVariables false
set_option linter.deprecated false
/-! CvC -/
open Go Go.AM
namespace FrA
open Go.Proofs
set_option maxRecDepth 100000
set_option linter.unusedSimpArgs false
theorem subV (l : List Vl) : sub (vl l) 0 l.length = vl l := sub_all (vl_len l).symm
theorem subC (l : List Chg) : sub (ch l) 0 l.length = ch l := sub_all (ch_len l).symm
def zc : List AV := [.i .i64 0, .i .i64 0, .nils, .nils]
/-- The first i changes, and room for the rest. -/
def chz (l : List Chg) (i : Nat) : List (List AV) := ch (l.take i) ++ List.replicate (l.length - i) zc
theorem chz_len (l : List Chg) (i : Nat) (h : i ≤ l.length) : (chz l i).length = l.length := by simp [chz, ch_len]; omega
theorem chz_get {l : List Chg} {i : Nat} (h : i < l.length) : (chz l i)[i]? = some [.i .i64 0, .i .i64 0, .nils, .nils] := by
  unfold chz
  rw [List.getElem?_append_right (by simp [ch_len]; omega), ch_len, List.length_take, Nat.min_eq_left (by omega), Nat.sub_self, show l.length - i = (l.length - (i + 1)) + 1 by omega, List.replicate_succ]; rfl
theorem chz_set {l : List Chg} {i : Nat} (h : i < l.length) : (chz l i).set i (cC (l.getD i c0)) = chz l (i + 1) := by
  unfold chz
  rw [show l.length - i = (l.length - (i + 1)) + 1 by omega, List.replicate_succ, List.set_append, if_neg (by simp [ch_len]; omega), ch_len, List.length_take, Nat.min_eq_left (by omega), Nat.sub_self, List.set_cons_zero,
    List.take_add_one, ch_app, List.getElem?_eq_getElem h, List.getD_eq_getElem?_getD, List.getElem?_eq_getElem h]
  simp [ch]
theorem chz_end (l : List Chg) : chz l l.length = ch l := by simp [chz]
theorem h29 (l : List Chg) (hl : BdC l) : HT 29 [.dat 4 (ch l)] [] (.sl (.p 0) 1 0 l.length none) true [obC l] := by
  refine holds_of (c := Try.f29.body.getD .skip) (k := k29.1) (ts := [2]) HOk mixedT hintT Try.func29 (by kernel_rfl) (by kernel_rfl) (by kernel_rfl) k29.2 (by kernel_rfl) (le_of 1 _ (by kernel_rfl)) ?_
  have hn := hl.1
  simp -dsimp only [k29, ch_len, go_sem, ↓reduceIte, Nat.reduceEqDiff, Int.reduceLE, Int.reduceLT, Int.reduceNeg, Int.reduceEq, Nat.reduceMul, Nat.reduceAdd, Nat.reduceLeDiff, reduceCtorEq]
  refine EK_p ?_ ?_
  · simp [bigOk]; omega
  simp -dsimp only [Int.toNat_natCast, go_sem, ↓reduceIte, Nat.reduceEqDiff, Int.reduceLE, Int.reduceLT, Int.reduceNeg, Int.reduceEq, Nat.reduceMul, Nat.reduceAdd, Nat.reduceLeDiff, reduceCtorEq]
  refine K_for l.length (fun i g h c => g 0 = .dat 4 (ch l) ∧ g 3 = .sl (.l 7) 1 0 l.length none ∧ g 4 = i64 i ∧ ∃ q : Prop, q ∧ h (.l 7) = some { ver := 1, es := chz l i, esz := 4, own := q }) ?_ ?_ ?_
  · exact ⟨by simp [upd_at, S_0], by simp [upd_at], by simp [upd_at], _, (by simp [AM.NoDat, AV.isDat] : AM.NoDat [AV.i .i64 0, .i .i64 0, .nils, .nils]), by simp [hup_at, chz, ch, zc]⟩
  · rintro i A hi hA g h c ⟨q0, q3, q4, q, hq, hh⟩
    have hc : (i : Int) < (l.length : Int) := by omega
    have w2 : IntKind.i64.wrap ((i : Int) + 1) = ((i + 1 : Nat) : Int) := by rw [wr (by omega) (by omega)]; rfl
    have hf := hl.2 _ (getC_mem hi)
    have hg := ch_get hi
    have hz := chz_get hi
    have hs := chz_set hi
    generalize l.getD i c0 = cc at hf hg hs
    have d71 := h71 cc hf.1 hf.2
    have ec : cC cc = [.i .i64 cc.1, .i .i64 cc.2.1, .dat 3 (vl cc.2.2.1), .dat 3 (vl cc.2.2.2)] := rfl
    rw [ec] at hg d71 hs
    unfold toChA at d71
    have hlt : i < (chz l i).length := by rw [chz_len l i (by omega)]; exact hi
    simp -dsimp only [q0, q3, q4, hc, hg, ch_len, go_sem, ↓reduceIte, Nat.reduceEqDiff, Int.reduceLE, Int.reduceLT, Int.reduceNeg, Int.reduceEq, Nat.reduceMul, Nat.reduceAdd, Nat.reduceLeDiff, reduceCtorEq]
    refine Call_news (own := true) (b := obV cc.2.2.1) (obs' := [obV cc.2.2.2]) d71 (by simp [ExpOk, AV.pure]) (by simp [obV, vl_pure]) (.inl rfl) (by simp [obV]) ?_
    simp -dsimp only [q0, q3, q4, hh, hz, impA, impL, Option.getD_some, Nat.sub_self, Nat.sub_zero, obV, newObs, go_sem, ↓reduceIte, Nat.reduceEqDiff, Int.reduceLE, Int.reduceLT, Int.reduceNeg, Int.reduceEq, Nat.reduceMul, Nat.reduceAdd, Nat.reduceLeDiff, reduceCtorEq]
    refine VK_p (by omega) ?_
    simp -dsimp only [q0, q3, q4, hh, hz, Nat.zero_add, go_sem, ↓reduceIte, Nat.reduceEqDiff, Int.reduceLE, Int.reduceLT, Int.reduceNeg, Int.reduceEq, Nat.reduceMul, Nat.reduceAdd, Nat.reduceLeDiff, reduceCtorEq]
    have e1 : ((chz l i).set i [.i .i64 cc.1, .i .i64 cc.2.1, .sl (.r 20 0) c 0 cc.2.2.1.length none, .sl (.r 20 1) c 0 cc.2.2.2.length none])[i]? = some [.i .i64 cc.1, .i .i64 cc.2.1, .sl (.r 20 0) c 0 cc.2.2.1.length none, .sl (.r 20 1) c 0 cc.2.2.2.length none] := List.getElem?_set_self hlt
    have e2 : ((chz l i).set i [.i .i64 cc.1, .i .i64 cc.2.1, .dat 3 (vl cc.2.2.1), .sl (.r 20 1) c 0 cc.2.2.2.length none])[i]? = some [.i .i64 cc.1, .i .i64 cc.2.1, .dat 3 (vl cc.2.2.1), .sl (.r 20 1) c 0 cc.2.2.2.length none] := List.getElem?_set_self hlt
    have nd : AM.NoDat [AV.i .i64 cc.1, .i .i64 cc.2.1, .sl (.r 20 0) c 0 cc.2.2.1.length none, .sl (.r 20 1) c 0 cc.2.2.2.length none] := by simp [AM.NoDat, AV.isDat]
    refine Gh_of (Gh.trans
      (Gh.give _ _ _ (.l 7) (.r 20 0) { ver := 1, es := (chz l i).set i [.i .i64 cc.1, .i .i64 cc.2.1, .sl (.r 20 0) c 0 cc.2.2.1.length none, .sl (.r 20 1) c 0 cc.2.2.2.length none], esz := 4, own := q ∧ AM.NoDat [AV.i .i64 cc.1, .i .i64 cc.2.1, .sl (.r 20 0) c 0 cc.2.2.1.length none, .sl (.r 20 1) c 0 cc.2.2.2.length none] } { ver := c, es := vl cc.2.2.1, esz := 3 } [.i .i64 cc.1, .i .i64 cc.2.1, .sl (.r 20 0) c 0 cc.2.2.1.length none, .sl (.r 20 1) c 0 cc.2.2.2.length none] i 2 0 cc.2.2.1.length none
        (by simp [hup_at]) ⟨hq, nd⟩ e1 rfl (by simp [hup_at]) (by simp) (by simp [vl_len]) (vl_pure _) (.inl trivial))
      (Gh.give _ _ _ (.l 7) (.r 20 1) { ver := 1, es := (chz l i).set i [.i .i64 cc.1, .i .i64 cc.2.1, .dat 3 (vl cc.2.2.1), .sl (.r 20 1) c 0 cc.2.2.2.length none], esz := 4, own := q ∧ AM.NoDat [AV.i .i64 cc.1, .i .i64 cc.2.1, .sl (.r 20 0) c 0 cc.2.2.1.length none, .sl (.r 20 1) c 0 cc.2.2.2.length none] } { ver := c, es := vl cc.2.2.2, esz := 3 } [.i .i64 cc.1, .i .i64 cc.2.1, .dat 3 (vl cc.2.2.1), .sl (.r 20 1) c 0 cc.2.2.2.length none] i 3 0 cc.2.2.2.length none
        (by simp [hup_at, hdel_at, List.set_set, subV]) ⟨hq, nd⟩ e2 rfl (by simp [hup_at, hdel_at]) (by simp) (by simp [vl_len]) (vl_pure _) (.inl trivial))) ?_
    simp -dsimp only [q0, q3, q4, w2, go_sem, ↓reduceIte, Nat.reduceEqDiff, Int.reduceLE, Int.reduceLT, Int.reduceNeg, Int.reduceEq, Nat.reduceMul, Nat.reduceAdd, Nat.reduceLeDiff, reduceCtorEq]
    refine hA _ _ _ ⟨by simp [upd_at, q0], by simp [upd_at, q3], by simp [upd_at], _, (⟨hq, nd⟩ : q ∧ AM.NoDat [AV.i .i64 cc.1, .i .i64 cc.2.1, .sl (.r 20 0) c 0 cc.2.2.1.length none, .sl (.r 20 1) c 0 cc.2.2.2.length none]), ?_⟩
    simp only [hup_at, if_true, List.set_set, subV, vl_len, List.set_cons_succ, List.set_cons_zero]
    rw [hs]
  · rintro A g h c ⟨q0, q3, q4, q, hq, hh⟩
    have hc : ¬ (l.length : Int) < (l.length : Int) := by omega
    rw [chz_end] at hh
    simp -dsimp only [q0, q3, q4, hc, ch_len, go_sem, ↓reduceIte, Nat.reduceEqDiff, Int.reduceLE, Int.reduceLT, Int.reduceNeg, Int.reduceEq, Nat.reduceMul, Nat.reduceAdd, Nat.reduceLeDiff, reduceCtorEq]
    refine Fin_one (obs := []) (.l 7) { ver := 1, es := ch l, esz := 4, own := q } (obC l) rfl (by simp [hup_at, hh]) rfl (.inl ⟨fun _ => hq, fun _ => trivial⟩) (ch_pure l) (fun k x hk => by simp at hk) ?_ ?_
    · simp [resV, upd_at, q3, retA, cur, hup_at, hh, List.idxOf?_cons]
    · simp [resV, upd_at, q3, ResOk, cur, hup_at, hh]
end FrA

/-! CvD -/
open Go Go.AM
namespace FrA
open Go.Proofs
set_option maxRecDepth 100000
set_option linter.unusedSimpArgs false
def invC (c : Chg) : Chg := (c.1, c.2.1, c.2.2.2, c.2.2.1)
def inv (l : List Chg) : List Chg := l.reverse.map invC
theorem inv_len (l : List Chg) : (inv l).length = l.length := by simp [inv]
theorem inv_take {l : List Chg} {j : Nat} (h : j < l.length) : (inv l).take (j + 1) = (inv l).take j ++ [invC (l.getD (l.length - 1 - j) c0)] := by
  rw [List.take_add_one]
  congr 1
  unfold inv
  rw [List.getElem?_map, List.getElem?_reverse h, List.getD_eq_getElem?_getD, List.getElem?_eq_getElem (by omega)]
  rfl
theorem inv_bd {l : List Chg} (h : BdC l) : BdC (inv l) := by
  refine ⟨by rw [inv_len]; exact h.1, fun c hc => ?_⟩
  simp only [inv, List.mem_map, List.mem_reverse] at hc
  obtain ⟨d, hd, rfl⟩ := hc
  exact ⟨(h.2 d hd).2, (h.2 d hd).1⟩
theorem h28 (l : List Chg) (hl : BdC l) : HT 28 [.dat 4 (ch l)] [] (.dat 4 (ch (inv l))) false [] := by
  refine holds_of (c := Try.f28.body.getD .skip) (k := k28.1) (ts := [2]) HOk mixedT hintT Try.func28 (by kernel_rfl) (by kernel_rfl) (by kernel_rfl) k28.2 (by kernel_rfl) (le_of 1 _ (by kernel_rfl)) ?_
  have hn := hl.1
  have w0 : IntKind.i64.wrap ((l.length : Int) - 1) = (l.length : Int) - 1 - ((0 : Nat) : Int) := by
    unfold IntKind.wrap; simp [IntKind.signed, IntKind.bits]; omega
  simp -dsimp only [k28, ch_len, w0, go_sem, ↓reduceIte, Nat.reduceEqDiff, Int.reduceLE, Int.reduceLT, Int.reduceNeg, Int.reduceEq, Nat.reduceMul, Nat.reduceAdd, Nat.reduceLeDiff, reduceCtorEq]
  refine K_for l.length (fun j g h c => g 0 = .dat 4 (ch l) ∧ g 4 = i64 ((l.length : Int) - 1 - (j : Int)) ∧ ∃ (u : Nat) (cap : Option Nat) (q : Prop), g 3 = .sl (.l 5) u 0 j cap ∧ h (.l 5) = some { ver := u, es := ch ((inv l).take j), esz := 4, own := q }) ?_ ?_ ?_
  · exact ⟨by simp [upd_at, S_0], by simp [upd_at], _, _, _, by simp [upd_at]; exact ⟨rfl, rfl⟩, by simp [hup_at, ch]; rfl⟩
  · rintro j A hj hA g h c ⟨q0, q4, u, cap, q, q3, hh⟩
    have e4 : (l.length : Int) - 1 - (j : Int) = ((l.length - 1 - j : Nat) : Int) := by omega
    rw [e4] at q4
    have hm : l.length - 1 - j < l.length := by omega
    have w1 : IntKind.i64.wrap (((l.length - 1 - j : Nat) : Int) - 1) = (l.length : Int) - 1 - ((j + 1 : Nat) : Int) := by
      unfold IntKind.wrap; simp [IntKind.signed, IntKind.bits]; omega
    have c1 : ((l.length - 1 - j : Nat) : Int) ≥ 0 := by omega
    have hf := hl.2 _ (getC_mem hm)
    have hg := ch_get hm
    have hs := inv_take hj
    generalize l.getD (l.length - 1 - j) c0 = cc at hf hg hs
    generalize l.length - 1 - j = m at q4 hm w1 c1 hg
    have ec : cC cc = [.i .i64 cc.1, .i .i64 cc.2.1, .dat 3 (vl cc.2.2.1), .dat 3 (vl cc.2.2.2)] := rfl
    rw [ec] at hg
    have d1 := h70 cc.2.2.2 hf.2
    have d2 := h70 cc.2.2.1 hf.1
    have hjl : ((inv l).take j).length = j := by rw [List.length_take, inv_len]; omega
    have sn : ch ((inv l).take j) ++ [[AV.i .i64 cc.1, .i .i64 cc.2.1, .dat 3 (vl cc.2.2.2), .dat 3 (vl cc.2.2.1)]] = ch ((inv l).take (j + 1)) := by rw [hs, ch_app]; rfl
    have hml : (m : Int) < (l.length : Int) := by omega
    simp -dsimp only [q0, q3, q4, hh, hg, c1, ch_len, hml, go_sem, ↓reduceIte, Nat.reduceEqDiff, Int.reduceLE, Int.reduceLT, Int.reduceNeg, Int.reduceEq, Nat.reduceMul, Nat.reduceAdd, Nat.reduceLeDiff, reduceCtorEq]
    have vp : 0 < 4 := by omega
    refine Call0_val true (d1) (by simp [AV.free, AV.pure]) (.inl rfl) ?_
    simp -dsimp only [q0, q3, q4, hh, hg, c1, ch_len, hml, go_sem, ↓reduceIte, Nat.reduceEqDiff, Int.reduceLE, Int.reduceLT, Int.reduceNeg, Int.reduceEq, Nat.reduceMul, Nat.reduceAdd, Nat.reduceLeDiff, reduceCtorEq]
    refine Call0_val true (d2) (by simp [AV.free, AV.pure]) (.inl rfl) ?_
    simp -dsimp only [q0, q3, q4, hh, hg, c1, ch_len, hml, chunk, hjl, go_sem, ↓reduceIte, Nat.reduceEqDiff, Int.reduceLE, Int.reduceLT, Int.reduceNeg, Int.reduceEq, Nat.reduceMul, Nat.reduceAdd, Nat.reduceLeDiff, reduceCtorEq]
    refine EK_p ⟨⟨fun ho e he => by simp at he; subst he; exact ho, ?_⟩, ?_, ?_⟩ ?_
    · exact ch_good [(cc.1, cc.2.1, cc.2.2.2, cc.2.2.1)]
    · unfold bigOk; omega
    · omega
    simp -dsimp only [q0, q3, q4, w1, sn, ch_len, hjl, go_sem, ↓reduceIte, Nat.reduceEqDiff, Int.reduceLE, Int.reduceLT, Int.reduceNeg, Int.reduceEq, Nat.reduceMul, Nat.reduceAdd, Nat.reduceLeDiff, reduceCtorEq]
    exact hA _ _ _ ⟨by simp [upd_at, q0], by simp [upd_at], _, _, _, by simp [upd_at]; exact ⟨rfl, rfl⟩, by simp [hup_at]; rfl⟩
  · rintro A g h c ⟨q0, q4, u, cap, q, q3, hh⟩
    have hc : ¬ ((l.length : Int) - 1 - (l.length : Int)) ≥ 0 := by omega
    rw [List.take_of_length_le (by rw [inv_len]; omega)] at hh
    have hs : sub (ch (inv l)) 0 l.length = ch (inv l) := sub_all (by rw [ch_len, inv_len])
    simp -dsimp only [q0, q3, q4, hc, go_sem, ↓reduceIte, Nat.reduceEqDiff, Int.reduceLE, Int.reduceLT, Int.reduceNeg, Int.reduceEq, Nat.reduceMul, Nat.reduceAdd, Nat.reduceLeDiff, reduceCtorEq]
    refine Fin_val ?_ ?_
    · simp [resV, upd_at, q3, retA, cur, hh, List.idxOf?_nil, hs]
    · simp only [resV, upd_at, q3, if_true, ResOk]
      exact ⟨_, by simp [cur, hh]; rfl, .inr ⟨rfl, by simp, ch_pure _, by simp [ch_len, inv_len], fun h => by cases h⟩⟩
def szm (c : Chg) : Nat := 2 + 3 * (c.2.2.1.length + c.2.2.2.length)
def ksz : List Chg → Nat
  | [] => 0
  | c :: l => szm c + ksz l
theorem ksz_app : ∀ a b : List Chg, ksz (a ++ b) = ksz a + ksz b
  | [], b => by simp [ksz]
  | v :: a, b => by simp [ksz, ksz_app a b]; omega
theorem ksz_succ {l : List Chg} {i : Nat} (h : i < l.length) : ksz (l.take (i + 1)) = ksz (l.take i) + szm (l.getD i c0) := by
  rw [List.take_add_one, ksz_app, List.getElem?_eq_getElem h, List.getD_eq_getElem?_getD, List.getElem?_eq_getElem h]
  simp [ksz]
theorem ksz_le (l : List Chg) (i : Nat) : ksz (l.take i) ≤ ksz l := by
  conv => rhs; rw [← List.take_append_drop i l, ksz_app]
  omega
theorem ksz_ge : ∀ l : List Chg, l.length ≤ ksz l
  | [] => by simp
  | c :: l => by have := ksz_ge l; simp [ksz, szm]; omega
def mkCi (k : Nat) (c : Chg) : Chg := ((k : Int), ((k + 1 : Nat) : Int), mkV (k + 2) c.2.2.1.length, mkV (k + 2 + 3 * c.2.2.1.length) c.2.2.2.length)
def mkC (k : Nat) : List Chg → List Chg
  | [] => []
  | c :: l => mkCi k c :: mkC (k + szm c) l
theorem mkC_len (k : Nat) : ∀ l : List Chg, (mkC k l).length = l.length
  | [] => rfl
  | c :: l => by simp [mkC, mkC_len _ l]
theorem mkC_app : ∀ (k : Nat) (a b : List Chg), mkC k (a ++ b) = mkC k a ++ mkC (k + ksz a) b
  | _, [], b => by simp [mkC, ksz]
  | k, c :: a, b => by
    rw [List.cons_append, mkC, mkC_app (k + szm c) a b, mkC, ksz, List.cons_append, Nat.add_assoc]
theorem mkC_succ {k : Nat} {l : List Chg} {i : Nat} (h : i < l.length) : mkC k (l.take (i + 1)) = mkC k (l.take i) ++ [mkCi (k + ksz (l.take i)) (l.getD i c0)] := by
  rw [List.take_add_one, mkC_app, List.getElem?_eq_getElem h, List.getD_eq_getElem?_getD, List.getElem?_eq_getElem h]
  rfl
theorem mkC_get {k : Nat} {l : List Chg} {i : Nat} (h : i < l.length) : (mkC k l).getD i c0 = mkCi (k + ksz (l.take i)) (l.getD i c0) := by
  have e : l = l.take i ++ l.getD i c0 :: l.drop (i + 1) := by
    rw [List.getD_eq_getElem?_getD, List.getElem?_eq_getElem h, Option.getD_some, ← List.drop_eq_getElem_cons h, List.take_append_drop]
  have hl : (mkC k (l.take i)).length = i := by rw [mkC_len, List.length_take]; omega
  have e2 : mkC k l = mkC k (l.take i) ++ mkCi (k + ksz (l.take i)) (l.getD i c0) :: mkC (k + ksz (l.take i) + szm (l.getD i c0)) (l.drop (i + 1)) := by
    conv => lhs; rw [e, mkC_app, mkC]
  rw [e2, List.getD_eq_getElem?_getD, List.getElem?_append_right (by omega), hl]; simp
theorem h33 (l : List Chg) (k : Nat) (hk : 0 < k) (hkn : k + ksz l ≤ 1000000000) : HT 33 [.dat 4 (ch (mkC k l)), i64 k] [] (i64 (k + ksz l : Nat)) true [] := by
  refine holds_of (c := Try.f33.body.getD .skip) (k := k33.1) (ts := [4]) HOk mixedT hintT Try.func33 (by kernel_rfl) (by kernel_rfl) (by kernel_rfl) k33.2 (by kernel_rfl) (le_of 2 _ (by kernel_rfl)) ?_
  simp -dsimp only [k33, go_sem, ↓reduceIte, Nat.reduceEqDiff, Int.reduceLE, Int.reduceLT, Int.reduceNeg, Int.reduceEq, Nat.reduceMul, Nat.reduceAdd, Nat.reduceLeDiff, reduceCtorEq]
  refine K_for l.length (fun i g h c => g 0 = .dat 4 (ch (mkC k l)) ∧ g 1 = i64 (k + ksz (l.take i) : Nat) ∧ g 5 = i64 i) ?_ ?_ ?_
  · exact ⟨by simp [upd_at, S_0], by simp [upd_at, S_1, ksz], by simp [upd_at]⟩
  · rintro i A hi hA g h c ⟨q0, q1, q5⟩
    have hn := ksz_ge l
    have hc : (i : Int) < (l.length : Int) := by omega
    have gi := ch_get (l := mkC k l) (i := i) (by rw [mkC_len]; exact hi)
    rw [mkC_get hi] at gi
    have hs := ksz_succ hi
    have hle := ksz_le l (i + 1)
    generalize l.getD i c0 = cc at gi hs
    generalize hb : k + ksz (l.take i) = b at gi q1
    have hb' : b + szm cc ≤ 1000000000 := by omega
    unfold szm at hb' hs
    unfold mkCi cC at gi
    simp only at gi
    have w0 : IntKind.i64.wrap (b : Int) = (b : Int) := wr (by omega) (by omega)
    have w0' : IntKind.i64.wrap ((b + 1 : Nat) : Int) = ((b + 1 : Nat) : Int) := wr (by omega) (by omega)
    have w1 : IntKind.i64.wrap ((i : Int) + 1) = ((i + 1 : Nat) : Int) := by rw [wr (by omega) (by omega)]; rfl
    have w2 : IntKind.i64.wrap ((b : Int) + 1) = ((b + 1 : Nat) : Int) := by rw [wr (by omega) (by omega)]; rfl
    have w3 : IntKind.i64.wrap (((b + 1 : Nat) : Int) + 1) = ((b + 2 : Nat) : Int) := by rw [wr (by omega) (by omega)]; omega
    have e0 : ((b : Int) != (b : Int)) = false := by simp
    have e2 : (((b + 1 : Nat) : Int) != ((b + 1 : Nat) : Int)) = false := by simp
    have d1 := h76 (b + 2) cc.2.2.1.length (by omega) (by omega)
    have d2 := h76 (b + 2 + 3 * cc.2.2.1.length) cc.2.2.2.length (by omega) (by omega)
    have n1 : ¬ ((b + 2 + 3 * cc.2.2.1.length : Nat) : Int) < 0 := by omega
    have n2 : ¬ ((b + 2 + 3 * cc.2.2.1.length + 3 * cc.2.2.2.length : Nat) : Int) < 0 := by omega
    simp -dsimp only [q0, q1, q5, hc, gi, ch_len, mkC_len, w0, w0', w1, w2, w3, e0, e2, go_sem, ↓reduceIte, Nat.reduceEqDiff, Int.reduceLE, Int.reduceLT, Int.reduceNeg, Int.reduceEq, Nat.reduceMul, Nat.reduceAdd, Nat.reduceLeDiff, reduceCtorEq]
    refine Call_val (own := true) (d1) (by simp [ExpOk, AV.pure]) (.inl rfl) ?_
    simp -dsimp only [q0, q1, q5, hc, gi, n1, go_sem, ↓reduceIte, Nat.reduceEqDiff, Int.reduceLE, Int.reduceLT, Int.reduceNeg, Int.reduceEq, Nat.reduceMul, Nat.reduceAdd, Nat.reduceLeDiff, reduceCtorEq]
    refine Call_val (own := true) (d2) (by simp [ExpOk, AV.pure]) (.inl rfl) ?_
    simp -dsimp only [q0, q1, q5, hc, gi, n2, w1, go_sem, ↓reduceIte, Nat.reduceEqDiff, Int.reduceLE, Int.reduceLT, Int.reduceNeg, Int.reduceEq, Nat.reduceMul, Nat.reduceAdd, Nat.reduceLeDiff, reduceCtorEq]
    refine hA _ _ _ ⟨by simp [upd_at, q0], ?_, by simp [upd_at]⟩
    simp only [upd_at]
    exact congrArg i64 (congrArg Int.ofNat (by omega))
  · rintro A g h c ⟨q0, q1, q5⟩
    have hc : ¬ (l.length : Int) < (l.length : Int) := by omega
    rw [List.take_length] at q1
    simp -dsimp only [q0, q1, q5, hc, ch_len, mkC_len, go_sem, ↓reduceIte, Nat.reduceEqDiff, Int.reduceLE, Int.reduceLT, Int.reduceNeg, Int.reduceEq, Nat.reduceMul, Nat.reduceAdd, Nat.reduceLeDiff, reduceCtorEq]
    exact Fin_val (by simp [resV, upd_at, retA, q1]) (by simp [resV, upd_at, ResOk, q1])
end FrA

/-! CvE -/
open Go Go.AM
namespace FrA
open Go.Proofs
set_option maxRecDepth 100000
set_option linter.unusedSimpArgs false
section
variable {C : Con} {s : Stk} {g : Slots} {h : Heap} {c : Nat} {r m : List KOp}
/-- A row that is held by value, as an object of its own; the heap behind it by what it holds. -/
theorem Gh_take1 (o n : Rid) (ob : Ob) (row : List AV) (e j z : Nat) (es : List (List AV)) (h1 : h o = some ob) (h2 : ob.own) (h3 : ob.es[e]? = some row) (h4 : row[j]? = some (.dat z es)) (h5 : h n = none) (h6 : n.isP = false) (h7 : n ≠ o)
    (hq : ∀ h', h' o = some { ob with es := ob.es.set e (row.set j (.sl n c 0 es.length none)) } → h' n = some { ver := c, es := es, esz := z } → (∀ u, u ≠ o → u ≠ n → h' u = h u) → RunD C r m s g h' (c + 1)) : GhK C r m s g h c :=
  Gh_of (.take g h c o n ob row e j z es h1 h2 h3 h4 h5 h6 h7) (hq _ (by rw [hup_at, if_neg (Ne.symm h7), hup_at, if_pos rfl]) (by rw [hup_at, if_pos rfl]) fun u u1 u2 => by rw [hup_at, if_neg u2, hup_at, if_neg u1])
theorem Gh_give1 (o n : Rid) (ob bn : Ob) (row : List AV) (e j off len : Nat) (cap : Option Nat) (h1 : h o = some ob) (h2 : ob.own) (h3 : ob.es[e]? = some row) (h4 : row[j]? = some (.sl n bn.ver off len cap)) (h5 : h n = some bn) (h7 : n ≠ o) (h8 : off + len ≤ bn.es.length) (h9 : AM.Pure bn.es) (h10 : bn.own ∨ AM.Flat bn.es)
    (hq : ∀ h', h' o = some { ob with es := ob.es.set e (row.set j (.dat bn.esz (sub bn.es off len))) } → h' n = none → (∀ u, u ≠ o → u ≠ n → h' u = h u) → RunD C r m s g h' c) : GhK C r m s g h c :=
  Gh_of (.give g h c o n ob bn row e j off len cap h1 h2 h3 h4 h5 h7 h8 h9 h10) (hq _ (by rw [hup_at, if_pos rfl]) (by rw [hup_at, if_neg h7, hdel_at, if_pos rfl]) fun u u1 u2 => by rw [hup_at, if_neg u1, hdel_at, if_neg u2])
end
theorem mk_get {k : Nat} {l : List Chg} {i : Nat} (h : i < l.length) : (ch (mkC k (l.take i) ++ l.drop i))[i]? = some (cC (l.getD i c0)) := by
  have hl : (mkC k (l.take i)).length = i := by rw [mkC_len, List.length_take]; omega
  rw [ch_get (by rw [List.length_append, hl, List.length_drop]; omega)]
  rw [List.getD_eq_getElem?_getD, List.getElem?_append_right (by omega), hl, List.getElem?_drop, List.getD_eq_getElem?_getD]; simp
theorem mk_set {k : Nat} {l : List Chg} {i : Nat} (h : i < l.length) : (ch (mkC k (l.take i) ++ l.drop i)).set i (cC (mkCi (k + ksz (l.take i)) (l.getD i c0))) = ch (mkC k (l.take (i + 1)) ++ l.drop (i + 1)) := by
  have hl : (mkC k (l.take i)).length = i := by rw [mkC_len, List.length_take]; omega
  have e : (ch (mkC k (l.take i) ++ l.drop i)).set i (cC (mkCi (k + ksz (l.take i)) (l.getD i c0))) = ch ((mkC k (l.take i) ++ l.drop i).set i (mkCi (k + ksz (l.take i)) (l.getD i c0))) := by
    rw [ch, ch, List.map_set]
  rw [e, pre_set _ hl (by rw [List.drop_eq_getElem_cons h]; exact List.cons_ne_nil _ _), mkC_succ h, List.drop_drop, Nat.add_comm i 1]; simp
theorem h32 (l : List Chg) (k : Nat) (cap : Option Nat) (hk : 0 < k) (hkn : k + ksz l ≤ 1000000000) : HT 32 [.sl (.p 0) 0 0 l.length cap, i64 k] [obM 4 (ch l) True] (i64 (k + ksz l : Nat)) true [obM 4 (ch (mkC k l)) True] := by
  refine holds_of (c := Try.f32.body.getD .skip) (k := k32.1) (ts := [4]) HOk mixedT hintT Try.func32 (by kernel_rfl) (by kernel_rfl) (by kernel_rfl) k32.2 (by kernel_rfl) (le_of 2 _ (by kernel_rfl)) ?_
  have hn := ksz_ge l
  simp -dsimp only [k32, go_sem, ↓reduceIte, Nat.reduceEqDiff, Int.reduceLE, Int.reduceLT, Int.reduceNeg, Int.reduceEq, Nat.reduceMul, Nat.reduceAdd, Nat.reduceLeDiff, reduceCtorEq]
  refine K_for l.length (fun i g h c => g 0 = .sl (.p 0) 0 0 l.length cap ∧ g 1 = i64 (k + ksz (l.take i) : Nat) ∧ g 5 = i64 i ∧ h (.l 5000) = none ∧ ∃ q : Prop, q ∧ h (.p 0) = some { ver := 0, es := ch (mkC k (l.take i) ++ l.drop i), esz := 4, own := q, fixed := true }) ?_ ?_ ?_
  · exact ⟨by simp [upd_at, S_0], by simp [upd_at, S_1, ksz], by simp [upd_at], rfl, True, trivial, by simp [mkC]; rfl⟩
  · rintro i A hi hA g h c ⟨q0, q1, q5, h5, q, hq, hh⟩
    have hc : (i : Int) < (l.length : Int) := by omega
    have gi := mk_get (k := k) hi
    have st := mk_set (k := k) hi
    have hs := ksz_succ hi
    have hle := ksz_le l (i + 1)
    generalize l.getD i c0 = cc at gi hs st
    generalize hb : k + ksz (l.take i) = b at st q1
    have hb' : b + szm cc ≤ 1000000000 := by omega
    unfold szm at hb' hs
    have e1 : cC (mkCi b cc) = [.i .i64 (b : Int), .i .i64 ((b + 1 : Nat) : Int), .dat 3 (vl (mkV (b + 2) cc.2.2.1.length)), .dat 3 (vl (mkV (b + 2 + 3 * cc.2.2.1.length) cc.2.2.2.length))] := rfl
    have e2 : cC cc = [.i .i64 cc.1, .i .i64 cc.2.1, .dat 3 (vl cc.2.2.1), .dat 3 (vl cc.2.2.2)] := rfl
    rw [e1] at st
    rw [e2] at gi
    have hlt : i < (ch (mkC k (l.take i) ++ l.drop i)).length := (List.getElem?_eq_some_iff.1 gi).1
    generalize ch (mkC k (l.take i) ++ l.drop i) = E at hh gi st hlt
    have sg : ∀ r : List AV, (E.set i r)[i]? = some r := fun r => List.getElem?_set_self hlt
    have w0 : IntKind.i64.wrap (b : Int) = (b : Int) := wr (by omega) (by omega)
    have w0' : IntKind.i64.wrap ((b + 1 : Nat) : Int) = ((b + 1 : Nat) : Int) := wr (by omega) (by omega)
    have w1 : IntKind.i64.wrap ((i : Int) + 1) = ((i + 1 : Nat) : Int) := by rw [wr (by omega) (by omega)]; rfl
    have w2 : IntKind.i64.wrap ((b : Int) + 1) = ((b + 1 : Nat) : Int) := by rw [wr (by omega) (by omega)]; rfl
    have w3 : IntKind.i64.wrap (((b + 1 : Nat) : Int) + 1) = ((b + 2 : Nat) : Int) := by rw [wr (by omega) (by omega)]; omega
    have d1 := h75 cc.2.2.1 (b + 2) none True (by omega) (by omega)
    have d2 := h75 cc.2.2.2 (b + 2 + 3 * cc.2.2.1.length) none True (by omega) (by omega)
    simp -dsimp only [q0, q1, q5, hc, hh, gi, sg, w0, w0', w2, w3, List.set_set, go_sem, ↓reduceIte, Nat.reduceEqDiff, Int.reduceLE, Int.reduceLT, Int.reduceNeg, Int.reduceEq, Nat.reduceMul, Nat.reduceAdd, Nat.reduceLeDiff, reduceCtorEq]
    obtain ⟨Q, hQ⟩ : ∃ Q, Q = ((q ∧ AM.NoDat [AV.i .i64 (b : Int)]) ∧ AM.NoDat [AV.i .i64 ((b + 1 : Nat) : Int)]) := ⟨_, rfl⟩
    have hQt : Q := by rw [hQ]; exact ⟨⟨hq, by simp [AM.NoDat, AV.isDat]⟩, by simp [AM.NoDat, AV.isDat]⟩
    refine Gh_take1 (.p 0) (.l 5000) { ver := 0, es := E.set i [.i .i64 (b : Int), .i .i64 ((b + 1 : Nat) : Int), .dat 3 (vl cc.2.2.1), .dat 3 (vl cc.2.2.2)], esz := 4, own := Q, fixed := true } [.i .i64 (b : Int), .i .i64 ((b + 1 : Nat) : Int), .dat 3 (vl cc.2.2.1), .dat 3 (vl cc.2.2.2)] i 2 3 (vl cc.2.2.1)
      (by rw [hQ]; simp [hup_at]) hQt (sg _) rfl (by simp [hup_at, h5]) rfl (by simp) fun h1 m0 m5 _ => ?_
    simp only [List.set_set, List.set_cons_succ, List.set_cons_zero, vl_len] at m0
    simp -dsimp only [q0, q1, q5, hc, m0, m5, sg, w0, w0', w1, w2, w3, go_sem, ↓reduceIte, Nat.reduceEqDiff, Int.reduceLE, Int.reduceLT, Int.reduceNeg, Int.reduceEq, Nat.reduceMul, Nat.reduceAdd, Nat.reduceLeDiff, reduceCtorEq]
    refine Call_one (own := true) (.l 5000) { ver := c, es := vl cc.2.2.1, esz := 3 } (obM 3 (vl (mkV (b + 2) cc.2.2.1.length)) True) m5 (by simpa [expL, expA, cur, List.idxOf?_cons, List.idxOf?_nil, obM, m5] using d1) (by simp [ExpOk, AV.pure, cur, List.idxOf?_cons, List.idxOf?_nil, m5]) (vl_pure _) (vl_pure _) (.inl rfl) (fun _ => .inl trivial) ?_
    simp -dsimp only [q0, q1, q5, hc, sg, obM, go_sem, ↓reduceIte, Nat.reduceEqDiff, Int.reduceLE, Int.reduceLT, Int.reduceNeg, Int.reduceEq, Nat.reduceMul, Nat.reduceAdd, Nat.reduceLeDiff, reduceCtorEq]
    refine Gh_give1 (.p 0) (.l 5000) { ver := 0, es := E.set i [.i .i64 (b : Int), .i .i64 ((b + 1 : Nat) : Int), .sl (.l 5000) c 0 cc.2.2.1.length none, .dat 3 (vl cc.2.2.2)], esz := 4, own := Q, fixed := true } { ver := c, es := vl (mkV (b + 2) cc.2.2.1.length), esz := 3, own := True } [.i .i64 (b : Int), .i .i64 ((b + 1 : Nat) : Int), .sl (.l 5000) c 0 cc.2.2.1.length none, .dat 3 (vl cc.2.2.2)] i 2 0 cc.2.2.1.length none
      (by simp [hup_at, m0]) hQt (sg _) rfl (by simp [hup_at]) (by simp) (by simp [vl_len, mkV_len]) (vl_pure _) (.inl trivial) fun h2 m0 m5 _ => ?_
    simp only [List.set_set, List.set_cons_succ, List.set_cons_zero] at m0
    have su : sub (vl (mkV (b + 2) cc.2.2.1.length)) 0 cc.2.2.1.length = vl (mkV (b + 2) cc.2.2.1.length) := sub_all (by rw [vl_len, mkV_len])
    rw [su] at m0
    simp -dsimp only [q0, q1, q5, hc, sg, obM, go_sem, ↓reduceIte, Nat.reduceEqDiff, Int.reduceLE, Int.reduceLT, Int.reduceNeg, Int.reduceEq, Nat.reduceMul, Nat.reduceAdd, Nat.reduceLeDiff, reduceCtorEq]
    refine Gh_take1 (.p 0) (.l 5000) { ver := 0, es := E.set i [.i .i64 (b : Int), .i .i64 ((b + 1 : Nat) : Int), .dat 3 (vl (mkV (b + 2) cc.2.2.1.length)), .dat 3 (vl cc.2.2.2)], esz := 4, own := Q, fixed := true } [.i .i64 (b : Int), .i .i64 ((b + 1 : Nat) : Int), .dat 3 (vl (mkV (b + 2) cc.2.2.1.length)), .dat 3 (vl cc.2.2.2)] i 3 3 (vl cc.2.2.2)
      m0 hQt (sg _) rfl m5 rfl (by simp) fun h3 m0 m5 _ => ?_
    simp only [List.set_set, List.set_cons_succ, List.set_cons_zero, vl_len] at m0
    simp -dsimp only [q0, q1, q5, hc, m0, m5, sg, w0, w0', w1, w2, w3, go_sem, ↓reduceIte, Nat.reduceEqDiff, Int.reduceLE, Int.reduceLT, Int.reduceNeg, Int.reduceEq, Nat.reduceMul, Nat.reduceAdd, Nat.reduceLeDiff, reduceCtorEq]
    refine Call_one (own := true) (.l 5000) { ver := c + 1, es := vl cc.2.2.2, esz := 3 } (obM 3 (vl (mkV (b + 2 + 3 * cc.2.2.1.length) cc.2.2.2.length)) True) m5 (by simpa [expL, expA, cur, List.idxOf?_cons, List.idxOf?_nil, obM, m5] using d2) (by simp [ExpOk, AV.pure, cur, List.idxOf?_cons, List.idxOf?_nil, m5]) (vl_pure _) (vl_pure _) (.inl rfl) (fun _ => .inl trivial) ?_
    simp -dsimp only [q0, q1, q5, hc, sg, obM, go_sem, ↓reduceIte, Nat.reduceEqDiff, Int.reduceLE, Int.reduceLT, Int.reduceNeg, Int.reduceEq, Nat.reduceMul, Nat.reduceAdd, Nat.reduceLeDiff, reduceCtorEq]
    refine Gh_give1 (.p 0) (.l 5000) { ver := 0, es := E.set i [.i .i64 (b : Int), .i .i64 ((b + 1 : Nat) : Int), .dat 3 (vl (mkV (b + 2) cc.2.2.1.length)), .sl (.l 5000) (c + 1) 0 cc.2.2.2.length none], esz := 4, own := Q, fixed := true } { ver := c + 1, es := vl (mkV (b + 2 + 3 * cc.2.2.1.length) cc.2.2.2.length), esz := 3, own := True } [.i .i64 (b : Int), .i .i64 ((b + 1 : Nat) : Int), .dat 3 (vl (mkV (b + 2) cc.2.2.1.length)), .sl (.l 5000) (c + 1) 0 cc.2.2.2.length none] i 3 0 cc.2.2.2.length none
      (by simp [hup_at, m0]) hQt (sg _) rfl (by simp [hup_at]) (by simp) (by simp [vl_len, mkV_len]) (vl_pure _) (.inl trivial) fun h4 m0 m5 _ => ?_
    have su2 : sub (vl (mkV (b + 2 + 3 * cc.2.2.1.length) cc.2.2.2.length)) 0 cc.2.2.2.length = vl (mkV (b + 2 + 3 * cc.2.2.1.length) cc.2.2.2.length) := sub_all (by rw [vl_len, mkV_len])
    simp only [List.set_set, List.set_cons_succ, List.set_cons_zero, su2] at m0
    rw [st] at m0
    simp -dsimp only [q0, q1, q5, hc, w1, go_sem, ↓reduceIte, Nat.reduceEqDiff, Int.reduceLE, Int.reduceLT, Int.reduceNeg, Int.reduceEq, Nat.reduceMul, Nat.reduceAdd, Nat.reduceLeDiff, reduceCtorEq]
    refine hA _ _ _ ⟨by simp [upd_at, q0], ?_, by simp [upd_at], m5, Q, hQt, m0⟩
    simp only [upd_at]
    have e9 : b + 2 + 3 * cc.2.2.1.length + 3 * cc.2.2.2.length = k + ksz (l.take (i + 1)) := by omega
    rw [← e9]; rfl
  · rintro A g h c ⟨q0, q1, q5, h5, q, hq, hh⟩
    have hc : ¬ (l.length : Int) < (l.length : Int) := by omega
    rw [List.take_length] at q1 hh
    rw [List.drop_length, List.append_nil] at hh
    simp -dsimp only [q0, q1, q5, hc, hh, go_sem, ↓reduceIte, Nat.reduceEqDiff, Int.reduceLE, Int.reduceLT, Int.reduceNeg, Int.reduceEq, Nat.reduceMul, Nat.reduceAdd, Nat.reduceLeDiff, reduceCtorEq]
    refine Fin_obs (by simp [resV, upd_at, retA, q1]) (by simp [resV, upd_at, ResOk, q1]) rfl fun j ob hj => ?_
    match j, hj with
    | 0, hj => simp at hj; subst hj; exact ⟨ch_pure _, q, .inr ⟨fun _ => trivial, fun _ => hq⟩, by rw [hh]; rfl, rfl⟩
    | j + 1, hj => simp at hj
end FrA

