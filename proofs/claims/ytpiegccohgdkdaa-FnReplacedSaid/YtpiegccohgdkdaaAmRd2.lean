/- The reference puts a file, cuts one, does an op, into new memory: walked. No condition. -/
import Derived.Test.YtpiegccohgdkdaaAmDk7
import Derived.Test.YtpiegccohgdkdaaAmRd1
set_option linter.all false
set_option linter.unusedSimpArgs false
set_option linter.unusedVariables false
set_option linter.deprecated false
/-! DkOo -/
open Go Go.AM
namespace FrA
open Go.Proofs
set_option maxRecDepth 100000
set_option linter.unusedSimpArgs false
def capF : List File → Option Nat
  | [] => some 0
  | _ :: _ => none
theorem capF_snoc (l : List File) (f : File) : capF (l ++ [f]) = none := by cases l <;> rfl
theorem putR_ne (name data : List UInt8) : ∀ (l : List File), putR name data false l ≠ []
  | [], h => by rw [putR, if_neg (by simp)] at h; cases h
  | f :: r, h => by
    rw [putR] at h
    have h1 := List.append_eq_nil_iff.1 h
    have h2 := List.append_eq_nil_iff.1 h1.1
    have h3 := h2.1
    have h4 := h2.2
    by_cases hc : cmpB f.1 name < 0
    · have : ¬ cmpB f.1 name = 0 := by omega
      rw [if_neg this] at h4; cases h4
    · rw [if_pos ⟨rfl, hc⟩] at h3; cases h3
theorem capF_put (name data : List UInt8) (l : List File) : capF (putR name data false l) = none := by
  cases h : putR name data false l with
  | nil => exact absurd h (putR_ne name data l)
  | cons _ _ => rfl
theorem fin_flo {m : List File} {t : Nat} {cap' : Option Nat} (o : Rid) (v n : Nat) (cap : Option Nat) (q : Prop) (g : Slots) (h : Heap) (ho : o.isP = false) (hg : g t = .sl o v 0 n cap) (hh : h o = some { ver := v, es := fl m, esz := 2, own := q }) (hm : n = m.length) (hc : cap = cap') : FinB [t] [] (.sl (.p 0) 1 0 m.length cap') true [obF m] g h := by
  subst hm; subst hc
  refine Fin_one (obs := []) o { ver := v, es := fl m, esz := 2, own := q } (obF m) ho hh (by simp [obF]) (.inr (fl_flat _)) (fl_pure _) (fun k x hk => by simp at hk) ?_ ?_
  · simp [resV, hg, retA, cur, hh, List.idxOf?_cons]
  · simp [resV, hg, ResOk, cur, hh]
theorem h123o (l : List File) (name : List UInt8) (hn : l.length ≤ 1048576) : HT 123 [.dat 2 (fl l), .s name] [] (.sl (.p 0) 1 0 (cutR name l).length (capF (cutR name l))) true [obF (cutR name l)] := by
  refine holds_of (c := Try.f123.body.getD .skip) (k := k123.1) (ts := [4]) HOk mixedT hintT Try.func123 (by kernel_rfl) (by kernel_rfl) (by kernel_rfl) k123.2 (by kernel_rfl) (le_of 2 _ (by kernel_rfl)) ?_
  simp -dsimp only [k123, chunk, go_sem, ↓reduceIte, Nat.reduceEqDiff, Int.reduceLE, Int.reduceLT, Int.reduceNeg, Int.reduceEq, Nat.reduceMul, Nat.reduceAdd, Nat.reduceLeDiff, reduceCtorEq]
  refine K_loop (fun g h c => ∃ (i : Nat) (out : List File) (v : Nat) (cap : Option Nat) (q : Prop), i ≤ l.length ∧ out.length ≤ i ∧ out ++ cutR name (l.drop i) = cutR name l ∧ g 0 = .dat 2 (fl l) ∧ g 1 = .s name ∧ g 6 = i64 i ∧ g 5 = .sl (.l 7) v 0 out.length cap ∧ h (.l 7) = some { ver := v, es := fl out, esz := 2, own := q } ∧ cap = capF out) (fun g _ _ => match g 6 with | .i _ n => l.length - n.toNat | _ => 0) ?_ ?_
  · exact ⟨0, [], _, _, _, by omega, by simp, by simp, by simp [upd_at, S_0], by simp [upd_at, S_1], by simp [upd_at], by simp [upd_at]; exact ⟨rfl, rfl⟩, by simp [hup_at, fl]; rfl, rfl⟩
  · rintro A n hA g h c ⟨i, out, v, cap, q, hi, hol, ht, q0, q1, q6, q5, hh, hcp⟩ hm
    by_cases hlt : i < l.length
    · have hc : (i : Int) < (l.length : Int) := by omega
      have w1 : IntKind.i64.wrap ((i : Int) + 1) = ((i + 1 : Nat) : Int) := by rw [wr (by omega) (by omega)]; rfl
      rw [drop_get hlt, cutR] at ht
      by_cases he : cmpB (l.getD i ([], [])).1 name = 0
      · have e1 : (!((l.getD i ([], [])).1 == name)) = false := by rw [eq_cmp]; simpa using he
        rw [if_pos he] at ht
        simp -dsimp only [q0, q1, q6, q5, hc, fl_get hlt, fl_len, e1, w1, go_sem, ↓reduceIte, Nat.reduceEqDiff, Int.reduceLE, Int.reduceLT, Int.reduceNeg, Int.reduceEq, Nat.reduceMul, Nat.reduceAdd, Nat.reduceLeDiff, reduceCtorEq]
        refine hA _ _ _ ?_ ?_
        · exact ⟨i + 1, out, v, cap, q, by omega, by omega, ht, by simp [upd_at, q0], by simp [upd_at, q1], by simp [upd_at], by simp [upd_at, q5], hh, hcp⟩
        · rw [q6] at hm; simp [upd_at] at hm ⊢; omega
      · have e1 : (!((l.getD i ([], [])).1 == name)) = true := by rw [eq_cmp]; simpa using he
        rw [if_neg he] at ht
        simp -dsimp only [q0, q1, q6, q5, hc, hh, fl_get hlt, fl_len, e1, w1, chunk, sub_1, go_sem, ↓reduceIte, Nat.reduceEqDiff, Int.reduceLE, Int.reduceLT, Int.reduceNeg, Int.reduceEq, Nat.reduceMul, Nat.reduceAdd, Nat.reduceLeDiff, reduceCtorEq]
        refine EK_p (by simp [bigOk, good1, flat1]; omega) ?_
        simp -dsimp only [w1, List.length_cons, List.length_nil, q6, fl_snoc out (l.getD i ([], [])), go_sem, ↓reduceIte, Nat.reduceEqDiff, Int.reduceLE, Int.reduceLT, Int.reduceNeg, Int.reduceEq, Nat.reduceMul, Nat.reduceAdd, Nat.reduceLeDiff, reduceCtorEq]
        refine hA _ _ _ ?_ ?_
        · exact ⟨i + 1, out ++ [l.getD i ([], [])], _, _, _, by omega, by simp; omega, by rw [← ht]; simp, by simp [upd_at, q0], by simp [upd_at, q1], by simp [upd_at], by simp [upd_at]; exact ⟨rfl, rfl⟩, by simp [hup_at]; rfl, by rw [capF_snoc]⟩
        · rw [q6] at hm; simp [upd_at] at hm ⊢; omega
    · have hc : ¬ (i : Int) < (l.length : Int) := by omega
      simp -dsimp only [q0, q1, q6, q5, hc, fl_len, go_sem, ↓reduceIte, Nat.reduceEqDiff, Int.reduceLE, Int.reduceLT, Int.reduceNeg, Int.reduceEq, Nat.reduceMul, Nat.reduceAdd, Nat.reduceLeDiff, reduceCtorEq]
      rw [List.drop_of_length_le (by omega), cutR, List.append_nil] at ht
      exact fin_flo (.l 7) v out.length cap q _ _ rfl (by simp [upd_at, q5]) (by rw [← ht]; exact hh) (by rw [ht]) (by rw [hcp, ht])
theorem h122o (l : List File) (name data : List UInt8) (hn : l.length ≤ 1048576) : HT 122 [.dat 2 (fl l), .s name, .s data] [] (.sl (.p 0) 1 0 (putR name data false l).length none) true [obF (putR name data false l)] := by
  refine holds_of (c := Try.f122.body.getD .skip) (k := k122.1) (ts := [6]) HOk mixedT hintT Try.func122 (by kernel_rfl) (by kernel_rfl) (by kernel_rfl) k122.2 (by kernel_rfl) (le_of 3 _ (by kernel_rfl)) ?_
  simp -dsimp only [k122, chunk, go_sem, ↓reduceIte, Nat.reduceEqDiff, Int.reduceLE, Int.reduceLT, Int.reduceNeg, Int.reduceEq, Nat.reduceMul, Nat.reduceAdd, Nat.reduceLeDiff, reduceCtorEq]
  refine K_loop (fun g h c => ∃ (i : Nat) (out : List File) (d : Bool) (v : Nat) (cap : Option Nat) (q : Prop), i ≤ l.length ∧ out.length ≤ i + 1 ∧ out ++ putR name data d (l.drop i) = putR name data false l ∧ g 0 = .dat 2 (fl l) ∧ g 1 = .s name ∧ g 2 = .s data ∧ g 8 = .b d ∧ g 9 = i64 i ∧ g 7 = .sl (.l 10) v 0 out.length cap ∧ h (.l 10) = some { ver := v, es := fl out, esz := 2, own := q } ∧ (d = false → out.length ≤ i) ∧ cap = capF out) (fun g _ _ => match g 9 with | .i _ n => l.length - n.toNat | _ => 0) ?_ ?_
  · exact ⟨0, [], false, _, _, _, by omega, by simp, by simp, by simp [upd_at, S_0], by simp [upd_at, S_1], by simp [upd_at, S_2], by simp [upd_at], by simp [upd_at], by simp [upd_at]; exact ⟨rfl, rfl⟩, by simp [hup_at, fl]; rfl, by simp, rfl⟩
  · rintro A n hA g h c ⟨i, out, d, v, cap, q, hi, hol, ht, q0, q1, q2, q8, q9, q7, hh, hod, hcp⟩ hm
    by_cases hlt : i < l.length
    · have hc : (i : Int) < (l.length : Int) := by omega
      have w1 : IntKind.i64.wrap ((i : Int) + 1) = ((i + 1 : Nat) : Int) := by rw [wr (by omega) (by omega)]; rfl
      rw [drop_get hlt, putR] at ht
      cases d with
      | true =>
        by_cases he : cmpB (l.getD i ([], [])).1 name = 0
        · rw [if_neg (by simp), if_pos he] at ht
          simp -dsimp only [q0, q1, q2, q8, q9, q7, hc, fl_get hlt, fl_len, bl_neg, neq_neg, he, w1, go_sem, ↓reduceIte, Nat.reduceEqDiff, Int.reduceLE, Int.reduceLT, Int.reduceNeg, Int.reduceEq, Nat.reduceMul, Nat.reduceAdd, Nat.reduceLeDiff, reduceCtorEq]
          refine hA _ _ _ ?_ ?_
          · exact ⟨i + 1, out, true, v, cap, q, by omega, by omega, by simpa using ht, by simp [upd_at, q0], by simp [upd_at, q1], by simp [upd_at, q2], by simp [upd_at, q8], by simp [upd_at], by simp [upd_at, q7], hh, by simp, hcp⟩
          · rw [q9] at hm; simp [upd_at] at hm ⊢; omega
        · rw [if_neg (by simp), if_neg he] at ht
          simp -dsimp only [q0, q1, q2, q8, q9, q7, hc, hh, fl_get hlt, fl_len, bl_neg, neq_neg, he, w1, chunk, sub_1, go_sem, ↓reduceIte, Nat.reduceEqDiff, Int.reduceLE, Int.reduceLT, Int.reduceNeg, Int.reduceEq, Nat.reduceMul, Nat.reduceAdd, Nat.reduceLeDiff, reduceCtorEq]
          refine EK_p (by simp [bigOk, good1, flat1]; omega) ?_
          simp -dsimp only [w1, List.length_cons, List.length_nil, q9, fl_snoc out (l.getD i ([], [])), go_sem, ↓reduceIte, Nat.reduceEqDiff, Int.reduceLE, Int.reduceLT, Int.reduceNeg, Int.reduceEq, Nat.reduceMul, Nat.reduceAdd, Nat.reduceLeDiff, reduceCtorEq]
          refine hA _ _ _ ?_ ?_
          · exact ⟨i + 1, out ++ [l.getD i ([], [])], true, _, _, _, by omega, by simp; omega, by rw [← ht]; simp, by simp [upd_at, q0], by simp [upd_at, q1], by simp [upd_at, q2], by simp [upd_at, q8], by simp [upd_at], by simp [upd_at]; exact ⟨rfl, rfl⟩, by simp [hup_at]; rfl, by simp, by rw [capF_snoc]⟩
          · rw [q9] at hm; simp [upd_at] at hm ⊢; omega
      | false =>
        have hod := hod rfl
        by_cases hlss : cmpB (l.getD i ([], [])).1 name < 0
        · have he : ¬ cmpB (l.getD i ([], [])).1 name = 0 := by omega
          have e3 : (false || decide (¬ cmpB (l.getD i ([], [])).1 name < 0)) = false := by simp only [hlss, not_true, decide_false, Bool.or_false]
          rw [if_neg (fun hx => hx.2 hlss), if_neg he, e3] at ht
          simp -dsimp only [q0, q1, q2, q8, q9, q7, hc, hh, fl_get hlt, fl_len, bl_neg, neq_neg, hlss, he, w1, chunk, sub_1, go_sem, ↓reduceIte, Nat.reduceEqDiff, Int.reduceLE, Int.reduceLT, Int.reduceNeg, Int.reduceEq, Nat.reduceMul, Nat.reduceAdd, Nat.reduceLeDiff, reduceCtorEq]
          refine EK_p (by simp [bigOk, good1, flat1]; omega) ?_
          simp -dsimp only [w1, List.length_cons, List.length_nil, q9, fl_snoc out (l.getD i ([], [])), go_sem, ↓reduceIte, Nat.reduceEqDiff, Int.reduceLE, Int.reduceLT, Int.reduceNeg, Int.reduceEq, Nat.reduceMul, Nat.reduceAdd, Nat.reduceLeDiff, reduceCtorEq]
          refine hA _ _ _ ?_ ?_
          · exact ⟨i + 1, out ++ [l.getD i ([], [])], false, _, _, _, by omega, by simp; omega, by rw [← ht]; simp, by simp [upd_at, q0], by simp [upd_at, q1], by simp [upd_at, q2], by simp [upd_at, q8], by simp [upd_at], by simp [upd_at]; exact ⟨rfl, rfl⟩, by simp [hup_at]; rfl, by simp; omega, by rw [capF_snoc]⟩
          · rw [q9] at hm; simp [upd_at] at hm ⊢; omega
        · rw [if_pos ⟨rfl, hlss⟩] at ht
          have e3 : (false || decide (¬ cmpB (l.getD i ([], [])).1 name < 0)) = true := by simp only [hlss, not_false_iff, decide_true, Bool.or_true]
          rw [e3] at ht
          simp -dsimp only [q0, q1, q2, q8, q9, q7, hc, hh, fl_get hlt, fl_len, bl_neg, hlss, w1, chunk, sub_1, go_sem, ↓reduceIte, Nat.reduceEqDiff, Int.reduceLE, Int.reduceLT, Int.reduceNeg, Int.reduceEq, Nat.reduceMul, Nat.reduceAdd, Nat.reduceLeDiff, reduceCtorEq]
          refine EK_p (by simp [bigOk, good1, flat1]; omega) ?_
          by_cases he : cmpB (l.getD i ([], [])).1 name = 0
          · rw [if_pos he] at ht
            simp -dsimp only [w1, List.length_cons, List.length_nil, q0, q1, q2, q9, fl_get hlt, neq_neg, he, fl_snoc out (name, data), go_sem, ↓reduceIte, Nat.reduceEqDiff, Int.reduceLE, Int.reduceLT, Int.reduceNeg, Int.reduceEq, Nat.reduceMul, Nat.reduceAdd, Nat.reduceLeDiff, reduceCtorEq]
            refine hA _ _ _ ?_ ?_
            · exact ⟨i + 1, out ++ [(name, data)], true, _, _, _, by omega, by simp; omega, by rw [← ht]; simp, by simp [upd_at, q0], by simp [upd_at, q1], by simp [upd_at, q2], by simp [upd_at], by simp [upd_at], by simp [upd_at]; exact ⟨rfl, rfl⟩, by simp [hup_at]; rfl, by simp, by rw [capF_snoc]⟩
            · rw [q9] at hm; simp [upd_at] at hm ⊢; omega
          · rw [if_neg he] at ht
            have hl1 : (fl (out ++ [(name, data)])).length = out.length + 1 := by simp [fl]
            simp -dsimp only [w1, List.length_cons, List.length_nil, q0, q1, q2, q9, fl_get hlt, neq_neg, he, fl_snoc out (name, data), chunk, sub_1, hl1, go_sem, ↓reduceIte, Nat.reduceEqDiff, Int.reduceLE, Int.reduceLT, Int.reduceNeg, Int.reduceEq, Nat.reduceMul, Nat.reduceAdd, Nat.reduceLeDiff, reduceCtorEq]
            refine EK_p (by simp [bigOk, good1, flat1]; omega) ?_
            simp -dsimp only [w1, List.length_cons, List.length_nil, q9, fl_snoc (out ++ [(name, data)]) (l.getD i ([], [])), go_sem, ↓reduceIte, Nat.reduceEqDiff, Int.reduceLE, Int.reduceLT, Int.reduceNeg, Int.reduceEq, Nat.reduceMul, Nat.reduceAdd, Nat.reduceLeDiff, reduceCtorEq]
            refine hA _ _ _ ?_ ?_
            · exact ⟨i + 1, out ++ [(name, data)] ++ [l.getD i ([], [])], true, _, _, _, by omega, by simp; omega, by rw [← ht]; simp, by simp [upd_at, q0], by simp [upd_at, q1], by simp [upd_at, q2], by simp [upd_at], by simp [upd_at], by simp [upd_at]; exact ⟨rfl, rfl⟩, by simp [hup_at]; rfl, by simp, by rw [capF_snoc]⟩
            · rw [q9] at hm; simp [upd_at] at hm ⊢; omega
    · have hc : ¬ (i : Int) < (l.length : Int) := by omega
      rw [List.drop_of_length_le (by omega), putR] at ht
      cases d with
      | true =>
        rw [if_pos rfl, List.append_nil] at ht
        simp -dsimp only [q0, q1, q2, q8, q9, q7, hc, fl_len, go_sem, ↓reduceIte, Nat.reduceEqDiff, Int.reduceLE, Int.reduceLT, Int.reduceNeg, Int.reduceEq, Nat.reduceMul, Nat.reduceAdd, Nat.reduceLeDiff, reduceCtorEq]
        exact fin_flo (.l 10) v out.length cap q _ _ rfl (by simp [upd_at, q7]) (by rw [← ht]; exact hh) (by rw [ht]) (by rw [hcp, ht]; exact capF_put _ _ _)
      | false =>
        rw [if_neg (by simp)] at ht
        simp -dsimp only [q0, q1, q2, q8, q9, q7, hc, hh, fl_len, chunk, sub_1, go_sem, ↓reduceIte, Nat.reduceEqDiff, Int.reduceLE, Int.reduceLT, Int.reduceNeg, Int.reduceEq, Nat.reduceMul, Nat.reduceAdd, Nat.reduceLeDiff, reduceCtorEq]
        refine EK_p (by simp [bigOk, good1, flat1]; omega) ?_
        simp -dsimp only [List.length_cons, List.length_nil, q9, fl_snoc out (name, data), go_sem, ↓reduceIte, Nat.reduceEqDiff, Int.reduceLE, Int.reduceLT, Int.reduceNeg, Int.reduceEq, Nat.reduceMul, Nat.reduceAdd, Nat.reduceLeDiff, reduceCtorEq]
        rw [← ht]
        exact fin_flo (.l 10) _ (out.length + 1) none _ _ _ rfl (by simp [upd_at]; rfl) (by rw [hup_at, if_pos rfl]) (by simp) rfl
def capA (l : List File) (op : Dop) : Option Nat := if op.1 ≠ 1 ∧ op.1 ≠ 2 ∧ has op.2.1 l = true then capF (cut l op.2.1) else none
theorem h83o (l : List File) (op : Dop) (hs : Srt l) (hn : l.length ≤ 1048576) (hb : ∀ f ∈ l, f.2.length ≤ 1099511627776) (hd : op.2.2.2.length ≤ 1099511627776) : HT 83 [.dat 2 (fl l), .agg (opC op)] [] (.tup [.sl (.p 0) 1 0 (act l op).length (capA l op), .b (actB l op)]) true [obF (act l op)] := by
  refine holds_of (c := Try.f83.body.getD .skip) (k := k83.1) (ts := [4, 5]) HOk mixedT hintT Try.func83 (by kernel_rfl) (by kernel_rfl) (by kernel_rfl) k83.2 (by kernel_rfl) (le_of 2 _ (by kernel_rfl)) ?_
  obtain ⟨k, n, t, d⟩ := op
  unfold opC obF
  simp only at hd ⊢
  have hat := atR_eq n l 0 hs
  rw [Nat.zero_add] at hat
  have hpt := putR_eq n d l hs
  have hct := cutR_eq n l hs
  simp -dsimp only [k83, go_sem, ↓reduceIte, Nat.reduceEqDiff, Int.reduceLE, Int.reduceLT, Int.reduceNeg, Int.reduceEq, Nat.reduceMul, Nat.reduceAdd, Nat.reduceLeDiff, reduceCtorEq]
  refine Call_val (own := true) (h95 l n hn) (by simp [ExpOk, AV.pure]) (.inl rfl) ?_
  cases hh : has n l
  · rw [if_neg (by simp [hh])] at hat
    have ho : olda l n = [] := by unfold olda; rw [hh]; rfl
    have f0 : ¬ (-1 : Int) ≥ 0 := by decide
    have f2 : (-1 : Int) < 0 := by decide
    by_cases k1 : k = 1
    · have f1 : (k == 1) = true := by simp [k1]
      have ea : act l (k, n, t, d) = put l n d := by simp [act, k1, ho]
      have eb : actB l (k, n, t, d) = true := by simp [actB, k1]
      have ec : capA l (k, n, t, d) = none := by simp [capA, k1]
      rw [ea, eb, ec]
      have h1 := h122o l n d hn
      rw [hpt] at h1
      simp -dsimp only [f1, hat, f0, f2, go_sem, ↓reduceIte, Nat.reduceEqDiff, Int.reduceLE, Int.reduceLT, Int.reduceNeg, Int.reduceEq, Nat.reduceMul, Nat.reduceAdd, Nat.reduceLeDiff, reduceCtorEq]
      refine Call_news (own := true) (h1) (by simp [ExpOk, AV.pure, cur, hup_at, List.idxOf?_cons, List.idxOf?_nil, obM, fl_len, ol_len, fl_pure, ol_pure, mkF_len, mkO_len, objs_l, objs_r, objs_p]) (by simp [obF, fl_pure, ol_pure]) (.inl rfl) (by simp [obF]) ?_
      simp -dsimp only [impA, impL, Option.getD_some, Nat.sub_self, obF, go_sem, ↓reduceIte, Nat.reduceEqDiff, Int.reduceLE, Int.reduceLT, Int.reduceNeg, Int.reduceEq, Nat.reduceMul, Nat.reduceAdd, Nat.reduceLeDiff, reduceCtorEq]
      refine Fin_one (obs := []) (.r 31 0) { ver := 2, es := fl (put l n d), esz := 2 } { ver := 1, es := fl (put l n d), esz := 2 } rfl (by simp only [hup_at, newObs, ↓reduceIte, Nat.reduceEqDiff, reduceCtorEq, Rid.r.injEq, Rid.l.injEq, Nat.reduceAdd, Nat.zero_add, and_self, and_true, and_false, false_and, true_and] <;> rfl) rfl (.inr (fl_flat _)) (fl_pure _) (fun k x hk => by simp at hk) ?_ ?_
      · simp [resV, upd_at, retA, retL, cur, hup_at, List.idxOf?_cons]
      · simp [resV, upd_at, ResOk, ResL, cur, hup_at]
    · have f1 : (k == 1) = false := by simp [k1]
      have ea : act l (k, n, t, d) = l := by simp [act, k1, hh]
      have eb : actB l (k, n, t, d) = false := by simp [actB, k1, hh]
      have ec : capA l (k, n, t, d) = none := by simp [capA, hh]
      rw [ea, eb, ec]
      simp -dsimp only [f1, hat, f0, f2, chunk, go_sem, ↓reduceIte, Nat.reduceEqDiff, Int.reduceLE, Int.reduceLT, Int.reduceNeg, Int.reduceEq, Nat.reduceMul, Nat.reduceAdd, Nat.reduceLeDiff, reduceCtorEq]
      refine EK_p (by simp [bigOk, fl_good, fl_len]; omega) ?_
      simp -dsimp only [List.nil_append, Nat.zero_add, fl_len, go_sem, ↓reduceIte, Nat.reduceEqDiff, Int.reduceLE, Int.reduceLT, Int.reduceNeg, Int.reduceEq, Nat.reduceMul, Nat.reduceAdd, Nat.reduceLeDiff, reduceCtorEq]
      refine Fin_one (obs := []) (.l 34) { ver := 3, es := fl l, esz := 2, own := NoDat [] ∧ Flat (fl l) } { ver := 1, es := fl l, esz := 2 } rfl (by simp only [hup_at, newObs, ↓reduceIte, Nat.reduceEqDiff, reduceCtorEq, Rid.r.injEq, Rid.l.injEq, Nat.reduceAdd, Nat.zero_add, and_self, and_true, and_false, false_and, true_and] <;> rfl) (by simp) (.inr (fl_flat _)) (fl_pure _) (fun k x hk => by simp at hk) ?_ ?_
      · simp [resV, upd_at, retA, retL, cur, hup_at, List.idxOf?_cons]
      · simp [resV, upd_at, ResOk, ResL, cur, hup_at]
  · have hlt := has_lt hh
    rw [if_pos hh] at hat
    have f0 : ((pos n l : Nat) : Int) ≥ 0 := by omega
    have f2 : ¬ ((pos n l : Nat) : Int) < 0 := by omega
    have ho : olda l n = (l.getD (pos n l) ([], [])).2 := by unfold olda; rw [hh]; rfl
    have hd2 := hb _ (getD_mem hlt)
    by_cases k1 : k = 1
    · have f1 : (k == 1) = true := by simp [k1]
      have ea : act l (k, n, t, d) = put l n (olda l n ++ d) := by simp [act, k1]
      have eb : actB l (k, n, t, d) = true := by simp [actB, k1]
      have ec : capA l (k, n, t, d) = none := by simp [capA, k1]
      rw [ea, eb, ec, ho]
      have h1 := h122o l n ((l.getD (pos n l) ([], [])).2 ++ d) hn
      rw [putR_eq n ((l.getD (pos n l) ([], [])).2 ++ d) l hs] at h1
      simp -dsimp only [f1, hat, f0, f2, fl_get hlt, go_sem, ↓reduceIte, Nat.reduceEqDiff, Int.reduceLE, Int.reduceLT, Int.reduceNeg, Int.reduceEq, Nat.reduceMul, Nat.reduceAdd, Nat.reduceLeDiff, reduceCtorEq]
      refine VK_p (by omega) ?_
      simp -dsimp only [go_sem, ↓reduceIte, Nat.reduceEqDiff, Int.reduceLE, Int.reduceLT, Int.reduceNeg, Int.reduceEq, Nat.reduceMul, Nat.reduceAdd, Nat.reduceLeDiff, reduceCtorEq]
      refine Call_news (own := true) (h1) (by simp [ExpOk, AV.pure, cur, hup_at, List.idxOf?_cons, List.idxOf?_nil, obM, fl_len, ol_len, fl_pure, ol_pure, mkF_len, mkO_len, objs_l, objs_r, objs_p]) (by simp [obF, fl_pure, ol_pure]) (.inl rfl) (by simp [obF]) ?_
      simp -dsimp only [impA, impL, Option.getD_some, Nat.sub_self, obF, go_sem, ↓reduceIte, Nat.reduceEqDiff, Int.reduceLE, Int.reduceLT, Int.reduceNeg, Int.reduceEq, Nat.reduceMul, Nat.reduceAdd, Nat.reduceLeDiff, reduceCtorEq]
      refine Fin_one (obs := []) (.r 31 0) { ver := 2, es := fl (put l n ((l.getD (pos n l) ([], [])).2 ++ d)), esz := 2 } { ver := 1, es := fl (put l n ((l.getD (pos n l) ([], [])).2 ++ d)), esz := 2 } rfl (by simp only [hup_at, newObs, ↓reduceIte, Nat.reduceEqDiff, reduceCtorEq, Rid.r.injEq, Rid.l.injEq, Nat.reduceAdd, Nat.zero_add, and_self, and_true, and_false, false_and, true_and] <;> rfl) rfl (.inr (fl_flat _)) (fl_pure _) (fun k x hk => by simp at hk) ?_ ?_
      · simp [resV, upd_at, retA, retL, cur, hup_at, List.idxOf?_cons]
      · simp [resV, upd_at, ResOk, ResL, cur, hup_at]
    · have f1 : (k == 1) = false := by simp [k1]
      have hs2 : Srt (cut l n) := by unfold cut; split <;> first | exact List.Pairwise.sublist (List.eraseIdx_sublist _ _) hs | exact hs
      have hcl : (cut l n).length ≤ l.length := by unfold cut; rw [if_pos hh, List.length_eraseIdx_of_lt hlt]; omega
      have eb : actB l (k, n, t, d) = true := by simp [actB, hh]
      by_cases k2 : k = 2
      · have g2 : (k == 2) = true := by simp [k2]
        have ea : act l (k, n, t, d) = put (cut l n) t (olda l n) := by simp [act, k2, hh]
        have ec : capA l (k, n, t, d) = none := by simp [capA, k2]
        rw [ea, eb, ec, ho]
        have h1 := h122o (cut l n) t (l.getD (pos n l) ([], [])).2 (by omega)
        rw [putR_eq t (l.getD (pos n l) ([], [])).2 (cut l n) hs2] at h1
        simp -dsimp only [f1, hat, f0, f2, fl_get hlt, go_sem, ↓reduceIte, Nat.reduceEqDiff, Int.reduceLE, Int.reduceLT, Int.reduceNeg, Int.reduceEq, Nat.reduceMul, Nat.reduceAdd, Nat.reduceLeDiff, reduceCtorEq]
        refine Call_val (own := true) (h123 l n hn) (by simp [ExpOk, AV.pure]) (.inl rfl) ?_
        simp -dsimp only [g2, hct, fl_get hlt, go_sem, ↓reduceIte, Nat.reduceEqDiff, Int.reduceLE, Int.reduceLT, Int.reduceNeg, Int.reduceEq, Nat.reduceMul, Nat.reduceAdd, Nat.reduceLeDiff, reduceCtorEq]
        refine Calln_of true (by simpa [expL, expA, cur, hup_at, List.idxOf?_cons, List.idxOf?_nil, obM, subF, subO, subFm, subOm, fl_len, ol_len, mkF_len, mkO_len, objs_l, objs_r, objs_p] using h1) (by simp [ExpOk, AV.pure, cur, hup_at, List.idxOf?_cons, List.idxOf?_nil, obM, fl_len, ol_len, fl_pure, ol_pure, mkF_len, mkO_len, objs_l, objs_r, objs_p]) (by simp [obF, fl_pure, ol_pure]) (by simp [obF]) (.inl rfl) (by intro j hj; simp [hup_at, newObs, objs_r, objs_l]) fun ν => ?_
        simp -dsimp only [impA, impL, Option.getD_some, Nat.sub_self, obF, go_sem, ↓reduceIte, Nat.reduceEqDiff, Int.reduceLE, Int.reduceLT, Int.reduceNeg, Int.reduceEq, Nat.reduceMul, Nat.reduceAdd, Nat.reduceLeDiff, reduceCtorEq]
        refine Fin_one (obs := []) (.r 52 0) { ver := ν, es := fl (put (cut l n) t (l.getD (pos n l) ([], [])).2), esz := 2 } { ver := 1, es := fl (put (cut l n) t (l.getD (pos n l) ([], [])).2), esz := 2 } rfl (by simp only [hup_at, newObs, ↓reduceIte, Nat.reduceEqDiff, reduceCtorEq, Rid.r.injEq, Rid.l.injEq, Nat.reduceAdd, Nat.zero_add, and_self, and_true, and_false, false_and, true_and] <;> rfl) rfl (.inr (fl_flat _)) (fl_pure _) (fun k x hk => by simp at hk) ?_ ?_
        · simp [resV, upd_at, retA, retL, cur, hup_at, List.idxOf?_cons]
        · simp [resV, upd_at, ResOk, ResL, cur, hup_at]
      · have g2 : (k == 2) = false := by simp [k2]
        have ea : act l (k, n, t, d) = cut l n := by simp [act, k1, k2, hh]
        have ec : capA l (k, n, t, d) = capF (cut l n) := by simp [capA, k1, k2, hh]
        rw [ea, eb, ec]
        have h1 := h123o l n hn
        rw [hct] at h1
        simp -dsimp only [f1, hat, f0, f2, fl_get hlt, go_sem, ↓reduceIte, Nat.reduceEqDiff, Int.reduceLE, Int.reduceLT, Int.reduceNeg, Int.reduceEq, Nat.reduceMul, Nat.reduceAdd, Nat.reduceLeDiff, reduceCtorEq]
        refine Call_news (own := true) (h1) (by simp [ExpOk, AV.pure, cur, hup_at, List.idxOf?_cons, List.idxOf?_nil, obM, fl_len, ol_len, fl_pure, ol_pure, mkF_len, mkO_len, objs_l, objs_r, objs_p]) (by simp [obF, fl_pure, ol_pure]) (.inl rfl) (by simp [obF]) ?_
        simp -dsimp only [g2, impA, impL, Option.getD_some, Nat.sub_self, obF, go_sem, ↓reduceIte, Nat.reduceEqDiff, Int.reduceLE, Int.reduceLT, Int.reduceNeg, Int.reduceEq, Nat.reduceMul, Nat.reduceAdd, Nat.reduceLeDiff, reduceCtorEq]
        refine Fin_one (obs := []) (.r 40 0) { ver := 2, es := fl (cut l n), esz := 2 } { ver := 1, es := fl (cut l n), esz := 2 } rfl (by simp only [hup_at, newObs, ↓reduceIte, Nat.reduceEqDiff, reduceCtorEq, Rid.r.injEq, Rid.l.injEq, Nat.reduceAdd, Nat.zero_add, and_self, and_true, and_false, false_and, true_and] <;> rfl) rfl (.inr (fl_flat _)) (fl_pure _) (fun k x hk => by simp at hk) ?_ ?_
        · simp [resV, upd_at, retA, retL, cur, hup_at, List.idxOf?_cons]
        · simp [resV, upd_at, ResOk, ResL, cur, hup_at]
end FrA

/-! DkOp -/
open Go Go.AM
namespace FrA
open Go.Proofs
set_option maxRecDepth 100000
set_option linter.unusedSimpArgs false
noncomputable def doCap (live : List File) (ops : List Dop) (op : Dop) : Option Nat := if doC live ops op = 0 then capA live op else none
noncomputable def doRc (live safe : List File) (ops : List Dop) (op : Dop) : AV := .tup [.agg [.sl (.p 0) 1 0 (doL live ops op).length (doCap live ops op), .sl (.p 1) 1 0 safe.length none, .sl (.p 2) 1 0 (doO live ops op).length none], i64 (doC live ops op)]
theorem h100o (live safe : List File) (ops : List Dop) (op : Dop) (hok : okP live) (hn2 : safe.length ≤ 1048576) (hn3 : ops.length ≤ 200) (hd : op.2.2.2.length ≤ 1000000000) : HT 100 [disk live safe ops, .agg (opC op)] [] (doRc live safe ops op) true (doOb live safe ops op) := by
  refine holdsc_of (c := Try.f100.body.getD .skip) (k := k100.1) (cs := [(4, some (true, 3)), (5, none)]) HOk mixedT hintT Try.func100 (by kernel_rfl) (by kernel_rfl) (by kernel_rfl) k100.2 (by kernel_rfl) (le_of 2 _ (by kernel_rfl)) ?_
  have hl := hok.1
  have d104 := h104 live safe ops (by omega) hn2 (by omega)
  have d84 := h84 op
  have d83 := h83o live op (ok_srt hok) (by omega) (fun f hf => by have := okP_le hok f hf; omega) (by omega)
  have hal := act_len live op
  have habd : ∀ f ∈ act live op, f.2.length ≤ 1099511627776 := fun f hf => by have := act_le (okP_le hok) hd f hf; omega
  have d82 := h82 (act live op) habd
  have ec : opC op = [.i .i64 op.1, .s op.2.1, .s op.2.2.1, .s op.2.2.2] := rfl
  have p104 : ∀ x ∈ [obF live, obF safe, obO ops], Pure x.es := by simp [obF, fl_pure, obO, ol_pure]
  rw [ec] at d84 d83 ⊢
  unfold disk at d104 ⊢
  have hsub : ∀ l : List File, sub (fl l) 0 l.length = fl l := fun l => sub_all (fl_len l).symm
  have hsubo : ∀ l : List Dop, sub (ol l) 0 l.length = ol l := fun l => sub_all (ol_len l).symm
  have bad : ∀ (t u : Nat) (c : Int) (g : Slots) (h : Heap), doC live ops op = c → c ≠ 0 → h (.l 4) = some { ver := 3, es := [[.sl (.r t 0) u 0 live.length none, .sl (.r t 1) u 0 safe.length none, .sl (.r t 2) u 0 ops.length none]], esz := 3, own := False, fixed := true } → g 4 = .ptr (.l 4) 3 0 0 → g 5 = i64 c →
      h (.r t 0) = some { ver := u, es := fl live, esz := 2, own := True } → h (.r t 1) = some { ver := u, es := fl safe, esz := 2, own := True } → h (.r t 2) = some { ver := u, es := ol ops, esz := 4, own := True } →
      FinC [(4, some (true, 3)), (5, none)] [] true (fun r' o' => r' = doRc live safe ops op ∧ o' = doOb live safe ops op) .ret g h 0 := by
    intro t u c g h hc h0 m4 g4 g5 o0 o1 o2
    obtain ⟨e1, e2⟩ := do_bad hc h0
    unfold doRc doOb doCap
    rw [e1, e2, hc, if_neg h0]
    refine finC_outs [.r t 0, .r t 1, .r t 2] (p := True) (l := [.agg [.sl (.r t 0) u 0 live.length none, .sl (.r t 1) u 0 safe.length none, .sl (.r t 2) u 0 ops.length none], i64 c]) (by simp [resM, resE, g4, g5, loadF, cur, m4, yes]) trivial (by simp) (by simp [Rid.isP]) ?_ ?_ ?_
    · exact .flat o0 (fl_flat _) (fl_pure _) (.flat o1 (fl_flat _) (fl_pure _) (.flat o2 (ol_flat _) (ol_pure _) trivial))
    · simp [resOne, retA, retL, cur, o0, o1, o2, List.idxOf?_cons, copyA]
    · simp [resOne, ResOk, ResL, cur, o0, o1, o2]
  simp -dsimp only [k100, go_sem, ↓reduceIte, Nat.reduceEqDiff, Int.reduceLE, Int.reduceLT, Int.reduceNeg, Int.reduceEq, Nat.reduceMul, Nat.reduceAdd, Nat.reduceLeDiff, reduceCtorEq]
  refine Call_val (own := true) (d84) (by simp [ExpOk, AV.pure]) (.inl rfl) ?_
  cases ef : form op
  · simp -dsimp only [go_sem, ↓reduceIte, Nat.reduceEqDiff, Int.reduceLE, Int.reduceLT, Int.reduceNeg, Int.reduceEq, Nat.reduceMul, Nat.reduceAdd, Nat.reduceLeDiff, reduceCtorEq]
    refine Call_news (own := true) d104 (by simp [ExpOk, AV.pure]) p104 (.inl rfl) (by simp [obF, obO]) ?_
    simp -dsimp only [copyA, impA, impL, Option.getD_some, Nat.sub_self, Nat.sub_zero, obF, obO, go_sem, ↓reduceIte, Nat.reduceEqDiff, Int.reduceLE, Int.reduceLT, Int.reduceNeg, Int.reduceEq, Nat.reduceMul, Nat.reduceAdd, Nat.reduceLeDiff, reduceCtorEq]
    exact bad 13 4 2 _ _ (by unfold doC; rw [ef]; rfl) (by decide) (by simp only [hup_at, newObs, ↓reduceIte, Nat.reduceEqDiff, reduceCtorEq, Rid.r.injEq, Rid.l.injEq, Nat.reduceAdd, Nat.zero_add, and_self, and_true, and_false, false_and, true_and] <;> rfl) (by simp [upd_at]) (by simp [upd_at]) (by simp only [hup_at, newObs, ↓reduceIte, Nat.reduceEqDiff, reduceCtorEq, Rid.r.injEq, Rid.l.injEq, Nat.reduceAdd, Nat.zero_add, and_self, and_true, and_false, false_and, true_and] <;> rfl) (by simp only [hup_at, newObs, ↓reduceIte, Nat.reduceEqDiff, reduceCtorEq, Rid.r.injEq, Rid.l.injEq, Nat.reduceAdd, Nat.zero_add, and_self, and_true, and_false, false_and, true_and] <;> rfl) (by simp only [hup_at, newObs, ↓reduceIte, Nat.reduceEqDiff, reduceCtorEq, Rid.r.injEq, Rid.l.injEq, Nat.reduceAdd, Nat.zero_add, and_self, and_true, and_false, false_and, true_and] <;> rfl)
  simp -dsimp only [go_sem, ↓reduceIte, Nat.reduceEqDiff, Int.reduceLE, Int.reduceLT, Int.reduceNeg, Int.reduceEq, Nat.reduceMul, Nat.reduceAdd, Nat.reduceLeDiff, reduceCtorEq]
  refine Call_news (own := true) (d83) (by simp [ExpOk, AV.pure, cur, hup_at, List.idxOf?_cons, List.idxOf?_nil, obM, fl_len, ol_len, fl_pure, ol_pure, mkF_len, mkO_len, objs_l, objs_r, objs_p]) (by simp [obF, fl_pure, ol_pure]) (.inl rfl) (by simp [obF]) ?_
  simp -dsimp only [impA, impL, Option.getD_some, Nat.sub_self, obF, go_sem, ↓reduceIte, Nat.reduceEqDiff, Int.reduceLE, Int.reduceLT, Int.reduceNeg, Int.reduceEq, Nat.reduceMul, Nat.reduceAdd, Nat.reduceLeDiff, reduceCtorEq]
  cases eb : actB live op
  · simp -dsimp only [go_sem, ↓reduceIte, Nat.reduceEqDiff, Int.reduceLE, Int.reduceLT, Int.reduceNeg, Int.reduceEq, Nat.reduceMul, Nat.reduceAdd, Nat.reduceLeDiff, reduceCtorEq]
    refine Call_news (own := true) d104 (by simp [ExpOk, AV.pure]) p104 (.inl rfl) (by simp [obF, obO]) ?_
    simp -dsimp only [copyA, impA, impL, Option.getD_some, Nat.sub_self, Nat.sub_zero, obF, obO, go_sem, ↓reduceIte, Nat.reduceEqDiff, Int.reduceLE, Int.reduceLT, Int.reduceNeg, Int.reduceEq, Nat.reduceMul, Nat.reduceAdd, Nat.reduceLeDiff, reduceCtorEq]
    exact bad 24 5 3 _ _ (by unfold doC; rw [ef, eb]; rfl) (by decide) (by simp only [hup_at, newObs, ↓reduceIte, Nat.reduceEqDiff, reduceCtorEq, Rid.r.injEq, Rid.l.injEq, Nat.reduceAdd, Nat.zero_add, and_self, and_true, and_false, false_and, true_and] <;> rfl) (by simp [upd_at]) (by simp [upd_at]) (by simp only [hup_at, newObs, ↓reduceIte, Nat.reduceEqDiff, reduceCtorEq, Rid.r.injEq, Rid.l.injEq, Nat.reduceAdd, Nat.zero_add, and_self, and_true, and_false, false_and, true_and] <;> rfl) (by simp only [hup_at, newObs, ↓reduceIte, Nat.reduceEqDiff, reduceCtorEq, Rid.r.injEq, Rid.l.injEq, Nat.reduceAdd, Nat.zero_add, and_self, and_true, and_false, false_and, true_and] <;> rfl) (by simp only [hup_at, newObs, ↓reduceIte, Nat.reduceEqDiff, reduceCtorEq, Rid.r.injEq, Rid.l.injEq, Nat.reduceAdd, Nat.zero_add, and_self, and_true, and_false, false_and, true_and] <;> rfl)
  by_cases h200 : ops.length = 200
  · have f200 : ((ops.length : Int) == 200) = true := by simp; omega
    simp -dsimp only [ol_len, f200, go_sem, ↓reduceIte, Nat.reduceEqDiff, Int.reduceLE, Int.reduceLT, Int.reduceNeg, Int.reduceEq, Nat.reduceMul, Nat.reduceAdd, Nat.reduceLeDiff, reduceCtorEq]
    refine Call_news (own := true) d104 (by simp [ExpOk, AV.pure]) p104 (.inl rfl) (by simp [obF, obO]) ?_
    simp -dsimp only [copyA, impA, impL, Option.getD_some, Nat.sub_self, Nat.sub_zero, obF, obO, go_sem, ↓reduceIte, Nat.reduceEqDiff, Int.reduceLE, Int.reduceLT, Int.reduceNeg, Int.reduceEq, Nat.reduceMul, Nat.reduceAdd, Nat.reduceLeDiff, reduceCtorEq]
    exact bad 35 5 4 _ _ (by unfold doC; rw [ef, eb, if_neg (by simp), if_neg (by simp), if_pos (.inl h200)]) (by decide) (by simp only [hup_at, newObs, ↓reduceIte, Nat.reduceEqDiff, reduceCtorEq, Rid.r.injEq, Rid.l.injEq, Nat.reduceAdd, Nat.zero_add, and_self, and_true, and_false, false_and, true_and] <;> rfl) (by simp [upd_at]) (by simp [upd_at]) (by simp only [hup_at, newObs, ↓reduceIte, Nat.reduceEqDiff, reduceCtorEq, Rid.r.injEq, Rid.l.injEq, Nat.reduceAdd, Nat.zero_add, and_self, and_true, and_false, false_and, true_and] <;> rfl) (by simp only [hup_at, newObs, ↓reduceIte, Nat.reduceEqDiff, reduceCtorEq, Rid.r.injEq, Rid.l.injEq, Nat.reduceAdd, Nat.zero_add, and_self, and_true, and_false, false_and, true_and] <;> rfl) (by simp only [hup_at, newObs, ↓reduceIte, Nat.reduceEqDiff, reduceCtorEq, Rid.r.injEq, Rid.l.injEq, Nat.reduceAdd, Nat.zero_add, and_self, and_true, and_false, false_and, true_and] <;> rfl)
  have f200 : ((ops.length : Int) == 200) = false := by simp; omega
  simp -dsimp only [ol_len, f200, go_sem, ↓reduceIte, Nat.reduceEqDiff, Int.reduceLE, Int.reduceLT, Int.reduceNeg, Int.reduceEq, Nat.reduceMul, Nat.reduceAdd, Nat.reduceLeDiff, reduceCtorEq]
  refine Call_val (own := true) (v := .b (okF (act live op))) (by simpa [expL, expA, cur, hup_at, List.idxOf?_cons, List.idxOf?_nil, obM, subF, subO, subFm, subOm, fl_len, ol_len, mkF_len, mkO_len, objs_l, objs_r, objs_p] using d82) (by simp [ExpOk, AV.pure, cur, hup_at, List.idxOf?_cons, List.idxOf?_nil, obM, fl_len, ol_len, fl_pure, ol_pure, mkF_len, mkO_len, objs_l, objs_r, objs_p]) (.inl rfl) ?_
  cases ea : okF (act live op)
  · simp -dsimp only [go_sem, ↓reduceIte, Nat.reduceEqDiff, Int.reduceLE, Int.reduceLT, Int.reduceNeg, Int.reduceEq, Nat.reduceMul, Nat.reduceAdd, Nat.reduceLeDiff, reduceCtorEq]
    refine Call_news (own := true) d104 (by simp [ExpOk, AV.pure]) p104 (.inl rfl) (by simp [obF, obO]) ?_
    simp -dsimp only [copyA, impA, impL, Option.getD_some, Nat.sub_self, Nat.sub_zero, obF, obO, go_sem, ↓reduceIte, Nat.reduceEqDiff, Int.reduceLE, Int.reduceLT, Int.reduceNeg, Int.reduceEq, Nat.reduceMul, Nat.reduceAdd, Nat.reduceLeDiff, reduceCtorEq]
    exact bad 35 5 4 _ _ (by unfold doC; rw [ef, eb, if_neg (by simp), if_neg (by simp), if_pos (.inr ea)]) (by decide) (by simp only [hup_at, newObs, ↓reduceIte, Nat.reduceEqDiff, reduceCtorEq, Rid.r.injEq, Rid.l.injEq, Nat.reduceAdd, Nat.zero_add, and_self, and_true, and_false, false_and, true_and] <;> rfl) (by simp [upd_at]) (by simp [upd_at]) (by simp only [hup_at, newObs, ↓reduceIte, Nat.reduceEqDiff, reduceCtorEq, Rid.r.injEq, Rid.l.injEq, Nat.reduceAdd, Nat.zero_add, and_self, and_true, and_false, false_and, true_and] <;> rfl) (by simp only [hup_at, newObs, ↓reduceIte, Nat.reduceEqDiff, reduceCtorEq, Rid.r.injEq, Rid.l.injEq, Nat.reduceAdd, Nat.zero_add, and_self, and_true, and_false, false_and, true_and] <;> rfl) (by simp only [hup_at, newObs, ↓reduceIte, Nat.reduceEqDiff, reduceCtorEq, Rid.r.injEq, Rid.l.injEq, Nat.reduceAdd, Nat.zero_add, and_self, and_true, and_false, false_and, true_and] <;> rfl)
  have hc : doC live ops op = 0 := by unfold doC; rw [ef, eb, ea, if_neg (by simp), if_neg (by simp), if_neg (by simp [h200])]
  have hL : doL live ops op = act live op := by unfold doL; rw [if_pos hc]
  have hO : doO live ops op = ops ++ [op] := by unfold doO; rw [if_pos hc]
  simp -dsimp only [go_sem, ↓reduceIte, Nat.reduceEqDiff, Int.reduceLE, Int.reduceLT, Int.reduceNeg, Int.reduceEq, Nat.reduceMul, Nat.reduceAdd, Nat.reduceLeDiff, reduceCtorEq]
  refine Call_news (own := true) d104 (by simp [ExpOk, AV.pure]) p104 (.inl rfl) (by simp [obF, obO]) ?_
  have gw : Good [[AV.i .i64 op.1, .s op.2.1, .s op.2.2.1, .s op.2.2.2]] 4 := by have := ol_good [op]; exact this
  have fw : Flat [[AV.i .i64 op.1, .s op.2.1, .s op.2.2.1, .s op.2.2.2]] := by have := ol_flat [op]; exact this
  have sn : ol ops ++ [[AV.i .i64 op.1, .s op.2.1, .s op.2.2.1, .s op.2.2.2]] = ol (ops ++ [op]) := ol_snoc ops op
  simp -dsimp only [copyA, impA, impL, Option.getD_some, Nat.sub_self, Nat.sub_zero, obF, obO, chunk, ol_len, sn, go_sem, ↓reduceIte, Nat.reduceEqDiff, Int.reduceLE, Int.reduceLT, Int.reduceNeg, Int.reduceEq, Nat.reduceMul, Nat.reduceAdd, Nat.reduceLeDiff, reduceCtorEq]
  refine EK_p ⟨⟨fun _ => fw, gw⟩, by unfold bigOk; omega, by omega⟩ ?_
  simp -dsimp only [go_sem, ↓reduceIte, Nat.reduceEqDiff, Int.reduceLE, Int.reduceLT, Int.reduceNeg, Int.reduceEq, Nat.reduceMul, Nat.reduceAdd, Nat.reduceLeDiff, reduceCtorEq]
  unfold doRc doOb doCap
  rw [hL, hO, hc, if_pos rfl]
  refine finC_outs [.r 18 0, .r 37 1, .r 37 2] (p := True) (l := [.agg [.sl (.r 18 0) 4 0 (act live op).length (capA live op), .sl (.r 37 1) 5 0 safe.length none, .sl (.r 37 2) 8 0 (ops.length + 1) none], i64 0]) (by simp [resM, resE, upd_at, loadF, cur, hup_at, yes, fl_len]) trivial (by simp) (by simp [Rid.isP]) ?_ ?_ ?_
  · exact .flat (by simp only [hup_at, newObs, ↓reduceIte, Nat.reduceEqDiff, reduceCtorEq, Rid.r.injEq, Rid.l.injEq, Nat.reduceAdd, Nat.zero_add, and_self, and_true, and_false, false_and, true_and] <;> rfl) (fl_flat _) (fl_pure _) (.flat (by simp only [hup_at, newObs, ↓reduceIte, Nat.reduceEqDiff, reduceCtorEq, Rid.r.injEq, Rid.l.injEq, Nat.reduceAdd, Nat.zero_add, and_self, and_true, and_false, false_and, true_and] <;> rfl) (fl_flat _) (fl_pure _) (.flat (by simp only [hup_at, newObs, ↓reduceIte, Nat.reduceEqDiff, reduceCtorEq, Rid.r.injEq, Rid.l.injEq, Nat.reduceAdd, Nat.zero_add, and_self, and_true, and_false, false_and, true_and] <;> rfl) (ol_flat _) (ol_pure _) trivial))
  · simp [resOne, retA, retL, cur, hup_at, List.idxOf?_cons]
  · simp [resOne, ResOk, ResL, cur, hup_at]
theorem h47o (live safe : List File) (ops : List Dop) (op : Dop) (hl : BdF live) (hsf : BdF safe) (ho : BdO ops) (hop : op.2.2.2.length ≤ 1000000000) (hd : diskB live safe ops = true) : HT 47 [disk live safe ops, .agg (opC op)] [] (doRc live safe ops op) true (doOb live safe ops op) := by
  refine holdsc_of (c := Try.f47.body.getD .skip) (k := k47.1) (cs := [(4, some (true, 3)), (5, none)]) HOk mixedT hintT Try.func47 (by kernel_rfl) (by kernel_rfl) (by kernel_rfl) k47.2 (by kernel_rfl) (le_of 2 _ (by kernel_rfl)) ?_
  have d36 := h36 live safe ops hl hsf ho
  obtain ⟨q1, q2, q3⟩ := diskB_ok hd
  have d100 := h100o live safe ops op q1 hsf.1 q3 hop
  rw [hd] at d36
  have ec : opC op = [.i .i64 op.1, .s op.2.1, .s op.2.2.1, .s op.2.2.2] := rfl
  have pp := doOb_p live safe ops op
  rw [ec] at d100 ⊢
  unfold doOb at d100 pp ⊢
  unfold disk at d36 d100 ⊢
  simp -dsimp only [k47, go_sem, ↓reduceIte, Nat.reduceEqDiff, Int.reduceLE, Int.reduceLT, Int.reduceNeg, Int.reduceEq, Nat.reduceMul, Nat.reduceAdd, Nat.reduceLeDiff, reduceCtorEq]
  refine Call_val (own := true) (d36) (by simp [ExpOk, AV.pure]) (.inl rfl) ?_
  simp -dsimp only [go_sem, ↓reduceIte, Nat.reduceEqDiff, Int.reduceLE, Int.reduceLT, Int.reduceNeg, Int.reduceEq, Nat.reduceMul, Nat.reduceAdd, Nat.reduceLeDiff, reduceCtorEq]
  refine Call_news (own := true) d100 (by simp [ExpOk, AV.pure]) pp (.inl rfl) (by simp [obF, obO]) ?_
  simp -dsimp only [doRc, impA, impL, Option.getD_some, Nat.sub_self, Nat.sub_zero, obF, obO, go_sem, ↓reduceIte, Nat.reduceEqDiff, Int.reduceLE, Int.reduceLT, Int.reduceNeg, Int.reduceEq, Nat.reduceMul, Nat.reduceAdd, Nat.reduceLeDiff, reduceCtorEq]
  refine finC_outs [.r 12 0, .r 12 1, .r 12 2] (p := True) (l := [.agg [.sl (.r 12 0) 4 0 (doL live ops op).length (doCap live ops op), .sl (.r 12 1) 4 0 safe.length none, .sl (.r 12 2) 4 0 (doO live ops op).length none], i64 (doC live ops op)]) (by simp [resM, resE, upd_at, loadF, cur, hup_at, yes, fl_len]) trivial (by simp) (by simp [Rid.isP]) ?_ ?_ ?_
  · exact .flat (by simp only [hup_at, newObs, ↓reduceIte, Nat.reduceEqDiff, reduceCtorEq, Rid.r.injEq, Rid.l.injEq, Nat.reduceAdd, Nat.zero_add, and_self, and_true, and_false, false_and, true_and] <;> rfl) (fl_flat _) (fl_pure _) (.flat (by simp only [hup_at, newObs, ↓reduceIte, Nat.reduceEqDiff, reduceCtorEq, Rid.r.injEq, Rid.l.injEq, Nat.reduceAdd, Nat.zero_add, and_self, and_true, and_false, false_and, true_and] <;> rfl) (fl_flat _) (fl_pure _) (.flat (by simp only [hup_at, newObs, ↓reduceIte, Nat.reduceEqDiff, reduceCtorEq, Rid.r.injEq, Rid.l.injEq, Nat.reduceAdd, Nat.zero_add, and_self, and_true, and_false, false_and, true_and] <;> rfl) (ol_flat _) (ol_pure _) trivial))
  · simp [resOne, retA, retL, cur, hup_at, List.idxOf?_cons]
  · simp [resOne, ResOk, ResL, cur, hup_at]
end FrA

/-! RdC -/
open Go Go.AM
namespace FrA
open Go.Proofs
set_option maxRecDepth 100000
set_option linter.unusedSimpArgs false
/-- A disk's rows, under names of their own. -/
structure StAt (h : Heap) (L S : List File) (O : List Dop) (a b c : AV) : Prop where
  a : RowAt h 0 2 (fl L) a
  b : RowAt h 1 2 (fl S) b
  c : RowAt h 2 4 (ol O) c
theorem StAt.mono {h h' : Heap} {L S : List File} {O : List Dop} {a b c : AV} (r : StAt h L S O a b c) (e : ∀ k, h' (.r 1000 k) = h (.r 1000 k)) : StAt h' L S O a b c := ⟨r.a.mono (e 0), r.b.mono (e 1), r.c.mono (e 2)⟩
theorem le_disk {xa xb xc : AV} {L S : List File} {O : List Dop} (ha : Le xa (.dat 2 (fl L))) (hb : Le xb (.dat 2 (fl S))) (hc : Le xc (.dat 4 (ol O))) : Le (.agg [xa, xb, xc]) (disk L S O) :=
  .agg _ _ rfl fun j x y hx hy => by
    match j, hx, hy with
    | 0, hx, hy => simp at hx hy; subst hx; subst hy; exact ha
    | 1, hx, hy => simp at hx hy; subst hx; subst hy; exact hb
    | 2, hx, hy => simp at hx hy; subst hx; subst hy; exact hc
theorem row_exp {h : Heap} {k z : Nat} {es : List (List AV)} {a : AV} (r : RowAt h k z es a) : ∃ x, expA h [] a = x ∧ (∀ n, retA h [] n a = x) ∧ Le x (.dat z es) := by
  rcases r with ⟨rfl, rfl⟩ | ⟨u, cap, q, rfl, h2⟩
  · exact ⟨.nils, rfl, fun _ => rfl, .nils z⟩
  · have hs : sub es 0 es.length = es := sub_all rfl
    exact ⟨.dat z es, by simp [expA, cur, h2, List.idxOf?, hs], fun n => by simp [retA, cur, h2, List.idxOf?, hs], .refl _⟩
theorem row_ok {h : Heap} {k z : Nat} {es : List (List AV)} {a : AV} (r : RowAt h k z es a) (hp : AM.Pure es) : ResOk h [] false a := by
  rcases r with ⟨rfl, rfl⟩ | ⟨u, cap, q, rfl, h2⟩
  · trivial
  · simp [ResOk, cur, h2, hp, Rid.isP]
theorem st_exp {h : Heap} {L S : List File} {O : List Dop} {a b c : AV} (r : StAt h L S O a b c) : ∃ xs, expA h [] (.agg [a, b, c]) = .agg xs ∧ (∀ n, retA h [] n (.agg [a, b, c]) = .agg xs) ∧ Le (.agg xs) (disk L S O) ∧ ExpOk h [] (.agg [a, b, c]) ∧ ResOk h [] false (.agg [a, b, c]) := by
  obtain ⟨xa, a1, a2, a3⟩ := row_exp r.a
  obtain ⟨xb, b1, b2, b3⟩ := row_exp r.b
  obtain ⟨xc, c1, c2, c3⟩ := row_exp r.c
  refine ⟨[xa, xb, xc], by simp [expA, expL, a1, b1, c1], fun n => by simp [retA, retL, a2, b2, c2], le_disk a3 b3 c3, ?_, ?_⟩
  · have ha := r.a; have hb := r.b; have hc := r.c
    rcases ha with ⟨rfl, ea⟩ | ⟨ua, ca, qa, rfl, ha⟩ <;> rcases hb with ⟨rfl, eb⟩ | ⟨ub, cb, qb, rfl, hb⟩ <;> rcases hc with ⟨rfl, ec⟩ | ⟨uc, cc, qc, rfl, hc⟩ <;> simp [ExpOk, cur, List.idxOf?, AV.pure, fl_pure, ol_pure, *]
  · simp [ResOk, ResL, row_ok r.a (fl_pure _), row_ok r.b (fl_pure _), row_ok r.c (ol_pure _)]
/-- The rows that a call gave back get names of their own. -/
theorem st_ren2 {g : Slots} {h : Heap} {c t v : Nat} {L S : List File} {ob : Ob} {c0 c1 : Option Nat} {p0 p1 : Prop} {x : AV} (ht : t ≠ 1000) (ho : h (.l 3) = some ob) (hes : ob.es = [[.sl (.r t 0) v 0 L.length c0, .sl (.r t 1) v 0 S.length c1, x]])
    (h0 : h (.r t 0) = some { ver := v, es := fl L, esz := 2, own := p0 }) (h1 : h (.r t 1) = some { ver := v, es := fl S, esz := 2, own := p1 }) :
    ∃ h' a b, Gh g h c g h' (c + 1 + 1) ∧ h' (.l 3) = some { ob with es := [[a, b, x]] } ∧ RowAt h' 0 2 (fl L) a ∧ RowAt h' 1 2 (fl S) b ∧ ∀ u, u ≠ .l 3 → u ≠ .r 1000 0 → u ≠ .r 1000 1 → u ≠ .r t 0 → u ≠ .r t 1 → h' u = h u := by
  obtain ⟨ha, g1, a1, a2, a3⟩ := gh_row (g := g) (c := c) (n := .r t 0) 0 0 L.length c0 ho hes rfl h0 (by simp) (by simp [ht]) (by simp)
  obtain ⟨hb, g2, b1, b2, b3⟩ := gh_row (g := g) (c := c + 1) (n := .r t 1) (bn := { ver := v, es := fl S, esz := 2, own := p1 }) 1 1 S.length c1 a1 rfl rfl (by rw [a3 _ (by simp) (by simp [ht]) (by simp)]; exact h1) (by simp) (by simp [ht]) (by simp)
  refine ⟨hb, _, _, .trans g1 g2, b1, .inr ⟨c, c0, p0, by rw [fl_len], ?_⟩, .inr ⟨c + 1, c1, p1, by rw [fl_len], b2⟩, fun u q1 q2 q3 q4 q5 => ?_⟩
  · rw [b3 _ (by simp) (by simp) (by simp [Ne.symm ht])]; exact a2
  · rw [b3 u q1 q3 q5, a3 u q1 q2 q4]
theorem st_ren3 {g : Slots} {h : Heap} {c t v : Nat} {L S : List File} {O : List Dop} {ob : Ob} {c0 c1 c2 : Option Nat} {p0 p1 p2 : Prop} (ht : t ≠ 1000) (ho : h (.l 3) = some ob) (hes : ob.es = [[.sl (.r t 0) v 0 L.length c0, .sl (.r t 1) v 0 S.length c1, .sl (.r t 2) v 0 O.length c2]])
    (h0 : h (.r t 0) = some { ver := v, es := fl L, esz := 2, own := p0 }) (h1 : h (.r t 1) = some { ver := v, es := fl S, esz := 2, own := p1 }) (h2 : h (.r t 2) = some { ver := v, es := ol O, esz := 4, own := p2 }) :
    ∃ h' a b d, Gh g h c g h' (c + 1 + 1 + 1) ∧ h' (.l 3) = some { ob with es := [[a, b, d]] } ∧ StAt h' L S O a b d ∧ ∀ u, u ≠ .l 3 → (∀ k, u ≠ .r 1000 k) → (∀ k, u ≠ .r t k) → h' u = h u := by
  obtain ⟨hb, a, b, g1, a1, a2, a3, a4⟩ := st_ren2 (g := g) (c := c) ht ho hes h0 h1
  obtain ⟨hd, g2, b1, b2, b3⟩ := gh_row (g := g) (c := c + 1 + 1) (n := .r t 2) (bn := { ver := v, es := ol O, esz := 4, own := p2 }) 2 2 O.length c2 a1 rfl rfl (by rw [a4 _ (by simp) (by simp [ht]) (by simp [ht]) (by simp) (by simp)]; exact h2) (by simp) (by simp [ht]) (by simp)
  refine ⟨hd, _, _, _, .trans g1 g2, b1, ⟨a2.mono ?_, a3.mono ?_, .inr ⟨c + 1 + 1, c2, p2, by rw [ol_len], b2⟩⟩, fun u q1 q2 q3 => ?_⟩
  · exact b3 _ (by simp) (by simp) (by simp [Ne.symm ht])
  · exact b3 _ (by simp) (by simp) (by simp [Ne.symm ht])
  · rw [b3 u q1 (q2 2) (q3 2), a4 u q1 (q2 0) (q2 1) (q3 0) (q3 1)]
section
variable {C : Con} {s : Stk} {g : Slots} {h : Heap} {c : Nat} {r m : List KOp}
theorem Gh_ren2 {t v : Nat} {L S : List File} {x : AV} {c0 c1 : Option Nat} {p0 p1 : Prop} (ob : Ob) (ht : t ≠ 1000) (ho : h (.l 3) = some ob) (hes : ob.es = [[.sl (.r t 0) v 0 L.length c0, .sl (.r t 1) v 0 S.length c1, x]])
    (h0 : h (.r t 0) = some { ver := v, es := fl L, esz := 2, own := p0 }) (h1 : h (.r t 1) = some { ver := v, es := fl S, esz := 2, own := p1 })
    (hq : ∀ h' a b, h' (.l 3) = some { ob with es := [[a, b, x]] } → RowAt h' 0 2 (fl L) a → RowAt h' 1 2 (fl S) b → (∀ u, u ≠ .l 3 → u ≠ .r 1000 0 → u ≠ .r 1000 1 → u ≠ .r t 0 → u ≠ .r t 1 → h' u = h u) → RunD C r m s g h' (c + 1 + 1)) : GhK C r m s g h c := by
  obtain ⟨h', a, b, g1, q1, q2, q3, q4⟩ := st_ren2 (g := g) (c := c) ht ho hes h0 h1
  exact Gh_of g1 (hq h' a b q1 q2 q3 q4)
theorem Gh_ren3 {t v : Nat} {L S : List File} {O : List Dop} {c0 c1 c2 : Option Nat} {p0 p1 p2 : Prop} (ob : Ob) (ht : t ≠ 1000) (ho : h (.l 3) = some ob) (hes : ob.es = [[.sl (.r t 0) v 0 L.length c0, .sl (.r t 1) v 0 S.length c1, .sl (.r t 2) v 0 O.length c2]])
    (h0 : h (.r t 0) = some { ver := v, es := fl L, esz := 2, own := p0 }) (h1 : h (.r t 1) = some { ver := v, es := fl S, esz := 2, own := p1 }) (h2 : h (.r t 2) = some { ver := v, es := ol O, esz := 4, own := p2 })
    (hq : ∀ h' a b d, h' (.l 3) = some { ob with es := [[a, b, d]] } → StAt h' L S O a b d → (∀ u, u ≠ .l 3 → (∀ k, u ≠ .r 1000 k) → (∀ k, u ≠ .r t k) → h' u = h u) → RunD C r m s g h' (c + 1 + 1 + 1)) : GhK C r m s g h c := by
  obtain ⟨h', a, b, d, g1, q1, q2, q3⟩ := st_ren3 (g := g) (c := c) ht ho hes h0 h1 h2
  exact Gh_of g1 (hq h' a b d q1 q2 q3)
end
end FrA

