/- Inverse, a range over slices.Backward: walked. No condition. -/
import Derived.Test.YtpiegccohgdkdaaAmCv2
import Derived.Test.YtpiegccohgdkdaaAmRg1
set_option linter.all false
set_option linter.unusedSimpArgs false
set_option linter.unusedVariables false
set_option linter.deprecated false
/-! CvF -/
open Go Go.AM
namespace FrA
open Go.Proofs
open Go.AM.L
set_option maxRecDepth 100000
set_option linter.unusedSimpArgs false
theorem hx72 (es : List (List AV)) (h : Heap) (clk : Nat) (Q : AV → Heap → Nat → Prop) (hq : Q (.fn 114 [.ptr (.l 1) clk 0 0]) (hup h (.l 1) { ver := clk, es := [[.dat 4 es]], esz := 1, own := False, fixed := true }) (clk + 1)) : HC.x 72 [.dat 4 es] h clk Q := by
  refine holdsx_of (c := Try.f72.body.getD .skip) (k := k72.1) (ts := [2]) HOk mixedT hintT Try.func72 (by kernel_rfl) (by kernel_rfl) (by kernel_rfl) k72.2 (by kernel_rfl) (le_of 1 _ (by kernel_rfl)) ?_
  simp -dsimp only [k72, go_sem, ↓reduceIte, Nat.reduceEqDiff, Int.reduceLE, Int.reduceLT, Int.reduceNeg, Int.reduceEq, Nat.reduceMul, Nat.reduceAdd, Nat.reduceLeDiff, reduceCtorEq]
  exact hq
noncomputable abbrev c30 : Code := Try.f30.body.getD .skip
def kA30 : K := R [G, o 5 (.alloc [.i .i64 0, .i .i64 0, .nils, .nils]), x (.store 4 (.t 5) (.t 10))]
def kB30 : K := .block 1 (D [o 11 (.load false 1 (.t 3)), o 12 (.fld 0 (.t 5)), o 13 (.load false 1 (.t 12)), o 14 (.fld 1 (.t 5)), o 15 (.load false 1 (.t 14)), o 16 (.fld 3 (.t 5)), o 17 (.load false 1 (.t 16)), o 18 (.callc 73 [.t 17]), o 19 (.fld 2 (.t 5)), o 20 (.load false 1 (.t 19)), o 21 (.callc 73 [.t 20]),
  o 22 (.build [.i .i64 0, .i .i64 0, .nils, .nils] [(0, 1, .t 13), (1, 1, .t 15), (2, 1, .t 18), (3, 1, .t 21)]), o 23 (.mk4 (.bslice 4 1 [.i .i64 0, .i .i64 0, .nils, .nils] [(0, .t 22)])), o 24 (.mk4 (.app 4 64 [.i .i64 0, .i .i64 0, .nils, .nils] (.t 11) (.t 23))), x (.store 1 (.t 3) (.t 24))]
  [[], [], [1], [], [3], [], [5], [6], [], [8], [9, 7], [2, 4, 7, 10], [11], [0, 12, 10], [13, 13, 0, 1, 2, 3, 4, 5, 6, 7, 8, 9, 10, 11, 12, 13]])
def kP0 : K := R [o 2 (.mv (.c .nils))]
def kP1 : K := R [o 6 (.bslice 4 0 [.i .i64 0, .i .i64 0, .nils, .nils] []), o 3 (.alloc [.nils]), x (.store 1 (.t 3) (.t 6))]
def kP2 : K := R [m 7 0, o 8 (.call (.f 72) [.t 7])]
def kP4 : K := R [G, o 25 (.load false 1 (.t 3)), m 2 25]
/-- How much room is told of behind so many. -/
def cap30 (n : Nat) : Option Nat := if n = 0 then some 0 else none
def Inv30 (l : List Chg) (j : Nat) (h : Heap) : Prop := ∃ (u : Nat) (q : Prop), q ∧ h (.l 3) = some { ver := 2, es := [[.sl (.l 6) u 0 j (cap30 j)]], esz := 1, own := False, fixed := true } ∧
  (j = 0 ∧ h (.l 6) = some { ver := u, es := [], esz := 4, own := q } ∧ h (.r 18 0) = none ∧ h (.r 21 0) = none ∨
   ∃ (i : Nat) (cc : Chg) (v1 v2 : Nat), j = i + 1 ∧ ch ((inv l).take j) = ch ((inv l).take i) ++ [[.i .i64 cc.1, .i .i64 cc.2.1, .dat 3 (vl cc.2.2.1), .dat 3 (vl cc.2.2.2)]] ∧ h (.l 6) = some { ver := u, es := ch ((inv l).take i) ++ [[.i .i64 cc.1, .i .i64 cc.2.1, .sl (.r 18 0) v1 0 cc.2.2.1.length none, .sl (.r 21 0) v2 0 cc.2.2.2.length none]], esz := 4, own := q } ∧ i < l.length ∧
     h (.r 18 0) = some { ver := v1, es := vl cc.2.2.1, esz := 3 } ∧ h (.r 21 0) = some { ver := v2, es := vl cc.2.2.2, esz := 3 })
theorem settle {l : List Chg} {j : Nat} {g : Slots} {h : Heap} {c : Nat} (hi : Inv30 l j h) : ∃ (h' : Heap) (u : Nat) (q : Prop), Gh g h c g h' c ∧ q ∧ h' (.l 3) = some { ver := 2, es := [[.sl (.l 6) u 0 j (cap30 j)]], esz := 1, own := False, fixed := true } ∧ h' (.l 6) = some { ver := u, es := ch ((inv l).take j), esz := 4, own := q } ∧ h' (.r 18 0) = none ∧ h' (.r 21 0) = none ∧ h' (.l 23) = none := by
  have key : ∃ (h' : Heap) (u : Nat) (q : Prop), Gh g h c g h' c ∧ q ∧ h' (.l 3) = some { ver := 2, es := [[.sl (.l 6) u 0 j (cap30 j)]], esz := 1, own := False, fixed := true } ∧ h' (.l 6) = some { ver := u, es := ch ((inv l).take j), esz := 4, own := q } ∧ h' (.r 18 0) = none ∧ h' (.r 21 0) = none := by
    obtain ⟨u, q, hq, h3, ⟨rfl, h6, h18, h21⟩ | ⟨i, cc, v1, v2, rfl, et, h6, hil, h18, h21⟩⟩ := hi
    · exact ⟨h, u, q, .refl _ _ _, hq, h3, by rw [h6]; simp [ch], h18, h21⟩
    · have hl : (ch ((inv l).take i)).length = i := by rw [ch_len, List.length_take, inv_len]; omega
      have gl : ∀ r : List AV, (ch ((inv l).take i) ++ [r])[i]? = some r := fun r => by rw [List.getElem?_append_right (by omega), hl]; simp
      have sl : ∀ r s : List AV, (ch ((inv l).take i) ++ [r]).set i s = ch ((inv l).take i) ++ [s] := fun r s => by rw [List.set_append, if_neg (by omega), hl]; simp
      have G1 := Gh.give g h c (.l 6) (.r 18 0) _ _ _ i 2 0 cc.2.2.1.length none h6 hq (gl _) rfl h18 (by simp) (by simp [vl_len]) (vl_pure _) (.inl trivial)
      simp only [sl, subV, List.set_cons_succ, List.set_cons_zero] at G1
      have G2 := Gh.give g (hup (hdel h (.r 18 0)) (.l 6) { ver := u, es := ch ((inv l).take i) ++ [[.i .i64 cc.1, .i .i64 cc.2.1, .dat 3 (vl cc.2.2.1), .sl (.r 21 0) v2 0 cc.2.2.2.length none]], esz := 4, own := q }) c (.l 6) (.r 21 0) _ _ _ i 3 0 cc.2.2.2.length none (by rw [hup_at, if_pos rfl]) hq (gl _) rfl (by rw [hup_at, if_neg (by simp), hdel_at, if_neg (by simp)]; exact h21) (by simp) (by simp [vl_len]) (vl_pure _) (.inl trivial)
      simp only [sl, subV, List.set_cons_succ, List.set_cons_zero] at G2
      refine ⟨_, u, q, .trans G1 G2, hq, ?_, ?_, ?_, ?_⟩
      · simp [hup_at, hdel_at, h3]
      · rw [et]; simp [hup_at]
      · simp [hup_at, hdel_at]
      · simp [hup_at, hdel_at]
  obtain ⟨h', u, q, G1, hq, h3, h6, h18, h21⟩ := key
  exact ⟨hdel h' (.l 23), u, q, .trans G1 (.drop _ _ _ (.l 23) rfl), hq, by rw [hdel_at, if_neg (by simp)]; exact h3, by rw [hdel_at, if_neg (by simp)]; exact h6, by rw [hdel_at, if_neg (by simp)]; exact h18, by rw [hdel_at, if_neg (by simp)]; exact h21, by rw [hdel_at, if_pos rfl]⟩
theorem ch_getD {l : List Chg} {i : Nat} (h : i < l.length) : (ch l).getD i [] = cC (l.getD i c0) := by rw [List.getD_eq_getElem?_getD, ch_get h]; rfl
theorem h30 (l : List Chg) (hl : BdC l) : HT 30 [.dat 4 (ch l)] [] (.sl (.p 0) 1 0 l.length (cap30 l.length)) true [obC (inv l)] := by
  refine holds_range (c := c30) (ts := [2]) HOk mixedT hintT Try.func30 (by kernel_rfl) (by kernel_rfl) (by kernel_rfl) (le_of 1 _ (by kernel_rfl))
    (pre := (flatC c30).take 3) (post := (flatC c30).drop 4) (kpre := [kP0, kP1, kP2]) (kpost := [kP4, .ret]) (id := 0) (f := .tmp 8) (ps := #[9, 10]) (ca := (rgOf (flatC c30) 3).2.2.2.1) (cb := (rgOf (flatC c30) 3).2.2.2.2) (ka := kA30) (kb := kB30)
    (by kernel_rfl) (by kernel_rfl) (by kernel_rfl) (by kernel_rfl) (by kernel_rfl) (by kernel_rfl) (by kernel_rfl) (by kernel_rfl) (by kernel_rfl) (by kernel_rfl) ?_
  have hn := hl.1
  show RunK HC (kP0.seq (kP1.seq kP2)) (.done _) _ _ _
  simp -dsimp only [kP0, kP1, kP2, go_sem, ↓reduceIte, Nat.reduceEqDiff, Int.reduceLE, Int.reduceLT, Int.reduceNeg, Int.reduceEq, Nat.reduceMul, Nat.reduceAdd, Nat.reduceLeDiff, reduceCtorEq]
  refine Call_x (hx72 _ _ _ _ ?_)
  simp -dsimp only [go_sem, ↓reduceIte, Nat.reduceEqDiff, Int.reduceLE, Int.reduceLT, Int.reduceNeg, Int.reduceEq, Nat.reduceMul, Nat.reduceAdd, Nat.reduceLeDiff, reduceCtorEq]
  refine ⟨114, .l 1, { ver := 3, es := [[.dat 4 (ch l)]], esz := 1, own := False, fixed := true }, 4, ch l, bkXs (ch l), by simp [upd_at, cv, ev], by simp [hup_at], rfl, bk_it _ (fun e he => by obtain ⟨v, _, rfl⟩ := ch_mem he; rfl) (by rw [ch_len]; exact hn), ?_⟩
  have rounds : ∀ (r j : Nat), r + j = l.length → ∀ (g : Slots) (h : Heap) (c : Nat), g 3 = .ptr (.l 3) 2 0 0 → Inv30 l j h →
      rnd HC kA30 kB30 [9, 10] g (fun h c => runL HC [kP4, .ret] (FinP [2] [] true fun r' o' => r' = .sl (.p 0) 1 0 l.length (cap30 l.length) ∧ o' = [obC (inv l)]) g h c) (fun e h c => match e with | .ret => FinP [2] [] true (fun r' o' => r' = .sl (.p 0) 1 0 l.length (cap30 l.length) ∧ o' = [obC (inv l)]) .ret g h c | .exit j => if j = 0 then runL HC [kP4, .ret] (FinP [2] [] true fun r' o' => r' = .sl (.p 0) 1 0 l.length (cap30 l.length) ∧ o' = [obC (inv l)]) g h c else False | .normal => False) ((bkXs (ch l)).drop j) h c := by
    intro r
    induction r with
    | zero =>
      intro j hj g h c q3 hi
      obtain rfl : j = l.length := by omega
      rw [List.drop_of_length_le (by rw [bk_len, ch_len]; omega)]
      show RunK HC (kP4.seq .ret) (.done _) g h c
      obtain ⟨h', u, q, G1, hq, h3, h6, _, _, _⟩ := settle (g := g) (c := c) hi
      rw [List.take_of_length_le (by rw [inv_len]; omega)] at h6
      simp -dsimp only [kP4, go_sem, ↓reduceIte, Nat.reduceEqDiff, Int.reduceLE, Int.reduceLT, Int.reduceNeg, Int.reduceEq, Nat.reduceMul, Nat.reduceAdd, Nat.reduceLeDiff, reduceCtorEq]
      refine Gh_of G1 ?_
      simp -dsimp only [q3, h3, go_sem, ↓reduceIte, Nat.reduceEqDiff, Int.reduceLE, Int.reduceLT, Int.reduceNeg, Int.reduceEq, Nat.reduceMul, Nat.reduceAdd, Nat.reduceLeDiff, reduceCtorEq]
      refine Fin_one (obs := []) (.l 6) { ver := u, es := ch (inv l), esz := 4, own := q } (obC (inv l)) rfl (by simp [h6]) rfl (.inl ⟨fun _ => hq, fun _ => trivial⟩) (ch_pure _) (fun k x hk => by simp at hk) ?_ ?_
      · simp [resV, upd_at, retA, cur, h6, List.idxOf?_cons]
      · simp [resV, upd_at, ResOk, cur, h6]
    | succ r ih =>
      intro j hj g h c q3 hi
      have hjl : j < l.length := by omega
      obtain ⟨h', u, q, G1, hq, h3, h6, h18, h21, h23⟩ := settle (g := updN g [9, 10] ((bkXs (ch l))[j]'(by rw [bk_len, ch_len]; exact hjl))) (c := c) hi
      have ex : (bkXs (ch l))[j]'(by rw [bk_len, ch_len]; exact hjl) = [i64 ((l.length - 1 - j : Nat) : Int), .agg (cC (l.getD (l.length - 1 - j) c0))] := by
        simp only [bkXs, List.getElem_map, List.getElem_range, ch_len]
        rw [ch_getD (by omega)]
      rw [List.drop_eq_getElem_cons (by rw [bk_len, ch_len]; exact hjl), ex]
      rw [ex] at G1
      have hm : l.length - 1 - j < l.length := by omega
      have hf := hl.2 _ (getC_mem hm)
      have hs := inv_take hjl
      generalize l.getD (l.length - 1 - j) c0 = cc at hf hs G1
      generalize l.length - 1 - j = m at G1
      have ec : cC cc = [.i .i64 cc.1, .i .i64 cc.2.1, .dat 3 (vl cc.2.2.1), .dat 3 (vl cc.2.2.2)] := rfl
      rw [ec] at G1 ⊢
      refine ⟨rfl, ?_⟩
      simp -dsimp only [kA30, go_sem, ↓reduceIte, Nat.reduceEqDiff, Int.reduceLE, Int.reduceLT, Int.reduceNeg, Int.reduceEq, Nat.reduceMul, Nat.reduceAdd, Nat.reduceLeDiff, reduceCtorEq]
      refine Gh_of G1 ?_
      simp -dsimp only [kB30, updN, q3, h3, h6, go_sem, ↓reduceIte, Nat.reduceEqDiff, Int.reduceLE, Int.reduceLT, Int.reduceNeg, Int.reduceEq, Nat.reduceMul, Nat.reduceAdd, Nat.reduceLeDiff, reduceCtorEq]
      refine Cp_of (cp73 _ hf.2) (vl_pure _) (by simp [hup_at, h18]) fun v1 => ?_
      simp -dsimp only [q3, h3, h6, go_sem, ↓reduceIte, Nat.reduceEqDiff, Int.reduceLE, Int.reduceLT, Int.reduceNeg, Int.reduceEq, Nat.reduceMul, Nat.reduceAdd, Nat.reduceLeDiff, reduceCtorEq]
      refine Cp_of (cp73 _ hf.1) (vl_pure _) (by simp [hup_at, h21]) fun v2 => ?_
      have hlen : (ch ((inv l).take j)).length = j := by rw [ch_len, List.length_take, inv_len]; omega
      simp -dsimp only [q3, h3, h6, chunk, vl_len, hlen, go_sem, ↓reduceIte, Nat.reduceEqDiff, Int.reduceLE, Int.reduceLT, Int.reduceNeg, Int.reduceEq, Nat.reduceMul, Nat.reduceAdd, Nat.reduceLeDiff, reduceCtorEq]
      refine ⟨h23, fun v3 => ?_⟩
      refine EKd_p (fun _ => ⟨⟨fun ho e he => by simp at he; subst he; exact ho, by simp [AM.Good, AV.storable]⟩, by unfold bigOk; omega, by omega⟩) rfl fun v4 => ?_
      simp -dsimp only [q3, h3, h6, go_sem, ↓reduceIte, Nat.reduceEqDiff, Int.reduceLE, Int.reduceLT, Int.reduceNeg, Int.reduceEq, Nat.reduceMul, Nat.reduceAdd, Nat.reduceLeDiff, reduceCtorEq]
      refine ih (j + 1) (by omega) _ _ _ q3 ?_
      refine ⟨v4, _, (⟨hq, by simp [AM.Flat, AM.NoDat, AV.isDat]⟩ : q ∧ AM.Flat [[AV.i .i64 cc.1, .i .i64 cc.2.1, .sl (.r 18 0) v1 0 cc.2.2.2.length none, .sl (.r 21 0) v2 0 cc.2.2.1.length none]]), by simp [hup_at, cap30], .inr ⟨j, invC cc, v1, v2, rfl, ?_, ?_, hjl, ?_, ?_⟩⟩
      · rw [hs, ch_app]; rfl
      · simp [hup_at, invC]
      · simp [hup_at, invC]
      · simp [hup_at, invC]
  exact rounds l.length 0 (by omega) _ _ _ (by simp [upd_at]) ⟨1, _, (by simp [AM.NoDat] : AM.NoDat []), by simp [hup_at, hdel_at, cap30], .inl ⟨rfl, by simp [hup_at, hdel_at], by simp [hup_at, hdel_at, objs_r], by simp [hup_at, hdel_at, objs_r]⟩⟩
end FrA

/-! CvG -/
open Go Go.AM
namespace FrA
open Go.Proofs
set_option maxRecDepth 100000
set_option linter.unusedSimpArgs false
theorem szcl_mem {c : Chg} : ∀ {l : List Chg}, c ∈ l → szc c ≤ szcl l
  | a :: l, h => by
    rcases List.mem_cons.1 h with rfl | h
    · simp [szcl]
    · have := szcl_mem h; simp [szcl]; omega
theorem ksz_szcl : ∀ l : List Chg, ksz l ≤ 2 * l.length + 3 * szcl l
  | [] => by simp [ksz]
  | a :: l => by have := ksz_szcl l; simp only [ksz, szcl, szm, szc, List.length_cons]; omega
theorem ksz_inv : ∀ l : List Chg, ksz (inv l) = ksz l
  | [] => rfl
  | a :: l => by
    have := ksz_inv l
    unfold inv at this ⊢
    rw [List.reverse_cons, List.map_append, ksz_app, this]
    simp only [ksz, szm, List.map_cons, List.map_nil, invC]; omega
theorem subI (l : List Chg) : sub (ch (inv l)) 0 l.length = ch (inv l) := sub_all (by rw [ch_len, inv_len])
theorem subMI (l : List Chg) : sub (ch (mkC 1 (inv l))) 0 l.length = ch (mkC 1 (inv l)) := sub_all (by rw [ch_len, mkC_len, inv_len])
theorem h6 (l : List Chg) (hn : Lg l.length) (hb : ∀ c ∈ l, LgV c.2.2.1 ∧ LgV c.2.2.2) : HT 6 [.dat 4 (ch l)] [] (.b true) true [] := by
  refine holds_of (c := Try.f6.body.getD .skip) (k := k6.1) (ts := [2]) HOk mixedT hintT Try.func6 (by kernel_rfl) (by kernel_rfl) (by kernel_rfl) k6.2 (by kernel_rfl) (le_of 1 _ (by kernel_rfl)) ?_
  have d27 := h27 l 1048576 (by omega) hn hb
  by_cases hs : l.length + szcl l ≤ 1048576
  · rw [lefts_yes hs] at d27
    have c1 : ¬ ((1048576 - (l.length + szcl l) : Nat) : Int) < 0 := by omega
    have hB : BdC l := ⟨by omega, fun c hc => by have := szcl_mem hc; unfold szc at this; omega⟩
    have hI := inv_bd hB
    have z1 := ksz_szcl l
    have z2 := ksz_inv l
    have d28 := h28 l hB
    have d31 := h31 (inv l) hI
    have e31 := h31 l hB
    have d32 := h32 l 1 none (by omega) (by omega)
    have f32 := h32 (inv l) 1 (cap30 l.length) (by omega) (by omega)
    rw [inv_len] at f32
    have d33 := h33 (inv l) 1 (by omega) (by omega)
    have b1 : (!true) = false := rfl
    have c2 : ¬ ((1 + ksz l : Nat) : Int) < 0 := by omega
    have c3 : ¬ ((1 + ksz (inv l) : Nat) : Int) < 0 := by omega
    have c4 : (((1 + ksz (inv l) : Nat) : Int) != ((1 + ksz (inv l) : Nat) : Int)) = false := by simp
    simp -dsimp only [k6, go_sem, ↓reduceIte, Nat.reduceEqDiff, Int.reduceLE, Int.reduceLT, Int.reduceNeg, Int.reduceEq, Nat.reduceMul, Nat.reduceAdd, Nat.reduceLeDiff, reduceCtorEq]
    refine Call_val (own := true) (d27) (by simp [ExpOk, AV.pure]) (.inl rfl) ?_
    simp -dsimp only [c1, go_sem, ↓reduceIte, Nat.reduceEqDiff, Int.reduceLE, Int.reduceLT, Int.reduceNeg, Int.reduceEq, Nat.reduceMul, Nat.reduceAdd, Nat.reduceLeDiff, reduceCtorEq]
    refine Call_news (own := true) (b := obC l) (obs' := []) (h29 l hB) (by simp [ExpOk, AV.pure]) (by simp [obC, ch_pure]) (.inl rfl) (by simp [obC]) ?_
    simp -dsimp only [impA, impL, Option.getD_some, Nat.sub_self, Nat.sub_zero, obC, go_sem, ↓reduceIte, Nat.reduceEqDiff, Int.reduceLE, Int.reduceLT, Int.reduceNeg, Int.reduceEq, Nat.reduceMul, Nat.reduceAdd, Nat.reduceLeDiff, reduceCtorEq]
    refine Gh_of (.read _ _ _ 17 (.r 17 0) { ver := 1, es := ch l, esz := 4, own := True } 0 l.length none (by simp [upd_at]) (by simp only [hup_at, newObs, ↓reduceIte, Nat.reduceEqDiff, reduceCtorEq, Rid.r.injEq, Rid.l.injEq, Nat.reduceAdd, Nat.zero_add, and_self, and_true, and_false, false_and, true_and] <;> rfl) (by simp [ch_len]) (ch_pure _)) ?_
    simp -dsimp only [subC, ch_len, go_sem, ↓reduceIte, Nat.reduceEqDiff, Int.reduceLE, Int.reduceLT, Int.reduceNeg, Int.reduceEq, Nat.reduceMul, Nat.reduceAdd, Nat.reduceLeDiff, reduceCtorEq]
    refine Call_val (own := false) (d28) (by simp [ExpOk, AV.pure]) (.inr (by simp [AV.rooted, AV.ref1])) ?_
    simp -dsimp only [go_sem, ↓reduceIte, Nat.reduceEqDiff, Int.reduceLE, Int.reduceLT, Int.reduceNeg, Int.reduceEq, Nat.reduceMul, Nat.reduceAdd, Nat.reduceLeDiff, reduceCtorEq]
    refine Call_news (own := true) (b := obC l) (obs' := []) (h29 l hB) (by simp [ExpOk, AV.pure]) (by simp [obC, ch_pure]) (.inl rfl) (by simp [obC]) ?_
    simp -dsimp only [impA, impL, Option.getD_some, Nat.sub_self, Nat.sub_zero, obC, go_sem, ↓reduceIte, Nat.reduceEqDiff, Int.reduceLE, Int.reduceLT, Int.reduceNeg, Int.reduceEq, Nat.reduceMul, Nat.reduceAdd, Nat.reduceLeDiff, reduceCtorEq]
    refine Call_news (own := true) (b := obC (inv l)) (obs' := []) (v := .sl (.p 0) 1 0 l.length (cap30 l.length)) (by simpa [expL, expA, cur, hup_at, List.idxOf?_cons, List.idxOf?_nil, obM, objs_l, objs_r, objs_p, subC, subI, subMI, ch_len, inv_len, mkC_len, subC, ch_len] using h30 l hB) (by simp [ExpOk, AV.pure, cur, hup_at, List.idxOf?_cons, List.idxOf?_nil, obM, objs_l, objs_r, objs_p, ch_len, inv_len, mkC_len, ch_pure, ch_pure, ch_len]) (by simp [obC, ch_pure]) (.inl rfl) (by simp [obC]) ?_
    simp -dsimp only [impA, impL, Option.getD_some, Nat.sub_self, Nat.sub_zero, obC, go_sem, ↓reduceIte, Nat.reduceEqDiff, Int.reduceLE, Int.reduceLT, Int.reduceNeg, Int.reduceEq, Nat.reduceMul, Nat.reduceAdd, Nat.reduceLeDiff, reduceCtorEq]
    refine Call_val (own := true) (v := .b true) (by simpa [expL, expA, cur, hup_at, List.idxOf?_cons, List.idxOf?_nil, obM, objs_l, objs_r, objs_p, subC, subI, subMI, ch_len, inv_len, mkC_len] using d31) (by simp [ExpOk, AV.pure, cur, hup_at, List.idxOf?_cons, List.idxOf?_nil, obM, objs_l, objs_r, objs_p, ch_len, inv_len, mkC_len, ch_pure]) (.inl rfl) ?_
    simp -dsimp only [b1, go_sem, ↓reduceIte, Nat.reduceEqDiff, Int.reduceLE, Int.reduceLT, Int.reduceNeg, Int.reduceEq, Nat.reduceMul, Nat.reduceAdd, Nat.reduceLeDiff, reduceCtorEq]
    refine Call_news (own := true) (b := obC l) (obs' := []) (h29 l hB) (by simp [ExpOk, AV.pure]) (by simp [obC, ch_pure]) (.inl rfl) (by simp [obC]) ?_
    simp -dsimp only [impA, impL, Option.getD_some, Nat.sub_self, Nat.sub_zero, obC, go_sem, ↓reduceIte, Nat.reduceEqDiff, Int.reduceLE, Int.reduceLT, Int.reduceNeg, Int.reduceEq, Nat.reduceMul, Nat.reduceAdd, Nat.reduceLeDiff, reduceCtorEq]
    refine Call_val (own := true) (v := .b true) (by simpa [expL, expA, cur, hup_at, List.idxOf?_cons, List.idxOf?_nil, obM, objs_l, objs_r, objs_p, subC, subI, subMI, ch_len, inv_len, mkC_len] using e31) (by simp [ExpOk, AV.pure, cur, hup_at, List.idxOf?_cons, List.idxOf?_nil, obM, objs_l, objs_r, objs_p, ch_len, inv_len, mkC_len, ch_pure]) (.inl rfl) ?_
    simp -dsimp only [b1, go_sem, ↓reduceIte, Nat.reduceEqDiff, Int.reduceLE, Int.reduceLT, Int.reduceNeg, Int.reduceEq, Nat.reduceMul, Nat.reduceAdd, Nat.reduceLeDiff, reduceCtorEq]
    refine Call_one (own := true) (v := i64 ((1 + ksz l : Nat) : Int)) (.r 20 0) { ver := 2, es := ch l, esz := 4, own := True } (obM 4 (ch (mkC 1 l)) True) (by simp only [hup_at, newObs, ↓reduceIte, Nat.reduceEqDiff, reduceCtorEq, Rid.r.injEq, Rid.l.injEq, Nat.reduceAdd, Nat.zero_add, and_self, and_true, and_false, false_and, true_and] <;> rfl) (by simpa [expL, expA, cur, hup_at, List.idxOf?_cons, List.idxOf?_nil, obM, objs_l, objs_r, objs_p, subC, subI, subMI, ch_len, inv_len, mkC_len] using d32) (by simp [ExpOk, AV.pure, cur, hup_at, List.idxOf?_cons, List.idxOf?_nil, obM, objs_l, objs_r, objs_p, ch_len, inv_len, mkC_len, ch_pure]) (ch_pure _) (ch_pure _) (.inl rfl) (fun _ => .inl trivial) ?_
    simp -dsimp only [c2, obM, go_sem, ↓reduceIte, Nat.reduceEqDiff, Int.reduceLE, Int.reduceLT, Int.reduceNeg, Int.reduceEq, Nat.reduceMul, Nat.reduceAdd, Nat.reduceLeDiff, reduceCtorEq]
    refine Call_val (own := true) (v := .b true) (by simpa [expL, expA, cur, hup_at, List.idxOf?_cons, List.idxOf?_nil, obM, objs_l, objs_r, objs_p, subC, subI, subMI, ch_len, inv_len, mkC_len] using d31) (by simp [ExpOk, AV.pure, cur, hup_at, List.idxOf?_cons, List.idxOf?_nil, obM, objs_l, objs_r, objs_p, ch_len, inv_len, mkC_len, ch_pure]) (.inl rfl) ?_
    simp -dsimp only [b1, go_sem, ↓reduceIte, Nat.reduceEqDiff, Int.reduceLE, Int.reduceLT, Int.reduceNeg, Int.reduceEq, Nat.reduceMul, Nat.reduceAdd, Nat.reduceLeDiff, reduceCtorEq]
    refine Call_one (own := true) (v := i64 ((1 + ksz (inv l) : Nat) : Int)) (.r 22 0) { ver := 3, es := ch (inv l), esz := 4, own := True } (obM 4 (ch (mkC 1 (inv l))) True) (by simp only [hup_at, newObs, ↓reduceIte, Nat.reduceEqDiff, reduceCtorEq, Rid.r.injEq, Rid.l.injEq, Nat.reduceAdd, Nat.zero_add, and_self, and_true, and_false, false_and, true_and] <;> rfl) (by simpa [expL, expA, cur, hup_at, List.idxOf?_cons, List.idxOf?_nil, obM, objs_l, objs_r, objs_p, subC, subI, subMI, ch_len, inv_len, mkC_len] using f32) (by simp [ExpOk, AV.pure, cur, hup_at, List.idxOf?_cons, List.idxOf?_nil, obM, objs_l, objs_r, objs_p, ch_len, inv_len, mkC_len, ch_pure]) (ch_pure _) (ch_pure _) (.inl rfl) (fun _ => .inl trivial) ?_
    simp -dsimp only [obM, go_sem, ↓reduceIte, Nat.reduceEqDiff, Int.reduceLE, Int.reduceLT, Int.reduceNeg, Int.reduceEq, Nat.reduceMul, Nat.reduceAdd, Nat.reduceLeDiff, reduceCtorEq]
    refine Call_val (own := true) (v := i64 ((1 + ksz (inv l) : Nat) : Int)) (by simpa [expL, expA, cur, hup_at, List.idxOf?_cons, List.idxOf?_nil, obM, objs_l, objs_r, objs_p, subC, subI, subMI, ch_len, inv_len, mkC_len] using d33) (by simp [ExpOk, AV.pure, cur, hup_at, List.idxOf?_cons, List.idxOf?_nil, obM, objs_l, objs_r, objs_p, ch_len, inv_len, mkC_len, ch_pure]) (.inl rfl) ?_
    simp -dsimp only [c3, c4, go_sem, ↓reduceIte, Nat.reduceEqDiff, Int.reduceLE, Int.reduceLT, Int.reduceNeg, Int.reduceEq, Nat.reduceMul, Nat.reduceAdd, Nat.reduceLeDiff, reduceCtorEq]
    refine Call_news (own := true) (b := obC l) (obs' := []) (h29 l hB) (by simp [ExpOk, AV.pure]) (by simp [obC, ch_pure]) (.inl rfl) (by simp [obC]) ?_
    simp -dsimp only [impA, impL, Option.getD_some, Nat.sub_self, Nat.sub_zero, obC, go_sem, ↓reduceIte, Nat.reduceEqDiff, Int.reduceLE, Int.reduceLT, Int.reduceNeg, Int.reduceEq, Nat.reduceMul, Nat.reduceAdd, Nat.reduceLeDiff, reduceCtorEq]
    refine Call_news (own := true) (b := obC (inv l)) (obs' := []) (v := .sl (.p 0) 1 0 l.length (cap30 l.length)) (by simpa [expL, expA, cur, hup_at, List.idxOf?_cons, List.idxOf?_nil, obM, objs_l, objs_r, objs_p, subC, subI, subMI, ch_len, inv_len, mkC_len, subC, ch_len] using h30 l hB) (by simp [ExpOk, AV.pure, cur, hup_at, List.idxOf?_cons, List.idxOf?_nil, obM, objs_l, objs_r, objs_p, ch_len, inv_len, mkC_len, ch_pure, ch_pure, ch_len]) (by simp [obC, ch_pure]) (.inl rfl) (by simp [obC]) ?_
    simp -dsimp only [impA, impL, Option.getD_some, Nat.sub_self, Nat.sub_zero, obC, go_sem, ↓reduceIte, Nat.reduceEqDiff, Int.reduceLE, Int.reduceLT, Int.reduceNeg, Int.reduceEq, Nat.reduceMul, Nat.reduceAdd, Nat.reduceLeDiff, reduceCtorEq]
    refine Call_val (own := true) (v := .b true) (by simpa [expL, expA, cur, hup_at, List.idxOf?_cons, List.idxOf?_nil, obM, objs_l, objs_r, objs_p, subC, subI, subMI, ch_len, inv_len, mkC_len] using d31) (by simp [ExpOk, AV.pure, cur, hup_at, List.idxOf?_cons, List.idxOf?_nil, obM, objs_l, objs_r, objs_p, ch_len, inv_len, mkC_len, ch_pure]) (.inl rfl) ?_
    simp -dsimp only [b1, go_sem, ↓reduceIte, Nat.reduceEqDiff, Int.reduceLE, Int.reduceLT, Int.reduceNeg, Int.reduceEq, Nat.reduceMul, Nat.reduceAdd, Nat.reduceLeDiff, reduceCtorEq]
    refine Call_val (own := true) (v := i64 ((1 + ksz (inv l) : Nat) : Int)) (by simpa [expL, expA, cur, hup_at, List.idxOf?_cons, List.idxOf?_nil, obM, objs_l, objs_r, objs_p, subC, subI, subMI, ch_len, inv_len, mkC_len] using d33) (by simp [ExpOk, AV.pure, cur, hup_at, List.idxOf?_cons, List.idxOf?_nil, obM, objs_l, objs_r, objs_p, ch_len, inv_len, mkC_len, ch_pure]) (.inl rfl) ?_
    simp -dsimp only [c3, c4, go_sem, ↓reduceIte, Nat.reduceEqDiff, Int.reduceLE, Int.reduceLT, Int.reduceNeg, Int.reduceEq, Nat.reduceMul, Nat.reduceAdd, Nat.reduceLeDiff, reduceCtorEq]
    exact Fin_val (by simp [resV, upd_at, retA]) (by simp [resV, upd_at, ResOk])
  · rw [lefts_no hs] at d27
    simp -dsimp only [k6, go_sem, ↓reduceIte, Nat.reduceEqDiff, Int.reduceLE, Int.reduceLT, Int.reduceNeg, Int.reduceEq, Nat.reduceMul, Nat.reduceAdd, Nat.reduceLeDiff, reduceCtorEq]
    refine Call_val (own := true) (d27) (by simp [ExpOk, AV.pure]) (.inl rfl) ?_
    simp -dsimp only [neg1, go_sem, ↓reduceIte, Nat.reduceEqDiff, Int.reduceLE, Int.reduceLT, Int.reduceNeg, Int.reduceEq, Nat.reduceMul, Nat.reduceAdd, Nat.reduceLeDiff, reduceCtorEq]
    exact Fin_val (by simp [resV, upd_at, retA]) (by simp [resV, upd_at, ResOk])
end FrA

