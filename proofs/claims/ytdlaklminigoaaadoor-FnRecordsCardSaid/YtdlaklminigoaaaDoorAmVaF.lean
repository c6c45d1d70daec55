/- Rows of values and their texts by the reference. Walked. No condition. -/
import Derived.Test.YtdlaklminigoaaaDoorAmVaE
import Derived.Test.YtdlaklminigoaaaDoorAmPvG
set_option linter.all false
set_option linter.unusedSimpArgs false
set_option linter.unusedVariables false
set_option linter.deprecated false
/-! VaF -/
open Go Go.AM
namespace FrA
open Go.Proofs
set_option maxRecDepth 100000
set_option linter.unusedSimpArgs false
theorem vl_mem {l : List Vl} {i : Nat} (h : i < l.length) : l.getD i v0 ∈ l := by
  rw [List.getD_eq_getElem?_getD, List.getElem?_eq_getElem h]; simp
theorem h21 (l : List Vl) (hl : l.length ≤ 1000000000000) : HT 21 [.dat 3 (vl l)] [] (.b (decide (rOk l))) true [] := by
  refine holds_of (c := Tryd.f21.body.getD .skip) (k := k21.1) (ts := [2]) HOk mixedT hintT Tryd.func21 (by kernel_rfl) (by kernel_rfl) (by kernel_rfl) k21.2 (by kernel_rfl) (le_of 1 _ (by kernel_rfl)) ?_
  simp -dsimp only [k21, go_sem, ↓reduceIte, Nat.reduceEqDiff, Int.reduceLE, Int.reduceLT, Int.reduceNeg, Int.reduceEq, Int.reduceBEq, Int.reduceBNe, Nat.reduceMul, Nat.reduceAdd, Nat.reduceLeDiff, reduceCtorEq, Int.reduceToNat]
  refine K_for l.length (fun i g h c => (∀ v ∈ l.take i, vOk v) ∧ g 0 = .dat 3 (vl l) ∧ g 3 = i64 i) ?_ ?_ ?_
  · exact ⟨by simp, by simp [upd_at, S_0], by simp [upd_at]⟩
  · rintro i A hi hA g h c ⟨ha, q0, q3⟩
    have hc : (i : Int) < (l.length : Int) := by omega
    have hg := vl_get hi
    have hm := vl_mem hi
    have w1 : IntKind.i64.wrap ((i : Int) + 1) = ((i + 1 : Nat) : Int) := by rw [wr (by omega) (by omega)]; rfl
    have ht : l.take (i + 1) = l.take i ++ [l.getD i v0] := by
      rw [List.take_add_one, List.getElem?_eq_getElem hi, List.getD_eq_getElem?_getD, List.getElem?_eq_getElem hi]; rfl
    generalize l.getD i v0 = v at hg hm ht
    have d := h37 v
    have ev : vC v = [.i .i64 v.1, .i .i64 v.2.1, .s v.2.2] := rfl
    rw [ev] at hg d
    simp -dsimp only [q0, q3, hc, hg, vl_len, go_sem, ↓reduceIte, Nat.reduceEqDiff, Int.reduceLE, Int.reduceLT, Int.reduceNeg, Int.reduceEq, Int.reduceBEq, Int.reduceBNe, Nat.reduceMul, Nat.reduceAdd, Nat.reduceLeDiff, reduceCtorEq, Int.reduceToNat]
    refine Call_val (own := true) (d) (by simp [ExpOk, AV.pure]) (.inl rfl) ?_
    by_cases hv : vOk v
    · simp -dsimp only [hv, q3, w1, go_sem, ↓reduceIte, Nat.reduceEqDiff, Int.reduceLE, Int.reduceLT, Int.reduceNeg, Int.reduceEq, Int.reduceBEq, Int.reduceBNe, Nat.reduceMul, Nat.reduceAdd, Nat.reduceLeDiff, reduceCtorEq, Int.reduceToNat]
      refine hA _ _ _ ⟨?_, by simp [upd_at, q0], by simp [upd_at]⟩
      intro x hx
      rw [ht, List.mem_append, List.mem_singleton] at hx
      rcases hx with hx | rfl
      · exact ha x hx
      · exact hv
    · have e : ¬ rOk l := fun h3 => hv (h3.2 v hm)
      simp -dsimp only [hv, go_sem, ↓reduceIte, Nat.reduceEqDiff, Int.reduceLE, Int.reduceLT, Int.reduceNeg, Int.reduceEq, Int.reduceBEq, Int.reduceBNe, Nat.reduceMul, Nat.reduceAdd, Nat.reduceLeDiff, reduceCtorEq, Int.reduceToNat]
      exact Fin_val (by simp [resV, upd_at, retA, e]) (by simp [resV, upd_at, ResOk])
  · rintro A g h c ⟨ha, q0, q3⟩
    have hc : ¬ (l.length : Int) < (l.length : Int) := by omega
    rw [List.take_length] at ha
    simp -dsimp only [q0, q3, hc, vl_len, go_sem, ↓reduceIte, Nat.reduceEqDiff, Int.reduceLE, Int.reduceLT, Int.reduceNeg, Int.reduceEq, Int.reduceBEq, Int.reduceBNe, Nat.reduceMul, Nat.reduceAdd, Nat.reduceLeDiff, reduceCtorEq, Int.reduceToNat]
    refine Fin_val ?_ (by simp [resV, upd_at, ResOk])
    simp only [resV, upd_at, retA, rOk, ↓reduceIte, AV.b.injEq, decide_eq_decide]
    exact decide_eq_decide.2 ⟨fun h3 => ⟨by omega, ha⟩, fun h3 => by have := h3.1; omega⟩
theorem h22 (l : List Vl) (hl : l.length ≤ 1000000000000) : HT 22 [.dat 3 (vl l)] [] (.s (rRaw l)) true [] := by
  refine holds_of (c := Tryd.f22.body.getD .skip) (k := k22.1) (ts := [2]) HOk mixedT hintT Tryd.func22 (by kernel_rfl) (by kernel_rfl) (by kernel_rfl) k22.2 (by kernel_rfl) (le_of 1 _ (by kernel_rfl)) ?_
  simp -dsimp only [k22, vl_len, go_sem, ↓reduceIte, Nat.reduceEqDiff, Int.reduceLE, Int.reduceLT, Int.reduceNeg, Int.reduceEq, Int.reduceBEq, Int.reduceBNe, Nat.reduceMul, Nat.reduceAdd, Nat.reduceLeDiff, reduceCtorEq, Int.reduceToNat]
  refine Call_val (own := true) (h38 (l.length : Int) (by omega) (by omega)) (by simp [ExpOk, AV.pure]) (.inl rfl) ?_
  have h20 := itoa_len20 (n := l.length) (by omega)
  simp -dsimp only [go_sem, ↓reduceIte, Nat.reduceEqDiff, Int.reduceLE, Int.reduceLT, Int.reduceNeg, Int.reduceEq, Int.reduceBEq, Int.reduceBNe, Nat.reduceMul, Nat.reduceAdd, Nat.reduceLeDiff, reduceCtorEq, Int.reduceToNat]
  refine K_for l.length (fun i g h c => g 0 = .dat 3 (vl l) ∧ g 3 = .s (Lib.itoa (l.length : Int) ++ rowsB (l.take i)) ∧ g 4 = i64 i) ?_ ?_ ?_
  · exact ⟨by simp [upd_at, S_0], by simp [upd_at, rowsB], by simp [upd_at]⟩
  · rintro i A hi hA g h c ⟨q0, q3, q4⟩
    have hc : (i : Int) < (l.length : Int) := by omega
    have hg := vl_get hi
    have hm := vl_mem hi
    have w1 : IntKind.i64.wrap ((i : Int) + 1) = ((i + 1 : Nat) : Int) := by rw [wr (by omega) (by omega)]; rfl
    have ht : rowsB (l.take (i + 1)) = rowsB (l.take i) ++ (44 :: vText (l.getD i v0)) := rowsB_take hi
    have hB := rowsB_len (l.take i)
    have hB2 : (l.take i).length ≤ l.length := by rw [List.length_take]; omega
    generalize l.getD i v0 = v at hg hm ht
    have hvl := vText_len38 v
    have d := h39 v
    have ev : vC v = [.i .i64 v.1, .i .i64 v.2.1, .s v.2.2] := rfl
    rw [ev] at hg d
    simp -dsimp only [q0, q3, q4, hc, hg, vl_len, go_sem, ↓reduceIte, Nat.reduceEqDiff, Int.reduceLE, Int.reduceLT, Int.reduceNeg, Int.reduceEq, Int.reduceBEq, Int.reduceBNe, Nat.reduceMul, Nat.reduceAdd, Nat.reduceLeDiff, reduceCtorEq, Int.reduceToNat]
    refine VK_p (by first | omega | (simp only [List.length_cons, List.length_nil, List.length_append]; omega) | (refine ⟨by omega, by omega, ?_⟩; first | omega | (simp only [List.length_cons, List.length_nil, List.length_append]; omega)) | (simp; omega) | (simp; done)) ?_
    simp -dsimp only [q0, q4, hg, go_sem, ↓reduceIte, Nat.reduceEqDiff, Int.reduceLE, Int.reduceLT, Int.reduceNeg, Int.reduceEq, Int.reduceBEq, Int.reduceBNe, Nat.reduceMul, Nat.reduceAdd, Nat.reduceLeDiff, reduceCtorEq, Int.reduceToNat]
    refine Call_val (own := true) (d) (by simp [ExpOk, AV.pure]) (.inl rfl) ?_
    simp -dsimp only [go_sem, ↓reduceIte, Nat.reduceEqDiff, Int.reduceLE, Int.reduceLT, Int.reduceNeg, Int.reduceEq, Int.reduceBEq, Int.reduceBNe, Nat.reduceMul, Nat.reduceAdd, Nat.reduceLeDiff, reduceCtorEq, Int.reduceToNat]
    refine VK_p (by first | omega | (simp only [List.length_cons, List.length_nil, List.length_append]; omega) | (refine ⟨by omega, by omega, ?_⟩; first | omega | (simp only [List.length_cons, List.length_nil, List.length_append]; omega)) | (simp; omega) | (simp; done)) ?_
    simp -dsimp only [q4, w1, go_sem, ↓reduceIte, Nat.reduceEqDiff, Int.reduceLE, Int.reduceLT, Int.reduceNeg, Int.reduceEq, Int.reduceBEq, Int.reduceBNe, Nat.reduceMul, Nat.reduceAdd, Nat.reduceLeDiff, reduceCtorEq, Int.reduceToNat]
    exact hA _ _ _ ⟨by simp [upd_at, q0], by simp [upd_at, ht], by simp [upd_at]⟩
  · rintro A g h c ⟨q0, q3, q4⟩
    have hc : ¬ (l.length : Int) < (l.length : Int) := by omega
    rw [List.take_length] at q3
    simp -dsimp only [q0, q3, q4, hc, vl_len, go_sem, ↓reduceIte, Nat.reduceEqDiff, Int.reduceLE, Int.reduceLT, Int.reduceNeg, Int.reduceEq, Int.reduceBEq, Int.reduceBNe, Nat.reduceMul, Nat.reduceAdd, Nat.reduceLeDiff, reduceCtorEq, Int.reduceToNat]
    exact Fin_val (by simp [resV, upd_at, retA, rRaw_eq]) (by simp [resV, upd_at, ResOk])
theorem h8 (l : List Vl) (hl : l.length ≤ 1000000000000) : HT 8 [.dat 3 (vl l)] [] (.s (rText l)) true [] := by
  refine holds_of (c := Tryd.f8.body.getD .skip) (k := k8.1) (ts := [2]) HOk mixedT hintT Tryd.func8 (by kernel_rfl) (by kernel_rfl) (by kernel_rfl) k8.2 (by kernel_rfl) (le_of 1 _ (by kernel_rfl)) ?_
  simp -dsimp only [k8, go_sem, ↓reduceIte, Nat.reduceEqDiff, Int.reduceLE, Int.reduceLT, Int.reduceNeg, Int.reduceEq, Int.reduceBEq, Int.reduceBNe, Nat.reduceMul, Nat.reduceAdd, Nat.reduceLeDiff, reduceCtorEq, Int.reduceToNat]
  refine Call_val (own := true) (h21 l hl) (by simp [ExpOk, AV.pure]) (.inl rfl) ?_
  by_cases h : rOk l
  · simp -dsimp only [h, go_sem, ↓reduceIte, Nat.reduceEqDiff, Int.reduceLE, Int.reduceLT, Int.reduceNeg, Int.reduceEq, Int.reduceBEq, Int.reduceBNe, Nat.reduceMul, Nat.reduceAdd, Nat.reduceLeDiff, reduceCtorEq, Int.reduceToNat]
    refine Call_val (own := true) (h22 l hl) (by simp [ExpOk, AV.pure]) (.inl rfl) ?_
    simp -dsimp only [go_sem, ↓reduceIte, Nat.reduceEqDiff, Int.reduceLE, Int.reduceLT, Int.reduceNeg, Int.reduceEq, Int.reduceBEq, Int.reduceBNe, Nat.reduceMul, Nat.reduceAdd, Nat.reduceLeDiff, reduceCtorEq, Int.reduceToNat]
    exact Fin_val (by simp [resV, upd_at, retA, rText, h]) (by simp [resV, upd_at, ResOk])
  · simp -dsimp only [h, go_sem, ↓reduceIte, Nat.reduceEqDiff, Int.reduceLE, Int.reduceLT, Int.reduceNeg, Int.reduceEq, Int.reduceBEq, Int.reduceBNe, Nat.reduceMul, Nat.reduceAdd, Nat.reduceLeDiff, reduceCtorEq, Int.reduceToNat]
    exact Fin_val (by simp [resV, upd_at, retA, rText, h]) (by simp [resV, upd_at, ResOk])
def vO (l : List Vl) : Ob := { ver := 1, es := vl l, esz := 3, own := True }
def rdrR (x : Option (List Vl)) : AV := match x with | some l => .tup [.sl (.p 0) 1 0 l.length (capE l.length), .b true] | none => .tup [.nils, .b false]
def rdrO (x : Option (List Vl)) : List Ob := match x with | some l => [vO l] | none => []
theorem sub_vl (l : List Vl) : sub (vl l) 0 l.length = vl l := sub_whole (vl_len l).symm
theorem rdr_none {g : Slots} {h : Heap} (g2 : g 2 = .nils) (g3 : g 3 = .b false) : FinB [2, 3] [] (rdrR none) true (rdrO none) g h :=
  Fin_val (by simp [resV, g2, g3, retA, retL, rdrR]) (by simp [resV, g2, g3, ResOk, ResL])
theorem rdr_some {g : Slots} {h : Heap} {l : List Vl} {o : Rid} {v : Nat} {q : Prop} (ho : o.isP = false) (g2 : g 2 = .sl o v 0 l.length (capE l.length)) (g3 : g 3 = .b true) (hh : h o = some { ver := v, es := vl l, esz := 3, own := q }) : FinB [2, 3] [] (rdrR (some l)) true (rdrO (some l)) g h := by
  refine Fin_one (obs := []) o { ver := v, es := vl l, esz := 3, own := q } (vO l) ho hh rfl (.inr (vl_flat _)) (vl_pure _) (fun k x hk => by simp at hk) ?_ ?_
  · simp [resV, g2, g3, retA, retL, cur, hh, List.idxOf?_cons, rdrR]
  · simp [resV, g2, g3, ResOk, ResL, cur, hh]
theorem h11 (s : List UInt8) (hs : s.length ≤ 1000000000) : HT 11 [.s s] [] (rdrR (rRd s)) true (rdrO (rRd s)) := by
  refine holds_of (c := Tryd.f11.body.getD .skip) (k := k11.1) (ts := [2, 3]) HOk mixedT hintT Tryd.func11 (by kernel_rfl) (by kernel_rfl) (by kernel_rfl) k11.2 (by kernel_rfl) (le_of 1 _ (by kernel_rfl)) ?_
  have hwl := words_len 44 s
  have d24 : HT 24 [.s s, .i .u8 44] [] (.sl (.p 0) 1 0 (words 44 s).length none) true [wsO (words 44 s)] := h24 s 44 (by omega)
  simp -dsimp only [k11, go_sem, ↓reduceIte, Nat.reduceEqDiff, Int.reduceLE, Int.reduceLT, Int.reduceNeg, Int.reduceEq, Int.reduceBEq, Int.reduceBNe, Nat.reduceMul, Nat.reduceAdd, Nat.reduceLeDiff, reduceCtorEq, Int.reduceToNat]
  refine Call_news (own := true) d24 (by simp [ExpOk, AV.pure]) (by simp [wsO, ws_pure]) (.inl rfl) (by simp [wsO]) ?_
  simp -dsimp only [impA, Option.getD_some, Nat.sub_self, wsO, go_sem, ↓reduceIte, Nat.reduceEqDiff, Int.reduceLE, Int.reduceLT, Int.reduceNeg, Int.reduceEq, Int.reduceBEq, Int.reduceBNe, Nat.reduceMul, Nat.reduceAdd, Nat.reduceLeDiff, reduceCtorEq, Int.reduceToNat]
  have hdl : ((words 44 s).drop 1).length = (words 44 s).length - 1 := List.length_drop ..
  have hw1 : 1 ≤ (words 44 s).length := by
    have := words_ne 44 s
    cases h3 : words 44 s with
    | nil => exact absurd h3 this
    | cons x y => simp
  refine K_for ((words 44 s).length - 1) (fun i g h c => ∃ (out : List Vl) (cap : Option Nat) (v : Nat) (q : Prop), (((words 44 s).drop 1).take i).map vRd = out.map some ∧ (cap = capE out.length) ∧ g 0 = .s s ∧ g 4 = .sl (.r 10 0) 1 0 (words 44 s).length none ∧ g 5 = .sl (.l 11) v 0 out.length cap ∧ g 6 = i64 (i + 1 : Nat) ∧
      h (.r 10 0) = some { ver := 1, es := ws (words 44 s), esz := 1, own := True } ∧ h (.l 11) = some { ver := v, es := vl out, esz := 3, own := q }) ?_ ?_ ?_
  · exact ⟨[], some 0, 2, _, by simp, rfl, by simp [upd_at, S_0], by simp [upd_at], by simp [upd_at], by simp [upd_at], by simp [hup_at], (by simp only [hup_at, newObs, ↓reduceIte, Nat.reduceEqDiff, reduceCtorEq, Rid.r.injEq, Rid.l.injEq, Nat.reduceAdd, Nat.zero_add, and_self, and_true, and_false, false_and, true_and] <;> rfl)⟩
  · rintro i A hi hA g h c ⟨out, cap, v, q, hI, hcap, q0, q4, q5, q6, m10, m11⟩
    have hc : ((i + 1 : Nat) : Int) < ((words 44 s).length : Int) := by omega
    have hg := ws_get (l := words 44 s) (i := i + 1) (by omega)
    have hx : ((words 44 s).drop 1).getD i [] = (words 44 s).getD (i + 1) [] := by simp [List.getD_eq_getElem?_getD, Nat.add_comm]
    have w1 : IntKind.i64.wrap (((i + 1 : Nat) : Int) + 1) = ((i + 1 + 1 : Nat) : Int) := by rw [wr (by omega) (by omega)]; rfl
    have hol := len_of_map hI
    rw [List.length_take] at hol
    have hwm : ((words 44 s).getD (i + 1) []).length ≤ s.length := words_mem_len (c := 44) (by rw [List.getD_eq_getElem?_getD, List.getElem?_eq_getElem (show i + 1 < (words 44 s).length by omega)]; simp)
    have d25 := h25 ((words 44 s).getD (i + 1) []) (by omega)
    simp -dsimp only [q0, q4, q5, q6, hc, hg, m10, ws_len, Nat.zero_add, go_sem, ↓reduceIte, Nat.reduceEqDiff, Int.reduceLE, Int.reduceLT, Int.reduceNeg, Int.reduceEq, Int.reduceBEq, Int.reduceBNe, Nat.reduceMul, Nat.reduceAdd, Nat.reduceLeDiff, reduceCtorEq, Int.reduceToNat]
    unfold rdvR at d25
    refine Call_val (own := true) (d25) (by simp [ExpOk, AV.pure]) (.inl rfl) ?_
    cases hv : vRd ((words 44 s).getD (i + 1) []) with
    | none =>
      simp -dsimp only [hv, Option.isSome_none, Option.getD_none, vC, v0, go_sem, ↓reduceIte, Nat.reduceEqDiff, Int.reduceLE, Int.reduceLT, Int.reduceNeg, Int.reduceEq, Int.reduceBEq, Int.reduceBNe, Nat.reduceMul, Nat.reduceAdd, Nat.reduceLeDiff, reduceCtorEq, Int.reduceToNat]
      have e : rRd s = none := rr_fail (i := i) (by omega) (by rw [hx]; exact hv)
      rw [e]
      refine rdr_none ?_ ?_ <;> exact (by simp only [upd_at, ↓reduceIte, Nat.reduceEqDiff] <;> rfl)
    | some x =>
      have fx : AM.Flat [[AV.i .i64 x.1, .i .i64 x.2.1, .s x.2.2]] := vl_flat [x]
      have gx : AM.Good [[AV.i .i64 x.1, .i .i64 x.2.1, .s x.2.2]] 3 := vl_good [x]
      simp -dsimp only [hv, Option.isSome_some, Option.getD_some, vC, q5, q6, m11, vl_len, go_sem, ↓reduceIte, Nat.reduceEqDiff, Int.reduceLE, Int.reduceLT, Int.reduceNeg, Int.reduceEq, Int.reduceBEq, Int.reduceBNe, Nat.reduceMul, Nat.reduceAdd, Nat.reduceLeDiff, reduceCtorEq, Int.reduceToNat]
      refine EK_p ⟨⟨fun _ => fx, gx⟩, by unfold bigOk; omega, by omega⟩ ?_
      simp -dsimp only [q6, w1, go_sem, ↓reduceIte, Nat.reduceEqDiff, Int.reduceLE, Int.reduceLT, Int.reduceNeg, Int.reduceEq, Int.reduceBEq, Int.reduceBNe, Nat.reduceMul, Nat.reduceAdd, Nat.reduceLeDiff, reduceCtorEq, Int.reduceToNat]
      refine hA _ _ _ ⟨out ++ [x], none, _, _, ?_, by simp [capE], by simp [upd_at, q0], by simp [upd_at, q4], (by rw [List.length_append]; simp only [upd_at, ↓reduceIte, Nat.reduceEqDiff] <;> rfl), (by simp only [upd_at, ↓reduceIte, Nat.reduceEqDiff] <;> rfl), (by simp only [hup_at, newObs, updObs, ↓reduceIte, Nat.reduceEqDiff, reduceCtorEq, Rid.r.injEq, Rid.l.injEq, Rid.p.injEq, Nat.reduceAdd, Nat.zero_add, and_self, and_true, and_false, false_and, true_and]; exact m10), (by rw [vl_app]; simp only [hup_at, newObs, updObs, ↓reduceIte, Nat.reduceEqDiff, reduceCtorEq, Rid.r.injEq, Rid.l.injEq, Rid.p.injEq, Nat.reduceAdd, Nat.zero_add, and_self, and_true, and_false, false_and, true_and] <;> rfl)⟩
      exact take_map_succ (d := []) (by omega) hI (by rw [hx]; exact hv)
  · rintro A g h c ⟨out, cap, v, q, hI, hcap, q0, q4, q5, q6, m10, m11⟩
    have hc : ¬ (((words 44 s).length - 1 + 1 : Nat) : Int) < ((words 44 s).length : Int) := by omega
    rw [List.take_of_length_le (by omega)] at hI
    have hol := len_of_map hI
    have e := rr_end hI
    have d8 := h8 out (by omega)
    simp -dsimp only [q0, q4, q5, q6, hc, m10, ws_len, go_sem, ↓reduceIte, Nat.reduceEqDiff, Int.reduceLE, Int.reduceLT, Int.reduceNeg, Int.reduceEq, Int.reduceBEq, Int.reduceBNe, Nat.reduceMul, Nat.reduceAdd, Nat.reduceLeDiff, reduceCtorEq, Int.reduceToNat]
    refine Call_val (own := true) (v := .s (rText out)) (by simpa [expL, expA, cur, hup_at, List.idxOf?_cons, List.idxOf?_nil, objs_l, objs_r, objs_p, m11, sub_vl, vl_pure, vl_len] using d8) (by simp [ExpOk, AV.pure, cur, hup_at, List.idxOf?_cons, List.idxOf?_nil, objs_l, objs_r, objs_p, m11, sub_vl, vl_pure, vl_len]) (.inl rfl) ?_
    by_cases ht : rText out = s
    · have b1 : (!(rText out == s)) = false := by simp [ht]
      by_cases hn : s = []
      · have b2 : (s == []) = true := by simp [hn]
        simp -dsimp only [b1, q0, b2, go_sem, ↓reduceIte, Nat.reduceEqDiff, Int.reduceLE, Int.reduceLT, Int.reduceNeg, Int.reduceEq, Int.reduceBEq, Int.reduceBNe, Nat.reduceMul, Nat.reduceAdd, Nat.reduceLeDiff, reduceCtorEq, Int.reduceToNat]
        rw [e, if_neg (fun h3 => h3.1 hn)]
        refine rdr_none ?_ ?_ <;> exact (by simp only [upd_at, ↓reduceIte, Nat.reduceEqDiff] <;> rfl)
      · have b2 : (s == []) = false := by rw [nil_beq]; simp [hn]
        simp -dsimp only [b1, q0, b2, q5, m11, go_sem, ↓reduceIte, Nat.reduceEqDiff, Int.reduceLE, Int.reduceLT, Int.reduceNeg, Int.reduceEq, Int.reduceBEq, Int.reduceBNe, Nat.reduceMul, Nat.reduceAdd, Nat.reduceLeDiff, reduceCtorEq, Int.reduceToNat]
        rw [e, if_pos ⟨hn, ht⟩]
        subst hcap
        exact rdr_some (o := .l 11) rfl (by simp only [upd_at, ↓reduceIte, Nat.reduceEqDiff] <;> rfl) (by simp only [upd_at, ↓reduceIte, Nat.reduceEqDiff] <;> rfl) m11
    · have b1 : (!(rText out == s)) = true := by simp [ht]
      simp -dsimp only [b1, q0, go_sem, ↓reduceIte, Nat.reduceEqDiff, Int.reduceLE, Int.reduceLT, Int.reduceNeg, Int.reduceEq, Int.reduceBEq, Int.reduceBNe, Nat.reduceMul, Nat.reduceAdd, Nat.reduceLeDiff, reduceCtorEq, Int.reduceToNat]
      rw [e, if_neg (fun h3 => ht h3.2)]
      refine rdr_none ?_ ?_ <;> exact (by simp only [upd_at, ↓reduceIte, Nat.reduceEqDiff] <;> rfl)
end FrA

