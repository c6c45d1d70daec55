/- Drawn values and rows of values: some. Walked. No condition. -/
import Derived.Test.YtdlaklminigoaaaDoorAmRd1
import Derived.Test.YtdlaklminigoaaaDoorAmVaF
import Derived.Test.YtdlaklminigoaaaDoorAmKsD
set_option linter.all false
set_option linter.unusedSimpArgs false
set_option linter.unusedVariables false
set_option linter.deprecated false
/-! DrA -/
open Go Go.AM
namespace FrA
open Go.Proofs
set_option maxRecDepth 100000
set_option linter.unusedSimpArgs false
def vB (v : Vl) : Prop := v.2.2.length ≤ 12
def valΦ (code : List UInt8) (r : AV) (o' : List Ob) : Prop := ∃ p', p' ≤ code.length ∧ o' = [rdO code p'] ∧ ∃ v : Vl, r = .agg (vC v) ∧ vB v
theorem int_get {l : List Int} {i : Nat} (h : i < l.length) : (l.map fun n => [AV.i .i64 n])[i]? = some [.i .i64 (l.getD i 0)] := by simp [List.getElem?_eq_getElem h]
def txs6 : List (List UInt8) := [[], [97], [98], [97, 32, 98], [105, 116, 39, 115], [120, 44, 37]]
def nms : List Int := [-1000000000, 1000000000, -5, 70]
theorem txs6_len : ∀ i, i < 6 → (txs6.getD i []).length ≤ 12 := by decide
theorem h26 (code : List UInt8) (p : Nat) (hp : p ≤ code.length) (hc : code.length ≤ 1048576) : HC 26 [.ptr (.p 0) 0 0 0] [rdO code p] false (valΦ code) := by
  refine holdsc_of (c := Tryd.f26.body.getD .skip) (k := k26.1) (cs := [(2, some (true, 3))]) HOk mixedT hintT Tryd.func26 (by kernel_rfl) (by kernel_rfl) (by kernel_rfl) k26.2 (by kernel_rfl) (le_of 1 _ (by kernel_rfl)) ?_
  simp -dsimp only [k26, go_sem, ↓reduceIte, Nat.reduceEqDiff, Int.reduceLE, Int.reduceLT, Int.reduceNeg, Int.reduceEq, Int.reduceBEq, Int.reduceBNe, Nat.reduceMul, Nat.reduceAdd, Nat.reduceLeDiff, reduceCtorEq, Int.reduceToNat]
  refine Call_rd (by simp [hup_at]; exact rd_obj code p) (h14 code p 12 hp hc (by omega)) (fun a ha => by simp at ha; subst ha; exact ⟨rfl, rfl⟩) ?_
  have hp1 := blw_le 12 hp
  have hl := blw_lt code p 12 (by omega)
  generalize (blw code p 12).2 = p1 at hp1
  generalize (blw code p 12).1 = m at hl
  have fin : ∀ (v : Vl) (p' : Nat) (g : Slots) (h : Heap) (c : Nat) (q : Prop), p' ≤ code.length → vB v → g 2 = .ptr (.l 2) 1 0 0 → h (.p 0) = some (rdV code p' 0 true) → h (.l 2) = some { ver := 1, es := [vC v], esz := 3, own := q, fixed := true } →
      FinC [(2, some (true, 3))] [rdO code p] false (valΦ code) .ret g h c := by
    intro v p' g h c q hp' hv g2 m0 m2
    obtain ⟨k, n, s⟩ := v
    refine rd_finP (p' := p') (.agg (vC (k, n, s))) (pr := (q → AM.Flat [vC (k, n, s)])) (l := [.agg (vC (k, n, s))]) m0 ?_ (fun _ => vl_flat [(k, n, s)]) ?_ ?_ ⟨p', hp', rfl, _, rfl, hv⟩
    · simp [resM, resE, g2, loadF, cur, m2, yes, vC]
    · simp [resOne, retA, retL, vC]
    · simp [resOne, ResOk, ResL, vC]
  have hl6 := blw_lt code p1 6 (by omega)
  have hl4 := blw_lt code p1 4 (by omega)
  have hp6 := blw_le 6 hp1
  have hp4 := blw_le 4 hp1
  have hp5 := blw_le 5 hp1
  have d6 := h14 code p1 6 hp1 hc (by omega)
  have d4 := h14 code p1 4 hp1 hc (by omega)
  have d5 := h14 code p1 5 hp1 hc (by omega)
  have g6 := row_get (l := txs6) (i := (blw code p1 6).1) hl6
  have g4 := int_get (l := nms) (i := (blw code p1 4).1) hl4
  have l6 := txs6_len _ hl6
  generalize (blw code p1 6).2 = p6 at d6 hp6
  generalize (blw code p1 4).2 = p4 at d4 hp4
  generalize (blw code p1 5).2 = p5 at d5 hp5
  simp only [txs6, nms, List.map_cons, List.map_nil] at g6 g4
  generalize (blw code p1 6).1 = i6 at d6 hl6 g6 l6
  generalize (blw code p1 4).1 = i4 at d4 hl4 g4
  generalize (blw code p1 5).1 = i5 at d5
  have e6 : [[], [97], [98], [97, 32, 98], [105, 116, 39, 115], [120, 44, 37]].getD i6 [] = txs6.getD i6 [] := rfl
  rw [e6] at g6
  generalize txs6.getD i6 [] = tx at g6 l6
  generalize [-1000000000, 1000000000, -5, 70].getD i4 0 = nx at g4
  have n6 : ((i6 : Nat) : Int) < 6 := by omega
  have n4' : ((i4 : Nat) : Int) < 4 := by omega
  have cs : m = 0 ∨ m = 1 ∨ m = 2 ∨ m = 3 ∨ m = 4 ∨ (m ≠ 0 ∧ m ≠ 1 ∧ m ≠ 2 ∧ m ≠ 3 ∧ m ≠ 4) := by omega
  have bF : ∀ k : Nat, m ≠ k → ((m : Int) == (k : Int)) = false := fun k hk => by simp; omega
  have bT : ∀ k : Nat, m = k → ((m : Int) == (k : Int)) = true := fun k hk => by simp [hk]
  rcases cs with n0 | n1 | n2 | n3 | n4 | ⟨n0, n1, n2, n3, n4⟩
  · have b0 : ((m : Int) == 0) = true := bT 0 n0
    simp -dsimp only [b0, go_sem, ↓reduceIte, Nat.reduceEqDiff, Int.reduceLE, Int.reduceLT, Int.reduceNeg, Int.reduceEq, Int.reduceBEq, Int.reduceBNe, Nat.reduceMul, Nat.reduceAdd, Nat.reduceLeDiff, reduceCtorEq, Int.reduceToNat]
    exact fin (0, 0, []) p1 _ _ _ _ hp1 (by simp [vB]) (by simp [upd_at]) (by simp [hup_at]) (by simp only [hup_at, newObs, ↓reduceIte, Nat.reduceEqDiff, reduceCtorEq, Rid.r.injEq, Rid.l.injEq, Nat.reduceAdd, Nat.zero_add, and_self, and_true, and_false, false_and, true_and] <;> rfl)
  · have b0 : ((m : Int) == 0) = false := bF 0 (by omega)
    have b1 : ((m : Int) == 1) = true := bT 1 n1
    simp -dsimp only [b0, b1, go_sem, ↓reduceIte, Nat.reduceEqDiff, Int.reduceLE, Int.reduceLT, Int.reduceNeg, Int.reduceEq, Int.reduceBEq, Int.reduceBNe, Nat.reduceMul, Nat.reduceAdd, Nat.reduceLeDiff, reduceCtorEq, Int.reduceToNat]
    exact fin (0, 0, []) p1 _ _ _ _ hp1 (by simp [vB]) (by simp [upd_at]) (by simp [hup_at]) (by simp only [hup_at, newObs, ↓reduceIte, Nat.reduceEqDiff, reduceCtorEq, Rid.r.injEq, Rid.l.injEq, Nat.reduceAdd, Nat.zero_add, and_self, and_true, and_false, false_and, true_and] <;> rfl)
  · have b0 : ((m : Int) == 0) = false := bF 0 (by omega)
    have b1 : ((m : Int) == 1) = false := bF 1 (by omega)
    have b2 : ((m : Int) == 2) = true := bT 2 n2
    simp -dsimp only [b0, b1, b2, chunk, go_sem, ↓reduceIte, Nat.reduceEqDiff, Int.reduceLE, Int.reduceLT, Int.reduceNeg, Int.reduceEq, Int.reduceBEq, Int.reduceBNe, Nat.reduceMul, Nat.reduceAdd, Nat.reduceLeDiff, reduceCtorEq, Int.reduceToNat]
    refine Call_rd (by simp only [hup_at, newObs, ↓reduceIte, Nat.reduceEqDiff, reduceCtorEq, Rid.r.injEq, Rid.l.injEq, Nat.reduceAdd, Nat.zero_add, and_self, and_true, and_false, false_and, true_and] <;> rfl) d6 (fun a ha => by simp at ha; subst ha; exact ⟨rfl, rfl⟩) ?_
    simp -dsimp only [g6, n6, go_sem, ↓reduceIte, Nat.reduceEqDiff, Int.reduceLE, Int.reduceLT, Int.reduceNeg, Int.reduceEq, Int.reduceBEq, Int.reduceBNe, Nat.reduceMul, Nat.reduceAdd, Nat.reduceLeDiff, reduceCtorEq, Int.reduceToNat]
    refine VK_p (by first | omega | (simp only [List.length_cons, List.length_nil, List.length_append]; omega) | (refine ⟨by omega, by omega, ?_⟩; first | omega | (simp only [List.length_cons, List.length_nil, List.length_append]; omega)) | (simp; omega) | (simp; done)) ?_
    simp -dsimp only [g6, go_sem, ↓reduceIte, Nat.reduceEqDiff, Int.reduceLE, Int.reduceLT, Int.reduceNeg, Int.reduceEq, Int.reduceBEq, Int.reduceBNe, Nat.reduceMul, Nat.reduceAdd, Nat.reduceLeDiff, reduceCtorEq, Int.reduceToNat]
    refine Call_val (own := true) (h42 tx) (by simp [ExpOk, AV.pure]) (.inl rfl) ?_
    simp -dsimp only [vC, go_sem, ↓reduceIte, Nat.reduceEqDiff, Int.reduceLE, Int.reduceLT, Int.reduceNeg, Int.reduceEq, Int.reduceBEq, Int.reduceBNe, Nat.reduceMul, Nat.reduceAdd, Nat.reduceLeDiff, reduceCtorEq, Int.reduceToNat]
    exact fin (2, 0, tx) p6 _ _ _ _ hp6 l6 (by simp [upd_at]) (by simp [hup_at]) (by simp only [hup_at, newObs, ↓reduceIte, Nat.reduceEqDiff, reduceCtorEq, Rid.r.injEq, Rid.l.injEq, Nat.reduceAdd, Nat.zero_add, and_self, and_true, and_false, false_and, true_and] <;> rfl)
  · have b0 : ((m : Int) == 0) = false := bF 0 (by omega)
    have b1 : ((m : Int) == 1) = false := bF 1 (by omega)
    have b2 : ((m : Int) == 2) = false := bF 2 (by omega)
    have b3 : ((m : Int) == 3) = true := bT 3 n3
    simp -dsimp only [b0, b1, b2, b3, chunk, go_sem, ↓reduceIte, Nat.reduceEqDiff, Int.reduceLE, Int.reduceLT, Int.reduceNeg, Int.reduceEq, Int.reduceBEq, Int.reduceBNe, Nat.reduceMul, Nat.reduceAdd, Nat.reduceLeDiff, reduceCtorEq, Int.reduceToNat]
    refine Call_rd (by simp only [hup_at, newObs, ↓reduceIte, Nat.reduceEqDiff, reduceCtorEq, Rid.r.injEq, Rid.l.injEq, Nat.reduceAdd, Nat.zero_add, and_self, and_true, and_false, false_and, true_and] <;> rfl) d6 (fun a ha => by simp at ha; subst ha; exact ⟨rfl, rfl⟩) ?_
    simp -dsimp only [g6, n6, go_sem, ↓reduceIte, Nat.reduceEqDiff, Int.reduceLE, Int.reduceLT, Int.reduceNeg, Int.reduceEq, Int.reduceBEq, Int.reduceBNe, Nat.reduceMul, Nat.reduceAdd, Nat.reduceLeDiff, reduceCtorEq, Int.reduceToNat]
    refine VK_p (by first | omega | (simp only [List.length_cons, List.length_nil, List.length_append]; omega) | (refine ⟨by omega, by omega, ?_⟩; first | omega | (simp only [List.length_cons, List.length_nil, List.length_append]; omega)) | (simp; omega) | (simp; done)) ?_
    simp -dsimp only [g6, go_sem, ↓reduceIte, Nat.reduceEqDiff, Int.reduceLE, Int.reduceLT, Int.reduceNeg, Int.reduceEq, Int.reduceBEq, Int.reduceBNe, Nat.reduceMul, Nat.reduceAdd, Nat.reduceLeDiff, reduceCtorEq, Int.reduceToNat]
    refine Call_val (own := true) (h42 tx) (by simp [ExpOk, AV.pure]) (.inl rfl) ?_
    simp -dsimp only [vC, go_sem, ↓reduceIte, Nat.reduceEqDiff, Int.reduceLE, Int.reduceLT, Int.reduceNeg, Int.reduceEq, Int.reduceBEq, Int.reduceBNe, Nat.reduceMul, Nat.reduceAdd, Nat.reduceLeDiff, reduceCtorEq, Int.reduceToNat]
    exact fin (2, 0, tx) p6 _ _ _ _ hp6 l6 (by simp [upd_at]) (by simp [hup_at]) (by simp only [hup_at, newObs, ↓reduceIte, Nat.reduceEqDiff, reduceCtorEq, Rid.r.injEq, Rid.l.injEq, Nat.reduceAdd, Nat.zero_add, and_self, and_true, and_false, false_and, true_and] <;> rfl)
  · have b0 : ((m : Int) == 0) = false := bF 0 (by omega)
    have b1 : ((m : Int) == 1) = false := bF 1 (by omega)
    have b2 : ((m : Int) == 2) = false := bF 2 (by omega)
    have b3 : ((m : Int) == 3) = false := bF 3 (by omega)
    have b4 : ((m : Int) == 4) = true := bT 4 n4
    simp -dsimp only [b0, b1, b2, b3, b4, chunk, go_sem, ↓reduceIte, Nat.reduceEqDiff, Int.reduceLE, Int.reduceLT, Int.reduceNeg, Int.reduceEq, Int.reduceBEq, Int.reduceBNe, Nat.reduceMul, Nat.reduceAdd, Nat.reduceLeDiff, reduceCtorEq, Int.reduceToNat]
    refine Call_rd (by simp only [hup_at, newObs, ↓reduceIte, Nat.reduceEqDiff, reduceCtorEq, Rid.r.injEq, Rid.l.injEq, Nat.reduceAdd, Nat.zero_add, and_self, and_true, and_false, false_and, true_and] <;> rfl) d4 (fun a ha => by simp at ha; subst ha; exact ⟨rfl, rfl⟩) ?_
    simp -dsimp only [g4, n4', go_sem, ↓reduceIte, Nat.reduceEqDiff, Int.reduceLE, Int.reduceLT, Int.reduceNeg, Int.reduceEq, Int.reduceBEq, Int.reduceBNe, Nat.reduceMul, Nat.reduceAdd, Nat.reduceLeDiff, reduceCtorEq, Int.reduceToNat]
    refine VK_p (by first | omega | (simp only [List.length_cons, List.length_nil, List.length_append]; omega) | (refine ⟨by omega, by omega, ?_⟩; first | omega | (simp only [List.length_cons, List.length_nil, List.length_append]; omega)) | (simp; omega) | (simp; done)) ?_
    simp -dsimp only [g4, go_sem, ↓reduceIte, Nat.reduceEqDiff, Int.reduceLE, Int.reduceLT, Int.reduceNeg, Int.reduceEq, Int.reduceBEq, Int.reduceBNe, Nat.reduceMul, Nat.reduceAdd, Nat.reduceLeDiff, reduceCtorEq, Int.reduceToNat]
    refine Call_val (own := true) (h44 nx) (by simp [ExpOk, AV.pure]) (.inl rfl) ?_
    simp -dsimp only [vC, go_sem, ↓reduceIte, Nat.reduceEqDiff, Int.reduceLE, Int.reduceLT, Int.reduceNeg, Int.reduceEq, Int.reduceBEq, Int.reduceBNe, Nat.reduceMul, Nat.reduceAdd, Nat.reduceLeDiff, reduceCtorEq, Int.reduceToNat]
    exact fin (1, nx, []) p4 _ _ _ _ hp4 (by simp [vB]) (by simp [upd_at]) (by simp [hup_at]) (by simp only [hup_at, newObs, ↓reduceIte, Nat.reduceEqDiff, reduceCtorEq, Rid.r.injEq, Rid.l.injEq, Nat.reduceAdd, Nat.zero_add, and_self, and_true, and_false, false_and, true_and] <;> rfl)
  · have b0 : ((m : Int) == 0) = false := bF 0 n0
    have b1 : ((m : Int) == 1) = false := bF 1 n1
    have b2 : ((m : Int) == 2) = false := bF 2 n2
    have b3 : ((m : Int) == 3) = false := bF 3 n3
    have b4 : ((m : Int) == 4) = false := bF 4 n4
    simp -dsimp only [b0, b1, b2, b3, b4, go_sem, ↓reduceIte, Nat.reduceEqDiff, Int.reduceLE, Int.reduceLT, Int.reduceNeg, Int.reduceEq, Int.reduceBEq, Int.reduceBNe, Nat.reduceMul, Nat.reduceAdd, Nat.reduceLeDiff, reduceCtorEq, Int.reduceToNat]
    refine Call_rd (by simp only [hup_at, newObs, ↓reduceIte, Nat.reduceEqDiff, reduceCtorEq, Rid.r.injEq, Rid.l.injEq, Nat.reduceAdd, Nat.zero_add, and_self, and_true, and_false, false_and, true_and] <;> rfl) d5 (fun a ha => by simp at ha; subst ha; exact ⟨rfl, rfl⟩) ?_
    simp -dsimp only [go_sem, ↓reduceIte, Nat.reduceEqDiff, Int.reduceLE, Int.reduceLT, Int.reduceNeg, Int.reduceEq, Int.reduceBEq, Int.reduceBNe, Nat.reduceMul, Nat.reduceAdd, Nat.reduceLeDiff, reduceCtorEq, Int.reduceToNat]
    refine Call_val (own := true) (h44 (i5 : Int)) (by simp [ExpOk, AV.pure]) (.inl rfl) ?_
    simp -dsimp only [vC, go_sem, ↓reduceIte, Nat.reduceEqDiff, Int.reduceLE, Int.reduceLT, Int.reduceNeg, Int.reduceEq, Int.reduceBEq, Int.reduceBNe, Nat.reduceMul, Nat.reduceAdd, Nat.reduceLeDiff, reduceCtorEq, Int.reduceToNat]
    exact fin (1, (i5 : Int), []) p5 _ _ _ _ hp5 (by simp [vB]) (by simp [upd_at]) (by simp [hup_at]) (by simp only [hup_at, newObs, ↓reduceIte, Nat.reduceEqDiff, reduceCtorEq, Rid.r.injEq, Rid.l.injEq, Nat.reduceAdd, Nat.zero_add, and_self, and_true, and_false, false_and, true_and] <;> rfl)
/-- So many values, as a new row. -/
def valsΦ (code : List UInt8) (n : Nat) (r : AV) (o' : List Ob) : Prop := ∃ p' ob, p' ≤ code.length ∧ o' = [rdO code p', ob] ∧ ∃ l : List Vl, l.length = n ∧ (∀ v ∈ l, vB v) ∧ r = .sl (.p 1) 1 0 n (capE n) ∧ ob = vO l
theorem h13 (code : List UInt8) (p n : Nat) (hp : p ≤ code.length) (hc : code.length ≤ 1048576) (hn : n ≤ 1000) : HC 13 [.ptr (.p 0) 0 0 0, i64 n] [rdO code p] false (valsΦ code n) := by
  refine holds_of (c := Tryd.f13.body.getD .skip) (k := k13.1) (ts := [4]) HOk mixedT hintT Tryd.func13 (by kernel_rfl) (by kernel_rfl) (by kernel_rfl) k13.2 (by kernel_rfl) (le_of 2 _ (by kernel_rfl)) ?_
  simp -dsimp only [k13, go_sem, ↓reduceIte, Nat.reduceEqDiff, Int.reduceLE, Int.reduceLT, Int.reduceNeg, Int.reduceEq, Int.reduceBEq, Int.reduceBNe, Nat.reduceMul, Nat.reduceAdd, Nat.reduceLeDiff, reduceCtorEq, Int.reduceToNat]
  refine K_for n (fun i g h c => ∃ (l : List Vl) (p' v : Nat) (q : Prop), l.length = i ∧ (∀ v ∈ l, vB v) ∧ p' ≤ code.length ∧ g 0 = .ptr (.p 0) 0 0 0 ∧ g 1 = i64 n ∧ g 5 = .sl (.l 7) v 0 i (capE i) ∧ g 6 = i64 i ∧ h (.p 0) = some (rdV code p' 0 true) ∧ h (.l 7) = some { ver := v, es := vl l, esz := 3, own := q }) ?_ ?_ ?_
  · exact ⟨[], p, 1, _, rfl, by simp, hp, by simp [upd_at, S_0], by simp [upd_at, S_1], by simp [upd_at, capE], by simp [upd_at], by simp [hup_at]; exact rd_obj code p, (by simp only [hup_at, newObs, ↓reduceIte, Nat.reduceEqDiff, reduceCtorEq, Rid.r.injEq, Rid.l.injEq, Nat.reduceAdd, Nat.zero_add, and_self, and_true, and_false, false_and, true_and] <;> rfl)⟩
  · rintro i A hi hA g h c ⟨l, p', v, q, hl, hb, hp', q0, q1, q5, q6, m0, m7⟩
    have hc1 : (i : Int) < (n : Int) := by omega
    have w1 : IntKind.i64.wrap ((i : Int) + 1) = ((i + 1 : Nat) : Int) := by rw [wr (by omega) (by omega)]; rfl
    simp -dsimp only [q0, q1, q5, q6, hc1, go_sem, ↓reduceIte, Nat.reduceEqDiff, Int.reduceLE, Int.reduceLT, Int.reduceNeg, Int.reduceEq, Int.reduceBEq, Int.reduceBNe, Nat.reduceMul, Nat.reduceAdd, Nat.reduceLeDiff, reduceCtorEq, Int.reduceToNat]
    refine Call_rds (Φ := fun r _ => ∃ v : Vl, r = .agg (vC v) ∧ vB v) m0 (h26 code p' hp' hc) (fun a ha => by cases ha) ?_
    rintro ret p2 hp2 ⟨x, rfl, hx⟩
    refine ⟨by simp [impA, impL, vC], ?_⟩
    have fx : AM.Flat [[AV.i .i64 x.1, .i .i64 x.2.1, .s x.2.2]] := vl_flat [x]
    have gx : AM.Good [[AV.i .i64 x.1, .i .i64 x.2.1, .s x.2.2]] 3 := vl_good [x]
    simp -dsimp only [vC, q5, q6, m7, vl_len, hl, go_sem, ↓reduceIte, Nat.reduceEqDiff, Int.reduceLE, Int.reduceLT, Int.reduceNeg, Int.reduceEq, Int.reduceBEq, Int.reduceBNe, Nat.reduceMul, Nat.reduceAdd, Nat.reduceLeDiff, reduceCtorEq, Int.reduceToNat]
    refine EK_p ⟨⟨fun _ => fx, gx⟩, by unfold bigOk; omega, by omega⟩ ?_
    simp -dsimp only [q6, w1, go_sem, ↓reduceIte, Nat.reduceEqDiff, Int.reduceLE, Int.reduceLT, Int.reduceNeg, Int.reduceEq, Int.reduceBEq, Int.reduceBNe, Nat.reduceMul, Nat.reduceAdd, Nat.reduceLeDiff, reduceCtorEq, Int.reduceToNat]
    refine hA _ _ _ ⟨l ++ [x], p2, _, _, by simp [hl], ?_, hp2, by simp [upd_at, q0], by simp [upd_at, q1], by simp [upd_at, capE]; rfl, by simp [upd_at], by simp [hup_at], (by rw [vl_app]; simp only [hup_at, newObs, updObs, ↓reduceIte, Nat.reduceEqDiff, reduceCtorEq, Rid.r.injEq, Rid.l.injEq, Rid.p.injEq, Nat.reduceAdd, Nat.zero_add, and_self, and_true, and_false, false_and, true_and] <;> rfl)⟩
    intro y hy
    rcases List.mem_append.1 hy with hy | hy
    · exact hb y hy
    · simp at hy; subst hy; exact hx
  · rintro A g h c ⟨l, p', v, q, hl, hb, hp', q0, q1, q5, q6, m0, m7⟩
    have hc1 : ¬ (n : Int) < (n : Int) := by omega
    simp -dsimp only [q0, q1, q5, q6, hc1, go_sem, ↓reduceIte, Nat.reduceEqDiff, Int.reduceLE, Int.reduceLT, Int.reduceNeg, Int.reduceEq, Int.reduceBEq, Int.reduceBNe, Nat.reduceMul, Nat.reduceAdd, Nat.reduceLeDiff, reduceCtorEq, Int.reduceToNat]
    refine rd_finN (p' := p') (.sl (.p 1) 1 0 n (capE n)) (.l 7) (vO l) v q rfl m0 m7 rfl (vl_pure _) (.inr (vl_flat _)) ?_ ?_ ⟨p', _, hp', rfl, l, hl, hb, rfl, rfl⟩
    · simp [resV, upd_at, retA, cur, m7, List.idxOf?_cons]
    · simp [resV, upd_at, ResOk, cur, m7]
end FrA

