/- Sorting by the reference; copies of values. Walked. No condition. -/
import Derived.Test.YtbhdjaccdaccbaaGreatAmG18
import Derived.Test.YtbhdjaccdaccbaaGreatAmG27
import Derived.Test.YtbhdjaccdaccbaaGreatAmG19
import Derived.Test.YtbhdjaccdaccbaaGreatAmG24
set_option linter.all false
set_option linter.unusedSimpArgs false
set_option linter.unusedVariables false
set_option linter.deprecated false
/-! DfB -/
section
open Go Go.AM
namespace FrA
open Go.Proofs
set_option maxRecDepth 100000
set_option linter.unusedSimpArgs false
theorem tw_lt {p : Int → Bool} : ∀ {l : List Int} {i : Nat}, i < (l.takeWhile p).length → i < l.length ∧ p (l.getD i 0) = true
  | [], i, h => by simp at h
  | a :: l, i, h => by
    rw [List.takeWhile_cons] at h
    by_cases hp : p a = true
    · rw [if_pos hp] at h
      cases i with
      | zero => simp [hp]
      | succ i =>
        have := tw_lt (l := l) (i := i) (by simpa using h)
        exact ⟨by simpa using this.1, by simpa using this.2⟩
    · rw [if_neg hp] at h; simp at h
theorem tw_end {p : Int → Bool} : ∀ {l : List Int}, (l.takeWhile p).length < l.length → p (l.getD (l.takeWhile p).length 0) = false
  | [], h => by simp at h
  | a :: l, h => by
    rw [List.takeWhile_cons] at h ⊢
    by_cases hp : p a = true
    · rw [if_pos hp] at h ⊢
      have := tw_end (l := l) (by simpa using h)
      simpa using this
    · rw [if_neg hp]; simpa using hp
theorem tw_take {p : Int → Bool} : ∀ {l : List Int}, l.take (l.takeWhile p).length = l.takeWhile p
  | [] => by simp
  | a :: l => by
    rw [List.takeWhile_cons]
    by_cases hp : p a = true
    · rw [if_pos hp]; simp [tw_take (l := l)]
    · rw [if_neg hp]; simp
theorem tw_drop {p : Int → Bool} : ∀ {l : List Int}, l.drop (l.takeWhile p).length = l.dropWhile p
  | [] => by simp
  | a :: l => by
    rw [List.takeWhile_cons, List.dropWhile_cons]
    by_cases hp : p a = true
    · rw [if_pos hp, if_pos hp]; simp [tw_drop (l := l)]
    · rw [if_neg hp, if_neg hp]; simp
def insA (y : Int) (o : List Int) : List Int := o.takeWhile (fun x => decide (x < y)) ++ [y] ++ o.dropWhile (fun x => decide (x < y))
def isort (l : List Int) : List Int := l.foldl (fun o y => insA y o) []
theorem insA_len (y : Int) (o : List Int) : (insA y o).length = o.length + 1 := by
  have := congrArg List.length (List.takeWhile_append_dropWhile (p := fun x => decide (x < y)) (l := o))
  rw [List.length_append] at this
  simp only [insA, List.length_append, List.length_cons, List.length_nil]; omega
theorem isort_len (l : List Int) : (isort l).length = l.length := by
  have : ∀ (l o : List Int), (l.foldl (fun o y => insA y o) o).length = o.length + l.length := by
    intro l
    induction l with
    | nil => intro o; simp
    | cons a l ih => intro o; rw [List.foldl_cons, ih, insA_len, List.length_cons]; omega
  have := this l []
  simpa [isort] using this
theorem isort_step {l : List Int} {i : Nat} (h : i < l.length) : isort (l.take (i + 1)) = insA (l.getD i 0) (isort (l.take i)) := by
  rw [mtake 0 h]; simp [isort]
theorem h42 {x : AV} {l : List Vl} (hx : VlA x l) (hn : l.length ≤ 1048576) : HT 42 [x] [] (vls l) true [] := by
  refine holds_of (c := Tryz.f42.body.getD .skip) (k := k42.1) (ts := [2]) HOk mixedT hintT Tryz.func42 (by kernel_rfl) (by kernel_rfl) (by kernel_rfl) k42.2 (by kernel_rfl) (le_of 1 _ (by kernel_rfl)) ?_
  unfold vls
  rcases hx with rfl | ⟨rfl, rfl⟩
  · simp -implicitDefEqProofs -dsimp only [k42, go_sem, ↓reduceIte, Nat.reduceEqDiff, Int.reduceLE, Int.reduceLT, Int.reduceNeg, Int.reduceEq, Int.reduceBEq, Int.reduceBNe, Nat.reduceMul, Nat.reduceAdd, Nat.reduceLeDiff, reduceCtorEq, Int.reduceToNat]
    refine EK_p ⟨v_good _, by unfold bigOk; omega, by omega⟩ ?_
    simp -implicitDefEqProofs -dsimp only [chunk, List.nil_append, Nat.zero_add, go_sem, ↓reduceIte, Nat.reduceEqDiff, Int.reduceLE, Int.reduceLT, Int.reduceNeg, Int.reduceEq, Int.reduceBEq, Int.reduceBNe, Nat.reduceMul, Nat.reduceAdd, Nat.reduceLeDiff, reduceCtorEq, Int.reduceToNat]
    have hs : sub (l.map vC) 0 l.length = l.map vC := sub_map l
    refine Fin_val ?_ ?_
    · simp [resV, upd_at, retA, cur, hup_at, List.idxOf?_nil, hs]
    · simp only [resV, upd_at, ResOk, if_true]
      exact ⟨_, by simp [cur, hup_at]; rfl, .inr ⟨rfl, by simp, v_pure _, by simp, fun _ => .inr (v_flat _)⟩⟩
  · simp -implicitDefEqProofs -dsimp only [k42, go_sem, ↓reduceIte, Nat.reduceEqDiff, Int.reduceLE, Int.reduceLT, Int.reduceNeg, Int.reduceEq, Int.reduceBEq, Int.reduceBNe, Nat.reduceMul, Nat.reduceAdd, Nat.reduceLeDiff, reduceCtorEq, Int.reduceToNat]
    refine EK_p (by simp [bigOk]) ?_
    simp -implicitDefEqProofs -dsimp only [chunk, List.nil_append, Nat.zero_add, go_sem, ↓reduceIte, Nat.reduceEqDiff, Int.reduceLE, Int.reduceLT, Int.reduceNeg, Int.reduceEq, Int.reduceBEq, Int.reduceBNe, Nat.reduceMul, Nat.reduceAdd, Nat.reduceLeDiff, reduceCtorEq, Int.reduceToNat]
    refine Fin_val ?_ ?_
    · simp [resV, upd_at, retA, cur, hup_at, List.idxOf?_nil, sub]
    · simp only [resV, upd_at, ResOk, if_true]
      exact ⟨_, by simp [cur, hup_at]; rfl, .inr ⟨rfl, by simp, v_pure [], by simp, fun _ => .inr (v_flat [])⟩⟩
theorem h40 (l : List Int) (hn : l.length ≤ 1048576) : HT 40 [ils l] [] (ils (isort l)) false [] := by
  refine holds_of (c := Tryz.f40.body.getD .skip) (k := k40.1) (ts := [2]) HOk mixedT hintT Tryz.func40 (by kernel_rfl) (by kernel_rfl) (by kernel_rfl) k40.2 (by kernel_rfl) (le_of 1 _ (by kernel_rfl)) ?_
  unfold ils
  simp -implicitDefEqProofs -dsimp only [k40, go_sem, ↓reduceIte, Nat.reduceEqDiff, Int.reduceLE, Int.reduceLT, Int.reduceNeg, Int.reduceEq, Int.reduceBEq, Int.reduceBNe, Nat.reduceMul, Nat.reduceAdd, Nat.reduceLeDiff, reduceCtorEq, Int.reduceToNat]
  refine Gh_of (.read _ _ _ 3 (.l 7) { ver := 1, es := [], esz := 1, own := NoDat [] } 0 0 (some 0) (by simp [upd_at]) (by simp [hup_at]) (by simp) (fun e he => by cases he)) ?_
  simp -implicitDefEqProofs -dsimp only [go_sem, ↓reduceIte, Nat.reduceEqDiff, Int.reduceLE, Int.reduceLT, Int.reduceNeg, Int.reduceEq, Int.reduceBEq, Int.reduceBNe, Nat.reduceMul, Nat.reduceAdd, Nat.reduceLeDiff, reduceCtorEq, Int.reduceToNat]
  refine K_for l.length (fun i g h c => g 0 = .dat 1 (l.map inC) ∧ g 3 = .dat 1 ((isort (l.take i)).map inC) ∧ g 4 = i64 i) ?_ ?_ ?_
  · exact ⟨by simp [upd_at, S_0], by simp [upd_at, sub, isort], by simp [upd_at]⟩
  · rintro i A hi hA g h c ⟨q0, q3, q4⟩
    have hc : (i : Int) < (l.length : Int) := by omega
    have w2 : IntKind.i64.wrap ((i : Int) + 1) = ((i + 1 : Nat) : Int) := wnat1 (by omega)
    have hg := mget (0 : Int) hi
    have hstep := isort_step hi
    have hlen := isort_len (l.take i)
    rw [List.length_take] at hlen
    generalize l.getD i 0 = y at hg hstep
    generalize isort (l.take i) = o at q3 hstep hlen
    have hol : o.length ≤ 1048576 := by omega
    obtain ⟨p, hp⟩ : ∃ p : Int → Bool, p = fun x => decide (x < y) := ⟨_, rfl⟩
    have hins : insA y o = o.takeWhile p ++ [y] ++ o.dropWhile p := by rw [hp]; rfl
    have htk := tw_take (p := p) (l := o)
    have hdr := tw_drop (p := p) (l := o)
    have hlt := fun k (h : k < (o.takeWhile p).length) => tw_lt h
    have hend := tw_end (p := p) (l := o)
    have hwl : (o.takeWhile p).length ≤ o.length := by
      have := congrArg List.length htk
      rw [List.length_take] at this; omega
    have hpd : ∀ x, p x = decide (x < y) := fun x => by rw [hp]
    clear hp
    generalize hw : (o.takeWhile p).length = w at htk hdr hlt hend hwl
    simp -implicitDefEqProofs -dsimp only [q0, q3, q4, hc, go_sem, ↓reduceIte, Nat.reduceEqDiff, Int.reduceLE, Int.reduceLT, Int.reduceNeg, Int.reduceEq, Int.reduceBEq, Int.reduceBNe, Nat.reduceMul, Nat.reduceAdd, Nat.reduceLeDiff, reduceCtorEq, Int.reduceToNat]
    refine K_for w (fun k g h _ => g 0 = .dat 1 (l.map inC) ∧ g 3 = .dat 1 (o.map inC) ∧ g 4 = i64 i ∧ g 5 = i64 k) ?_ ?_ ?_
    · exact ⟨by simp [upd_at, q0], by simp [upd_at, q3], by simp [upd_at, q4], by simp [upd_at]⟩
    · rintro k A' hk hA' g h c ⟨q0, q3, q4, q5⟩
      obtain ⟨k1, k2⟩ := hlt k hk
      have hck : (k : Int) < (o.length : Int) := by omega
      have w3 : IntKind.i64.wrap ((k : Int) + 1) = ((k + 1 : Nat) : Int) := wnat1 (by omega)
      have hgo := mget (0 : Int) k1
      rw [hpd] at k2
      generalize o.getD k 0 = z at hgo k2
      have k3 : z < y := of_decide_eq_true k2
      simp -implicitDefEqProofs -dsimp only [q0, q3, q4, q5, hck, hgo, hg, inC, k3, w3, go_sem, ↓reduceIte, Nat.reduceEqDiff, Int.reduceLE, Int.reduceLT, Int.reduceNeg, Int.reduceEq, Int.reduceBEq, Int.reduceBNe, Nat.reduceMul, Nat.reduceAdd, Nat.reduceLeDiff, reduceCtorEq, Int.reduceToNat]
      exact hA' _ _ _ ⟨by simp [upd_at, q0], by simp [upd_at, q3], by simp [upd_at, q4], by simp [upd_at]⟩
    · have tail : ∀ (A' : Post) (g : Slots) (h : Heap) (c : Nat), g 0 = .dat 1 (l.map inC) → g 3 = .dat 1 (o.map inC) → g 4 = i64 i → g 5 = i64 w → True := fun _ _ _ _ _ _ _ _ => trivial
      rintro A' g h c ⟨q0, q3, q4, q5⟩
      have hwle : (w : Int) ≤ (o.length : Int) := by omega
      have gT : AM.Good ((o.takeWhile p).map inC) 1 := in_good _
      have gD : AM.Good ((o.dropWhile p).map inC) 1 := in_good _
      have hT : List.map inC (o.take w) = (o.takeWhile p).map inC := by rw [htk]
      have hD : List.map inC (o.drop w) = (o.dropWhile p).map inC := by rw [hdr]
      have lT : (o.takeWhile p).length = w := hw
      have lD : (o.dropWhile p).length = o.length - w := by rw [← hdr, List.length_drop]
      have hS : (if w = 0 ∧ ((o.length : Int) - (w : Int)).toNat = o.length then List.map inC o else List.take ((o.length : Int) - (w : Int)).toNat (List.drop w (List.map inC o))) = (o.dropWhile p).map inC := by
        split
        · rename_i hx; rw [← hD, hx.1, List.drop_zero]
        · rw [← List.map_drop, hD, List.take_of_length_le (by rw [List.length_map, lD]; omega)]
      by_cases e : w < o.length
      · have hcw : (w : Int) < (o.length : Int) := by omega
        have hne : ¬ w = o.length := by omega
        have k2 := hend e
        have hgo := mget (0 : Int) e
        rw [hpd] at k2
        generalize o.getD w 0 = z at hgo k2
        have k3 : ¬ z < y := of_decide_eq_false k2
        simp -implicitDefEqProofs -dsimp only [q0, q3, q4, q5, hcw, hgo, hg, inC, k3, hwle, hne, go_sem, ↓reduceIte, Nat.reduceEqDiff, Int.reduceLE, Int.reduceLT, Int.reduceNeg, Int.reduceEq, Int.reduceBEq, Int.reduceBNe, Nat.reduceMul, Nat.reduceAdd, Nat.reduceLeDiff, reduceCtorEq, Int.reduceToNat]
        refine VK_p rfl ?_
        have hT' : List.take w (o.map inC) = (o.takeWhile p).map inC := by rw [← List.map_take, htk]
        rw [hT']
        simp -implicitDefEqProofs -dsimp only [q0, q3, q4, q5, go_sem, ↓reduceIte, Nat.reduceEqDiff, Int.reduceLE, Int.reduceLT, Int.reduceNeg, Int.reduceEq, Int.reduceBEq, Int.reduceBNe, Nat.reduceMul, Nat.reduceAdd, Nat.reduceLeDiff, reduceCtorEq, Int.reduceToNat]
        refine EK_p ⟨gT, by unfold bigOk; omega, by omega⟩ ?_
        simp -implicitDefEqProofs -dsimp only [q0, q3, q4, q5, hg, inC, hc, go_sem, ↓reduceIte, Nat.reduceEqDiff, Int.reduceLE, Int.reduceLT, Int.reduceNeg, Int.reduceEq, Int.reduceBEq, Int.reduceBNe, Nat.reduceMul, Nat.reduceAdd, Nat.reduceLeDiff, reduceCtorEq, Int.reduceToNat]
        refine EK_p ⟨⟨fun _ => in_flat [y], in_good [y]⟩, by unfold bigOk; omega, by omega⟩ ?_
        simp -implicitDefEqProofs -dsimp only [q0, q3, q4, q5, hwle, go_sem, ↓reduceIte, Nat.reduceEqDiff, Int.reduceLE, Int.reduceLT, Int.reduceNeg, Int.reduceEq, Int.reduceBEq, Int.reduceBNe, Nat.reduceMul, Nat.reduceAdd, Nat.reduceLeDiff, reduceCtorEq, Int.reduceToNat]
        refine VK_p ⟨Int.le_refl _, rfl⟩ ?_
        rw [hS]
        simp -implicitDefEqProofs -dsimp only [q0, q3, q4, q5, List.length_append, go_sem, ↓reduceIte, Nat.reduceEqDiff, Int.reduceLE, Int.reduceLT, Int.reduceNeg, Int.reduceEq, Int.reduceBEq, Int.reduceBNe, Nat.reduceMul, Nat.reduceAdd, Nat.reduceLeDiff, reduceCtorEq, Int.reduceToNat]
        refine EK_p ⟨gD, by unfold bigOk; omega, by omega⟩ ?_
        simp -implicitDefEqProofs -dsimp only [q0, q3, q4, q5, go_sem, ↓reduceIte, Nat.reduceEqDiff, Int.reduceLE, Int.reduceLT, Int.reduceNeg, Int.reduceEq, Int.reduceBEq, Int.reduceBNe, Nat.reduceMul, Nat.reduceAdd, Nat.reduceLeDiff, reduceCtorEq, Int.reduceToNat]
        have pu : AM.Pure (List.map inC (o.takeWhile p) ++ [[AV.i .i64 y]] ++ List.map inC (o.dropWhile p)) := by
          rw [show [[AV.i .i64 y]] = [y].map inC from rfl, ← List.map_append, ← List.map_append]; exact in_pure _
        have fin : List.map inC (o.takeWhile p) ++ [[AV.i .i64 y]] ++ List.map inC (o.dropWhile p) = (isort (l.take (i + 1))).map inC := by
          rw [hstep, hins, show [[AV.i .i64 y]] = [y].map inC from rfl, ← List.map_append, ← List.map_append]
        have lenE : (List.map inC (o.takeWhile p) ++ [[AV.i .i64 y]] ++ List.map inC (o.dropWhile p)).length = (o.takeWhile p).length + 1 + (o.dropWhile p).length := by simp; omega
        generalize List.map inC (o.takeWhile p) ++ [[AV.i .i64 y]] ++ List.map inC (o.dropWhile p) = E at pu fin lenE ⊢
        refine Gh_of (.read _ _ _ 3 (.l 31) { ver := c + 1 + 1 + 1 + 1, es := E, esz := 1, own := _ } 0 _ none (by simp only [upd_at, ↓reduceIte, Nat.reduceEqDiff] <;> rfl) (by simp only [hup_at, ↓reduceIte] <;> rfl) (by rw [lenE]; simp) pu) ?_
        have hsE : sub E 0 ((o.takeWhile p).length + 1 + (o.dropWhile p).length) = E := by unfold sub; rw [if_pos ⟨rfl, lenE.symm⟩]
        simp -implicitDefEqProofs -dsimp only [q0, q3, q4, q5, w2, go_sem, ↓reduceIte, Nat.reduceEqDiff, Int.reduceLE, Int.reduceLT, Int.reduceNeg, Int.reduceEq, Int.reduceBEq, Int.reduceBNe, Nat.reduceMul, Nat.reduceAdd, Nat.reduceLeDiff, reduceCtorEq, Int.reduceToNat]
        have lenI : (o.takeWhile p).length + 1 + (o.dropWhile p).length = (isort (l.take (i + 1))).length := by rw [← lenE, fin, List.length_map]
        exact hA _ _ _ ⟨by simp [upd_at, q0], by simp [upd_at, sub, fin, lenI], by simp [upd_at]⟩
      · have hcw : ¬ (w : Int) < (o.length : Int) := by omega
        have hne : w = o.length := by omega
        have hle2 : (o.length : Int) ≤ (o.length : Int) := Int.le_refl _
        simp -implicitDefEqProofs -dsimp only [q0, q3, q4, q5, hcw, hg, inC, hwle, hle2, go_sem, ↓reduceIte, Nat.reduceEqDiff, Int.reduceLE, Int.reduceLT, Int.reduceNeg, Int.reduceEq, Int.reduceBEq, Int.reduceBNe, Nat.reduceMul, Nat.reduceAdd, Nat.reduceLeDiff, reduceCtorEq, Int.reduceToNat]
        refine VK_p rfl ?_
        have hT' : (if w = o.length then List.map inC o else List.take w (List.map inC o)) = (o.takeWhile p).map inC := by rw [if_pos hne, ← htk, List.take_of_length_le (by omega)]
        rw [hT']
        simp -implicitDefEqProofs -dsimp only [q0, q3, q4, q5, go_sem, ↓reduceIte, Nat.reduceEqDiff, Int.reduceLE, Int.reduceLT, Int.reduceNeg, Int.reduceEq, Int.reduceBEq, Int.reduceBNe, Nat.reduceMul, Nat.reduceAdd, Nat.reduceLeDiff, reduceCtorEq, Int.reduceToNat]
        refine EK_p ⟨gT, by unfold bigOk; omega, by omega⟩ ?_
        simp -implicitDefEqProofs -dsimp only [q0, q3, q4, q5, hg, inC, hc, go_sem, ↓reduceIte, Nat.reduceEqDiff, Int.reduceLE, Int.reduceLT, Int.reduceNeg, Int.reduceEq, Int.reduceBEq, Int.reduceBNe, Nat.reduceMul, Nat.reduceAdd, Nat.reduceLeDiff, reduceCtorEq, Int.reduceToNat]
        refine EK_p ⟨⟨fun _ => in_flat [y], in_good [y]⟩, by unfold bigOk; omega, by omega⟩ ?_
        simp -implicitDefEqProofs -dsimp only [q0, q3, q4, q5, hwle, go_sem, ↓reduceIte, Nat.reduceEqDiff, Int.reduceLE, Int.reduceLT, Int.reduceNeg, Int.reduceEq, Int.reduceBEq, Int.reduceBNe, Nat.reduceMul, Nat.reduceAdd, Nat.reduceLeDiff, reduceCtorEq, Int.reduceToNat]
        refine VK_p ⟨Int.le_refl _, rfl⟩ ?_
        rw [hS]
        simp -implicitDefEqProofs -dsimp only [q0, q3, q4, q5, List.length_append, go_sem, ↓reduceIte, Nat.reduceEqDiff, Int.reduceLE, Int.reduceLT, Int.reduceNeg, Int.reduceEq, Int.reduceBEq, Int.reduceBNe, Nat.reduceMul, Nat.reduceAdd, Nat.reduceLeDiff, reduceCtorEq, Int.reduceToNat]
        refine EK_p ⟨gD, by unfold bigOk; omega, by omega⟩ ?_
        simp -implicitDefEqProofs -dsimp only [q0, q3, q4, q5, go_sem, ↓reduceIte, Nat.reduceEqDiff, Int.reduceLE, Int.reduceLT, Int.reduceNeg, Int.reduceEq, Int.reduceBEq, Int.reduceBNe, Nat.reduceMul, Nat.reduceAdd, Nat.reduceLeDiff, reduceCtorEq, Int.reduceToNat]
        have pu : AM.Pure (List.map inC (o.takeWhile p) ++ [[AV.i .i64 y]] ++ List.map inC (o.dropWhile p)) := by
          rw [show [[AV.i .i64 y]] = [y].map inC from rfl, ← List.map_append, ← List.map_append]; exact in_pure _
        have fin : List.map inC (o.takeWhile p) ++ [[AV.i .i64 y]] ++ List.map inC (o.dropWhile p) = (isort (l.take (i + 1))).map inC := by
          rw [hstep, hins, show [[AV.i .i64 y]] = [y].map inC from rfl, ← List.map_append, ← List.map_append]
        have lenE : (List.map inC (o.takeWhile p) ++ [[AV.i .i64 y]] ++ List.map inC (o.dropWhile p)).length = (o.takeWhile p).length + 1 + (o.dropWhile p).length := by simp; omega
        generalize List.map inC (o.takeWhile p) ++ [[AV.i .i64 y]] ++ List.map inC (o.dropWhile p) = E at pu fin lenE ⊢
        refine Gh_of (.read _ _ _ 3 (.l 31) { ver := c + 1 + 1 + 1 + 1, es := E, esz := 1, own := _ } 0 _ none (by simp only [upd_at, ↓reduceIte, Nat.reduceEqDiff] <;> rfl) (by simp only [hup_at, ↓reduceIte] <;> rfl) (by rw [lenE]; simp) pu) ?_
        have hsE : sub E 0 ((o.takeWhile p).length + 1 + (o.dropWhile p).length) = E := by unfold sub; rw [if_pos ⟨rfl, lenE.symm⟩]
        simp -implicitDefEqProofs -dsimp only [q0, q3, q4, q5, w2, go_sem, ↓reduceIte, Nat.reduceEqDiff, Int.reduceLE, Int.reduceLT, Int.reduceNeg, Int.reduceEq, Int.reduceBEq, Int.reduceBNe, Nat.reduceMul, Nat.reduceAdd, Nat.reduceLeDiff, reduceCtorEq, Int.reduceToNat]
        have lenI : (o.takeWhile p).length + 1 + (o.dropWhile p).length = (isort (l.take (i + 1))).length := by rw [← lenE, fin, List.length_map]
        exact hA _ _ _ ⟨by simp [upd_at, q0], by simp [upd_at, sub, fin, lenI], by simp [upd_at]⟩
  · rintro A g h c ⟨q0, q3, q4⟩
    have hc : ¬ (l.length : Int) < (l.length : Int) := by omega
    rw [List.take_length] at q3
    simp -implicitDefEqProofs -dsimp only [q0, q3, q4, hc, go_sem, ↓reduceIte, Nat.reduceEqDiff, Int.reduceLE, Int.reduceLT, Int.reduceNeg, Int.reduceEq, Int.reduceBEq, Int.reduceBNe, Nat.reduceMul, Nat.reduceAdd, Nat.reduceLeDiff, reduceCtorEq, Int.reduceToNat]
    exact Fin_val (by simp [resV, upd_at, retA]) (by simp [resV, upd_at, ResOk])
end FrA
end
/-! ToA -/
section
open Go Go.AM
namespace FrA
open Go.Proofs
set_option maxRecDepth 100000
set_option linter.unusedSimpArgs false
theorem outs_cons {h : Heap} {o : Rid} {r : List Rid} {s : List Ob} {b : Ob} {v : Nat} (hh : h o = some { b with ver := v }) (hb : b.ver = 1) (hp : AM.Pure b.es) (hr : Outs h r s) : Outs h (o :: r) (b :: s) :=
  ⟨⟨hp, hb, v, b.own, hh, .inl Iff.rfl⟩, hr⟩
theorem h187 (v : Vl) : HT 187 [.agg (vC v)] [] (.agg (vC v)) true [] := by
  obtain ⟨a, b, s⟩ := v
  refine holdsc_of (c := Tryz.f187.body.getD .skip) (k := k187.1) (cs := [(2, some (true, 3))]) HOk mixedT hintT Tryz.func187 (by kernel_rfl) (by kernel_rfl) (by kernel_rfl) k187.2 (by kernel_rfl) (le_of 1 _ (by kernel_rfl)) ?_
  simp only [vC]
  simp -implicitDefEqProofs -dsimp only [k187, go_sem, ↓reduceIte, Nat.reduceEqDiff, Int.reduceLE, Int.reduceLT, Int.reduceNeg, Int.reduceEq, Int.reduceBEq, Int.reduceBNe, Nat.reduceMul, Nat.reduceAdd, Nat.reduceLeDiff, reduceCtorEq, Int.reduceToNat]
  refine finC_val (p := True) (l := [.agg [.i .i64 a, .i .i64 b, .s s]]) (by simp [resM, resE, upd_at, loadF, cur, hup_at]) trivial ?_ ?_
  · simp [resOne, retA, retL]
  · simp [resOne, ResOk, ResL]
theorem h154 (c : Cl) : HT 154 [.agg (clC c)] [] (.agg (clC c)) true [] := by
  obtain ⟨nm, k, nn, a, b, s⟩ := c
  have d1 := h187 (a, b, s)
  refine holdsc_of (c := Tryz.f154.body.getD .skip) (k := k154.1) (cs := [(2, some (true, 6))]) HOk mixedT hintT Tryz.func154 (by kernel_rfl) (by kernel_rfl) (by kernel_rfl) k154.2 (by kernel_rfl) (le_of 1 _ (by kernel_rfl)) ?_
  simp only [clC]
  simp only [vC] at d1
  simp -implicitDefEqProofs -dsimp only [k154, go_sem, ↓reduceIte, Nat.reduceEqDiff, Int.reduceLE, Int.reduceLT, Int.reduceNeg, Int.reduceEq, Int.reduceBEq, Int.reduceBNe, Nat.reduceMul, Nat.reduceAdd, Nat.reduceLeDiff, reduceCtorEq, Int.reduceToNat]
  refine Call_val (own := true) (d1) (by simp [ExpOk, AV.pure]) (.inl rfl) ?_
  simp -implicitDefEqProofs -dsimp only [go_sem, ↓reduceIte, Nat.reduceEqDiff, Int.reduceLE, Int.reduceLT, Int.reduceNeg, Int.reduceEq, Int.reduceBEq, Int.reduceBNe, Nat.reduceMul, Nat.reduceAdd, Nat.reduceLeDiff, reduceCtorEq, Int.reduceToNat]
  refine finC_val (p := True) (l := [.agg [.s nm, .i .i64 k, .b nn, .i .i64 a, .i .i64 b, .s s]]) (by simp [resM, resE, upd_at, loadF, cur, hup_at]) trivial ?_ ?_
  · simp [resOne, retA, retL]
  · simp [resOne, ResOk, ResL]
theorem h247 (t : Tk) : HT 247 [.agg (tkC t)] [] (.agg (tkC t)) true [] := by
  obtain ⟨k, c, a, b, s⟩ := t
  have d1 := h187 (a, b, s)
  refine holdsc_of (c := Tryz.f247.body.getD .skip) (k := k247.1) (cs := [(2, some (true, 5))]) HOk mixedT hintT Tryz.func247 (by kernel_rfl) (by kernel_rfl) (by kernel_rfl) k247.2 (by kernel_rfl) (le_of 1 _ (by kernel_rfl)) ?_
  simp only [tkC]
  simp only [vC] at d1
  simp -implicitDefEqProofs -dsimp only [k247, go_sem, ↓reduceIte, Nat.reduceEqDiff, Int.reduceLE, Int.reduceLT, Int.reduceNeg, Int.reduceEq, Int.reduceBEq, Int.reduceBNe, Nat.reduceMul, Nat.reduceAdd, Nat.reduceLeDiff, reduceCtorEq, Int.reduceToNat]
  refine Call_val (own := true) (d1) (by simp [ExpOk, AV.pure]) (.inl rfl) ?_
  simp -implicitDefEqProofs -dsimp only [go_sem, ↓reduceIte, Nat.reduceEqDiff, Int.reduceLE, Int.reduceLT, Int.reduceNeg, Int.reduceEq, Int.reduceBEq, Int.reduceBNe, Nat.reduceMul, Nat.reduceAdd, Nat.reduceLeDiff, reduceCtorEq, Int.reduceToNat]
  refine finC_val (p := True) (l := [.agg [.i .i64 k, .i .i64 c, .i .i64 a, .i .i64 b, .s s]]) (by simp [resM, resE, upd_at, loadF, cur, hup_at]) trivial ?_ ?_
  · simp [resOne, retA, retL]
  · simp [resOne, ResOk, ResL]
theorem h101 (l : List Int) (hn : l.length ≤ 1048576) : HT 101 [ils l] [] (.sl (.p 0) 1 0 l.length none) true [obL inC 1 l] := by
  unfold ils
  refine holds_of (c := Tryz.f101.body.getD .skip) (k := k101.1) (ts := [2]) HOk mixedT hintT Tryz.func101 (by kernel_rfl) (by kernel_rfl) (by kernel_rfl) k101.2 (by kernel_rfl) (le_of 1 _ (by kernel_rfl)) ?_
  simp -implicitDefEqProofs -dsimp only [k101, S_0, go_sem, ↓reduceIte, Nat.reduceEqDiff, Int.reduceLE, Int.reduceLT, Int.reduceNeg, Int.reduceEq, Int.reduceBEq, Int.reduceBNe, Nat.reduceMul, Nat.reduceAdd, Nat.reduceLeDiff, reduceCtorEq, Int.reduceToNat]
  refine EK_p (by simp [bigOk]; omega) ?_
  simp -implicitDefEqProofs -dsimp only [Int.toNat_natCast, go_sem, ↓reduceIte, Nat.reduceEqDiff, Int.reduceLE, Int.reduceLT, Int.reduceNeg, Int.reduceEq, Int.reduceBEq, Int.reduceBNe, Nat.reduceMul, Nat.reduceAdd, Nat.reduceLeDiff, reduceCtorEq, Int.reduceToNat]
  refine K_for l.length (fun i g h c => g 0 = .dat 1 (l.map inC) ∧ g 3 = .sl (.l 7) 1 0 l.length none ∧ g 4 = i64 i ∧ ∃ q : Prop, q ∧ h (.l 7) = some { ver := 1, es := (l.take i ++ List.replicate (l.length - i) 0).map inC, esz := 1, own := q }) ?_ ?_ ?_
  · exact ⟨by simp [upd_at, S_0], by simp [upd_at], by simp [upd_at], _, (by simp [AM.NoDat, AV.isDat] : AM.NoDat [AV.i .i64 0]), by simp [hup_at, inC]⟩
  · rintro i A hi hA g h c ⟨q0, q3, q4, q, hq, hh⟩
    have hc : (i : Int) < (l.length : Int) := by omega
    have w2 : IntKind.i64.wrap ((i : Int) + 1) = ((i + 1 : Nat) : Int) := wnat1 (by omega)
    have hg1 := mget (0 : Int) hi
    have ht1 := mtake (0 : Int) hi
    generalize l.getD i 0 = y at hg1 ht1
    have hl1 : (l.take i).length = i := by simp; omega
    have hz : (l.take i ++ List.replicate (l.length - i) (0 : Int))[i]? = some 0 := by
      rw [List.getElem?_append_right (by omega), hl1, Nat.sub_self, show l.length - i = (l.length - (i + 1)) + 1 by omega, List.replicate_succ]; rfl
    have hset : ((l.take i ++ List.replicate (l.length - i) (0 : Int)).map inC).set i [.i .i64 y] = (l.take (i + 1) ++ List.replicate (l.length - (i + 1)) 0).map inC := by
      rw [show [AV.i .i64 y] = inC y from rfl, ← List.map_set, List.set_append, if_neg (by omega), hl1, Nat.sub_self, show l.length - i = (l.length - (i + 1)) + 1 by omega, List.replicate_succ, List.set_cons_zero, ht1, List.append_assoc]; rfl
    have gz : ((l.take i ++ List.replicate (l.length - i) (0 : Int)).map inC)[i]? = some [.i .i64 0] := by rw [List.getElem?_map, hz]; rfl
    generalize (l.take i ++ List.replicate (l.length - i) (0 : Int)).map inC = E at hh gz hset
    simp -implicitDefEqProofs -dsimp only [q0, q3, q4, hc, hg1, inC, hh, gz, hi, w2, hset, go_sem, ↓reduceIte, Nat.reduceEqDiff, Int.reduceLE, Int.reduceLT, Int.reduceNeg, Int.reduceEq, Int.reduceBEq, Int.reduceBNe, Nat.reduceMul, Nat.reduceAdd, Nat.reduceLeDiff, reduceCtorEq, Int.reduceToNat]
    exact hA _ _ _ ⟨by simp [upd_at, q0], by simp [upd_at, q3], by simp [upd_at], (q ∧ AM.NoDat [AV.i .i64 y]), ⟨hq, by simp [AM.NoDat, AV.isDat]⟩, by simp [hup_at]⟩
  · rintro A g h c ⟨q0, q3, q4, q, hq, hh⟩
    have hc : ¬ (l.length : Int) < (l.length : Int) := by omega
    rw [Nat.sub_self, List.replicate_zero, List.append_nil, List.take_length] at hh
    simp -implicitDefEqProofs -dsimp only [q0, q3, q4, hc, go_sem, ↓reduceIte, Nat.reduceEqDiff, Int.reduceLE, Int.reduceLT, Int.reduceNeg, Int.reduceEq, Int.reduceBEq, Int.reduceBNe, Nat.reduceMul, Nat.reduceAdd, Nat.reduceLeDiff, reduceCtorEq, Int.reduceToNat]
    refine Fin_one (obs := []) (.l 7) { ver := 1, es := l.map inC, esz := 1, own := q } (obL inC 1 l) rfl (by simp [hup_at, hh]) rfl (.inl ⟨fun _ => hq, fun _ => trivial⟩) (in_pure l) (fun k x hk => by simp at hk) ?_ ?_
    · simp [resV, upd_at, q3, retA, cur, hup_at, hh, List.idxOf?_cons]
    · simp [resV, upd_at, q3, ResOk, cur, hup_at, hh]
theorem toK_flat {α : Type} {enc : α → List AV} {z f : Nat} (hf : ∀ a, HT f [.agg (enc a)] [] (.agg (enc a)) true []) (h1 : ∀ a, (enc a).length = z) (h2 : ∀ a, (enc a).all AV.storable = true) (h3 : ∀ a, NoDat (enc a)) (h4 : ∀ a, ∀ x ∈ enc a, x.pure = true) (h5 : ∀ a t c, impL t 0 c (enc a) = enc a) (B : α → Prop) : ∃ T : ToK enc z f B, True :=
  ⟨⟨enc, fun _ => [], fun a _ => hf a, fun a t c => by rw [h5]; exact h1 a, fun a t c => by rw [h5]; exact h2 a, fun a t c => by rw [h5]; exact h3 a, fun a t c i j b hk => by simp at hk, fun a t c => h5 a t c, fun _ => .nil, h1, h4⟩, trivial⟩
def obCl (l : List Cl) : Ob := obL clC 6 l
def obIn (l : List Int) : Ob := obL inC 1 l
def obTk (l : List Tk) : Ob := obL tkC 5 l
def obVl (l : List Vl) : Ob := obL vC 3 l
def obUn (l : List (List Int)) : Ob := obL unC 1 l
def obCk (l : List (List Tk)) : Ob := obL ckC 1 l
def obFk (l : List Fk) : Ob := obL fkC 5 l
def obRw (l : List Rw) : Ob := obL rwC 2 l
def obDt (l : Db) : Ob := obL dtC 1 l
def obTb (l : List Tb) : Ob := obL tbC 6 l
theorem h135 (l : List Vl) (hn : l.length ≤ 1048576) : HT 135 [vls l] [] (.sl (.p 0) 1 0 l.length none) true [obVl l] := by
  refine holds_of (c := Tryz.f135.body.getD .skip) (k := kToS 3 32 [.i .i64 0, .i .i64 0, .s []] 187) (ts := [2]) HOk mixedT hintT Tryz.func135 (by kernel_rfl) (by kernel_rfl) (by kernel_rfl) (by kernel_rfl) (by kernel_rfl) (le_of 1 _ (by kernel_rfl)) ?_
  obtain ⟨T, _⟩ := toK_flat (enc := vC) (z := 3) h187 (fun _ => rfl) (fun _ => rfl) (fun a => by simp [vC, AM.NoDat, AV.isDat]) (fun a => by simp [vC, AV.pure]) (fun _ _ _ => rfl) (fun _ => True)
  exact toS_k T v0 32 _ rfl (by simp [AM.NoDat, AV.isDat]) (by omega) l hn (fun _ _ => trivial)
theorem h100 (l : List Cl) (hn : l.length ≤ 1048576) : HT 100 [cls l] [] (.sl (.p 0) 1 0 l.length none) true [obCl l] := by
  refine holds_of (c := Tryz.f100.body.getD .skip) (k := kToS 6 64 [.s [], .i .i64 0, .b false, .i .i64 0, .i .i64 0, .s []] 154) (ts := [2]) HOk mixedT hintT Tryz.func100 (by kernel_rfl) (by kernel_rfl) (by kernel_rfl) (by kernel_rfl) (by kernel_rfl) (le_of 1 _ (by kernel_rfl)) ?_
  obtain ⟨T, _⟩ := toK_flat (enc := clC) (z := 6) h154 (fun _ => rfl) (fun _ => rfl) (fun a => by simp [clC, AM.NoDat, AV.isDat]) (fun a => by simp [clC, AV.pure]) (fun _ _ _ => rfl) (fun _ => True)
  exact toS_k T c0 64 _ rfl (by simp [AM.NoDat, AV.isDat]) (by omega) l hn (fun _ _ => trivial)
theorem h216 (l : List Tk) (hn : l.length ≤ 1048576) : HT 216 [tks l] [] (.sl (.p 0) 1 0 l.length none) true [obTk l] := by
  refine holds_of (c := Tryz.f216.body.getD .skip) (k := kToS 5 48 [.i .i64 0, .i .i64 0, .i .i64 0, .i .i64 0, .s []] 247) (ts := [2]) HOk mixedT hintT Tryz.func216 (by kernel_rfl) (by kernel_rfl) (by kernel_rfl) (by kernel_rfl) (by kernel_rfl) (le_of 1 _ (by kernel_rfl)) ?_
  obtain ⟨T, _⟩ := toK_flat (enc := tkC) (z := 5) h247 (fun _ => rfl) (fun _ => rfl) (fun a => by simp [tkC, AM.NoDat, AV.isDat]) (fun a => by simp [tkC, AV.pure]) (fun _ _ _ => rfl) (fun _ => True)
  exact toS_k T k0 48 _ rfl (by simp [AM.NoDat, AV.isDat]) (by omega) l hn (fun _ _ => trivial)
/-- Kinds with one new object. -/
theorem toK_one {α : Type} {enc : α → List AV} {z f : Nat} {B : α → Prop} (cells : α → List AV) (j : Nat) (ob : α → Ob) (hf : ∀ a, B a → HT f [.agg (enc a)] [] (.agg (cells a)) true [ob a])
    (h1 : ∀ a t c, (impL t 0 c (cells a)).length = z ∧ (impL t 0 c (cells a)).all AV.storable = true ∧ NoDat (impL t 0 c (cells a)))
    (h2 : ∀ a t c, (impL t 0 c (cells a))[j]? = some (.sl (.r t 0) c 0 (ob a).es.length none) ∧ AM.Pure (ob a).es ∧ (ob a).own)
    (h3 : ∀ a t c, (impL t 0 c (cells a)).set j (.dat (ob a).esz (ob a).es) = enc a) (h4 : ∀ a, (enc a).length = z) (h5 : ∀ a, ∀ x ∈ enc a, x.pure = true) : ∃ T : ToK enc z f B, True :=
  ⟨⟨cells, fun a => [(j, ob a)], fun a b => hf a b, fun a t c => (h1 a t c).1, fun a t c => (h1 a t c).2.1, fun a t c => (h1 a t c).2.2, fun a t c i k b hk => by
    cases i with
    | zero => simp at hk; obtain ⟨rfl, rfl⟩ := hk; exact h2 a t c
    | succ i => simp at hk, fun a t c => h3 a t c, fun _ => by simp, h4, h5⟩, trivial⟩
theorem h155 (u : List Int) (hn : u.length ≤ 1048576) : HT 155 [.agg (unC u)] [] (.agg [.sl (.p 0) 1 0 u.length none]) true [obIn u] := by
  have d1 := h101 u hn
  refine holdsc_of (c := Tryz.f155.body.getD .skip) (k := k155.1) (cs := [(2, some (true, 1))]) HOk mixedT hintT Tryz.func155 (by kernel_rfl) (by kernel_rfl) (by kernel_rfl) k155.2 (by kernel_rfl) (le_of 1 _ (by kernel_rfl)) ?_
  unfold unC
  unfold ils at d1 ⊢
  simp -implicitDefEqProofs -dsimp only [k155, go_sem, ↓reduceIte, Nat.reduceEqDiff, Int.reduceLE, Int.reduceLT, Int.reduceNeg, Int.reduceEq, Int.reduceBEq, Int.reduceBNe, Nat.reduceMul, Nat.reduceAdd, Nat.reduceLeDiff, reduceCtorEq, Int.reduceToNat]
  refine Call_news (own := true) (d1) (by simp [ExpOk, AV.pure, cur, hup_at, List.idxOf?_cons, List.idxOf?_nil, objs_l, objs_r, objs_p]) (by simp [obL, in_pure, AV.pure]) (.inl rfl) (by simp [obL, in_pure]) ?_
  simp -implicitDefEqProofs -dsimp only [impA, Option.getD_some, Nat.sub_self, obL, go_sem, ↓reduceIte, Nat.reduceEqDiff, Int.reduceLE, Int.reduceLT, Int.reduceNeg, Int.reduceEq, Int.reduceBEq, Int.reduceBNe, Nat.reduceMul, Nat.reduceAdd, Nat.reduceLeDiff, reduceCtorEq, Int.reduceToNat]
  refine finC_outs [.r 6 0] (p := True) (l := [.agg [.sl (.r 6 0) 4 0 u.length none]]) (by simp [resM, resE, upd_at, loadF, cur, hup_at]) trivial (by simp) (by simp [Rid.isP]) ?_ ?_ ?_
  · exact outs_cons (v := 4) (by simp only [hup_at, newObs, ↓reduceIte, Nat.reduceEqDiff, reduceCtorEq, Rid.r.injEq, Rid.l.injEq, Nat.reduceAdd, Nat.zero_add, and_self, and_true, and_false, false_and, true_and] <;> rfl) rfl (in_pure u) trivial
  · simp [resOne, retA, retL, cur, hup_at, List.idxOf?_cons]
  · simp [resOne, ResOk, ResL, cur, hup_at]
theorem h102 (l : List (List Int)) (hn : l.length ≤ 1048576) (hB : ∀ a ∈ l, a.length ≤ 1048576) : HT 102 [uns l] [] (.sl (.p 0) 1 0 l.length none) true [obUn l] := by
  refine holds_of (c := Tryz.f102.body.getD .skip) (k := kToS 1 24 [.nils] 155) (ts := [2]) HOk mixedT hintT Tryz.func102 (by kernel_rfl) (by kernel_rfl) (by kernel_rfl) (by kernel_rfl) (by kernel_rfl) (le_of 1 _ (by kernel_rfl)) ?_
  obtain ⟨T, _⟩ := toK_one (enc := unC) (z := 1) (B := fun u => u.length ≤ 1048576) (fun u => [.sl (.p 0) 1 0 u.length none]) 0 obIn h155 (fun a t c => ⟨rfl, rfl, by simp [impL, impA, AM.NoDat, AV.isDat]⟩) (fun a t c => ⟨by simp [impL, impA, obIn, obL], in_pure a, trivial⟩) (fun a t c => rfl) (fun _ => rfl) (fun a => by simp [unC, ils, AV.pure])
  exact toS_k T [] 24 _ rfl (by simp [AM.NoDat, AV.isDat]) (by omega) l hn hB
theorem h156 (u : List Tk) (hn : u.length ≤ 1048576) : HT 156 [.agg (ckC u)] [] (.agg [.sl (.p 0) 1 0 u.length none]) true [obTk u] := by
  have d1 := h216 u hn
  refine holdsc_of (c := Tryz.f156.body.getD .skip) (k := k156.1) (cs := [(2, some (true, 1))]) HOk mixedT hintT Tryz.func156 (by kernel_rfl) (by kernel_rfl) (by kernel_rfl) k156.2 (by kernel_rfl) (le_of 1 _ (by kernel_rfl)) ?_
  unfold ckC
  unfold tks at d1 ⊢
  simp -implicitDefEqProofs -dsimp only [k156, go_sem, ↓reduceIte, Nat.reduceEqDiff, Int.reduceLE, Int.reduceLT, Int.reduceNeg, Int.reduceEq, Int.reduceBEq, Int.reduceBNe, Nat.reduceMul, Nat.reduceAdd, Nat.reduceLeDiff, reduceCtorEq, Int.reduceToNat]
  refine Call_news (own := true) (d1) (by simp [ExpOk, AV.pure, cur, hup_at, List.idxOf?_cons, List.idxOf?_nil, objs_l, objs_r, objs_p]) (by simp [obTk, obL, tk_pure, AV.pure]) (.inl rfl) (by simp [obTk, obL, tk_pure]) ?_
  simp -implicitDefEqProofs -dsimp only [impA, Option.getD_some, Nat.sub_self, obL, obTk, go_sem, ↓reduceIte, Nat.reduceEqDiff, Int.reduceLE, Int.reduceLT, Int.reduceNeg, Int.reduceEq, Int.reduceBEq, Int.reduceBNe, Nat.reduceMul, Nat.reduceAdd, Nat.reduceLeDiff, reduceCtorEq, Int.reduceToNat]
  refine finC_outs [.r 6 0] (p := True) (l := [.agg [.sl (.r 6 0) 4 0 u.length none]]) (by simp [resM, resE, upd_at, loadF, cur, hup_at]) trivial (by simp) (by simp [Rid.isP]) ?_ ?_ ?_
  · exact outs_cons (v := 4) (by simp only [hup_at, newObs, ↓reduceIte, Nat.reduceEqDiff, reduceCtorEq, Rid.r.injEq, Rid.l.injEq, Nat.reduceAdd, Nat.zero_add, and_self, and_true, and_false, false_and, true_and] <;> rfl) rfl (tk_pure u) trivial
  · simp [resOne, retA, retL, cur, hup_at, List.idxOf?_cons]
  · simp [resOne, ResOk, ResL, cur, hup_at]
theorem h103 (l : List (List Tk)) (hn : l.length ≤ 1048576) (hB : ∀ a ∈ l, a.length ≤ 1048576) : HT 103 [cks l] [] (.sl (.p 0) 1 0 l.length none) true [obCk l] := by
  refine holds_of (c := Tryz.f103.body.getD .skip) (k := kToS 1 24 [.nils] 156) (ts := [2]) HOk mixedT hintT Tryz.func103 (by kernel_rfl) (by kernel_rfl) (by kernel_rfl) (by kernel_rfl) (by kernel_rfl) (le_of 1 _ (by kernel_rfl)) ?_
  obtain ⟨T, _⟩ := toK_one (enc := ckC) (z := 1) (B := fun u => u.length ≤ 1048576) (fun u => [.sl (.p 0) 1 0 u.length none]) 0 obTk h156 (fun a t c => ⟨rfl, rfl, by simp [impL, impA, AM.NoDat, AV.isDat]⟩) (fun a t c => ⟨by simp [impL, impA, obTk, obL], tk_pure a, trivial⟩) (fun a t c => rfl) (fun _ => rfl) (fun a => by simp [ckC, tks, AV.pure])
  exact toS_k T [] 24 _ rfl (by simp [AM.NoDat, AV.isDat]) (by omega) l hn hB
theorem h157 (f : Fk) (hn : f.cols.length ≤ 1048576) : HT 157 [.agg (fkC f)] [] (.agg [.sl (.p 0) 1 0 f.cols.length none, .s f.tab, .i .i64 f.od, .i .i64 f.ou, .b f.dfr]) true [obIn f.cols] := by
  obtain ⟨u, nm, x1, x2, x3⟩ := f
  simp only at hn
  have d1 := h101 u hn
  refine holdsc_of (c := Tryz.f157.body.getD .skip) (k := k157.1) (cs := [(2, some (true, 5))]) HOk mixedT hintT Tryz.func157 (by kernel_rfl) (by kernel_rfl) (by kernel_rfl) k157.2 (by kernel_rfl) (le_of 1 _ (by kernel_rfl)) ?_
  simp only [fkC]
  unfold ils at d1 ⊢
  simp -implicitDefEqProofs -dsimp only [k157, go_sem, ↓reduceIte, Nat.reduceEqDiff, Int.reduceLE, Int.reduceLT, Int.reduceNeg, Int.reduceEq, Int.reduceBEq, Int.reduceBNe, Nat.reduceMul, Nat.reduceAdd, Nat.reduceLeDiff, reduceCtorEq, Int.reduceToNat]
  refine Call_news (own := true) (d1) (by simp [ExpOk, AV.pure, cur, hup_at, List.idxOf?_cons, List.idxOf?_nil, objs_l, objs_r, objs_p]) (by simp [obL, in_pure, AV.pure]) (.inl rfl) (by simp [obL, in_pure]) ?_
  simp -implicitDefEqProofs -dsimp only [impA, Option.getD_some, Nat.sub_self, obL, go_sem, ↓reduceIte, Nat.reduceEqDiff, Int.reduceLE, Int.reduceLT, Int.reduceNeg, Int.reduceEq, Int.reduceBEq, Int.reduceBNe, Nat.reduceMul, Nat.reduceAdd, Nat.reduceLeDiff, reduceCtorEq, Int.reduceToNat]
  refine finC_outs [.r 6 0] (p := True) (l := [.agg [.sl (.r 6 0) 4 0 u.length none, .s nm, .i .i64 x1, .i .i64 x2, .b x3]]) (by simp [resM, resE, upd_at, loadF, cur, hup_at]) trivial (by simp) (by simp [Rid.isP]) ?_ ?_ ?_
  · exact outs_cons (v := 4) (by simp only [hup_at, newObs, ↓reduceIte, Nat.reduceEqDiff, reduceCtorEq, Rid.r.injEq, Rid.l.injEq, Nat.reduceAdd, Nat.zero_add, and_self, and_true, and_false, false_and, true_and] <;> rfl) rfl (in_pure u) trivial
  · simp [resOne, retA, retL, cur, hup_at, List.idxOf?_cons]
  · simp [resOne, ResOk, ResL, cur, hup_at]
theorem h104 (l : List Fk) (hn : l.length ≤ 1048576) (hB : ∀ a ∈ l, a.cols.length ≤ 1048576) : HT 104 [fkk l] [] (.sl (.p 0) 1 0 l.length none) true [obFk l] := by
  refine holds_of (c := Tryz.f104.body.getD .skip) (k := kToS 5 64 [.nils, .s [], .i .i64 0, .i .i64 0, .b false] 157) (ts := [2]) HOk mixedT hintT Tryz.func104 (by kernel_rfl) (by kernel_rfl) (by kernel_rfl) (by kernel_rfl) (by kernel_rfl) (le_of 1 _ (by kernel_rfl)) ?_
  obtain ⟨T, _⟩ := toK_one (enc := fkC) (z := 5) (B := fun f => f.cols.length ≤ 1048576) (fun f => [.sl (.p 0) 1 0 f.cols.length none, .s f.tab, .i .i64 f.od, .i .i64 f.ou, .b f.dfr]) 0 (fun f => obIn f.cols) h157 (fun a t c => ⟨rfl, rfl, by simp [impL, impA, AM.NoDat, AV.isDat]⟩) (fun a t c => ⟨by simp [impL, impA, obIn, obL], in_pure a.cols, trivial⟩) (fun a t c => rfl) (fun _ => rfl) (fun a => by simp [fkC, ils, AV.pure])
  exact toS_k T f0 64 _ rfl (by simp [AM.NoDat, AV.isDat]) (by omega) l hn hB
theorem h158 (r : Rw) (hn : r.vals.length ≤ 1048576) : HT 158 [.agg (rwC r)] [] (.agg [.i .i64 r.id, .sl (.p 0) 1 0 r.vals.length none]) true [obVl r.vals] := by
  obtain ⟨k, u⟩ := r
  simp only at hn
  have d1 := h135 u hn
  refine holdsc_of (c := Tryz.f158.body.getD .skip) (k := k158.1) (cs := [(2, some (true, 2))]) HOk mixedT hintT Tryz.func158 (by kernel_rfl) (by kernel_rfl) (by kernel_rfl) k158.2 (by kernel_rfl) (le_of 1 _ (by kernel_rfl)) ?_
  simp only [rwC]
  unfold vls at d1 ⊢
  simp -implicitDefEqProofs -dsimp only [k158, go_sem, ↓reduceIte, Nat.reduceEqDiff, Int.reduceLE, Int.reduceLT, Int.reduceNeg, Int.reduceEq, Int.reduceBEq, Int.reduceBNe, Nat.reduceMul, Nat.reduceAdd, Nat.reduceLeDiff, reduceCtorEq, Int.reduceToNat]
  refine Call_news (own := true) (d1) (by simp [ExpOk, AV.pure, cur, hup_at, List.idxOf?_cons, List.idxOf?_nil, objs_l, objs_r, objs_p]) (by simp [obVl, obL, v_pure, AV.pure]) (.inl rfl) (by simp [obVl, obL, v_pure]) ?_
  simp -implicitDefEqProofs -dsimp only [impA, Option.getD_some, Nat.sub_self, obL, obVl, go_sem, ↓reduceIte, Nat.reduceEqDiff, Int.reduceLE, Int.reduceLT, Int.reduceNeg, Int.reduceEq, Int.reduceBEq, Int.reduceBNe, Nat.reduceMul, Nat.reduceAdd, Nat.reduceLeDiff, reduceCtorEq, Int.reduceToNat]
  refine finC_outs [.r 9 0] (p := True) (l := [.agg [.i .i64 k, .sl (.r 9 0) 4 0 u.length none]]) (by simp [resM, resE, upd_at, loadF, cur, hup_at]) trivial (by simp) (by simp [Rid.isP]) ?_ ?_ ?_
  · exact outs_cons (v := 4) (by simp only [hup_at, newObs, ↓reduceIte, Nat.reduceEqDiff, reduceCtorEq, Rid.r.injEq, Rid.l.injEq, Nat.reduceAdd, Nat.zero_add, and_self, and_true, and_false, false_and, true_and] <;> rfl) rfl (v_pure u) trivial
  · simp [resOne, retA, retL, cur, hup_at, List.idxOf?_cons]
  · simp [resOne, ResOk, ResL, cur, hup_at]
theorem h105 (l : List Rw) (hn : l.length ≤ 1048576) (hB : ∀ a ∈ l, a.vals.length ≤ 1048576) : HT 105 [rws l] [] (.sl (.p 0) 1 0 l.length none) true [obRw l] := by
  refine holds_of (c := Tryz.f105.body.getD .skip) (k := kToS 2 32 [.i .i64 0, .nils] 158) (ts := [2]) HOk mixedT hintT Tryz.func105 (by kernel_rfl) (by kernel_rfl) (by kernel_rfl) (by kernel_rfl) (by kernel_rfl) (le_of 1 _ (by kernel_rfl)) ?_
  obtain ⟨T, _⟩ := toK_one (enc := rwC) (z := 2) (B := fun f => f.vals.length ≤ 1048576) (fun r => [.i .i64 r.id, .sl (.p 0) 1 0 r.vals.length none]) 1 (fun f => obVl f.vals) h158 (fun a t c => ⟨rfl, rfl, by simp [impL, impA, AM.NoDat, AV.isDat]⟩) (fun a t c => ⟨by simp [impL, impA, obVl, obL], v_pure a.vals, trivial⟩) (fun a t c => rfl) (fun _ => rfl) (fun a => by simp [rwC, vls, AV.pure])
  exact toS_k T r0 32 _ rfl (by simp [AM.NoDat, AV.isDat]) (by omega) l hn hB
theorem h45 (u : Dt) (hn : BDt u) : HT 45 [.agg (dtC u)] [] (.agg [.sl (.p 0) 1 0 u.length none]) true [obRw u] := by
  have d1 := h105 u hn.1 hn.2
  refine holdsc_of (c := Tryz.f45.body.getD .skip) (k := k45.1) (cs := [(2, some (true, 1))]) HOk mixedT hintT Tryz.func45 (by kernel_rfl) (by kernel_rfl) (by kernel_rfl) k45.2 (by kernel_rfl) (le_of 1 _ (by kernel_rfl)) ?_
  unfold dtC
  unfold rws at d1 ⊢
  simp -implicitDefEqProofs -dsimp only [k45, go_sem, ↓reduceIte, Nat.reduceEqDiff, Int.reduceLE, Int.reduceLT, Int.reduceNeg, Int.reduceEq, Int.reduceBEq, Int.reduceBNe, Nat.reduceMul, Nat.reduceAdd, Nat.reduceLeDiff, reduceCtorEq, Int.reduceToNat]
  refine Call_news (own := true) (d1) (by simp [ExpOk, AV.pure, cur, hup_at, List.idxOf?_cons, List.idxOf?_nil, objs_l, objs_r, objs_p]) (by simp [obRw, obL, rw_pure, AV.pure]) (.inl rfl) (by simp [obRw, obL, rw_pure]) ?_
  simp -implicitDefEqProofs -dsimp only [impA, Option.getD_some, Nat.sub_self, obL, obRw, go_sem, ↓reduceIte, Nat.reduceEqDiff, Int.reduceLE, Int.reduceLT, Int.reduceNeg, Int.reduceEq, Int.reduceBEq, Int.reduceBNe, Nat.reduceMul, Nat.reduceAdd, Nat.reduceLeDiff, reduceCtorEq, Int.reduceToNat]
  refine finC_outs [.r 6 0] (p := True) (l := [.agg [.sl (.r 6 0) 4 0 u.length none]]) (by simp [resM, resE, upd_at, loadF, cur, hup_at]) trivial (by simp) (by simp [Rid.isP]) ?_ ?_ ?_
  · exact outs_cons (v := 4) (by simp only [hup_at, newObs, ↓reduceIte, Nat.reduceEqDiff, reduceCtorEq, Rid.r.injEq, Rid.l.injEq, Nat.reduceAdd, Nat.zero_add, and_self, and_true, and_false, false_and, true_and] <;> rfl) rfl (rw_pure u) trivial
  · simp [resOne, retA, retL, cur, hup_at, List.idxOf?_cons]
  · simp [resOne, ResOk, ResL, cur, hup_at]
theorem h13 (l : Db) (hB : BDb l) : HT 13 [dbs l] [] (.sl (.p 0) 1 0 l.length none) true [obDt l] := by
  refine holds_of (c := Tryz.f13.body.getD .skip) (k := kToS 1 24 [.nils] 45) (ts := [2]) HOk mixedT hintT Tryz.func13 (by kernel_rfl) (by kernel_rfl) (by kernel_rfl) (by kernel_rfl) (by kernel_rfl) (le_of 1 _ (by kernel_rfl)) ?_
  obtain ⟨T, _⟩ := toK_one (enc := dtC) (z := 1) (B := BDt) (fun u => [.sl (.p 0) 1 0 u.length none]) 0 obRw h45 (fun a t c => ⟨rfl, rfl, by simp [impL, impA, AM.NoDat, AV.isDat]⟩) (fun a t c => ⟨by simp [impL, impA, obRw, obL], rw_pure a, trivial⟩) (fun a t c => rfl) (fun _ => rfl) (fun a => by simp [dtC, rws, AV.pure])
  exact toS_k T [] 24 _ rfl (by simp [AM.NoDat, AV.isDat]) (by omega) l hB.1 hB.2
def toTbA (t : Tb) : List AV := [.s t.name, .sl (.p 0) 1 0 t.cols.length none, .sl (.p 1) 1 0 t.key.length none, .sl (.p 2) 1 0 t.uniq.length none, .sl (.p 3) 1 0 t.chk.length none, .sl (.p 4) 1 0 t.fks.length none]
theorem h44 (t : Tb) (hb : BTb t) : HT 44 [.agg (tbC t)] [] (.agg (toTbA t)) true [obCl t.cols, obIn t.key, obUn t.uniq, obCk t.chk, obFk t.fks] := by
  obtain ⟨nm, cs, ks, us, es, fs⟩ := t
  obtain ⟨b1, b2, b3, b4, b5, b6, b7, b8⟩ := hb
  simp only at b1 b2 b3 b4 b5 b6 b7 b8
  have d1 := h100 cs b1
  have d2 := h101 ks b2
  have d3 := h102 us b3 b4
  have d4 := h103 es b5 b6
  have d5 := h104 fs b7 b8
  refine holdsc_of (c := Tryz.f44.body.getD .skip) (k := k44.1) (cs := [(2, some (true, 6))]) HOk mixedT hintT Tryz.func44 (by kernel_rfl) (by kernel_rfl) (by kernel_rfl) k44.2 (by kernel_rfl) (le_of 1 _ (by kernel_rfl)) ?_
  simp only [tbC, toTbA]
  unfold cls at d1 ⊢
  unfold ils at d2 ⊢
  unfold uns at d3 ⊢
  unfold cks at d4 ⊢
  unfold fkk at d5 ⊢
  simp -implicitDefEqProofs -dsimp only [k44, go_sem, ↓reduceIte, Nat.reduceEqDiff, Int.reduceLE, Int.reduceLT, Int.reduceNeg, Int.reduceEq, Int.reduceBEq, Int.reduceBNe, Nat.reduceMul, Nat.reduceAdd, Nat.reduceLeDiff, reduceCtorEq, Int.reduceToNat]
  refine Call_news (own := true) (d1) (by simp [ExpOk, AV.pure, cur, hup_at, List.idxOf?_cons, List.idxOf?_nil, objs_l, objs_r, objs_p]) (by simp [obCl, obL, cl_pure, AV.pure]) (.inl rfl) (by simp [obCl, obL, cl_pure]) ?_
  simp -implicitDefEqProofs -dsimp only [impA, Option.getD_some, Nat.sub_self, obL, obCl, go_sem, ↓reduceIte, Nat.reduceEqDiff, Int.reduceLE, Int.reduceLT, Int.reduceNeg, Int.reduceEq, Int.reduceBEq, Int.reduceBNe, Nat.reduceMul, Nat.reduceAdd, Nat.reduceLeDiff, reduceCtorEq, Int.reduceToNat]
  refine Call_news (own := true) (d2) (by simp [ExpOk, AV.pure, cur, hup_at, List.idxOf?_cons, List.idxOf?_nil, objs_l, objs_r, objs_p]) (by simp [obL, in_pure, AV.pure]) (.inl rfl) (by simp [obL, in_pure]) ?_
  simp -implicitDefEqProofs -dsimp only [impA, Option.getD_some, Nat.sub_self, obL, go_sem, ↓reduceIte, Nat.reduceEqDiff, Int.reduceLE, Int.reduceLT, Int.reduceNeg, Int.reduceEq, Int.reduceBEq, Int.reduceBNe, Nat.reduceMul, Nat.reduceAdd, Nat.reduceLeDiff, reduceCtorEq, Int.reduceToNat]
  refine Call_news (own := true) (d3) (by simp [ExpOk, AV.pure, cur, hup_at, List.idxOf?_cons, List.idxOf?_nil, objs_l, objs_r, objs_p]) (by simp [obUn, obL, un_pure, AV.pure]) (.inl rfl) (by simp [obUn, obL, un_pure]) ?_
  simp -implicitDefEqProofs -dsimp only [impA, Option.getD_some, Nat.sub_self, obL, obUn, go_sem, ↓reduceIte, Nat.reduceEqDiff, Int.reduceLE, Int.reduceLT, Int.reduceNeg, Int.reduceEq, Int.reduceBEq, Int.reduceBNe, Nat.reduceMul, Nat.reduceAdd, Nat.reduceLeDiff, reduceCtorEq, Int.reduceToNat]
  refine Call_news (own := true) (d4) (by simp [ExpOk, AV.pure, cur, hup_at, List.idxOf?_cons, List.idxOf?_nil, objs_l, objs_r, objs_p]) (by simp [obCk, obL, ck_pure, AV.pure]) (.inl rfl) (by simp [obCk, obL, ck_pure]) ?_
  simp -implicitDefEqProofs -dsimp only [impA, Option.getD_some, Nat.sub_self, obL, obCk, go_sem, ↓reduceIte, Nat.reduceEqDiff, Int.reduceLE, Int.reduceLT, Int.reduceNeg, Int.reduceEq, Int.reduceBEq, Int.reduceBNe, Nat.reduceMul, Nat.reduceAdd, Nat.reduceLeDiff, reduceCtorEq, Int.reduceToNat]
  refine Call_news (own := true) (d5) (by simp [ExpOk, AV.pure, cur, hup_at, List.idxOf?_cons, List.idxOf?_nil, objs_l, objs_r, objs_p]) (by simp [obFk, obL, fk_pure, AV.pure]) (.inl rfl) (by simp [obFk, obL, fk_pure]) ?_
  simp -implicitDefEqProofs -dsimp only [impA, Option.getD_some, Nat.sub_self, obL, obFk, go_sem, ↓reduceIte, Nat.reduceEqDiff, Int.reduceLE, Int.reduceLT, Int.reduceNeg, Int.reduceEq, Int.reduceBEq, Int.reduceBNe, Nat.reduceMul, Nat.reduceAdd, Nat.reduceLeDiff, reduceCtorEq, Int.reduceToNat]
  refine finC_outs [.r 9 0, .r 13 0, .r 17 0, .r 21 0, .r 25 0] (p := True) (l := [.agg [.s nm, .sl (.r 9 0) 4 0 cs.length none, .sl (.r 13 0) 5 0 ks.length none, .sl (.r 17 0) 6 0 us.length none, .sl (.r 21 0) 7 0 es.length none, .sl (.r 25 0) 8 0 fs.length none]]) (by simp [resM, resE, upd_at, loadF, cur, hup_at]) trivial (by simp) (by simp [Rid.isP]) ?_ ?_ ?_
  · exact outs_cons (v := 4) (by simp only [hup_at, newObs, ↓reduceIte, Nat.reduceEqDiff, reduceCtorEq, Rid.r.injEq, Rid.l.injEq, Nat.reduceAdd, Nat.zero_add, and_self, and_true, and_false, false_and, true_and] <;> rfl) rfl (cl_pure cs) (outs_cons (v := 5) (by simp only [hup_at, newObs, ↓reduceIte, Nat.reduceEqDiff, reduceCtorEq, Rid.r.injEq, Rid.l.injEq, Nat.reduceAdd, Nat.zero_add, and_self, and_true, and_false, false_and, true_and] <;> rfl) rfl (in_pure ks) (outs_cons (v := 6) (by simp only [hup_at, newObs, ↓reduceIte, Nat.reduceEqDiff, reduceCtorEq, Rid.r.injEq, Rid.l.injEq, Nat.reduceAdd, Nat.zero_add, and_self, and_true, and_false, false_and, true_and] <;> rfl) rfl (un_pure us) (outs_cons (v := 7) (by simp only [hup_at, newObs, ↓reduceIte, Nat.reduceEqDiff, reduceCtorEq, Rid.r.injEq, Rid.l.injEq, Nat.reduceAdd, Nat.zero_add, and_self, and_true, and_false, false_and, true_and] <;> rfl) rfl (ck_pure es) (outs_cons (v := 8) (by simp only [hup_at, newObs, ↓reduceIte, Nat.reduceEqDiff, reduceCtorEq, Rid.r.injEq, Rid.l.injEq, Nat.reduceAdd, Nat.zero_add, and_self, and_true, and_false, false_and, true_and] <;> rfl) rfl (fk_pure fs) trivial))))
  · simp [resOne, retA, retL, cur, hup_at, List.idxOf?_cons]
  · simp [resOne, ResOk, ResL, cur, hup_at]
theorem toK_tb : ∃ T : ToK tbC 6 44 BTb, True :=
  ⟨⟨toTbA, fun t => [(1, obCl t.cols), (2, obIn t.key), (3, obUn t.uniq), (4, obCk t.chk), (5, obFk t.fks)], h44, fun _ _ _ => rfl, fun _ _ _ => rfl, fun a t c => by simp [toTbA, impL, impA, AM.NoDat, AV.isDat], fun a t c i j b hk => by
    match i, hk with
    | 0, hk => simp at hk; obtain ⟨rfl, rfl⟩ := hk; exact ⟨by simp [toTbA, impL, impA, obCl, obL], cl_pure _, trivial⟩
    | 1, hk => simp at hk; obtain ⟨rfl, rfl⟩ := hk; exact ⟨by simp [toTbA, impL, impA, obIn, obL], in_pure _, trivial⟩
    | 2, hk => simp at hk; obtain ⟨rfl, rfl⟩ := hk; exact ⟨by simp [toTbA, impL, impA, obUn, obL], un_pure _, trivial⟩
    | 3, hk => simp at hk; obtain ⟨rfl, rfl⟩ := hk; exact ⟨by simp [toTbA, impL, impA, obCk, obL], ck_pure _, trivial⟩
    | 4, hk => simp at hk; obtain ⟨rfl, rfl⟩ := hk; exact ⟨by simp [toTbA, impL, impA, obFk, obL], fk_pure _, trivial⟩
    | i + 5, hk => simp at hk, fun a t c => rfl, fun _ => by simp, fun _ => rfl, fun a => by simp [tbC, cls, ils, uns, cks, fkk, AV.pure]⟩, trivial⟩
theorem h12 (l : List Tb) (hB : BTbs l) : HT 12 [tbs l] [] (.sl (.p 0) 1 0 l.length none) true [obTb l] := by
  refine holds_of (c := Tryz.f12.body.getD .skip) (k := kToS 6 136 [.s [], .nils, .nils, .nils, .nils, .nils] 44) (ts := [2]) HOk mixedT hintT Tryz.func12 (by kernel_rfl) (by kernel_rfl) (by kernel_rfl) (by kernel_rfl) (by kernel_rfl) (le_of 1 _ (by kernel_rfl)) ?_
  obtain ⟨T, _⟩ := toK_tb
  exact toS_k T t0 136 _ rfl (by simp [AM.NoDat, AV.isDat]) (by omega) l hB.1 hB.2
end FrA
end
/-! DfC -/
section
open Go Go.AM
namespace FrA
open Go.Proofs
set_option maxRecDepth 100000
set_option linter.unusedSimpArgs false
open Go.AM.L
def kCloneV : K := .seq (R [o 2 (.mv (.c .nils))]) (.seq (.seq (R [m 3 0, o 4 (.eqn false (.t 3) (.c .nils))]) (.cond (.t 4) (.seq (R [o 2 (.mv (.c .nils)), G]) .ret) .skip)) (.seq (R [o 5 (.bslice 3 0 [.i .i64 0, .i .i64 0, .s []] []), m 6 0, o 7 (.app 3 32 [.i .i64 0, .i .i64 0, .s []] (.t 5) (.t 6)), m 2 7]) .ret))
theorem fin_clone {es : List (List AV)} {z : Nat} {t : Nat} (o : Rid) (v n : Nat) (g : Slots) (h : Heap) (q : Prop) (ho : o.isP = false) (cap : Option Nat) (hg : g t = .sl o v 0 n cap) (hh : h o = some { ver := v, es := es, esz := z, own := q }) (hn : n = es.length) (hf : AM.Flat es) (hp : AM.Pure es) :
    FinB [t] [] (.sl (.p 0) 1 0 es.length cap) true [{ ver := 1, es := es, esz := z }] g h := by
  subst hn
  refine Fin_one (obs := []) o { ver := v, es := es, esz := z, own := q } { ver := 1, es := es, esz := z } ho hh rfl (.inr hf) hp (fun k x hk => by simp at hk) ?_ ?_
  · simp [resV, hg, retA, cur, hh, List.idxOf?_cons]
  · simp [resV, hg, ResOk, cur, hh]
theorem h51 {x : AV} {l : List Vl} (hx : VlA x l) (hn : l.length ≤ 1048576) : HT 51 [x] [] (.sl (.p 0) 1 0 l.length none) true [obVl l] := by
  have fin := @fin_clone (l.map vC) 3 2
  rw [List.length_map] at fin
  refine holds_of (c := Tryz.f51.body.getD .skip) (k := kCloneV) (ts := [2]) HOk mixedT hintT Tryz.func51 (by kernel_rfl) (by kernel_rfl) (by kernel_rfl) (by kernel_rfl) (by kernel_rfl) (le_of 1 _ (by kernel_rfl)) ?_
  unfold kCloneV
  rcases hx with rfl | ⟨rfl, rfl⟩
  · by_cases h0 : l = []
    · subst h0
      simp -implicitDefEqProofs -dsimp only [S_0, go_sem, ↓reduceIte, Nat.reduceEqDiff, Int.reduceLE, Int.reduceLT, Int.reduceNeg, Int.reduceEq, Int.reduceBEq, Int.reduceBNe, Nat.reduceMul, Nat.reduceAdd, Nat.reduceLeDiff, reduceCtorEq, Int.reduceToNat]
      refine EqnK_any rfl rfl fun b => ?_
      cases b with
      | true =>
        simp -implicitDefEqProofs -dsimp only [go_sem, ↓reduceIte, Nat.reduceEqDiff, Int.reduceLE, Int.reduceLT, Int.reduceNeg, Int.reduceEq, Int.reduceBEq, Int.reduceBNe, Nat.reduceMul, Nat.reduceAdd, Nat.reduceLeDiff, reduceCtorEq, Int.reduceToNat]
        refine Gh_of (.nil _ _ _ 2 (.l 900) 3 rfl rfl rfl) ?_
        simp -implicitDefEqProofs -dsimp only [go_sem, ↓reduceIte, Nat.reduceEqDiff, Int.reduceLE, Int.reduceLT, Int.reduceNeg, Int.reduceEq, Int.reduceBEq, Int.reduceBNe, Nat.reduceMul, Nat.reduceAdd, Nat.reduceLeDiff, reduceCtorEq, Int.reduceToNat]
        exact fin (.l 900) 1 0 _ _ True rfl none (by simp [upd_at]) (by simp [hup_at]) rfl (v_flat _) (v_pure _)
      | false =>
        simp -implicitDefEqProofs -dsimp only [go_sem, ↓reduceIte, Nat.reduceEqDiff, Int.reduceLE, Int.reduceLT, Int.reduceNeg, Int.reduceEq, Int.reduceBEq, Int.reduceBNe, Nat.reduceMul, Nat.reduceAdd, Nat.reduceLeDiff, reduceCtorEq, Int.reduceToNat]
        refine EK_p (by simp [bigOk, AM.Good]) ?_
        simp -implicitDefEqProofs -dsimp only [chunk, List.nil_append, Nat.zero_add, go_sem, ↓reduceIte, Nat.reduceEqDiff, Int.reduceLE, Int.reduceLT, Int.reduceNeg, Int.reduceEq, Int.reduceBEq, Int.reduceBNe, Nat.reduceMul, Nat.reduceAdd, Nat.reduceLeDiff, reduceCtorEq, Int.reduceToNat]
        exact fin (.l 5) 2 0 _ _ _ rfl none (by simp [upd_at]) (by rw [hup_at, if_pos rfl]; rfl) rfl (v_flat _) (v_pure _)
    · have hne : l.map vC ≠ [] := by cases l <;> simp_all
      simp -implicitDefEqProofs -dsimp only [S_0, go_sem, ↓reduceIte, Nat.reduceEqDiff, Int.reduceLE, Int.reduceLT, Int.reduceNeg, Int.reduceEq, Int.reduceBEq, Int.reduceBNe, Nat.reduceMul, Nat.reduceAdd, Nat.reduceLeDiff, reduceCtorEq, Int.reduceToNat]
      refine EqnK_p hne ?_
      simp -implicitDefEqProofs -dsimp only [go_sem, ↓reduceIte, Nat.reduceEqDiff, Int.reduceLE, Int.reduceLT, Int.reduceNeg, Int.reduceEq, Int.reduceBEq, Int.reduceBNe, Nat.reduceMul, Nat.reduceAdd, Nat.reduceLeDiff, reduceCtorEq, Int.reduceToNat]
      refine EK_p ⟨v_good _, by unfold bigOk; omega, by omega⟩ ?_
      simp -implicitDefEqProofs -dsimp only [chunk, List.nil_append, Nat.zero_add, go_sem, ↓reduceIte, Nat.reduceEqDiff, Int.reduceLE, Int.reduceLT, Int.reduceNeg, Int.reduceEq, Int.reduceBEq, Int.reduceBNe, Nat.reduceMul, Nat.reduceAdd, Nat.reduceLeDiff, reduceCtorEq, Int.reduceToNat]
      exact fin (.l 5) 2 l.length _ _ _ rfl none (by simp [upd_at]) (by simp [hup_at]; rfl) (by simp) (v_flat _) (v_pure _)
  · simp -implicitDefEqProofs -dsimp only [S_0, go_sem, ↓reduceIte, Nat.reduceEqDiff, Int.reduceLE, Int.reduceLT, Int.reduceNeg, Int.reduceEq, Int.reduceBEq, Int.reduceBNe, Nat.reduceMul, Nat.reduceAdd, Nat.reduceLeDiff, reduceCtorEq, Int.reduceToNat]
    first
      | refine EqnK_any rfl rfl fun b => ?_
        cases b with
        | true =>
          simp -implicitDefEqProofs -dsimp only [go_sem, ↓reduceIte, Nat.reduceEqDiff, Int.reduceLE, Int.reduceLT, Int.reduceNeg, Int.reduceEq, Int.reduceBEq, Int.reduceBNe, Nat.reduceMul, Nat.reduceAdd, Nat.reduceLeDiff, reduceCtorEq, Int.reduceToNat]
          refine Gh_of (.nil _ _ _ 2 (.l 900) 3 rfl rfl rfl) ?_
          simp -implicitDefEqProofs -dsimp only [go_sem, ↓reduceIte, Nat.reduceEqDiff, Int.reduceLE, Int.reduceLT, Int.reduceNeg, Int.reduceEq, Int.reduceBEq, Int.reduceBNe, Nat.reduceMul, Nat.reduceAdd, Nat.reduceLeDiff, reduceCtorEq, Int.reduceToNat]
          exact fin (.l 900) 1 0 _ _ True rfl none (by simp [upd_at]) (by simp [hup_at]) rfl (v_flat _) (v_pure _)
        | false =>
          simp -implicitDefEqProofs -dsimp only [go_sem, ↓reduceIte, Nat.reduceEqDiff, Int.reduceLE, Int.reduceLT, Int.reduceNeg, Int.reduceEq, Int.reduceBEq, Int.reduceBNe, Nat.reduceMul, Nat.reduceAdd, Nat.reduceLeDiff, reduceCtorEq, Int.reduceToNat]
          refine EK_p (by simp [bigOk, AM.Good]) ?_
          simp -implicitDefEqProofs -dsimp only [chunk, List.nil_append, Nat.zero_add, go_sem, ↓reduceIte, Nat.reduceEqDiff, Int.reduceLE, Int.reduceLT, Int.reduceNeg, Int.reduceEq, Int.reduceBEq, Int.reduceBNe, Nat.reduceMul, Nat.reduceAdd, Nat.reduceLeDiff, reduceCtorEq, Int.reduceToNat]
          exact fin (.l 5) 2 0 _ _ _ rfl none (by simp [upd_at]) (by rw [hup_at, if_pos rfl]; rfl) rfl (v_flat _) (v_pure _)
end FrA
end
/-! PsB -/
section
open Go Go.AM
namespace FrA
open Go.Proofs
set_option maxRecDepth 100000
set_option linter.unusedSimpArgs false
theorem ts_pure (s : List Tb) : ∀ x ∈ [tbs s], x.pure = true := by simp [tbs, AV.pure]
theorem cap2O_ok {z1 z2 : Nat} {a b : List AV} {q1 q2 : Prop} (h1 : ∀ x ∈ a, x.pure = true) (h2 : ∀ x ∈ b, x.pure = true) : ObsOk [capO z1 a q1, capO z2 b q2] := by
  intro x hx
  simp only [List.mem_cons, List.not_mem_nil, or_false] at hx
  rcases hx with rfl | rfl
  · exact capO_ok (z := z1) (q := q1) h1 _ (List.mem_singleton.2 rfl)
  · exact capO_ok (z := z2) (q := q2) h2 _ (List.mem_singleton.2 rfl)
theorem cap2 {a b : Ob} : CaptOk [a, b] [.ptr (.p 0) 0 0 0, .ptr (.p 1) 0 0 0] := fun x hx => by
  simp only [List.mem_cons, List.not_mem_nil, or_false] at hx
  rcases hx with rfl | rfl
  · exact .inr ⟨0, by simp, rfl⟩
  · exact .inr ⟨1, by simp, rfl⟩
theorem nofalse2 {a b : Ob} : false = true → ∀ x ∈ [a, b], x.own ∨ AM.Flat x.es := fun h => by cases h
theorem fin_cap2 {ts : List Nat} {r : AV} {z1 z2 : Nat} {a b : List AV} {q1 q2 : Prop} {g : Slots} {h : Heap} (hp1 : ∀ x ∈ a, x.pure = true) (hp2 : ∀ x ∈ b, x.pure = true) (h1 : retA h [] 2 (resV g ts) = r) (h2 : ResOk h [] false (resV g ts)) (hh : h (.p 0) = some (capO z1 a q1)) (hh2 : h (.p 1) = some (capO z2 b q2)) :
    FinB ts [capO z1 a q1, capO z2 b q2] r false [capO z1 a q1, capO z2 b q2] g h :=
  Fin_obs h1 h2 rfl fun j ob hj => by
    match j, hj with
    | 0, hj => simp at hj; subst hj; exact ⟨(capO_ok (z := z1) (q := q1) hp1 _ (List.mem_singleton.2 rfl)).2.2, q1, .inr Iff.rfl, hh, rfl⟩
    | 1, hj => simp at hj; subst hj; exact ⟨(capO_ok (z := z2) (q := q2) hp2 _ (List.mem_singleton.2 rfl)).2.2, q2, .inr Iff.rfl, hh2, rfl⟩
    | j + 2, hj => simp at hj
theorem h145 (s : List Tb) (t : Tb) (f : Fk) (hl : s.length ≤ 1048576) (hk : ∀ t ∈ s, t.key.length ≤ 1048576 ∧ inR t.key t.cols.length) (hf : inR f.cols t.cols.length) (hfl : f.cols.length ≤ 1048576) :
    HT 145 [.agg (fkC f), .ptr (.p 0) 0 0 0, .ptr (.p 1) 0 0 0] [capO 1 [tbs s] False, capO 6 (tbC t) False] (.b (!tt (metP s t f))) false [capO 1 [tbs s] False, capO 6 (tbC t) False] := by
  refine holds_of (c := Tryz.f145.body.getD .skip) (k := k145.1) (ts := [4]) HOk mixedT hintT Tryz.func145 (by kernel_rfl) (by kernel_rfl) (by kernel_rfl) k145.2 (by kernel_rfl) (le_of 3 _ (by kernel_rfl)) ?_
  have d1 := h146 s t f hl hk hf hfl
  generalize metP s t f = P at d1 ⊢
  have hpu := tbC_pure t
  obtain ⟨n1, cs, ks, us, es, fs⟩ := t
  obtain ⟨fc, fn, o1, o2, fd⟩ := f
  simp only [tbC, fkC, cls, ils, uns, cks, fkk, tbs] at d1 hpu ⊢
  simp -implicitDefEqProofs -dsimp only [k145, objs_p, capO, S_0, S_1, S_2, go_sem, ↓reduceIte, Nat.reduceEqDiff, Int.reduceLE, Int.reduceLT, Int.reduceNeg, Int.reduceEq, Int.reduceBEq, Int.reduceBNe, Nat.reduceMul, Nat.reduceAdd, Nat.reduceLeDiff, reduceCtorEq, Int.reduceToNat]
  refine Call_val (own := true) (d1) (by simp [ExpOk, AV.pure]) (.inl rfl) ?_
  simp -implicitDefEqProofs -dsimp only [go_sem, ↓reduceIte, Nat.reduceEqDiff, Int.reduceLE, Int.reduceLT, Int.reduceNeg, Int.reduceEq, Int.reduceBEq, Int.reduceBNe, Nat.reduceMul, Nat.reduceAdd, Nat.reduceLeDiff, reduceCtorEq, Int.reduceToNat]
  exact fin_cap2 (ts_pure s) hpu (by simp [resV, upd_at, retA]) (by simp [resV, upd_at, ResOk]) (by simp [hup_at, objs_p, capO, tbs]) (by simp [hup_at, objs_p, capO])
theorem h143 (s : List Tb) (t : Tb) (hl : s.length ≤ 1048576) (hk : ∀ t ∈ s, t.key.length ≤ 1048576 ∧ inR t.key t.cols.length) (hf : ∀ f ∈ t.fks, inR f.cols t.cols.length ∧ f.cols.length ≤ 1048576) (hfl : t.fks.length ≤ 1048576) :
    HT 143 [.agg (tbC t), .ptr (.p 0) 0 0 0] [capO 1 [tbs s] False] (.b (t.fks.any fun f => !tt (metP s t f))) false [capO 1 [tbs s] False] := by
  refine holds_of (c := Tryz.f143.body.getD .skip) (k := k143.1) (ts := [3]) HOk mixedT hintT Tryz.func143 (by kernel_rfl) (by kernel_rfl) (by kernel_rfl) k143.2 (by kernel_rfl) (le_of 2 _ (by kernel_rfl)) ?_
  have dc := ctFk 145 [.ptr (.p 0) 0 0 0, .ptr (.p 1) 0 0 0] [capO 1 [tbs s] False, capO 6 (tbC t) False] (cap2O_ok (ts_pure s) (tbC_pure t)) false nofalse2 cap2 (fun f => !tt (metP s t f)) t.fks (by omega) (fun f hm => h145 s t f hl hk (hf f hm).1 (hf f hm).2)
  generalize (t.fks.any fun f => !tt (metP s t f)) = A at dc ⊢
  have hpu := tbC_pure t
  obtain ⟨n1, cs, ks, us, es, fs⟩ := t
  simp only [tbC, cls, ils, uns, cks, fkk, tbs] at dc hpu ⊢
  have npu : ∀ e ∈ [[AV.dat 6 (s.map tbC)]], ∀ x ∈ e, x.pure = true := fun e he x hx => by simp only [List.mem_cons, List.not_mem_nil, or_false] at he; subst he; exact ts_pure s x hx
  have tpu : ∀ e ∈ [[AV.s n1, .dat 6 (cs.map clC), .dat 1 (ks.map inC), .dat 1 (us.map unC), .dat 1 (es.map ckC), .dat 5 (fs.map fkC)]], ∀ x ∈ e, x.pure = true := fun e he x hx => by simp only [List.mem_cons, List.not_mem_nil, or_false] at he; subst he; exact hpu x hx
  simp -implicitDefEqProofs -dsimp only [k143, objs_p, capO, S_0, S_1, go_sem, ↓reduceIte, Nat.reduceEqDiff, Int.reduceLE, Int.reduceLT, Int.reduceNeg, Int.reduceEq, Int.reduceBEq, Int.reduceBNe, Nat.reduceMul, Nat.reduceAdd, Nat.reduceLeDiff, reduceCtorEq, Int.reduceToNat]
  refine Call_many (own := false) (v := .b A) [.p 0, .l 2] [{ ver := 0, es := [[.dat 6 (s.map tbC)]], esz := 1, own := False, fixed := true }, { ver := 1, es := [[AV.s n1, .dat 6 (cs.map clC), .dat 1 (ks.map inC), .dat 1 (us.map unC), .dat 1 (es.map ckC), .dat 5 (fs.map fkC)]], esz := 6, own := False, fixed := true }] [capO 1 [.dat 6 (s.map tbC)] False, capO 6 [AV.s n1, .dat 6 (cs.map clC), .dat 1 (ks.map inC), .dat 1 (us.map unC), .dat 1 (es.map ckC), .dat 5 (fs.map fkC)] False] (by simp [hup_at, objs_l, objs_r, objs_p]) (by simp) (by simpa [expL, expA, cur, hup_at, List.idxOf?_cons, List.idxOf?_nil, objs_l, objs_r, objs_p, capO] using dc) rfl (by simp [ExpOk, AV.pure, cur, hup_at, List.idxOf?_cons, List.idxOf?_nil, objs_l, objs_r, objs_p]) (fun b hb => by
    simp only [List.mem_cons, List.not_mem_nil, or_false] at hb
    rcases hb with rfl | rfl
    · exact npu
    · exact tpu) (fun b hb => by
    simp only [List.mem_cons, List.not_mem_nil, or_false] at hb
    rcases hb with rfl | rfl
    · exact npu
    · exact tpu) (.inr (by simp [AV.rooted, AV.ref1])) (fun h => by cases h) ?_
  simp -implicitDefEqProofs -dsimp only [go_sem, ↓reduceIte, Nat.reduceEqDiff, Int.reduceLE, Int.reduceLT, Int.reduceNeg, Int.reduceEq, Int.reduceBEq, Int.reduceBNe, Nat.reduceMul, Nat.reduceAdd, Nat.reduceLeDiff, reduceCtorEq, Int.reduceToNat]
  exact fin_cap (ts_pure s) (by simp [resV, upd_at, retA]) (by simp [resV, upd_at, ResOk]) (by simp [hup_at, objs_p, capO, tbs, updObs])
def sc1 (s : List Tb) (i : Nat) : Prop := tbOk (s.getD i t0) ∧ ¬ tabAt (s.take i) (s.getD i t0).name ≥ 0
def schOk (s : List Tb) : Prop := s.length ≤ 5 ∧ (∀ i, i < s.length → sc1 s i) ∧ ∀ t ∈ s, ∀ f ∈ t.fks, metP s t f
theorem tb_in {s : List Tb} (hs : ∀ t ∈ s, GTb t) (h : ∀ i, i < s.length → sc1 s i) : (∀ t ∈ s, t.key.length ≤ 1048576 ∧ inR t.key t.cols.length) ∧ ∀ t ∈ s, ∀ f ∈ t.fks, inR f.cols t.cols.length ∧ f.cols.length ≤ 1048576 := by
  have key : ∀ t ∈ s, tbOk t := fun t ht => by
    obtain ⟨j, hj, rfl⟩ := List.getElem_of_mem ht
    have := (h j hj).1
    rwa [List.getD_eq_getElem?_getD, List.getElem?_eq_getElem hj, Option.getD_some] at this
  exact ⟨fun t ht => ⟨(hs t ht).b2, inR_of (key t ht).2.2.1⟩, fun t ht f hf => ⟨inR_of ((key t ht).2.2.2.2.2.2.2.2.2 f hf).1, (hs t ht).b8 f hf⟩⟩
theorem h91 (s : List Tb) (hs : ∀ t ∈ s, GTb t) (hl : s.length ≤ 1048576) : HT 91 [tbs s] [] (.b (tt (schOk s))) true [] := by
  refine holds_of (c := Tryz.f91.body.getD .skip) (k := k91.1) (ts := [2]) HOk mixedT hintT Tryz.func91 (by kernel_rfl) (by kernel_rfl) (by kernel_rfl) k91.2 (by kernel_rfl) (le_of 1 _ (by kernel_rfl)) ?_
  generalize hP : schOk s = P
  have hdef : P ↔ s.length ≤ 5 ∧ (∀ i, i < s.length → sc1 s i) ∧ ∀ t ∈ s, ∀ f ∈ t.fks, metP s t f := by rw [← hP]; exact Iff.rfl
  clear hP
  have npu : ∀ e ∈ [[AV.dat 6 (s.map tbC)]], ∀ x ∈ e, x.pure = true := fun e he x hx => by simp only [List.mem_cons, List.not_mem_nil, or_false] at he; subst he; exact ts_pure s x hx
  unfold tbs
  by_cases h5 : s.length ≤ 5
  rotate_left
  · have g5 : (s.length : Int) > 5 := by omega
    rw [tt_f fun q => h5 (hdef.1 q).1]
    simp -implicitDefEqProofs -dsimp only [k91, g5, go_sem, ↓reduceIte, Nat.reduceEqDiff, Int.reduceLE, Int.reduceLT, Int.reduceNeg, Int.reduceEq, Int.reduceBEq, Int.reduceBNe, Nat.reduceMul, Nat.reduceAdd, Nat.reduceLeDiff, reduceCtorEq, Int.reduceToNat]
    exact Fin_val (by simp [resV, upd_at, retA]) (by simp [resV, upd_at, ResOk])
  have g5 : ¬ (s.length : Int) > 5 := by omega
  simp -implicitDefEqProofs -dsimp only [k91, g5, go_sem, ↓reduceIte, Nat.reduceEqDiff, Int.reduceLE, Int.reduceLT, Int.reduceNeg, Int.reduceEq, Int.reduceBEq, Int.reduceBNe, Nat.reduceMul, Nat.reduceAdd, Nat.reduceLeDiff, reduceCtorEq, Int.reduceToNat]
  refine K_for s.length (fun i g h c => g 1 = .ptr (.l 1) 1 0 0 ∧ g 8 = .dat 6 (s.map tbC) ∧ g 9 = i64 s.length ∧ g 10 = i64 i ∧ h (.l 1) = some { ver := 1, es := [[.dat 6 (s.map tbC)]], esz := 1, own := False, fixed := true } ∧ ∀ j, j < i → sc1 s j) ?_ ?_ ?_
  · exact ⟨by simp [upd_at], by simp [upd_at], by simp [upd_at], by simp [upd_at], by simp [hup_at], fun j hj => absurd hj (by omega)⟩
  · rintro i A hi hA g h c ⟨q1, q8, q9, q10, hh, hb⟩
    have hc : (i : Int) < (s.length : Int) := by omega
    have hle : (i : Int) ≤ (s.length : Int) := by omega
    have hne : ¬ i = s.length := by omega
    have w2 : IntKind.i64.wrap ((i : Int) + 1) = ((i + 1 : Nat) : Int) := wnat1 (by omega)
    have hg := mget t0 hi
    have hm := hs _ (mmem t0 hi)
    have hbad : ¬ sc1 s i → tt P = false := fun q => tt_f fun r => q ((hdef.1 r).2.1 i hi)
    have hst := upto_step (P := sc1 s) hb
    unfold sc1 at hbad hst
    generalize s.getD i t0 = u at hg hm hbad hst
    have d1 := h140 u hm
    have d2 := h141 (s.take i) u.name (by rw [List.length_take]; omega)
    generalize tabAt (s.take i) u.name = I at d2 hbad hst
    generalize tbOk u = TB at d1 hbad hst
    obtain ⟨nm, cs, ks, us, es, fs⟩ := u
    simp only [tbC, cls, ils, uns, cks, fkk] at d1 d2
    unfold tbs at d2
    rw [List.map_take] at d2
    simp -implicitDefEqProofs -dsimp only [q1, q8, q9, q10, hh, hc, hg, tbC, cls, ils, uns, cks, fkk, go_sem, ↓reduceIte, Nat.reduceEqDiff, Int.reduceLE, Int.reduceLT, Int.reduceNeg, Int.reduceEq, Int.reduceBEq, Int.reduceBNe, Nat.reduceMul, Nat.reduceAdd, Nat.reduceLeDiff, reduceCtorEq, Int.reduceToNat]
    refine Call0_val true (d1) (by simp [AV.free, AV.pure]) (.inl rfl) ?_
    by_cases e1 : TB
    rotate_left
    · rw [tt_f e1]
      simp -implicitDefEqProofs -dsimp only [go_sem, ↓reduceIte, Nat.reduceEqDiff, Int.reduceLE, Int.reduceLT, Int.reduceNeg, Int.reduceEq, Int.reduceBEq, Int.reduceBNe, Nat.reduceMul, Nat.reduceAdd, Nat.reduceLeDiff, reduceCtorEq, Int.reduceToNat]
      have hf := hbad fun q => e1 q.1
      exact Fin_val (by simp [resV, upd_at, retA, hf]) (by simp [resV, upd_at, ResOk])
    rw [tt_t e1]
    simp -implicitDefEqProofs -dsimp only [q1, q8, q9, q10, hh, hc, hle, hne, go_sem, ↓reduceIte, Nat.reduceEqDiff, Int.reduceLE, Int.reduceLT, Int.reduceNeg, Int.reduceEq, Int.reduceBEq, Int.reduceBNe, Nat.reduceMul, Nat.reduceAdd, Nat.reduceLeDiff, reduceCtorEq, Int.reduceToNat]
    refine VK_p (by first | omega | (simp only [List.length_cons, List.length_nil, List.length_append]; omega) | (refine ⟨by omega, by omega, ?_⟩; first | omega | (simp only [List.length_cons, List.length_nil, List.length_append]; omega)) | (simp; omega) | (simp; done)) ?_
    simp -implicitDefEqProofs -dsimp only [q1, q8, q9, q10, hh, hc, hle, hne, go_sem, ↓reduceIte, Nat.reduceEqDiff, Int.reduceLE, Int.reduceLT, Int.reduceNeg, Int.reduceEq, Int.reduceBEq, Int.reduceBNe, Nat.reduceMul, Nat.reduceAdd, Nat.reduceLeDiff, reduceCtorEq, Int.reduceToNat]
    refine Call0_val true (d2) (by simp [AV.free, AV.pure]) (.inl rfl) ?_
    by_cases e2 : I ≥ 0
    · simp -implicitDefEqProofs -dsimp only [e2, go_sem, ↓reduceIte, Nat.reduceEqDiff, Int.reduceLE, Int.reduceLT, Int.reduceNeg, Int.reduceEq, Int.reduceBEq, Int.reduceBNe, Nat.reduceMul, Nat.reduceAdd, Nat.reduceLeDiff, reduceCtorEq, Int.reduceToNat]
      have hf := hbad fun q => q.2 e2
      exact Fin_val (by simp [resV, upd_at, retA, hf]) (by simp [resV, upd_at, ResOk])
    · simp -implicitDefEqProofs -dsimp only [e2, q10, w2, go_sem, ↓reduceIte, Nat.reduceEqDiff, Int.reduceLE, Int.reduceLT, Int.reduceNeg, Int.reduceEq, Int.reduceBEq, Int.reduceBNe, Nat.reduceMul, Nat.reduceAdd, Nat.reduceLeDiff, reduceCtorEq, Int.reduceToNat]
      exact hA _ _ _ ⟨by simp [upd_at, q1], by simp [upd_at, q8], by simp [upd_at, q9], by simp [upd_at], by simp [hup_at, hh], hst ⟨e1, e2⟩⟩
  · rintro A g h c ⟨q1, q8, q9, q10, hh, hb⟩
    have hc : ¬ (s.length : Int) < (s.length : Int) := by omega
    obtain ⟨k1, k2⟩ := tb_in hs hb
    have dc := ctTb 143 [.ptr (.p 0) 0 0 0] [capO 1 [tbs s] False] (capO_ok (ts_pure s)) false nofalse cap1 (fun t => t.fks.any fun f => !tt (metP s t f)) s (by omega) (fun t ht => h143 s t hl k1 (k2 t ht) (hs t ht).b7)
    have hany : P ↔ (s.any fun t => t.fks.any fun f => !tt (metP s t f)) = false := by
      rw [hdef]
      refine ⟨fun q => ?_, fun q => ⟨h5, hb, fun t ht f hf => ?_⟩⟩
      · rw [List.any_eq_false]; intro t ht; rw [Bool.not_eq_true, List.any_eq_false]; intro f hf; simp [tt_t (q.2.2 t ht f hf)]
      · rw [List.any_eq_false] at q
        have q1 := q t ht
        rw [Bool.not_eq_true, List.any_eq_false] at q1
        exact tt_true.1 (by simpa using q1 f hf)
    generalize (s.any fun t => t.fks.any fun f => !tt (metP s t f)) = AN at dc hany
    unfold tbs at dc
    simp -implicitDefEqProofs -dsimp only [q1, q8, q9, q10, hc, hh, go_sem, ↓reduceIte, Nat.reduceEqDiff, Int.reduceLE, Int.reduceLT, Int.reduceNeg, Int.reduceEq, Int.reduceBEq, Int.reduceBNe, Nat.reduceMul, Nat.reduceAdd, Nat.reduceLeDiff, reduceCtorEq, Int.reduceToNat]
    refine Call_one (own := false) (v := .b AN) (.l 1) _ (capO 1 _ _) hh (by simpa [expL, expA, cur, hup_at, List.idxOf?_cons, List.idxOf?_nil, objs_l, objs_r, objs_p, capO, hh] using dc) (by simp [ExpOk, AV.pure, cur, hup_at, List.idxOf?_cons, List.idxOf?_nil, objs_l, objs_r, objs_p, hh]) (by exact npu) (by exact npu) (.inr (by simp [AV.rooted, AV.ref1])) (fun h => by cases h) ?_
    cases AN with
    | true =>
      have hf : tt P = false := tt_f fun q => by cases hany.1 q
      simp -implicitDefEqProofs -dsimp only [go_sem, ↓reduceIte, Nat.reduceEqDiff, Int.reduceLE, Int.reduceLT, Int.reduceNeg, Int.reduceEq, Int.reduceBEq, Int.reduceBNe, Nat.reduceMul, Nat.reduceAdd, Nat.reduceLeDiff, reduceCtorEq, Int.reduceToNat]
      exact Fin_val (by simp [resV, upd_at, retA, hf]) (by simp [resV, upd_at, ResOk])
    | false =>
      have hf : tt P = true := tt_t (hany.2 rfl)
      simp -implicitDefEqProofs -dsimp only [go_sem, ↓reduceIte, Nat.reduceEqDiff, Int.reduceLE, Int.reduceLT, Int.reduceNeg, Int.reduceEq, Int.reduceBEq, Int.reduceBNe, Nat.reduceMul, Nat.reduceAdd, Nat.reduceLeDiff, reduceCtorEq, Int.reduceToNat]
      exact Fin_val (by simp [resV, upd_at, retA, hf]) (by simp [resV, upd_at, ResOk])
end FrA
end
