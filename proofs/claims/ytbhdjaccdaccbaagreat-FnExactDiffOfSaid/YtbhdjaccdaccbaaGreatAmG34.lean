/- slices.Sort and slices.Compact of numbers. No condition. -/
import Derived.Test.YtbhdjaccdaccbaaGreatAmG04
import Derived.Test.YtbhdjaccdaccbaaGreatAmG31
import Derived.Test.YtbhdjaccdaccbaaGreatAmG32
import Derived.Test.YtbhdjaccdaccbaaGreatAmG18
import Derived.Test.YtbhdjaccdaccbaaGreatAmG30
import Derived.Test.YtbhdjaccdaccbaaGreatAmG25
import Derived.Test.YtbhdjaccdaccbaaGreatAmG19
import Derived.Test.YtbhdjaccdaccbaaGreatAmG26
import Derived.Test.YtbhdjaccdaccbaaGreatAmG27
set_option linter.all false
set_option linter.unusedSimpArgs false
set_option linter.unusedVariables false
set_option linter.deprecated false
/-! SrB -/
section
open Go Go.AM
namespace FrA
open Go.Proofs
set_option maxRecDepth 100000
set_option linter.unusedSimpArgs false
theorem h47 (zs : List Int) (q : Prop) (cap : Option Nat) (hz : zs.length ≤ 2097152) : HT 47 [.sl (.p 0) 0 0 zs.length cap] [obI zs q] (.tup []) true [obI (srt zs) q] :=
  sort_holds (callFunc_run Tryz.func47 (by kernel_rfl) (by kernel_rfl)) (fun blk off cap zs w h1 h2 h3 => AnyM.slices_Sort_int Tryz.laysSort blk off cap zs w h1 h2 h3) (fun p cap w => AnyM.slices_Sort_int_none Tryz.laysSort p cap w) zs q cap (by omega)
/-- What lies in a row of which so much is done. -/
def ec (zs : List Int) (m : Nat) : List Int := cpt (zs.take m) ++ zs.drop (cpt (zs.take m)).length
theorem cpt_take_le2 (zs : List Int) (m : Nat) : (cpt (zs.take m)).length ≤ zs.length := Nat.le_trans cpt_len_le (by rw [List.length_take]; omega)
theorem ec_len (zs : List Int) (m : Nat) : (ec zs m).length = zs.length := by
  have := cpt_take_le2 zs m
  unfold ec; rw [List.length_append, List.length_drop]; omega
theorem ec_get {zs : List Int} {m j : Nat} (h : (cpt (zs.take m)).length ≤ j) (hj : j < zs.length) : ((ec zs m).map inC)[j]? = some (inC (zs.getD j 0)) := by
  unfold ec
  rw [List.getElem?_map, List.getElem?_append_right h, List.getElem?_drop, show (cpt (zs.take m)).length + (j - (cpt (zs.take m)).length) = j by omega, mget (0 : Int) hj]; rfl
theorem ec_set {zs : List Int} {m : Nat} {x : Int} (h : cpt (zs.take (m + 1)) = cpt (zs.take m) ++ [x]) (hj : (cpt (zs.take m)).length < zs.length) : ((ec zs m).map inC).set (cpt (zs.take m)).length (inC x) = (ec zs (m + 1)).map inC := by
  unfold ec
  rw [h, List.length_append, List.length_singleton, ← List.map_set, List.set_append, if_neg (by omega), Nat.sub_self]
  congr 1
  rw [dropD (0 : Int) hj, List.set_cons_zero, List.append_assoc]; rfl
theorem ec_same {zs : List Int} {m : Nat} (h : cpt (zs.take (m + 1)) = cpt (zs.take m)) : ec zs (m + 1) = ec zs m := by unfold ec; rw [h]
theorem k_Compact (zs : List Int) (o : Rid) (v : Nat) (q : Prop) (cap : Option Nat) (h0 : Heap) (clk : Nat) (Q : AV → Heap → Nat → Prop) (hh : h0 o = some { ver := v, es := zs.map inC, esz := 1, own := q }) (hn : zs.length ≤ 2097152) (hcap : cap = none ∨ zs = [])
    (hq : ∀ (E : List (List AV)) (q' : Prop) (cap' : Option Nat) (h : Heap), E.length = zs.length → AM.Pure E → E.take (cpt zs).length = (cpt zs).map inC → h o = some { ver := v, es := E, esz := 1, own := q' } → (∀ u, u ≠ o → h u = h0 u) → Q (.sl o v 0 (cpt zs).length cap) h clk) :
    RunK HC k48.1 (.done (FinX [2] Q)) (slots0 [.sl o v 0 zs.length cap]) h0 clk := by
  have whole : cpt zs = zs → Q (.sl o v 0 zs.length cap) h0 clk := fun e => by
    have := hq (zs.map inC) q none h0 (by simp) (in_pure _) (by rw [e, List.take_of_length_le (by simp)]) hh (fun _ _ => rfl)
    rwa [e] at this
  by_cases hs : zs.length < 2
  · have hc : (zs.length : Int) < 2 := by omega
    have e : cpt zs = zs := by
      match zs, hs with
      | [], _ => rfl
      | [a], _ => rfl
    simp -implicitDefEqProofs -dsimp only [k48, hh, hc, go_sem, ↓reduceIte, Nat.reduceEqDiff, Int.reduceLE, Int.reduceLT, Int.reduceNeg, Int.reduceEq, Int.reduceBEq, Int.reduceBNe, Nat.reduceMul, Nat.reduceAdd, Nat.reduceLeDiff, reduceCtorEq, Int.reduceToNat]
    exact whole e
  have hc : ¬ (zs.length : Int) < 2 := by omega
  obtain rfl : cap = none := hcap.resolve_right (fun e => hs (by rw [e]; decide))
  simp -implicitDefEqProofs -dsimp only [k48, hh, hc, go_sem, ↓reduceIte, Nat.reduceEqDiff, Int.reduceLE, Int.reduceLT, Int.reduceNeg, Int.reduceEq, Int.reduceBEq, Int.reduceBNe, Nat.reduceMul, Nat.reduceAdd, Nat.reduceLeDiff, reduceCtorEq, Int.reduceToNat]
  refine K_for (zs.length - 1) (fun i g h c => g 0 = .sl o v 0 zs.length none ∧ g 3 = i64 (i + 1 : Nat) ∧ h = h0 ∧ c = clk ∧ cpt (zs.take (i + 1)) = zs.take (i + 1)) ?_ ?_ ?_
  · refine ⟨by simp [upd_at, S_0], by simp [upd_at], rfl, rfl, ?_⟩
    match zs, hs with
    | a :: l, _ => rfl
  · rintro i A hi hA g h c ⟨q0, q3, rfl, rfl, hb⟩
    have hc1 : ((i + 1 : Nat) : Int) < (zs.length : Int) := by omega
    have n1 : i + 1 < zs.length := by omega
    have n2 : i < zs.length := by omega
    have w1 : IntKind.i64.wrap (((i + 1 : Nat) : Int) - 1) = (i : Int) := by rw [wr (by omega) (by omega)]; omega
    have w2 : IntKind.i64.wrap (((i + 1 : Nat) : Int) + 1) = ((i + 1 + 1 : Nat) : Int) := wnat1 (by omega)
    have n3 : ((i + 1 : Nat) : Int) ≤ (zs.length : Int) := by omega
    have n4 : (((zs.length : Int) - ((i + 1 : Nat) : Int)).toNat) = zs.length - (i + 1) := by omega
    have g1 := mget (0 : Int) n1
    have g2 := mget (0 : Int) (show i < zs.length by omega)
    have hst := cpt_step n1
    generalize hx : zs.getD i 0 = x at g2 hst
    generalize hy : zs.getD (i + 1) 0 = y at g1 hst
    by_cases hxy : y = x
    · have ex : (y == x) = true := by simp [hxy]
      rw [if_pos hxy.symm] at hst
      simp -implicitDefEqProofs -dsimp only [q0, q3, hh, hc1, w1, n1, n2, g1, g2, inC, ex, n3, n4, go_sem, ↓reduceIte, Nat.reduceEqDiff, Int.reduceLE, Int.reduceLT, Int.reduceNeg, Int.reduceEq, Int.reduceBEq, Int.reduceBNe, Nat.reduceMul, Nat.reduceAdd, Nat.reduceLeDiff, reduceCtorEq, Int.reduceToNat]
      refine VK_p (.inr trivial) ?_
      simp -implicitDefEqProofs -dsimp only [go_sem, ↓reduceIte, Nat.reduceEqDiff, Int.reduceLE, Int.reduceLT, Int.reduceNeg, Int.reduceEq, Int.reduceBEq, Int.reduceBNe, Nat.reduceMul, Nat.reduceAdd, Nat.reduceLeDiff, reduceCtorEq, Int.reduceToNat]
      have hst1 : cpt (zs.take (i + 1 + 0 + 1)) = zs.take (i + 1) := hst.trans hb
      have hl1 : (zs.take (i + 1)).length = i + 1 := by rw [List.length_take]; omega
      have hec : ec zs (i + 1 + 0 + 1) = zs := by unfold ec; rw [hst1, hl1, List.take_append_drop]
      refine K_for (zs.length - (i + 1) - 1) (fun j g h' c' => g 0 = .sl o v 0 zs.length none ∧ g 4 = .sl o v (i + 1) (zs.length - (i + 1)) none ∧ g 5 = i64 (j + 1 : Nat) ∧ g 3 = i64 ((cpt (zs.take (i + 1 + j + 1))).length) ∧ c' = c ∧ (cpt (zs.take (i + 1 + j + 1))).length ≤ i + 1 + j ∧ (∃ q' : Prop, h' o = some { ver := v, es := (ec zs (i + 1 + j + 1)).map inC, esz := 1, own := q' }) ∧ ∀ u, u ≠ o → h' u = h u) ?_ ?_ ?_
      · refine ⟨by simp [upd_at, q0], by simp [upd_at], by simp [upd_at], ?_, rfl, ?_, ⟨q, ?_⟩, fun _ _ => rfl⟩
        · rw [hst1, hl1]; simp [upd_at, q3]
        · rw [hst1, hl1]; omega
        · rw [hec]; exact hh
      · rintro j A' hj hA' g1' h' c' ⟨q0, q4, q5, q3, rfl, hle, ⟨q', hh'⟩, hfr⟩
        have b1 : i + 1 + (j + 1) < zs.length := by omega
        have b2 : i + 1 + j < zs.length := by omega
        have b3 : ((j + 1 : Nat) : Int) < ((zs.length - (i + 1) : Nat) : Int) := by omega
        have b4 : j + 1 < zs.length - (i + 1) := by omega
        have b5 : j < zs.length - (i + 1) := by omega
        have w3 : IntKind.i64.wrap (((j + 1 : Nat) : Int) - 1) = (j : Int) := by rw [wr (by omega) (by omega)]; omega
        have w4 : IntKind.i64.wrap (((j + 1 : Nat) : Int) + 1) = ((j + 1 + 1 : Nat) : Int) := wnat1 (by omega)
        have e1 : ((ec zs (i + 1 + j + 1)).map inC)[i + 1 + (j + 1)]? = some (inC (zs.getD (i + 1 + (j + 1)) 0)) := ec_get (by omega) b1
        have e2 : ((ec zs (i + 1 + j + 1)).map inC)[i + 1 + j]? = some (inC (zs.getD (i + 1 + j) 0)) := ec_get hle b2
        have e3 : ((ec zs (i + 1 + j + 1)).map inC)[(cpt (zs.take (i + 1 + j + 1))).length]? = some (inC (zs.getD (cpt (zs.take (i + 1 + j + 1))).length 0)) := ec_get (Nat.le_refl _) (by omega)
        have b6 : (cpt (zs.take (i + 1 + j + 1))).length < zs.length := by omega
        have st2 := cpt_step (l := zs) (m := i + 1 + j) (by omega)
        have es1 := fun x => @ec_set zs (i + 1 + j + 1) x
        have es2 := @ec_same zs (i + 1 + j + 1)
        have w5 : IntKind.i64.wrap (((cpt (zs.take (i + 1 + j + 1))).length : Int) + 1) = (((cpt (zs.take (i + 1 + j + 1))).length + 1 : Nat) : Int) := wnat1 (by omega)
        rw [show i + 1 + (j + 1) = i + 1 + j + 1 by omega] at e1 b1
        generalize zs.getD (i + 1 + j) 0 = x2 at e2 st2
        generalize zs.getD (i + 1 + j + 1) 0 = y2 at e1 st2
        generalize hEE : (ec zs (i + 1 + j + 1)).map inC = E at hh' e1 e2 e3 es1
        have ne : i + 1 + (j + 1) = i + 1 + j + 1 := by omega
        by_cases hxy2 : y2 = x2
        · have ex2 : (y2 != x2) = false := by simp [hxy2]
          rw [if_pos hxy2.symm] at st2
          simp -implicitDefEqProofs -dsimp only [q0, q3, q4, q5, hh', b3, b4, b5, w3, ne, e1, e2, inC, ex2, w4, go_sem, ↓reduceIte, Nat.reduceEqDiff, Int.reduceLE, Int.reduceLT, Int.reduceNeg, Int.reduceEq, Int.reduceBEq, Int.reduceBNe, Nat.reduceMul, Nat.reduceAdd, Nat.reduceLeDiff, reduceCtorEq, Int.reduceToNat]
          refine hA' _ _ _ ⟨by simp [upd_at, q0], by simp [upd_at, q4], by simp [upd_at], ?_, rfl, ?_, ⟨q', ?_⟩, hfr⟩
          · rw [show i + 1 + (j + 1) + 1 = i + 1 + j + 2 by omega, st2]; simp [upd_at, q3]
          · rw [show i + 1 + (j + 1) + 1 = i + 1 + j + 2 by omega, st2]; omega
          · rw [show i + 1 + (j + 1) + 1 = i + 1 + j + 1 + 1 by omega, es2 st2, hEE]; exact hh'
        · have ex2 : (y2 != x2) = true := by simp [hxy2]
          rw [if_neg (fun e => hxy2 e.symm)] at st2
          simp -implicitDefEqProofs -dsimp only [q0, q3, q4, q5, hh', b3, b4, b5, b6, w3, ne, e1, e2, e3, inC, ex2, w4, w5, Nat.reduceLeDiff, go_sem, ↓reduceIte, Nat.reduceEqDiff, Int.reduceLE, Int.reduceLT, Int.reduceNeg, Int.reduceEq, Int.reduceBEq, Int.reduceBNe, Nat.reduceMul, Nat.reduceAdd, Nat.reduceLeDiff, reduceCtorEq, Int.reduceToNat]
          refine hA' _ _ _ ⟨by simp [upd_at, q0], by simp [upd_at, q4], by simp [upd_at], ?_, rfl, ?_, ⟨q' ∧ NoDat [AV.i .i64 y2], ?_⟩, ?_⟩
          · rw [show i + 1 + (j + 1) + 1 = i + 1 + j + 2 by omega, st2, List.length_append]; simp [upd_at]
          · rw [show i + 1 + (j + 1) + 1 = i + 1 + j + 2 by omega, st2, List.length_append, List.length_singleton]; omega
          · rw [show i + 1 + (j + 1) + 1 = i + 1 + j + 1 + 1 by omega, hup_at, if_pos rfl, ← es1 y2 st2 b6]; rfl
          · intro u hu
            rw [hup_at, if_neg hu]; exact hfr u hu
      · rintro A' g1' h' c' ⟨q0, q4, q5, q3, rfl, hle, ⟨q', hh'⟩, hfr⟩
        have eN : i + 1 + (zs.length - (i + 1) - 1) + 1 = zs.length := by omega
        rw [eN, List.take_length] at q3 hle
        rw [eN] at hh'
        have b3 : ¬ ((zs.length - (i + 1) - 1 + 1 : Nat) : Int) < ((zs.length - (i + 1) : Nat) : Int) := by omega
        have b5 : ((cpt zs).length : Int) ≤ (zs.length : Int) := by omega
        have b6 : (((zs.length : Int) - ((cpt zs).length : Int)).toNat) = zs.length - (cpt zs).length := by omega
        have b7 : zs.length - (cpt zs).length ≠ 0 := by omega
        have tk : (ec zs zs.length).take (cpt zs).length = cpt zs := by unfold ec; rw [List.take_length, List.take_left]
        have dp : (ec zs zs.length).drop ((cpt zs).length + (zs.length - (cpt zs).length)) = [] := List.drop_of_length_le (by rw [ec_len]; omega)
        have tk2 : ((ec zs zs.length).map inC).take (cpt zs).length = (cpt zs).map inC := by rw [← List.map_take, tk]
        have dp2 : ((ec zs zs.length).map inC).drop ((cpt zs).length + (zs.length - (cpt zs).length)) = [] := by rw [← List.map_drop, dp]; rfl
        generalize (ec zs zs.length).map inC = E at hh' tk2 dp2
        simp -implicitDefEqProofs -dsimp only [q0, q3, q4, q5, hh', b3, b5, b6, b7, go_sem, ↓reduceIte, Nat.reduceEqDiff, Int.reduceLE, Int.reduceLT, Int.reduceNeg, Int.reduceEq, Int.reduceBEq, Int.reduceBNe, Nat.reduceMul, Nat.reduceAdd, Nat.reduceLeDiff, reduceCtorEq, Int.reduceToNat]
        refine VK_p (.inl (Int.le_refl _)) ?_
        simp -implicitDefEqProofs -dsimp only [hh', b7, go_sem, ↓reduceIte, Nat.reduceEqDiff, Int.reduceLE, Int.reduceLT, Int.reduceNeg, Int.reduceEq, Int.reduceBEq, Int.reduceBNe, Nat.reduceMul, Nat.reduceAdd, Nat.reduceLeDiff, reduceCtorEq, Int.reduceToNat]
        refine ClrK_p trivial ?_
        simp -implicitDefEqProofs -dsimp only [q0, q3, hh', go_sem, ↓reduceIte, Nat.reduceEqDiff, Int.reduceLE, Int.reduceLT, Int.reduceNeg, Int.reduceEq, Int.reduceBEq, Int.reduceBNe, Nat.reduceMul, Nat.reduceAdd, Nat.reduceLeDiff, reduceCtorEq, Int.reduceToNat]
        refine VK_p (.inl b5) ?_
        simp -implicitDefEqProofs -dsimp only [go_sem, ↓reduceIte, Nat.reduceEqDiff, Int.reduceLE, Int.reduceLT, Int.reduceNeg, Int.reduceEq, Int.reduceBEq, Int.reduceBNe, Nat.reduceMul, Nat.reduceAdd, Nat.reduceLeDiff, reduceCtorEq, Int.reduceToNat]
        refine hq _ _ none _ ?_ ?_ ?_ (by rw [hup_at, if_pos rfl]) (fun u hu => by rw [hup_at, if_neg hu]; exact hfr u hu)
        · rw [List.length_replicate, dp2, tk2]; simp; omega
        · rw [List.length_replicate, dp2, tk2, List.append_nil]
          intro e he
          rcases List.mem_append.1 he with he | he
          · exact in_pure _ e he
          · rw [(List.mem_replicate.1 he).2]; intro x hx; simp only [List.mem_cons, List.not_mem_nil, or_false] at hx; subst hx; rfl
        · rw [tk2, List.append_assoc, List.take_left' (by simp)]
    · have ex : (y == x) = false := by simp [hxy]
      rw [if_neg (fun e => hxy e.symm)] at hst
      simp -implicitDefEqProofs -dsimp only [q0, q3, hh, hc1, w1, n1, n2, g1, g2, inC, ex, w2, go_sem, ↓reduceIte, Nat.reduceEqDiff, Int.reduceLE, Int.reduceLT, Int.reduceNeg, Int.reduceEq, Int.reduceBEq, Int.reduceBNe, Nat.reduceMul, Nat.reduceAdd, Nat.reduceLeDiff, reduceCtorEq, Int.reduceToNat]
      refine hA _ _ _ ⟨by simp [upd_at, q0], by simp [upd_at], rfl, rfl, ?_⟩
      rw [hst, hb, ← hy, ← mtake (0 : Int) n1]
  · rintro A g h c ⟨q0, q3, rfl, rfl, hb⟩
    have hc1 : ¬ ((zs.length - 1 + 1 : Nat) : Int) < (zs.length : Int) := by omega
    simp -implicitDefEqProofs -dsimp only [q0, q3, hh, hc1, go_sem, ↓reduceIte, Nat.reduceEqDiff, Int.reduceLE, Int.reduceLT, Int.reduceNeg, Int.reduceEq, Int.reduceBEq, Int.reduceBNe, Nat.reduceMul, Nat.reduceAdd, Nat.reduceLeDiff, reduceCtorEq, Int.reduceToNat]
    exact whole (by rw [show zs.length - 1 + 1 = zs.length by omega, List.take_length] at hb; exact hb)
theorem hx48 (zs : List Int) (o : Rid) (v : Nat) (q : Prop) (cap : Option Nat) (h0 : Heap) (clk : Nat) (Q : AV → Heap → Nat → Prop) (hh : h0 o = some { ver := v, es := zs.map inC, esz := 1, own := q }) (hn : zs.length ≤ 2097152) (hcap : cap = none ∨ zs = [])
    (hq : ∀ (E : List (List AV)) (q' : Prop) (cap' : Option Nat) (h : Heap), E.length = zs.length → AM.Pure E → E.take (cpt zs).length = (cpt zs).map inC → h o = some { ver := v, es := E, esz := 1, own := q' } → (∀ u, u ≠ o → h u = h0 u) → Q (.sl o v 0 (cpt zs).length cap) h clk) :
    HC.x 48 [.sl o v 0 zs.length cap] h0 clk Q :=
  holdsx_of (c := Tryz.f48.body.getD .skip) (k := k48.1) (ts := [2]) HOk mixedT hintT Tryz.func48 (by kernel_rfl) (by kernel_rfl) (by kernel_rfl) k48.2 (by kernel_rfl) (le_of 1 _ (by kernel_rfl)) (k_Compact zs o v q cap h0 clk Q hh hn hcap hq)
end FrA
end
/-! DfE -/
section
open Go Go.AM
namespace FrA
open Go.Proofs
set_option maxRecDepth 100000
set_option linter.unusedSimpArgs false
theorem dbOk_rows {S : List Tb} {A : Db} (h : dbOk S A) {i : Nat} (hi : i < S.length) : i < A.length ∧ S.length ≤ 5 ∧ (A.getD i []).length ≤ 60 := by
  have h1 := h.2.1
  have h2 := h.2.2 i (by omega)
  exact ⟨by omega, h.1.1, h2.2⟩
theorem rise_ids {t : Tb} {l : Dt} (h : ∀ i, i < l.length → ro1 t l i) : (l.map Rw.id).Nodup := by
  have hlt : ∀ (j i : Nat), i < j → j < l.length → (l.getD i r0).id < (l.getD j r0).id := by
    intro j
    induction j with
    | zero => intro i h1 _; omega
    | succ j ih =>
      intro i h1 h2
      have h3 := (h (j + 1) h2).2.1 (by omega)
      rw [Nat.add_sub_cancel] at h3
      by_cases hij : i = j
      · rw [hij]; exact h3
      · have := ih i (by omega) (by omega); omega
  rw [List.nodup_iff_pairwise_ne, List.pairwise_iff_getElem]
  intro i j hi hj hij
  rw [List.length_map] at hi hj
  have := hlt j i hij hj
  rw [List.getD_eq_getElem?_getD, List.getElem?_eq_getElem hi, List.getD_eq_getElem?_getD, List.getElem?_eq_getElem hj] at this
  simp at this ⊢
  omega
theorem dbOk_ids {S : List Tb} {A : Db} (h : dbOk S A) {i : Nat} (hi : i < S.length) : ((A.getD i []).map Rw.id).Nodup := rise_ids (h.2.2 i (by have := h.2.1; omega)).1
theorem addNew_len {b : Dt} : ∀ {ids : List Int}, (addNew ids b).length ≤ ids.length + b.length := by
  induction b with
  | nil => intro ids; simp [addNew]
  | cons r b ih =>
    intro ids
    unfold addNew at ih ⊢
    rw [List.foldl_cons, List.length_cons]
    split
    · have := @ih ids; omega
    · have := @ih (ids ++ [r.id]); rw [List.length_append, List.length_singleton] at this; omega
theorem diff1_len (i : Int) (a b : Dt) (y : Int) : (diff1 i a b y).length ≤ 1 := by unfold diff1; split <;> simp
theorem diffs_len (i : Int) (a b : Dt) : ∀ (l : List Int), (l.flatMap (diff1 i a b)).length ≤ l.length
  | [] => by simp
  | y :: l => by
    have := diffs_len i a b l
    have := diff1_len i a b y
    rw [List.flatMap_cons, List.length_append, List.length_cons]; omega
theorem diffT_len (i : Int) (a b : Dt) : (diffT i a b).length ≤ a.length + b.length := by
  have h1 := diffs_len i a b (isort (addNew (a.map Rw.id) b))
  rw [isort_len] at h1
  have h2 := @addNew_len b (a.map Rw.id)
  rw [List.length_map] at h2
  unfold diffT; omega
theorem diffN_len {S : List Tb} {A B : Db} (hA : dbOk S A) (hB : dbOk S B) : ∀ n, n ≤ S.length → (diffN A B n).length ≤ 120 * n
  | 0, _ => by simp [diffN]
  | n + 1, h => by
    have := diffN_len hA hB n (by omega)
    have h1 := diffT_len n (A.getD n []) (B.getD n [])
    have h2 := (dbOk_rows hA (i := n) (by omega)).2.2
    have h3 := (dbOk_rows hB (i := n) (by omega)).2.2
    rw [diffN, List.length_append]; omega
theorem flatMap_step {f : Int → List Ch} {l : List Int} {k : Nat} (h : k < l.length) : (l.take (k + 1)).flatMap f = (l.take k).flatMap f ++ f (l.getD k 0) := by
  rw [mtake (0 : Int) h, List.flatMap_append]; simp
theorem hok11 (S : List Tb) (A B : Db) (GA : GDb S A) (GB : GDb S B) (hA : dbOk S A) (hB : dbOk S B) : HT 11 [tbs S, dbs A, dbs B] [] (.tup [chs (diffN A B S.length), .b true]) false [] := by
  refine holds_of (c := Tryz.f11.body.getD .skip) (k := k11.1) (ts := [6, 7]) HOk mixedT hintT Tryz.func11 (by kernel_rfl) (by kernel_rfl) (by kernel_rfl) k11.2 (by kernel_rfl) (le_of 3 _ (by kernel_rfl)) ?_
  have dA := h38 S A GA
  have dB := h38 S B GB
  rw [tt_t hA] at dA
  rw [tt_t hB] at dB
  have b1 : (!true) = false := rfl
  unfold dbs tbs at *
  simp -implicitDefEqProofs -dsimp only [k11, go_sem, ↓reduceIte, Nat.reduceEqDiff, Int.reduceLE, Int.reduceLT, Int.reduceNeg, Int.reduceEq, Int.reduceBEq, Int.reduceBNe, Nat.reduceMul, Nat.reduceAdd, Nat.reduceLeDiff, reduceCtorEq, Int.reduceToNat]
  refine Call_val (own := true) (dA) (by simp [ExpOk, AV.pure]) (.inl rfl) ?_
  simp -implicitDefEqProofs -dsimp only [go_sem, ↓reduceIte, Nat.reduceEqDiff, Int.reduceLE, Int.reduceLT, Int.reduceNeg, Int.reduceEq, Int.reduceBEq, Int.reduceBNe, Nat.reduceMul, Nat.reduceAdd, Nat.reduceLeDiff, reduceCtorEq, Int.reduceToNat]
  refine Call_val (own := true) (dB) (by simp [ExpOk, AV.pure]) (.inl rfl) ?_
  simp -implicitDefEqProofs -dsimp only [go_sem, ↓reduceIte, Nat.reduceEqDiff, Int.reduceLE, Int.reduceLT, Int.reduceNeg, Int.reduceEq, Int.reduceBEq, Int.reduceBNe, Nat.reduceMul, Nat.reduceAdd, Nat.reduceLeDiff, reduceCtorEq, Int.reduceToNat]
  refine K_for S.length (fun i g h c => g 0 = .dat 6 (S.map tbC) ∧ g 1 = .dat 1 (A.map dtC) ∧ g 2 = .dat 1 (B.map dtC) ∧ g 9 = i64 i ∧ ∃ u q, g 8 = .sl (.l 27) u 0 (diffN A B i).length (capE (diffN A B i).length) ∧ h (.l 27) = some { ver := u, es := (diffN A B i).map chC, esz := 4, own := q }) ?_ ?_ ?_
  · exact ⟨by simp [upd_at, S_0], by simp [upd_at, S_1], by simp [upd_at, S_2], by simp [upd_at], 1, NoDat [], by simp [upd_at, diffN, capE], by simp [hup_at, diffN]⟩
  · rintro i X hi hX g h c ⟨q0, q1, q2, q9, u, q, q8, hh⟩
    have hc : (i : Int) < (S.length : Int) := by omega
    have hSl := GA.g2
    have w2 : IntKind.i64.wrap ((i : Int) + 1) = ((i + 1 : Nat) : Int) := wnat1 (by omega)
    obtain ⟨r1, r2, r3⟩ := dbOk_rows hA hi
    obtain ⟨r4, r5, r6⟩ := dbOk_rows hB hi
    have hga := mget ([] : Dt) r1
    have hgb := mget ([] : Dt) r4
    have hlen := diffN_len hA hB i (by omega)
    have hstep : diffN A B (i + 1) = diffN A B i ++ diffT i (A.getD i []) (B.getD i []) := rfl
    have hbv := (GA.g3.2 _ (mmem ([] : Dt) r1)).2
    have hbw := (GB.g3.2 _ (mmem ([] : Dt) r4)).2
    generalize A.getD i [] = a at hga r3 hstep hbv
    generalize B.getD i [] = b at hgb r6 hstep hbw
    generalize diffN A B i = L at q8 hh hlen hstep
    simp -implicitDefEqProofs -dsimp only [q0, q1, q2, q9, hc, go_sem, ↓reduceIte, Nat.reduceEqDiff, Int.reduceLE, Int.reduceLT, Int.reduceNeg, Int.reduceEq, Int.reduceBEq, Int.reduceBNe, Nat.reduceMul, Nat.reduceAdd, Nat.reduceLeDiff, reduceCtorEq, Int.reduceToNat]
    refine K_for a.length (fun k g h c => g 0 = .dat 6 (S.map tbC) ∧ g 1 = .dat 1 (A.map dtC) ∧ g 2 = .dat 1 (B.map dtC) ∧ g 9 = i64 i ∧ g 8 = .sl (.l 27) u 0 L.length (capE L.length) ∧ h (.l 27) = some { ver := u, es := L.map chC, esz := 4, own := q } ∧ g 11 = i64 k ∧ ∃ u2 q2, g 10 = .sl (.l 34) u2 0 k (capE k) ∧ h (.l 34) = some { ver := u2, es := ((a.take k).map Rw.id).map inC, esz := 1, own := q2 }) ?_ ?_ ?_
    · exact ⟨by simp [upd_at, q0], by simp [upd_at, q1], by simp [upd_at, q2], by simp [upd_at, q9], by simp [upd_at, q8], by simp [hup_at, hh], by simp [upd_at], c, NoDat [], by simp [upd_at, capE], by simp [hup_at]⟩
    · rintro k X' hk hX' g h c ⟨q0, q1, q2, q9, q8, hh, q11, u2, q2', q10, hh2⟩
      have hck : (k : Int) < (a.length : Int) := by omega
      have w3 : IntKind.i64.wrap ((k : Int) + 1) = ((k + 1 : Nat) : Int) := wnat1 (by omega)
      have hgr := mget r0 hk
      have htk : ((a.take (k + 1)).map Rw.id).map inC = ((a.take k).map Rw.id).map inC ++ [inC (a.getD k r0).id] := by rw [mtake r0 hk]; simp
      have hel : k = (((a.take k).map Rw.id).map inC).length := by simp; omega
      generalize a.getD k r0 = r at hgr htk
      obtain ⟨id, vs⟩ := r
      simp only at htk
      generalize ((a.take k).map Rw.id).map inC = E at hh2 htk hel
      simp -implicitDefEqProofs -dsimp only [q1, q2, q9, q10, q11, hga, hck, hgr, hh2, dtC, rws, rwC, vls, ← hel, w3, Nat.reduceLT, go_sem, ↓reduceIte, Nat.reduceEqDiff, Int.reduceLE, Int.reduceLT, Int.reduceNeg, Int.reduceEq, Int.reduceBEq, Int.reduceBNe, Nat.reduceMul, Nat.reduceAdd, Nat.reduceLeDiff, reduceCtorEq, Int.reduceToNat]
      refine EK_p ⟨⟨fun _ => in_flat [id], in_good [id]⟩, by unfold bigOk; omega, by omega⟩ ?_
      simp -implicitDefEqProofs -dsimp only [q1, q2, q9, q10, q11, w3, go_sem, ↓reduceIte, Nat.reduceEqDiff, Int.reduceLE, Int.reduceLT, Int.reduceNeg, Int.reduceEq, Int.reduceBEq, Int.reduceBNe, Nat.reduceMul, Nat.reduceAdd, Nat.reduceLeDiff, reduceCtorEq, Int.reduceToNat]
      refine hX' _ _ _ ⟨by simp [upd_at, q0], by simp [upd_at, q1], by simp [upd_at, q2], by simp [upd_at, q9], by simp [upd_at, q8], by simp [hup_at, hh], by simp [upd_at], c + 1, (q2' ∧ AM.Flat [inC id]), by simp [upd_at, capE], by rw [hup_at, if_pos rfl, htk]; rfl⟩
    · rintro X' g h c ⟨q0, q1, q2, q9, q8, hh, q11, u2, q2', q10, hh2⟩
      have hck : ¬ (a.length : Int) < (a.length : Int) := by omega
      rw [List.take_length] at hh2
      simp -implicitDefEqProofs -dsimp only [q1, q2, q9, q11, hga, hck, dtC, rws, Nat.reduceLT, go_sem, ↓reduceIte, Nat.reduceEqDiff, Int.reduceLE, Int.reduceLT, Int.reduceNeg, Int.reduceEq, Int.reduceBEq, Int.reduceBNe, Nat.reduceMul, Nat.reduceAdd, Nat.reduceLeDiff, reduceCtorEq, Int.reduceToNat]
      refine K_for b.length (fun k g h c => g 0 = .dat 6 (S.map tbC) ∧ g 1 = .dat 1 (A.map dtC) ∧ g 2 = .dat 1 (B.map dtC) ∧ g 9 = i64 i ∧ g 8 = .sl (.l 27) u 0 L.length (capE L.length) ∧ h (.l 27) = some { ver := u, es := L.map chC, esz := 4, own := q } ∧ g 12 = i64 k ∧ ∃ u2 q2, g 10 = .sl (.l 34) u2 0 (addNew (a.map Rw.id) (b.take k)).length (capE (addNew (a.map Rw.id) (b.take k)).length) ∧ h (.l 34) = some { ver := u2, es := (addNew (a.map Rw.id) (b.take k)).map inC, esz := 1, own := q2 }) ?_ ?_ ?_
      · exact ⟨by simp [upd_at, q0], by simp [upd_at, q1], by simp [upd_at, q2], by simp [upd_at, q9], by simp [upd_at, q8], by simp [hh], by simp [upd_at], u2, q2', by simp [upd_at, addNew, q10], by simp [addNew, hh2]⟩
      · rintro k X' hk hX' g h c ⟨q0, q1, q2, q9, q8, hh, q12, u2, q2', q10, hh2⟩
        have hck : (k : Int) < (b.length : Int) := by omega
        have w3 : IntKind.i64.wrap ((k : Int) + 1) = ((k + 1 : Nat) : Int) := wnat1 (by omega)
        have hgr := mget r0 hk
        have hst := addNew_step (ids := a.map Rw.id) hk
        have hbl : (addNew (a.map Rw.id) (b.take k)).length ≤ 200 := by
          have := @addNew_len (b.take k) (a.map Rw.id)
          rw [List.length_map, List.length_take] at this; omega
        generalize b.getD k r0 = r at hgr hst
        obtain ⟨id, vs⟩ := r
        simp only at hst
        generalize addNew (a.map Rw.id) (b.take k) = W at q10 hh2 hst hbl
        have hs : sub (W.map inC) 0 W.length = W.map inC := sub_map _
        have dH := h39 W id (by omega)
        unfold ils at dH
        simp -implicitDefEqProofs -dsimp only [q2, q9, q10, q12, hgb, hck, hgr, dtC, rws, rwC, vls, Nat.reduceLT, go_sem, ↓reduceIte, Nat.reduceEqDiff, Int.reduceLE, Int.reduceLT, Int.reduceNeg, Int.reduceEq, Int.reduceBEq, Int.reduceBNe, Nat.reduceMul, Nat.reduceAdd, Nat.reduceLeDiff, reduceCtorEq, Int.reduceToNat]
        by_cases hm : id ∈ W
        · rw [decide_eq_true hm] at dH
          rw [if_pos hm] at hst
          refine Call_val (own := true) (v := .b true) (by simpa [expL, expA, cur, hup_at, List.idxOf?_cons, List.idxOf?_nil, objs_l, objs_r, objs_p, q10, hh2, hs] using dH) (by simp [ExpOk, AV.pure, cur, hup_at, List.idxOf?_cons, List.idxOf?_nil, objs_l, objs_r, objs_p, hh2, in_pure]) (.inl rfl) ?_
          simp -implicitDefEqProofs -dsimp only [b1, q12, w3, go_sem, ↓reduceIte, Nat.reduceEqDiff, Int.reduceLE, Int.reduceLT, Int.reduceNeg, Int.reduceEq, Int.reduceBEq, Int.reduceBNe, Nat.reduceMul, Nat.reduceAdd, Nat.reduceLeDiff, reduceCtorEq, Int.reduceToNat]
          exact hX' _ _ _ ⟨by simp [upd_at, q0], by simp [upd_at, q1], by simp [upd_at, q2], by simp [upd_at, q9], by simp [upd_at, q8], hh, by simp [upd_at], u2, q2', by rw [hst]; simp [upd_at, q10], by rw [hst]; exact hh2⟩
        · rw [decide_eq_false hm] at dH
          rw [if_neg hm] at hst
          refine Call_val (own := true) (v := .b false) (by simpa [expL, expA, cur, hup_at, List.idxOf?_cons, List.idxOf?_nil, objs_l, objs_r, objs_p, q10, hh2, hs] using dH) (by simp [ExpOk, AV.pure, cur, hup_at, List.idxOf?_cons, List.idxOf?_nil, objs_l, objs_r, objs_p, hh2, in_pure]) (.inl rfl) ?_
          simp -implicitDefEqProofs -dsimp only [q2, q9, q10, q12, hgb, hck, hgr, hh2, dtC, rws, rwC, vls, Nat.reduceLT, go_sem, ↓reduceIte, Nat.reduceEqDiff, Int.reduceLE, Int.reduceLT, Int.reduceNeg, Int.reduceEq, Int.reduceBEq, Int.reduceBNe, Nat.reduceMul, Nat.reduceAdd, Nat.reduceLeDiff, reduceCtorEq, Int.reduceToNat]
          refine EK_p ⟨⟨fun _ => in_flat [id], in_good [id]⟩, by unfold bigOk; omega, by omega⟩ ?_
          simp -implicitDefEqProofs -dsimp only [b1, q12, w3, go_sem, ↓reduceIte, Nat.reduceEqDiff, Int.reduceLE, Int.reduceLT, Int.reduceNeg, Int.reduceEq, Int.reduceBEq, Int.reduceBNe, Nat.reduceMul, Nat.reduceAdd, Nat.reduceLeDiff, reduceCtorEq, Int.reduceToNat]
          refine hX' _ _ _ ⟨by simp [upd_at, q0], by simp [upd_at, q1], by simp [upd_at, q2], by simp [upd_at, q9], by simp [upd_at, q8], by simp [hup_at, hh], by simp [upd_at], c + 1, (q2' ∧ AM.Flat [inC id]), by rw [hst]; simp [upd_at, capE], by rw [hst, hup_at, if_pos rfl, List.map_append]; rfl⟩
      · rintro X' g h c ⟨q0, q1, q2, q9, q8, hh, q12, u2, q2', q10, hh2⟩
        have hck : ¬ (b.length : Int) < (b.length : Int) := by omega
        rw [List.take_length] at q10 hh2
        have hbl : (addNew (a.map Rw.id) b).length ≤ 200 := by
          have := @addNew_len b (a.map Rw.id)
          rw [List.length_map] at this; omega
        have dI := h40 (addNew (a.map Rw.id) b) (by omega)
        have hT : diffT i a b = (isort (addNew (a.map Rw.id) b)).flatMap (diff1 i a b) := rfl
        have hIl := isort_len (addNew (a.map Rw.id) b)
        have hs : sub ((addNew (a.map Rw.id) b).map inC) 0 (addNew (a.map Rw.id) b).length = (addNew (a.map Rw.id) b).map inC := sub_map _
        simp -implicitDefEqProofs -dsimp only [q2, q9, q12, hgb, hck, dtC, rws, Nat.reduceLT, go_sem, ↓reduceIte, Nat.reduceEqDiff, Int.reduceLE, Int.reduceLT, Int.reduceNeg, Int.reduceEq, Int.reduceBEq, Int.reduceBNe, Nat.reduceMul, Nat.reduceAdd, Nat.reduceLeDiff, reduceCtorEq, Int.reduceToNat]
        refine Gh_of (.read _ _ _ 91 (.l 34) { ver := u2, es := (addNew (a.map Rw.id) b).map inC, esz := 1, own := q2' } 0 (addNew (a.map Rw.id) b).length (capE (addNew (a.map Rw.id) b).length) (by simp [upd_at, q10]) hh2 (by simp) (in_pure _)) ?_
        simp -implicitDefEqProofs -dsimp only [hs, go_sem, ↓reduceIte, Nat.reduceEqDiff, Int.reduceLE, Int.reduceLT, Int.reduceNeg, Int.reduceEq, Int.reduceBEq, Int.reduceBNe, Nat.reduceMul, Nat.reduceAdd, Nat.reduceLeDiff, reduceCtorEq, Int.reduceToNat]
        unfold ils at dI
        refine Call_val (own := false) (dI) (by simp [ExpOk, AV.pure]) (.inr (by simp [AV.rooted, AV.ref1])) ?_
        rw [hT] at hstep
        generalize isort (addNew (a.map Rw.id) b) = I at hstep hIl
        simp -implicitDefEqProofs -dsimp only [go_sem, ↓reduceIte, Nat.reduceEqDiff, Int.reduceLE, Int.reduceLT, Int.reduceNeg, Int.reduceEq, Int.reduceBEq, Int.reduceBNe, Nat.reduceMul, Nat.reduceAdd, Nat.reduceLeDiff, reduceCtorEq, Int.reduceToNat]
        refine K_for I.length (fun k g h c => g 0 = .dat 6 (S.map tbC) ∧ g 1 = .dat 1 (A.map dtC) ∧ g 2 = .dat 1 (B.map dtC) ∧ g 9 = i64 i ∧ g 10 = .dat 1 (I.map inC) ∧ g 13 = i64 k ∧ ∃ u q, g 8 = .sl (.l 27) u 0 (L ++ (I.take k).flatMap (diff1 i a b)).length (capE (L ++ (I.take k).flatMap (diff1 i a b)).length) ∧ h (.l 27) = some { ver := u, es := (L ++ (I.take k).flatMap (diff1 i a b)).map chC, esz := 4, own := q }) ?_ ?_ ?_
        · exact ⟨by simp [upd_at, q0], by simp [upd_at, q1], by simp [upd_at, q2], by simp [upd_at, q9], by simp [upd_at], by simp [upd_at], u, q, by simp [upd_at, q8], by simp [hdel_at, hh]⟩
        · rintro k X' hk hX' g h c ⟨q0, q1, q2, q9, q10, q13, u', q', q8, hh⟩
          have hck : (k : Int) < (I.length : Int) := by omega
          have w3 : IntKind.i64.wrap ((k : Int) + 1) = ((k + 1 : Nat) : Int) := wnat1 (by omega)
          have hgi := mget (0 : Int) hk
          have hst := flatMap_step (f := diff1 i a b) hk
          have hfl := diffs_len i a b (I.take k)
          rw [List.length_take] at hfl
          generalize I.getD k 0 = y at hgi hst
          have b2 : True := trivial
          replace hst : L ++ (I.take (k + 1)).flatMap (diff1 i a b) = (L ++ (I.take k).flatMap (diff1 i a b)) ++ diff1 i a b y := by rw [hst, List.append_assoc]
          have hOl : (L ++ (I.take k).flatMap (diff1 i a b)).length ≤ 1000 := by rw [List.length_append]; omega
          generalize L ++ (I.take k).flatMap (diff1 i a b) = O at q8 hh hst hOl
          have hel : O.length = (O.map chC).length := by simp
          have e1 := h41 a y (by omega)
          have e2 := h41 b y (by omega)
          have va1 : ix (fun r : Rw => r.id == y) a < 0 → valsP a y = [] := fun h => by unfold valsP; rw [if_pos h]
          have va2 : ¬ ix (fun r : Rw => r.id == y) a < 0 → valsP a y = (a.getD (ix (fun r : Rw => r.id == y) a).toNat r0).vals := fun h => by unfold valsP; rw [if_neg h]
          have vb1 : ix (fun r : Rw => r.id == y) b < 0 → valsP b y = [] := fun h => by unfold valsP; rw [if_pos h]
          have vb2 : ¬ ix (fun r : Rw => r.id == y) b < 0 → valsP b y = (b.getD (ix (fun r : Rw => r.id == y) b).toNat r0).vals := fun h => by unfold valsP; rw [if_neg h]
          have la := fun h => @ix_lt _ (fun r : Rw => r.id == y) a h
          have lb := fun h => @ix_lt _ (fun r : Rw => r.id == y) b h
          generalize ix (fun r : Rw => r.id == y) a = x at e1 va1 va2 la
          generalize ix (fun r : Rw => r.id == y) b = z at e2 vb1 vb2 lb
          have vla : (valsP a y).length ≤ 1048576 := by
            by_cases h : x < 0
            · rw [va1 h]; simp
            · rw [va2 h]; exact hbv _ (mmem r0 (la (by omega)))
          have vlb : (valsP b y).length ≤ 1048576 := by
            by_cases h : z < 0
            · rw [vb1 h]; simp
            · rw [vb2 h]; exact hbw _ (mmem r0 (lb (by omega)))
          have dS := h43 (x := vls (valsP a y)) (y := vls (valsP b y)) (.inl rfl) (.inl rfl) vla
          have hd : diff1 i a b y = if valsP a y = valsP b y then [] else [⟨(i : Int), y, valsP a y, valsP b y⟩] := rfl
          rw [hd] at hst
          clear hd
          generalize valsP a y = va at va1 va2 vla dS hst
          generalize valsP b y = vb at vb1 vb2 vlb dS hst
          unfold dtC rws at e1 e2
          simp -implicitDefEqProofs -dsimp only [q1, q2, q9, q10, q13, hgi, hck, inC, go_sem, ↓reduceIte, Nat.reduceEqDiff, Int.reduceLE, Int.reduceLT, Int.reduceNeg, Int.reduceEq, Int.reduceBEq, Int.reduceBNe, Nat.reduceMul, Nat.reduceAdd, Nat.reduceLeDiff, reduceCtorEq, Int.reduceToNat]
          refine Gh_of (.trans (.dat0 _ _ _ (.l 14) _ [i64 i, i64 y, .nils, .nils] 0 2 3 (by rw [hup_at, if_pos rfl]) rfl rfl) (.dat0 _ _ _ (.l 14) _ [i64 i, i64 y, .dat 3 [], .nils] 0 3 3 (by rw [hup_at, if_pos rfl]) rfl rfl)) ?_
          simp -implicitDefEqProofs -dsimp only [q1, q2, q9, q10, q13, hga, hgb, hgi, hck, inC, dtC, rws, Nat.reduceLT, go_sem, ↓reduceIte, Nat.reduceEqDiff, Int.reduceLE, Int.reduceLT, Int.reduceNeg, Int.reduceEq, Int.reduceBEq, Int.reduceBNe, Nat.reduceMul, Nat.reduceAdd, Nat.reduceLeDiff, reduceCtorEq, Int.reduceToNat]
          refine Call0_val true e1 (by simp [AV.free, AV.pure]) (.inl rfl) ?_
          simp -implicitDefEqProofs -dsimp only [q1, q2, q9, q10, q13, hga, hgb, hgi, hck, inC, dtC, rws, Nat.reduceLT, go_sem, ↓reduceIte, Nat.reduceEqDiff, Int.reduceLE, Int.reduceLT, Int.reduceNeg, Int.reduceEq, Int.reduceBEq, Int.reduceBNe, Nat.reduceMul, Nat.reduceAdd, Nat.reduceLeDiff, reduceCtorEq, Int.reduceToNat]
          refine Call0_val true e2 (by simp [AV.free, AV.pure]) (.inl rfl) ?_
          by_cases hx : x < 0
          · have hx2 : ¬ x ≥ 0 := by omega
            obtain rfl := va1 hx
            by_cases hz : z < 0
            · have hz2 : ¬ z ≥ 0 := by omega
              obtain rfl := vb1 hz
              simp -implicitDefEqProofs -dsimp only [hx2, hz2, go_sem, ↓reduceIte, Nat.reduceEqDiff, Int.reduceLE, Int.reduceLT, Int.reduceNeg, Int.reduceEq, Int.reduceBEq, Int.reduceBNe, Nat.reduceMul, Nat.reduceAdd, Nat.reduceLeDiff, reduceCtorEq, Int.reduceToNat]
              refine Call_val (own := true) (v := .b (tt (([] : List Vl) = []))) (by simpa [expL, expA, cur, hup_at, List.idxOf?_cons, List.idxOf?_nil, objs_l, objs_r, objs_p, vls] using dS) (by simp [ExpOk, AV.pure, cur, hup_at, List.idxOf?_cons, List.idxOf?_nil, objs_l, objs_r, objs_p]) (.inl rfl) ?_
              by_cases hv : ([] : List Vl) = []
              · rw [tt_t hv]
                rw [if_pos hv, List.append_nil] at hst
                simp -implicitDefEqProofs -dsimp only [b1, q13, w3, go_sem, ↓reduceIte, Nat.reduceEqDiff, Int.reduceLE, Int.reduceLT, Int.reduceNeg, Int.reduceEq, Int.reduceBEq, Int.reduceBNe, Nat.reduceMul, Nat.reduceAdd, Nat.reduceLeDiff, reduceCtorEq, Int.reduceToNat]
                exact hX' _ _ _ ⟨by simp [upd_at, q0], by simp [upd_at, q1], by simp [upd_at, q2], by simp [upd_at, q9], by simp [upd_at, q10], by simp [upd_at], u', q', by rw [hst]; simp [upd_at, q8], by rw [hst]; simp [hup_at, hh]⟩
              · rw [tt_f hv]
                rw [if_neg hv] at hst
                simp -implicitDefEqProofs -dsimp only [q8, hh, ← hel, go_sem, ↓reduceIte, Nat.reduceEqDiff, Int.reduceLE, Int.reduceLT, Int.reduceNeg, Int.reduceEq, Int.reduceBEq, Int.reduceBNe, Nat.reduceMul, Nat.reduceAdd, Nat.reduceLeDiff, reduceCtorEq, Int.reduceToNat]
                refine EK_p ⟨⟨fun h => by simp [NoDat, AV.isDat] at h, ch_good [⟨i, y, [], []⟩]⟩, by unfold bigOk; omega, by omega⟩ ?_
                simp -implicitDefEqProofs -dsimp only [q13, w3, go_sem, ↓reduceIte, Nat.reduceEqDiff, Int.reduceLE, Int.reduceLT, Int.reduceNeg, Int.reduceEq, Int.reduceBEq, Int.reduceBNe, Nat.reduceMul, Nat.reduceAdd, Nat.reduceLeDiff, reduceCtorEq, Int.reduceToNat]
                refine hX' _ _ _ ⟨by simp [upd_at, q0], by simp [upd_at, q1], by simp [upd_at, q2], by simp [upd_at, q9], by simp [upd_at, q10], by simp [upd_at], _, (q' ∧ AM.Flat ([chC ⟨i, y, [], []⟩])), by rw [hst]; simp [upd_at, capE]; exact rfl, by rw [hst, hup_at, if_pos rfl, List.map_append]; rfl⟩
            · have hz2 : z ≥ 0 := by omega
              have hgz := mget r0 (lb (by omega))
              have vv := vb2 hz
              have dz := h42 (x := vls vb) (.inl rfl) vlb
              generalize b.getD z.toNat r0 = rz at hgz vv
              obtain ⟨idz, vz⟩ := rz
              simp only at vv
              subst vv
              unfold vls at dz
              simp -implicitDefEqProofs -dsimp only [hx2, hz2, q2, q9, hgb, dtC, rws, rwC, vls, hgz, Nat.reduceLT, go_sem, ↓reduceIte, Nat.reduceEqDiff, Int.reduceLE, Int.reduceLT, Int.reduceNeg, Int.reduceEq, Int.reduceBEq, Int.reduceBNe, Nat.reduceMul, Nat.reduceAdd, Nat.reduceLeDiff, reduceCtorEq, Int.reduceToNat]
              refine Call_val (own := true) (dz) (by simp [ExpOk, AV.pure]) (.inl rfl) ?_
              simp -implicitDefEqProofs -dsimp only [vls, Nat.reduceLT, go_sem, ↓reduceIte, Nat.reduceEqDiff, Int.reduceLE, Int.reduceLT, Int.reduceNeg, Int.reduceEq, Int.reduceBEq, Int.reduceBNe, Nat.reduceMul, Nat.reduceAdd, Nat.reduceLeDiff, reduceCtorEq, Int.reduceToNat]
              refine Call_val (own := true) (v := .b (tt (([] : List Vl) = vb))) (by simpa [expL, expA, cur, hup_at, List.idxOf?_cons, List.idxOf?_nil, objs_l, objs_r, objs_p, vls] using dS) (by simp [ExpOk, AV.pure, cur, hup_at, List.idxOf?_cons, List.idxOf?_nil, objs_l, objs_r, objs_p]) (.inl rfl) ?_
              by_cases hv : ([] : List Vl) = vb
              · rw [tt_t hv]
                rw [if_pos hv, List.append_nil] at hst
                simp -implicitDefEqProofs -dsimp only [b1, q13, w3, go_sem, ↓reduceIte, Nat.reduceEqDiff, Int.reduceLE, Int.reduceLT, Int.reduceNeg, Int.reduceEq, Int.reduceBEq, Int.reduceBNe, Nat.reduceMul, Nat.reduceAdd, Nat.reduceLeDiff, reduceCtorEq, Int.reduceToNat]
                exact hX' _ _ _ ⟨by simp [upd_at, q0], by simp [upd_at, q1], by simp [upd_at, q2], by simp [upd_at, q9], by simp [upd_at, q10], by simp [upd_at], u', q', by rw [hst]; simp [upd_at, q8], by rw [hst]; simp [hup_at, hh]⟩
              · rw [tt_f hv]
                rw [if_neg hv] at hst
                simp -implicitDefEqProofs -dsimp only [q8, hh, ← hel, go_sem, ↓reduceIte, Nat.reduceEqDiff, Int.reduceLE, Int.reduceLT, Int.reduceNeg, Int.reduceEq, Int.reduceBEq, Int.reduceBNe, Nat.reduceMul, Nat.reduceAdd, Nat.reduceLeDiff, reduceCtorEq, Int.reduceToNat]
                refine EK_p ⟨⟨fun h => by simp [NoDat, AV.isDat] at h, ch_good [⟨i, y, [], vb⟩]⟩, by unfold bigOk; omega, by omega⟩ ?_
                simp -implicitDefEqProofs -dsimp only [q13, w3, go_sem, ↓reduceIte, Nat.reduceEqDiff, Int.reduceLE, Int.reduceLT, Int.reduceNeg, Int.reduceEq, Int.reduceBEq, Int.reduceBNe, Nat.reduceMul, Nat.reduceAdd, Nat.reduceLeDiff, reduceCtorEq, Int.reduceToNat]
                refine hX' _ _ _ ⟨by simp [upd_at, q0], by simp [upd_at, q1], by simp [upd_at, q2], by simp [upd_at, q9], by simp [upd_at, q10], by simp [upd_at], _, (q' ∧ AM.Flat ([chC ⟨i, y, [], vb⟩])), by rw [hst]; simp [upd_at, capE]; exact rfl, by rw [hst, hup_at, if_pos rfl, List.map_append]; rfl⟩
          · have hx2 : x ≥ 0 := by omega
            have hgx := mget r0 (la (by omega))
            have vvx := va2 hx
            have dx := h42 (x := vls va) (.inl rfl) vla
            generalize a.getD x.toNat r0 = rx at hgx vvx
            obtain ⟨idx, vx⟩ := rx
            simp only at vvx
            subst vvx
            unfold vls at dx
            simp -implicitDefEqProofs -dsimp only [hx2, q1, q9, hga, dtC, rws, rwC, vls, hgx, Nat.reduceLT, go_sem, ↓reduceIte, Nat.reduceEqDiff, Int.reduceLE, Int.reduceLT, Int.reduceNeg, Int.reduceEq, Int.reduceBEq, Int.reduceBNe, Nat.reduceMul, Nat.reduceAdd, Nat.reduceLeDiff, reduceCtorEq, Int.reduceToNat]
            refine Call_val (own := true) (dx) (by simp [ExpOk, AV.pure]) (.inl rfl) ?_
            by_cases hz : z < 0
            · have hz2 : ¬ z ≥ 0 := by omega
              obtain rfl := vb1 hz
              simp -implicitDefEqProofs -dsimp only [hx2, hz2, go_sem, ↓reduceIte, Nat.reduceEqDiff, Int.reduceLE, Int.reduceLT, Int.reduceNeg, Int.reduceEq, Int.reduceBEq, Int.reduceBNe, Nat.reduceMul, Nat.reduceAdd, Nat.reduceLeDiff, reduceCtorEq, Int.reduceToNat]
              refine Call_val (own := true) (v := .b (tt (va = []))) (by simpa [expL, expA, cur, hup_at, List.idxOf?_cons, List.idxOf?_nil, objs_l, objs_r, objs_p, vls] using dS) (by simp [ExpOk, AV.pure, cur, hup_at, List.idxOf?_cons, List.idxOf?_nil, objs_l, objs_r, objs_p]) (.inl rfl) ?_
              by_cases hv : va = []
              · rw [tt_t hv]
                rw [if_pos hv, List.append_nil] at hst
                simp -implicitDefEqProofs -dsimp only [b1, q13, w3, go_sem, ↓reduceIte, Nat.reduceEqDiff, Int.reduceLE, Int.reduceLT, Int.reduceNeg, Int.reduceEq, Int.reduceBEq, Int.reduceBNe, Nat.reduceMul, Nat.reduceAdd, Nat.reduceLeDiff, reduceCtorEq, Int.reduceToNat]
                exact hX' _ _ _ ⟨by simp [upd_at, q0], by simp [upd_at, q1], by simp [upd_at, q2], by simp [upd_at, q9], by simp [upd_at, q10], by simp [upd_at], u', q', by rw [hst]; simp [upd_at, q8], by rw [hst]; simp [hup_at, hh]⟩
              · rw [tt_f hv]
                rw [if_neg hv] at hst
                simp -implicitDefEqProofs -dsimp only [q8, hh, ← hel, go_sem, ↓reduceIte, Nat.reduceEqDiff, Int.reduceLE, Int.reduceLT, Int.reduceNeg, Int.reduceEq, Int.reduceBEq, Int.reduceBNe, Nat.reduceMul, Nat.reduceAdd, Nat.reduceLeDiff, reduceCtorEq, Int.reduceToNat]
                refine EK_p ⟨⟨fun h => by simp [NoDat, AV.isDat] at h, ch_good [⟨i, y, va, []⟩]⟩, by unfold bigOk; omega, by omega⟩ ?_
                simp -implicitDefEqProofs -dsimp only [q13, w3, go_sem, ↓reduceIte, Nat.reduceEqDiff, Int.reduceLE, Int.reduceLT, Int.reduceNeg, Int.reduceEq, Int.reduceBEq, Int.reduceBNe, Nat.reduceMul, Nat.reduceAdd, Nat.reduceLeDiff, reduceCtorEq, Int.reduceToNat]
                refine hX' _ _ _ ⟨by simp [upd_at, q0], by simp [upd_at, q1], by simp [upd_at, q2], by simp [upd_at, q9], by simp [upd_at, q10], by simp [upd_at], _, (q' ∧ AM.Flat ([chC ⟨i, y, va, []⟩])), by rw [hst]; simp [upd_at, capE]; exact rfl, by rw [hst, hup_at, if_pos rfl, List.map_append]; rfl⟩
            · have hz2 : z ≥ 0 := by omega
              have hgz := mget r0 (lb (by omega))
              have vv := vb2 hz
              have dz := h42 (x := vls vb) (.inl rfl) vlb
              generalize b.getD z.toNat r0 = rz at hgz vv
              obtain ⟨idz, vz⟩ := rz
              simp only at vv
              subst vv
              unfold vls at dz
              simp -implicitDefEqProofs -dsimp only [hx2, hz2, q2, q9, hgb, dtC, rws, rwC, vls, hgz, Nat.reduceLT, go_sem, ↓reduceIte, Nat.reduceEqDiff, Int.reduceLE, Int.reduceLT, Int.reduceNeg, Int.reduceEq, Int.reduceBEq, Int.reduceBNe, Nat.reduceMul, Nat.reduceAdd, Nat.reduceLeDiff, reduceCtorEq, Int.reduceToNat]
              refine Call_val (own := true) (dz) (by simp [ExpOk, AV.pure]) (.inl rfl) ?_
              simp -implicitDefEqProofs -dsimp only [vls, Nat.reduceLT, go_sem, ↓reduceIte, Nat.reduceEqDiff, Int.reduceLE, Int.reduceLT, Int.reduceNeg, Int.reduceEq, Int.reduceBEq, Int.reduceBNe, Nat.reduceMul, Nat.reduceAdd, Nat.reduceLeDiff, reduceCtorEq, Int.reduceToNat]
              refine Call_val (own := true) (v := .b (tt (va = vb))) (by simpa [expL, expA, cur, hup_at, List.idxOf?_cons, List.idxOf?_nil, objs_l, objs_r, objs_p, vls] using dS) (by simp [ExpOk, AV.pure, cur, hup_at, List.idxOf?_cons, List.idxOf?_nil, objs_l, objs_r, objs_p]) (.inl rfl) ?_
              by_cases hv : va = vb
              · rw [tt_t hv]
                rw [if_pos hv, List.append_nil] at hst
                simp -implicitDefEqProofs -dsimp only [b1, q13, w3, go_sem, ↓reduceIte, Nat.reduceEqDiff, Int.reduceLE, Int.reduceLT, Int.reduceNeg, Int.reduceEq, Int.reduceBEq, Int.reduceBNe, Nat.reduceMul, Nat.reduceAdd, Nat.reduceLeDiff, reduceCtorEq, Int.reduceToNat]
                exact hX' _ _ _ ⟨by simp [upd_at, q0], by simp [upd_at, q1], by simp [upd_at, q2], by simp [upd_at, q9], by simp [upd_at, q10], by simp [upd_at], u', q', by rw [hst]; simp [upd_at, q8], by rw [hst]; simp [hup_at, hh]⟩
              · rw [tt_f hv]
                rw [if_neg hv] at hst
                simp -implicitDefEqProofs -dsimp only [q8, hh, ← hel, go_sem, ↓reduceIte, Nat.reduceEqDiff, Int.reduceLE, Int.reduceLT, Int.reduceNeg, Int.reduceEq, Int.reduceBEq, Int.reduceBNe, Nat.reduceMul, Nat.reduceAdd, Nat.reduceLeDiff, reduceCtorEq, Int.reduceToNat]
                refine EK_p ⟨⟨fun h => by simp [NoDat, AV.isDat] at h, ch_good [⟨i, y, va, vb⟩]⟩, by unfold bigOk; omega, by omega⟩ ?_
                simp -implicitDefEqProofs -dsimp only [q13, w3, go_sem, ↓reduceIte, Nat.reduceEqDiff, Int.reduceLE, Int.reduceLT, Int.reduceNeg, Int.reduceEq, Int.reduceBEq, Int.reduceBNe, Nat.reduceMul, Nat.reduceAdd, Nat.reduceLeDiff, reduceCtorEq, Int.reduceToNat]
                refine hX' _ _ _ ⟨by simp [upd_at, q0], by simp [upd_at, q1], by simp [upd_at, q2], by simp [upd_at, q9], by simp [upd_at, q10], by simp [upd_at], _, (q' ∧ AM.Flat ([chC ⟨i, y, va, vb⟩])), by rw [hst]; simp [upd_at, capE]; exact rfl, by rw [hst, hup_at, if_pos rfl, List.map_append]; rfl⟩
        · rintro X' g h c ⟨q0, q1, q2, q9, q10, q13, u', q', q8, hh⟩
          have hck : ¬ (I.length : Int) < (I.length : Int) := by omega
          rw [List.take_length, ← hstep] at q8 hh
          simp -implicitDefEqProofs -dsimp only [q9, q10, q13, hck, w2, go_sem, ↓reduceIte, Nat.reduceEqDiff, Int.reduceLE, Int.reduceLT, Int.reduceNeg, Int.reduceEq, Int.reduceBEq, Int.reduceBNe, Nat.reduceMul, Nat.reduceAdd, Nat.reduceLeDiff, reduceCtorEq, Int.reduceToNat]
          exact hX _ _ _ ⟨by simp [upd_at, q0], by simp [upd_at, q1], by simp [upd_at, q2], by simp [upd_at], u', q', by simp [upd_at, q8], hh⟩
  · rintro X g h c ⟨q0, q1, q2, q9, u, q, q8, hh⟩
    have hc : ¬ (S.length : Int) < (S.length : Int) := by omega
    have hs : sub ((diffN A B S.length).map chC) 0 (diffN A B S.length).length = (diffN A B S.length).map chC := sub_map _
    simp -implicitDefEqProofs -dsimp only [q0, q9, hc, go_sem, ↓reduceIte, Nat.reduceEqDiff, Int.reduceLE, Int.reduceLT, Int.reduceNeg, Int.reduceEq, Int.reduceBEq, Int.reduceBNe, Nat.reduceMul, Nat.reduceAdd, Nat.reduceLeDiff, reduceCtorEq, Int.reduceToNat]
    refine Gh_of (.read _ _ _ 8 (.l 27) { ver := u, es := (diffN A B S.length).map chC, esz := 4, own := q } 0 (diffN A B S.length).length (capE (diffN A B S.length).length) (by simp [upd_at, q8]) hh (by rw [List.length_map]; omega) (ch_pure _)) ?_
    simp -implicitDefEqProofs -dsimp only [go_sem, ↓reduceIte, Nat.reduceEqDiff, Int.reduceLE, Int.reduceLT, Int.reduceNeg, Int.reduceEq, Int.reduceBEq, Int.reduceBNe, Nat.reduceMul, Nat.reduceAdd, Nat.reduceLeDiff, reduceCtorEq, Int.reduceToNat]
    exact Fin_val (by simp [resV, upd_at, retA, retL, chs, hs]) (by simp [resV, upd_at, ResOk, ResL])
theorem hno11 (S : List Tb) (A B : Db) (GA : GDb S A) (GB : GDb S B) (hn : ¬ (dbOk S A ∧ dbOk S B)) : HT 11 [tbs S, dbs A, dbs B] [] (.tup [chs [], .b false]) false [] := by
  refine holds_of (c := Tryz.f11.body.getD .skip) (k := k11.1) (ts := [6, 7]) HOk mixedT hintT Tryz.func11 (by kernel_rfl) (by kernel_rfl) (by kernel_rfl) k11.2 (by kernel_rfl) (le_of 3 _ (by kernel_rfl)) ?_
  have dA := h38 S A GA
  have dB := h38 S B GB
  unfold dbs tbs at *
  simp -implicitDefEqProofs -dsimp only [k11, go_sem, ↓reduceIte, Nat.reduceEqDiff, Int.reduceLE, Int.reduceLT, Int.reduceNeg, Int.reduceEq, Int.reduceBEq, Int.reduceBNe, Nat.reduceMul, Nat.reduceAdd, Nat.reduceLeDiff, reduceCtorEq, Int.reduceToNat]
  refine Call_val (own := true) (dA) (by simp [ExpOk, AV.pure]) (.inl rfl) ?_
  by_cases hA : dbOk S A
  · rw [tt_t hA]
    have hB : tt (dbOk S B) = false := tt_f fun hB => hn ⟨hA, hB⟩
    rw [hB] at dB
    simp -implicitDefEqProofs -dsimp only [go_sem, ↓reduceIte, Nat.reduceEqDiff, Int.reduceLE, Int.reduceLT, Int.reduceNeg, Int.reduceEq, Int.reduceBEq, Int.reduceBNe, Nat.reduceMul, Nat.reduceAdd, Nat.reduceLeDiff, reduceCtorEq, Int.reduceToNat]
    refine Call_val (own := true) (dB) (by simp [ExpOk, AV.pure]) (.inl rfl) ?_
    simp -implicitDefEqProofs -dsimp only [go_sem, ↓reduceIte, Nat.reduceEqDiff, Int.reduceLE, Int.reduceLT, Int.reduceNeg, Int.reduceEq, Int.reduceBEq, Int.reduceBNe, Nat.reduceMul, Nat.reduceAdd, Nat.reduceLeDiff, reduceCtorEq, Int.reduceToNat]
    refine Gh_of (.trans (.nil _ _ _ 6 (.l 900) 4 (by simp [upd_at]) (by simp [objs_l]) rfl) (.read _ _ _ 6 (.l 900) { ver := _, es := [], esz := 4 } 0 0 none (by simp [upd_at]; rfl) (by simp [hup_at]) (by simp) (fun e he => by cases he))) ?_
    simp -implicitDefEqProofs -dsimp only [go_sem, ↓reduceIte, Nat.reduceEqDiff, Int.reduceLE, Int.reduceLT, Int.reduceNeg, Int.reduceEq, Int.reduceBEq, Int.reduceBNe, Nat.reduceMul, Nat.reduceAdd, Nat.reduceLeDiff, reduceCtorEq, Int.reduceToNat]
    exact Fin_val (by simp [resV, upd_at, retA, retL, chs]) (by simp [resV, upd_at, ResOk, ResL])
  · rw [tt_f hA]
    simp -implicitDefEqProofs -dsimp only [go_sem, ↓reduceIte, Nat.reduceEqDiff, Int.reduceLE, Int.reduceLT, Int.reduceNeg, Int.reduceEq, Int.reduceBEq, Int.reduceBNe, Nat.reduceMul, Nat.reduceAdd, Nat.reduceLeDiff, reduceCtorEq, Int.reduceToNat]
    refine Gh_of (.trans (.nil _ _ _ 6 (.l 900) 4 (by simp [upd_at]) (by simp [objs_l]) rfl) (.read _ _ _ 6 (.l 900) { ver := _, es := [], esz := 4 } 0 0 none (by simp [upd_at]; rfl) (by simp [hup_at]) (by simp) (fun e he => by cases he))) ?_
    simp -implicitDefEqProofs -dsimp only [go_sem, ↓reduceIte, Nat.reduceEqDiff, Int.reduceLE, Int.reduceLT, Int.reduceNeg, Int.reduceEq, Int.reduceBEq, Int.reduceBNe, Nat.reduceMul, Nat.reduceAdd, Nat.reduceLeDiff, reduceCtorEq, Int.reduceToNat]
    exact Fin_val (by simp [resV, upd_at, retA, retL, chs]) (by simp [resV, upd_at, ResOk, ResL])
end FrA
end
/-! DfF -/
section
open Go Go.AM
namespace FrA
open Go.Proofs
set_option maxRecDepth 100000
set_option linter.unusedSimpArgs false
def obCh (l : List Ch) : Ob := { ver := 1, es := l.map chC, esz := 4, own := True }
section
variable {C : Con} {s : Stk} {g : Slots} {h : Heap} {c : Nat} {r m : List KOp}
theorem GhK_ex {P : Heap → Prop} (hG : ∃ h', Gh g h c g h' c ∧ P h') (hq : ∀ h', P h' → RunD C r m s g h' c) : GhK C r m s g h c := by
  obtain ⟨h', G, hp⟩ := hG
  exact Gh_of G (hq h' hp)
/-- Two rows of values are given into a change that stands last. -/
theorem give2 {o n1 n2 : Rid} {ver : Nat} {E : List (List AV)} {i y : Int} {c1 c2 : Nat} {va vb : List Vl} {q : Prop} (hq : q) (d1 : n1 ≠ o) (d2 : n2 ≠ o) (d3 : n2 ≠ n1)
    (ho : h o = some { ver := ver, es := E ++ [[i64 i, i64 y, .sl n1 c1 0 va.length none, .sl n2 c2 0 vb.length none]], esz := 4, own := q }) (h1 : h n1 = some { ver := c1, es := va.map vC, esz := 3 }) (h2 : h n2 = some { ver := c2, es := vb.map vC, esz := 3 }) :
    ∃ h', Gh g h c g h' c ∧ h' o = some { ver := ver, es := E ++ [chC ⟨i, y, va, vb⟩], esz := 4, own := q } ∧ ∀ u, u ≠ o → u ≠ n1 → u ≠ n2 → h' u = h u := by
  have gl : ∀ r : List AV, (E ++ [r])[E.length]? = some r := fun r => by rw [List.getElem?_append_right (Nat.le_refl _)]; simp
  have sl : ∀ r s : List AV, (E ++ [r]).set E.length s = E ++ [s] := fun r s => by rw [List.set_append, if_neg (by omega)]; simp
  have s1 : sub (va.map vC) 0 va.length = va.map vC := sub_map va
  have s2 : sub (vb.map vC) 0 vb.length = vb.map vC := sub_map vb
  have G1 := Gh.give g h c o n1 _ _ _ E.length 2 0 va.length none ho hq (gl _) rfl h1 d1 (by simp) (v_pure _) (.inl trivial)
  simp only [sl, s1, List.set_cons_succ, List.set_cons_zero] at G1
  have G2 := Gh.give g (hup (hdel h n1) o { ver := ver, es := E ++ [[i64 i, i64 y, .dat 3 (va.map vC), .sl n2 c2 0 vb.length none]], esz := 4, own := q }) c o n2 _ { ver := c2, es := vb.map vC, esz := 3 } _ E.length 3 0 vb.length none (by rw [hup_at, if_pos rfl]) hq (gl [i64 i, i64 y, .dat 3 (va.map vC), .sl n2 c2 0 vb.length none]) rfl (by rw [hup_at, if_neg d2, hdel_at, if_neg d3]; exact h2) d2 (by simp) (v_pure _) (.inl trivial)
  simp only [sl, s2, List.set_cons_succ, List.set_cons_zero] at G2
  refine ⟨_, .trans G1 G2, by rw [hup_at, if_pos rfl]; rfl, fun u hu hu1 hu2 => ?_⟩
  rw [hup_at, if_neg hu, hdel_at, if_neg hu2, hup_at, if_neg hu, hdel_at, if_neg hu1]
end
theorem hok14 (S : List Tb) (A B : Db) (GA : GDb S A) (GB : GDb S B) (hA : dbOk S A) (hB : dbOk S B) : HT 14 [tbs S, dbs A, dbs B] [] (.tup [.sl (.p 0) 1 0 (diffN A B S.length).length (capE (diffN A B S.length).length), .b true]) true [obCh (diffN A B S.length)] := by
  refine holds_of (c := Tryz.f14.body.getD .skip) (k := k14.1) (ts := [6, 7]) HOk mixedT hintT Tryz.func14 (by kernel_rfl) (by kernel_rfl) (by kernel_rfl) k14.2 (by kernel_rfl) (le_of 3 _ (by kernel_rfl)) ?_
  have dA := h35 S A GA
  have dB := h35 S B GB
  rw [tt_t hA] at dA
  rw [tt_t hB] at dB
  have b1 : (!true) = false := rfl
  unfold dbs tbs at *
  simp -implicitDefEqProofs -dsimp only [k14, go_sem, ↓reduceIte, Nat.reduceEqDiff, Int.reduceLE, Int.reduceLT, Int.reduceNeg, Int.reduceEq, Int.reduceBEq, Int.reduceBNe, Nat.reduceMul, Nat.reduceAdd, Nat.reduceLeDiff, reduceCtorEq, Int.reduceToNat]
  refine Call_val (own := true) (dA) (by simp [ExpOk, AV.pure]) (.inl rfl) ?_
  simp -implicitDefEqProofs -dsimp only [go_sem, ↓reduceIte, Nat.reduceEqDiff, Int.reduceLE, Int.reduceLT, Int.reduceNeg, Int.reduceEq, Int.reduceBEq, Int.reduceBNe, Nat.reduceMul, Nat.reduceAdd, Nat.reduceLeDiff, reduceCtorEq, Int.reduceToNat]
  refine Call_val (own := true) (dB) (by simp [ExpOk, AV.pure]) (.inl rfl) ?_
  simp -implicitDefEqProofs -dsimp only [go_sem, ↓reduceIte, Nat.reduceEqDiff, Int.reduceLE, Int.reduceLT, Int.reduceNeg, Int.reduceEq, Int.reduceBEq, Int.reduceBNe, Nat.reduceMul, Nat.reduceAdd, Nat.reduceLeDiff, reduceCtorEq, Int.reduceToNat]
  have fh : ∀ u q, q → ∀ (g : Slots) (h : Heap), g 6 = .sl (.l 27) u 0 (diffN A B S.length).length (capE (diffN A B S.length).length) → g 7 = .b true → h (.l 27) = some { ver := u, es := (diffN A B S.length).map chC, esz := 4, own := q } →
      FinB [6, 7] [] (.tup [.sl (.p 0) 1 0 (diffN A B S.length).length (capE (diffN A B S.length).length), .b true]) true [obCh (diffN A B S.length)] g h := fun u q hq g h q6 q7 hh => by
    refine Fin_one (obs := []) (.l 27) { ver := u, es := (diffN A B S.length).map chC, esz := 4, own := q } (obCh (diffN A B S.length)) rfl hh rfl (.inl ⟨fun _ => hq, fun _ => trivial⟩) (ch_pure _) (fun k x hk => by simp at hk) ?_ ?_
    · simp [resV, q6, q7, retA, retL, cur, hh, List.idxOf?_cons]
    · simp [resV, q6, q7, ResOk, ResL, cur, hh]
  refine K_for S.length (fun i g h c => g 1 = .dat 1 (A.map dtC) ∧ g 2 = .dat 1 (B.map dtC) ∧ g 29 = i64 S.length ∧ g 30 = i64 i ∧ ∃ (u : Nat) (q : Prop), q ∧ g 8 = .sl (.l 27) u 0 (diffN A B i).length (capE (diffN A B i).length) ∧ h (.l 27) = some { ver := u, es := (diffN A B i).map chC, esz := 4, own := q }) ?_ ?_ ?_
  · exact ⟨by simp [upd_at, S_1], by simp [upd_at, S_2], by simp [upd_at], by simp [upd_at], 1, NoDat [], by simp [NoDat], by simp [upd_at, diffN, capE], by simp [hup_at, diffN]⟩
  · rintro i X hi hX g h c ⟨q1, q2, q29, q30, u, q, hq, q8, hh⟩
    have hc : (i : Int) < (S.length : Int) := by omega
    have hSl := GA.g2
    have w2 : IntKind.i64.wrap ((i : Int) + 1) = ((i + 1 : Nat) : Int) := wnat1 (by omega)
    obtain ⟨r1, r2, r3⟩ := dbOk_rows hA hi
    obtain ⟨r4, r5, r6⟩ := dbOk_rows hB hi
    have hga := mget ([] : Dt) r1
    have hgb := mget ([] : Dt) r4
    have hlen := diffN_len hA hB i (by omega)
    have hids := dbOk_ids hA hi
    have hstep : diffN A B (i + 1) = diffN A B i ++ diffT i (A.getD i []) (B.getD i []) := rfl
    have hbv := (GA.g3.2 _ (mmem ([] : Dt) r1)).2
    have hbw := (GB.g3.2 _ (mmem ([] : Dt) r4)).2
    generalize A.getD i [] = a at hga r3 hstep hbv hids
    generalize B.getD i [] = b at hgb r6 hstep hbw
    generalize diffN A B i = L at q8 hh hlen hstep
    have hT : diffT i a b = (cpt (srt (a.map Rw.id ++ b.map Rw.id))).flatMap (diff1 i a b) := by rw [ids_same hids]; rfl
    have dC := h46 [a, b] (NoDat [.dat 2 (a.map rwC), .dat 2 (b.map rwC)]) (by simp [NoDat, AV.isDat]) (some 2) (by simp) (by simp; omega)
    have hfl : [a, b].flatten = a ++ b := by simp
    rw [hfl] at dC
    unfold rws obD at dC
    simp only [List.map_cons, List.map_nil, dtC, rws] at dC
    have hal : (a ++ b).length ≤ 120 := by rw [List.length_append]; omega
    have hids2 : (a ++ b).map Rw.id = a.map Rw.id ++ b.map Rw.id := List.map_append
    rw [← hids2] at hT
    generalize a ++ b = Z at dC hal hT hids2
    simp -implicitDefEqProofs -dsimp only [q1, q2, q29, q30, hga, hgb, hc, dtC, rws, Nat.reduceLT, go_sem, ↓reduceIte, Nat.reduceEqDiff, Int.reduceLE, Int.reduceLT, Int.reduceNeg, Int.reduceEq, Int.reduceBEq, Int.reduceBNe, Nat.reduceMul, Nat.reduceAdd, Nat.reduceLeDiff, reduceCtorEq, Int.reduceToNat]
    refine Callg_one (own := false) (v := .dat 2 (Z.map rwC)) (.l 44) _ _ (by rw [hup_at, if_pos rfl]) (by simpa [expL, expA, cur, hup_at, List.idxOf?_cons, List.idxOf?_nil, objs_l, objs_r, objs_p] using dC) (by simp [ExpOk, AV.pure, cur, hup_at, List.idxOf?_cons, List.idxOf?_nil, objs_l, objs_r, objs_p]) (by simp [AM.Pure, AV.pure]) (by simp [AM.Pure, AV.pure]) (.inr (by simp [AV.rootedX])) (fun h => by cases h) ?_

    simp -implicitDefEqProofs -dsimp only [go_sem, ↓reduceIte, Nat.reduceEqDiff, Int.reduceLE, Int.reduceLT, Int.reduceNeg, Int.reduceEq, Int.reduceBEq, Int.reduceBNe, Nat.reduceMul, Nat.reduceAdd, Nat.reduceLeDiff, reduceCtorEq, Int.reduceToNat]
    refine K_for Z.length (fun k g h c => g 1 = .dat 1 (A.map dtC) ∧ g 2 = .dat 1 (B.map dtC) ∧ g 29 = i64 S.length ∧ g 30 = i64 i ∧ g 9 = i64 i ∧ g 8 = .sl (.l 27) u 0 L.length (capE L.length) ∧ h (.l 27) = some { ver := u, es := L.map chC, esz := 4, own := q } ∧ g 45 = .dat 2 (Z.map rwC) ∧ g 46 = i64 Z.length ∧ g 47 = i64 k ∧ ∃ u2 q2, g 10 = .sl (.l 33) u2 0 k (capE k) ∧ h (.l 33) = some { ver := u2, es := ((Z.take k).map Rw.id).map inC, esz := 1, own := q2 }) ?_ ?_ ?_
    · exact ⟨by simp [upd_at, q1], by simp [upd_at, q2], by simp [upd_at, q29], by simp [upd_at, q30], by simp [upd_at], by simp [upd_at, q8], by simp [hup_at, hh], by simp [upd_at], by simp [upd_at], by simp [upd_at], c, NoDat [], by simp [upd_at, capE], by simp [hup_at]⟩
    · rintro k X' hk hX' g h c ⟨q1, q2, q29, q30, q9, q8, hh, q45, q46, q47, u2, q2', q10, hh2⟩
      have hck : (k : Int) < (Z.length : Int) := by omega
      have w3 : IntKind.i64.wrap ((k : Int) + 1) = ((k + 1 : Nat) : Int) := wnat1 (by omega)
      have hgr := mget r0 hk
      have htk : ((Z.take (k + 1)).map Rw.id).map inC = ((Z.take k).map Rw.id).map inC ++ [inC (Z.getD k r0).id] := by rw [mtake r0 hk]; simp
      have hel : k = (((Z.take k).map Rw.id).map inC).length := by simp; omega
      generalize Z.getD k r0 = r at hgr htk
      obtain ⟨id, vs⟩ := r
      simp only at htk
      generalize ((Z.take k).map Rw.id).map inC = E at hh2 htk hel
      simp -implicitDefEqProofs -dsimp only [q10, q45, q46, q47, hck, hgr, hh2, rwC, vls, ← hel, w3, Nat.reduceLT, go_sem, ↓reduceIte, Nat.reduceEqDiff, Int.reduceLE, Int.reduceLT, Int.reduceNeg, Int.reduceEq, Int.reduceBEq, Int.reduceBNe, Nat.reduceMul, Nat.reduceAdd, Nat.reduceLeDiff, reduceCtorEq, Int.reduceToNat]
      refine EK_p ⟨⟨fun _ => in_flat [id], in_good [id]⟩, by unfold bigOk; omega, by omega⟩ ?_
      simp -implicitDefEqProofs -dsimp only [q47, w3, go_sem, ↓reduceIte, Nat.reduceEqDiff, Int.reduceLE, Int.reduceLT, Int.reduceNeg, Int.reduceEq, Int.reduceBEq, Int.reduceBNe, Nat.reduceMul, Nat.reduceAdd, Nat.reduceLeDiff, reduceCtorEq, Int.reduceToNat]
      exact hX' _ _ _ ⟨by simp [upd_at, q1], by simp [upd_at, q2], by simp [upd_at, q29], by simp [upd_at, q30], by simp [upd_at, q9], by simp [upd_at, q8], by simp [hup_at, hh], by simp [upd_at, q45], by simp [upd_at, q46], by simp [upd_at], c + 1 + 1, (q2' ∧ AM.Flat [inC id]), by simp [upd_at, capE], by rw [hup_at, if_pos rfl, htk]; rfl⟩
    · rintro X' g h c ⟨q1, q2, q29, q30, q9, q8, hh, q45, q46, q47, u2, q2', q10, hh2⟩
      have hck : ¬ (Z.length : Int) < (Z.length : Int) := by omega
      rw [List.take_length, hids2] at hh2
      rw [hids2] at hT
      have hzl : (a.map Rw.id ++ b.map Rw.id).length = Z.length := by rw [← hids2, List.length_map]
      have dS := h47 (a.map Rw.id ++ b.map Rw.id) q2' (capE Z.length) (by omega)
      rw [hzl] at dS
      generalize a.map Rw.id ++ b.map Rw.id = zs at hT hh2 hzl dS
      simp -implicitDefEqProofs -dsimp only [q10, q46, q47, hck, go_sem, ↓reduceIte, Nat.reduceEqDiff, Int.reduceLE, Int.reduceLT, Int.reduceNeg, Int.reduceEq, Int.reduceBEq, Int.reduceBNe, Nat.reduceMul, Nat.reduceAdd, Nat.reduceLeDiff, reduceCtorEq, Int.reduceToNat]
      refine Call_one (own := true) (v := .tup []) (.l 33) _ (obI (srt zs) q2') hh2 (by simpa [expL, expA, cur, hup_at, List.idxOf?_cons, List.idxOf?_nil, objs_l, objs_r, objs_p, q10, hh2, obI] using dS) (by simp [ExpOk, AV.pure, cur, hup_at, List.idxOf?_cons, List.idxOf?_nil, objs_l, objs_r, objs_p, hh2]) (in_pure _) (in_pure _) (.inl rfl) (fun _ => .inr (in_flat _)) ?_
      have hsl := srt_len zs
      generalize srt zs = ys at hT hsl
      simp -implicitDefEqProofs -dsimp only [q10, obI, go_sem, ↓reduceIte, Nat.reduceEqDiff, Int.reduceLE, Int.reduceLT, Int.reduceNeg, Int.reduceEq, Int.reduceBEq, Int.reduceBNe, Nat.reduceMul, Nat.reduceAdd, Nat.reduceLeDiff, reduceCtorEq, Int.reduceToNat]
      have hcp : capE Z.length = none ∨ ys = [] := by
        unfold capE
        by_cases h0 : Z.length = 0
        · exact .inr (List.length_eq_zero_iff.1 (by omega))
        · exact .inl (if_neg h0)
      have hyz : Z.length = ys.length := by omega
      rw [hyz]
      rw [hyz] at hcp
      refine Call_x ?_
      refine hx48 ys (.l 33) u2 q2' (capE ys.length) _ _ _ (by rw [hup_at, if_pos rfl]) (by omega) hcp fun E q3 cap' h' e1 e2 e3 e4 e5 => ?_
      have hh' : h' (.l 27) = some { ver := u, es := L.map chC, esz := 4, own := q } := by rw [e5 _ (by simp), hup_at, if_neg (by simp)]; exact hh
      have hcl : (cpt ys).length ≤ ys.length := cpt_len_le
      clear e5
      generalize cpt ys = I at hT e3 hcl
      simp -implicitDefEqProofs -dsimp only [e4, go_sem, ↓reduceIte, Nat.reduceEqDiff, Int.reduceLE, Int.reduceLT, Int.reduceNeg, Int.reduceEq, Int.reduceBEq, Int.reduceBNe, Nat.reduceMul, Nat.reduceAdd, Nat.reduceLeDiff, reduceCtorEq, Int.reduceToNat]
      refine K_for I.length (fun k g h c => g 1 = .dat 1 (A.map dtC) ∧ g 2 = .dat 1 (B.map dtC) ∧ g 29 = i64 S.length ∧ g 30 = i64 i ∧ g 9 = i64 i ∧ g 60 = .sl (.l 33) u2 0 I.length (capE ys.length) ∧ g 61 = i64 I.length ∧ g 62 = i64 k ∧ h (.l 33) = some { ver := u2, es := E, esz := 1, own := q3 } ∧ ∃ (u : Nat) (q : Prop), q ∧ g 8 = .sl (.l 27) u 0 (L ++ (I.take k).flatMap (diff1 i a b)).length (capE (L ++ (I.take k).flatMap (diff1 i a b)).length) ∧ h (.l 27) = some { ver := u, es := (L ++ (I.take k).flatMap (diff1 i a b)).map chC, esz := 4, own := q }) ?_ ?_ ?_
      · exact ⟨by simp [upd_at, q1], by simp [upd_at, q2], by simp [upd_at, q29], by simp [upd_at, q30], by simp [upd_at, q9], by simp [upd_at], by simp [upd_at], by simp [upd_at], e4, u, q, hq, by simp [upd_at, q8], by simp [hh']⟩
      · rintro k X' hk hX' g h c ⟨q1, q2, q29, q30, q9, q60, q61, q62, hh3, u', q', hq', q8, hh⟩
        have hck : (k : Int) < (I.length : Int) := by omega
        have w3 : IntKind.i64.wrap ((k : Int) + 1) = ((k + 1 : Nat) : Int) := wnat1 (by omega)
        have hst := flatMap_step (f := diff1 i a b) hk
        have hfl2 := diffs_len i a b (I.take k)
        rw [List.length_take] at hfl2
        have hek : E[k]? = some (inC (I.getD k 0)) := by
          have h1 : (E.take I.length)[k]? = E[k]? := List.getElem?_take_of_lt hk
          rw [← h1, e3, List.getElem?_map, mget (0 : Int) hk]; rfl
        generalize I.getD k 0 = y at hst hek
        replace hst : L ++ (I.take (k + 1)).flatMap (diff1 i a b) = (L ++ (I.take k).flatMap (diff1 i a b)) ++ diff1 i a b y := by rw [hst, List.append_assoc]
        have hOl : (L ++ (I.take k).flatMap (diff1 i a b)).length ≤ 100000000 := by rw [List.length_append]; omega
        generalize L ++ (I.take k).flatMap (diff1 i a b) = O at q8 hh hst hOl
        have hel : O.length = (O.map chC).length := by simp
        have e1' := h49 a y (by omega)
        have e2' := h49 b y (by omega)
        have hva := valsA_ok a y
        have hvb := valsA_ok b y
        have hlt1 := fun h => @ix_lt _ (fun r : Rw => r.id == y) a h
        have hlt2 := fun h => @ix_lt _ (fun r : Rw => r.id == y) b h
        have vla : (valsP a y).length ≤ 1048576 := by
          unfold valsP; split
          · simp
          · exact hbv _ (mmem r0 (hlt1 (by omega)))
        have vlb : (valsP b y).length ≤ 1048576 := by
          unfold valsP; split
          · simp
          · exact hbw _ (mmem r0 (hlt2 (by omega)))
        have hd : diff1 i a b y = if valsP a y = valsP b y then [] else [⟨(i : Int), y, valsP a y, valsP b y⟩] := rfl
        rw [hd] at hst
        clear hd hlt1 hlt2
        generalize valsA a y = xa at e1' hva
        generalize valsP a y = va at hva vla hst
        generalize valsA b y = xb at e2' hvb
        generalize valsP b y = vb at hvb vlb hst
        have dE := h50 hva hvb vla
        have d88 := h51 hva vla
        have d90 := h51 hvb vlb
        unfold rws at e1' e2'
        simp -implicitDefEqProofs -dsimp only [q1, q2, q9, q60, q61, q62, hh3, hck, hk, hek, inC, hga, hgb, dtC, rws, Nat.reduceLT, go_sem, ↓reduceIte, Nat.reduceEqDiff, Int.reduceLE, Int.reduceLT, Int.reduceNeg, Int.reduceEq, Int.reduceBEq, Int.reduceBNe, Nat.reduceMul, Nat.reduceAdd, Nat.reduceLeDiff, reduceCtorEq, Int.reduceToNat]
        refine Call0_val false e1' (by simp [AV.free, AV.pure]) (.inr (by simp [AV.rooted, AV.ref1])) ?_ (by intro t n c; rcases hva with h1 | ⟨h1, _⟩ <;> rw [h1] <;> rfl)
        simp -implicitDefEqProofs -dsimp only [q1, q2, q9, q60, q61, q62, hga, hgb, dtC, rws, Nat.reduceLT, go_sem, ↓reduceIte, Nat.reduceEqDiff, Int.reduceLE, Int.reduceLT, Int.reduceNeg, Int.reduceEq, Int.reduceBEq, Int.reduceBNe, Nat.reduceMul, Nat.reduceAdd, Nat.reduceLeDiff, reduceCtorEq, Int.reduceToNat]
        refine Call0_val false e2' (by simp [AV.free, AV.pure]) (.inr (by simp [AV.rooted, AV.ref1])) ?_ (by intro t n c; rcases hvb with h1 | ⟨h1, _⟩ <;> rw [h1] <;> rfl)
        rcases hva with hxa | ⟨hxa, hla⟩ <;> rcases hvb with hxb | ⟨hxb, hlb⟩ <;> subst hxa <;> subst hxb
        all_goals
          simp -implicitDefEqProofs -dsimp only [go_sem, ↓reduceIte, Nat.reduceEqDiff, Int.reduceLE, Int.reduceLT, Int.reduceNeg, Int.reduceEq, Int.reduceBEq, Int.reduceBNe, Nat.reduceMul, Nat.reduceAdd, Nat.reduceLeDiff, reduceCtorEq, Int.reduceToNat]
          refine Call_val (own := true) (dE) (by simp [ExpOk, AV.pure]) (.inl rfl) ?_
          by_cases hv : va = vb
          · rw [tt_t hv]
            rw [if_pos hv, List.append_nil] at hst
            simp -implicitDefEqProofs -dsimp only [b1, q62, w3, go_sem, ↓reduceIte, Nat.reduceEqDiff, Int.reduceLE, Int.reduceLT, Int.reduceNeg, Int.reduceEq, Int.reduceBEq, Int.reduceBNe, Nat.reduceMul, Nat.reduceAdd, Nat.reduceLeDiff, reduceCtorEq, Int.reduceToNat]
            exact hX' _ _ _ ⟨by simp [upd_at, q1], by simp [upd_at, q2], by simp [upd_at, q29], by simp [upd_at, q30], by simp [upd_at, q9], by simp [upd_at, q60], by simp [upd_at, q61], by simp [upd_at], hh3, u', q', hq', by rw [hst]; simp [upd_at, q8], by rw [hst]; exact hh⟩
          · rw [tt_f hv]
            rw [if_neg hv] at hst
            simp -implicitDefEqProofs -dsimp only [q8, q9, go_sem, ↓reduceIte, Nat.reduceEqDiff, Int.reduceLE, Int.reduceLT, Int.reduceNeg, Int.reduceEq, Int.reduceBEq, Int.reduceBNe, Nat.reduceMul, Nat.reduceAdd, Nat.reduceLeDiff, reduceCtorEq, Int.reduceToNat]
            refine Call_news (own := true) (b := obVl va) (obs' := []) d88 (by simp [ExpOk, AV.pure]) (by simp [obVl, obL, v_pure]) (.inl rfl) (by simp [obVl, obL]) ?_
            simp -implicitDefEqProofs -dsimp only [impA, impL, Option.getD_some, Nat.sub_self, Nat.sub_zero, obVl, obL, go_sem, ↓reduceIte, Nat.reduceEqDiff, Int.reduceLE, Int.reduceLT, Int.reduceNeg, Int.reduceEq, Int.reduceBEq, Int.reduceBNe, Nat.reduceMul, Nat.reduceAdd, Nat.reduceLeDiff, reduceCtorEq, Int.reduceToNat]
            refine Call_news (own := true) (b := obVl vb) (obs' := []) d90 (by simp [ExpOk, AV.pure]) (by simp [obVl, obL, v_pure]) (.inl rfl) (by simp [obVl, obL]) ?_
            simp -implicitDefEqProofs -dsimp only [impA, impL, Option.getD_some, Nat.sub_self, Nat.sub_zero, obVl, obL, hh, ← hel, chunk, go_sem, ↓reduceIte, Nat.reduceEqDiff, Int.reduceLE, Int.reduceLT, Int.reduceNeg, Int.reduceEq, Int.reduceBEq, Int.reduceBNe, Nat.reduceMul, Nat.reduceAdd, Nat.reduceLeDiff, reduceCtorEq, Int.reduceToNat]
            refine EK_p ⟨⟨fun _ => by simp [AM.Flat, NoDat, AV.isDat], by simp [AM.Good, AV.storable]⟩, by unfold bigOk; omega, by omega⟩ ?_
            simp -implicitDefEqProofs -dsimp only [go_sem, ↓reduceIte, Nat.reduceEqDiff, Int.reduceLE, Int.reduceLT, Int.reduceNeg, Int.reduceEq, Int.reduceBEq, Int.reduceBNe, Nat.reduceMul, Nat.reduceAdd, Nat.reduceLeDiff, reduceCtorEq, Int.reduceToNat]
            refine GhK_ex (give2 (i := i) (y := y) (va := va) (vb := vb) (c1 := c) (c2 := c + 1) (o := .l 27) (n1 := .r 88 0) (n2 := .r 90 0) (E := O.map chC) (q := q' ∧ AM.Flat [[AV.i .i64 i, AV.i .i64 y, .sl (.r 88 0) c 0 va.length none, .sl (.r 90 0) (c + 1) 0 vb.length none]]) ⟨hq', by simp [AM.Flat, NoDat, AV.isDat]⟩ (by simp) (by simp) (by simp) (by rw [hup_at, if_pos rfl]) (by simp [hup_at]) (by simp [hup_at])) ?_
            rintro h' ⟨r1, r2⟩
            simp -implicitDefEqProofs -dsimp only [q62, w3, go_sem, ↓reduceIte, Nat.reduceEqDiff, Int.reduceLE, Int.reduceLT, Int.reduceNeg, Int.reduceEq, Int.reduceBEq, Int.reduceBNe, Nat.reduceMul, Nat.reduceAdd, Nat.reduceLeDiff, reduceCtorEq, Int.reduceToNat]
            exact hX' _ _ _ ⟨by simp [upd_at, q1], by simp [upd_at, q2], by simp [upd_at, q29], by simp [upd_at, q30], by simp [upd_at, q9], by simp [upd_at, q60], by simp [upd_at, q61], by simp [upd_at], by rw [r2 _ (by simp) (by simp) (by simp)]; simp [hup_at, hh3], _, _, (⟨hq', by simp [AM.Flat, NoDat, AV.isDat]⟩ : q' ∧ AM.Flat [[AV.i .i64 i, AV.i .i64 y, .sl (.r 88 0) c 0 va.length none, .sl (.r 90 0) (c + 1) 0 vb.length none]]), by rw [hst]; simp [upd_at, capE]; exact rfl, by rw [hst, List.map_append]; exact r1⟩
      · rintro X' g h c ⟨q1, q2, q29, q30, q9, q60, q61, q62, hh3, u', q', hq', q8, hh⟩
        have hck : ¬ (I.length : Int) < (I.length : Int) := by omega
        rw [List.take_length, ← hT, ← hstep] at q8 hh
        simp -implicitDefEqProofs -dsimp only [q30, q61, q62, hck, w2, go_sem, ↓reduceIte, Nat.reduceEqDiff, Int.reduceLE, Int.reduceLT, Int.reduceNeg, Int.reduceEq, Int.reduceBEq, Int.reduceBNe, Nat.reduceMul, Nat.reduceAdd, Nat.reduceLeDiff, reduceCtorEq, Int.reduceToNat]
        exact hX _ _ _ ⟨by simp [upd_at, q1], by simp [upd_at, q2], by simp [upd_at, q29], by simp [upd_at], u', q', hq', by simp [upd_at, q8], hh⟩
  · rintro X g h c ⟨q1, q2, q29, q30, u, q, hq, q8, hh⟩
    have hc : ¬ (S.length : Int) < (S.length : Int) := by omega
    simp -implicitDefEqProofs -dsimp only [q29, q30, hc, q8, go_sem, ↓reduceIte, Nat.reduceEqDiff, Int.reduceLE, Int.reduceLT, Int.reduceNeg, Int.reduceEq, Int.reduceBEq, Int.reduceBNe, Nat.reduceMul, Nat.reduceAdd, Nat.reduceLeDiff, reduceCtorEq, Int.reduceToNat]
    exact fh u q hq _ _ (by simp [upd_at]) (by simp [upd_at]) hh
theorem hno14 (S : List Tb) (A B : Db) (GA : GDb S A) (GB : GDb S B) (hn : ¬ (dbOk S A ∧ dbOk S B)) : HT 14 [tbs S, dbs A, dbs B] [] (.tup [.sl (.p 0) 1 0 0 (some 0), .b false]) true [obCh []] := by
  refine holds_of (c := Tryz.f14.body.getD .skip) (k := k14.1) (ts := [6, 7]) HOk mixedT hintT Tryz.func14 (by kernel_rfl) (by kernel_rfl) (by kernel_rfl) k14.2 (by kernel_rfl) (le_of 3 _ (by kernel_rfl)) ?_
  have dA := h35 S A GA
  have dB := h35 S B GB
  have b1 : (!true) = false := rfl
  have b2 : (!false) = true := rfl
  have fh : ∀ (u : Nat) (g : Slots) (h : Heap), g 6 = .sl (.l 900) u 0 0 (some 0) → g 7 = .b false → h (.l 900) = some { ver := u, es := [], esz := 4 } → FinB [6, 7] [] (.tup [.sl (.p 0) 1 0 0 (some 0), .b false]) true [obCh []] g h := fun u g h q6 q7 hh => by
    refine Fin_one (obs := []) (.l 900) { ver := u, es := [], esz := 4 } (obCh []) rfl hh rfl (.inl Iff.rfl) (ch_pure []) (fun k x hk => by simp at hk) ?_ ?_
    · simp [resV, q6, q7, retA, retL, cur, hh, List.idxOf?_cons]
    · simp [resV, q6, q7, ResOk, ResL, cur, hh]
  unfold dbs tbs at *
  simp -implicitDefEqProofs -dsimp only [k14, go_sem, ↓reduceIte, Nat.reduceEqDiff, Int.reduceLE, Int.reduceLT, Int.reduceNeg, Int.reduceEq, Int.reduceBEq, Int.reduceBNe, Nat.reduceMul, Nat.reduceAdd, Nat.reduceLeDiff, reduceCtorEq, Int.reduceToNat]
  refine Call_val (own := true) (dA) (by simp [ExpOk, AV.pure]) (.inl rfl) ?_
  by_cases hA : dbOk S A
  · rw [tt_t hA]
    have hB : tt (dbOk S B) = false := tt_f fun hB => hn ⟨hA, hB⟩
    rw [hB] at dB
    simp -implicitDefEqProofs -dsimp only [go_sem, ↓reduceIte, Nat.reduceEqDiff, Int.reduceLE, Int.reduceLT, Int.reduceNeg, Int.reduceEq, Int.reduceBEq, Int.reduceBNe, Nat.reduceMul, Nat.reduceAdd, Nat.reduceLeDiff, reduceCtorEq, Int.reduceToNat]
    refine Call_val (own := true) (dB) (by simp [ExpOk, AV.pure]) (.inl rfl) ?_
    simp -implicitDefEqProofs -dsimp only [go_sem, ↓reduceIte, Nat.reduceEqDiff, Int.reduceLE, Int.reduceLT, Int.reduceNeg, Int.reduceEq, Int.reduceBEq, Int.reduceBNe, Nat.reduceMul, Nat.reduceAdd, Nat.reduceLeDiff, reduceCtorEq, Int.reduceToNat]
    refine Gh_of (.nilc _ _ _ 6 (.l 900) 4 (some 0) (by simp [upd_at]) (by simp [objs_l]) rfl) ?_
    simp -implicitDefEqProofs -dsimp only [go_sem, ↓reduceIte, Nat.reduceEqDiff, Int.reduceLE, Int.reduceLT, Int.reduceNeg, Int.reduceEq, Int.reduceBEq, Int.reduceBNe, Nat.reduceMul, Nat.reduceAdd, Nat.reduceLeDiff, reduceCtorEq, Int.reduceToNat]
    exact fh _ _ _ (by simp [upd_at]; rfl) (by simp [upd_at]) (by simp [hup_at])
  · rw [tt_f hA]
    simp -implicitDefEqProofs -dsimp only [go_sem, ↓reduceIte, Nat.reduceEqDiff, Int.reduceLE, Int.reduceLT, Int.reduceNeg, Int.reduceEq, Int.reduceBEq, Int.reduceBNe, Nat.reduceMul, Nat.reduceAdd, Nat.reduceLeDiff, reduceCtorEq, Int.reduceToNat]
    refine Gh_of (.nilc _ _ _ 6 (.l 900) 4 (some 0) (by simp [upd_at]) (by simp [objs_l]) rfl) ?_
    simp -implicitDefEqProofs -dsimp only [go_sem, ↓reduceIte, Nat.reduceEqDiff, Int.reduceLE, Int.reduceLT, Int.reduceNeg, Int.reduceEq, Int.reduceBEq, Int.reduceBNe, Nat.reduceMul, Nat.reduceAdd, Nat.reduceLeDiff, reduceCtorEq, Int.reduceToNat]
    exact fh _ _ _ (by simp [upd_at]; rfl) (by simp [upd_at]) (by simp [hup_at])
/-- What DiffOf says, and whether it says something. -/
noncomputable def diffP (S : List Tb) (A B : Db) : List Ch := if tt (dbOk S A ∧ dbOk S B) = true then diffN A B S.length else []
theorem h14 (S : List Tb) (A B : Db) (GA : GDb S A) (GB : GDb S B) : HT 14 [tbs S, dbs A, dbs B] [] (.tup [.sl (.p 0) 1 0 (diffP S A B).length (capE (diffP S A B).length), .b (tt (dbOk S A ∧ dbOk S B))]) true [obCh (diffP S A B)] := by
  unfold diffP
  by_cases h : dbOk S A ∧ dbOk S B
  · rw [tt_t h, if_pos rfl]; exact hok14 S A B GA GB h.1 h.2
  · rw [tt_f h, if_neg (by simp)]; exact hno14 S A B GA GB h
theorem h11 (S : List Tb) (A B : Db) (GA : GDb S A) (GB : GDb S B) : HT 11 [tbs S, dbs A, dbs B] [] (.tup [chs (diffP S A B), .b (tt (dbOk S A ∧ dbOk S B))]) false [] := by
  unfold diffP
  by_cases h : dbOk S A ∧ dbOk S B
  · rw [tt_t h, if_pos rfl]; exact hok11 S A B GA GB h.1 h.2
  · rw [tt_f h, if_neg (by simp)]; exact hno11 S A B GA GB h
end FrA
end
/-! BdB -/
section
open Go Go.AM
namespace FrA
open Go.Proofs
theorem wL_bound {α : Type} (w σ : α → Nat) (A B : Nat) (h : ∀ a, w a ≤ A + B * σ a) : ∀ l : List α, wL w l ≤ (A + B) * szL σ l
  | [] => by simp [wL]
  | a :: l => by
    have ih := wL_bound w σ A B h l
    have h1 := h a
    unfold szL at ih ⊢
    simp only [wL, List.length_cons]
    have e : (A + B) * (l.length + 1 + (σ a + wL σ l)) = (A + B) * (l.length + wL σ l) + (A + B) * (1 + σ a) := by rw [← Nat.mul_add]; congr 1; omega
    have e2 : (A + B) * (1 + σ a) = A + B + (A * σ a + B * σ a) := by rw [Nat.mul_add, Nat.mul_one, Nat.add_mul]
    rw [e, e2]
    have : 0 ≤ A * σ a := Nat.zero_le _
    omega
theorem wTb_le (t : Tb) : wTb t ≤ 1 + 6 * szTb t := by
  have h1 : wL w6 t.cols = 6 * t.cols.length := wL_const 6 _
  have h2 : wL w1 t.key = 1 * t.key.length := wL_const 1 _
  have h3 := wL_bound wUn szUn 0 1 (fun u => by have : wL w1 u = 1 * u.length := wL_const 1 _; unfold wUn szUn; omega) t.uniq
  have h4 := wL_bound wCk szCk 0 5 (fun e => by have : wL w5 e = 5 * e.length := wL_const 5 _; unfold wCk szCk szL; omega) t.chk
  have h5 := wL_bound wFk szFk 4 1 (fun f => by have : wL w1 f.cols = 1 * f.cols.length := wL_const 1 _; unfold wFk szFk; omega) t.fks
  have h6 : t.cols.length ≤ szL szCl t.cols := by unfold szL; omega
  unfold wTb szTb
  omega
theorem wTbs_le (S : List Tb) : wL wTb S ≤ 7 * szTbs S := wL_bound wTb szTb 1 6 wTb_le S
theorem wRw_le (r : Rw) : wRw r ≤ 1 + 3 * szRw r := by
  have h1 : wL w3 r.vals = 3 * r.vals.length := wL_const 3 _; unfold wRw szRw szL; omega
theorem wDb_le (d : Db) : wL wDt d ≤ 4 * szDb d := wL_bound wDt szDt 0 4 (fun a => by
  have := wL_bound wRw szRw 1 3 wRw_le a
  unfold wDt szDt; omega) d
theorem wCh_le (c : Ch) (h1 : c.old.length ≤ 8) (h2 : c.now.length ≤ 8) : wCh c ≤ 50 := by
  have e1 : wL w3 c.old = 3 * c.old.length := wL_const 3 _
  have e2 : wL w3 c.now = 3 * c.now.length := wL_const 3 _; unfold wCh; omega
theorem wL_le_of {α : Type} {w : α → Nat} {m : Nat} : ∀ {l : List α}, (∀ a ∈ l, w a ≤ m) → wL w l ≤ m * l.length
  | [], _ => by simp [wL]
  | a :: l, h => by
    have := wL_le_of (l := l) (fun x hx => h x (by simp [hx]))
    have h1 := h a (by simp)
    rw [wL, List.length_cons, Nat.mul_add]; omega
theorem cls8 {l : List Cl} (h : clsOk l) : l.length ≤ 8 := by
  have h1 := h.2
  have := (h.1 (l.length - 1) (by omega)).1
  omega
theorem dbOk_8 {S : List Tb} {A : Db} (h : dbOk S A) {i : Nat} (hi : i < S.length) : ∀ r ∈ A.getD i [], r.vals.length ≤ 8 := by
  intro r hr
  obtain ⟨k, hk, e⟩ := List.getElem_of_mem hr
  have h1 := (h.2.2 i (by have := h.2.1; omega)).1 k hk
  have h2 : (A.getD i []).getD k r0 = r := by rw [List.getD_eq_getElem?_getD, List.getElem?_eq_getElem hk, e]; rfl
  unfold ro1 at h1
  rw [h2] at h1
  have h3 := h1.2.2.1
  have h4 := cls8 (h.1.2.1 i hi).1.2.1
  omega
theorem valsP_le {l : Dt} {m : Nat} (h : ∀ r ∈ l, r.vals.length ≤ m) (y : Int) : (valsP l y).length ≤ m := by
  unfold valsP
  split
  · simp
  · rename_i hx
    exact h _ (mmem r0 (ix_lt (by omega)))
theorem diffN_mem {S : List Tb} {A B : Db} (hA : dbOk S A) (hB : dbOk S B) : ∀ n, n ≤ S.length → ∀ c ∈ diffN A B n, c.old.length ≤ 8 ∧ c.now.length ≤ 8
  | 0, _ => by intro c hc; simp [diffN] at hc
  | n + 1, h => by
    intro c hc
    rw [diffN, List.mem_append] at hc
    rcases hc with hc | hc
    · exact diffN_mem hA hB n (by omega) c hc
    · unfold diffT at hc
      obtain ⟨y, _, hc⟩ := List.mem_flatMap.1 hc
      unfold diff1 at hc
      split at hc
      · simp at hc
      · simp only [List.mem_singleton] at hc
        subst hc
        exact ⟨valsP_le (dbOk_8 hA (by omega)) _, valsP_le (dbOk_8 hB (by omega)) _⟩
theorem diffP_le (S : List Tb) (A B : Db) : (diffP S A B).length ≤ 600 ∧ (∀ c ∈ diffP S A B, c.old.length ≤ 8 ∧ c.now.length ≤ 8) ∧ wL wCh (diffP S A B) ≤ 30000 := by
  have key : (diffP S A B).length ≤ 600 ∧ ∀ c ∈ diffP S A B, c.old.length ≤ 8 ∧ c.now.length ≤ 8 := by
    unfold diffP
    split
    · rename_i h
      have h2 := tt_true.1 h
      have h3 := diffN_len h2.1 h2.2 S.length (Nat.le_refl _)
      have h4 := h2.1.1.1
      exact ⟨by omega, diffN_mem h2.1 h2.2 S.length (Nat.le_refl _)⟩
    · exact ⟨by simp, fun c hc => by simp at hc⟩
  refine ⟨key.1, key.2, ?_⟩
  have := wL_le_of (w := wCh) (m := 50) (l := diffP S A B) (fun c hc => wCh_le c (key.2 c hc).1 (key.2 c hc).2)
  have := key.1
  omega
end FrA
end
