/- Numbers sorted, doubles left out: plain. No condition. -/
import Derived.Test.YtbhdjaccdaccbaaGreatAmG29
import Derived.Test.YtbhdjaccdaccbaaGreatAmG31
import Derived.Test.YtbhdjaccdaccbaaGreatAmG18
import Derived.Test.YtbhdjaccdaccbaaGreatAmG28
set_option linter.all false
set_option linter.unusedSimpArgs false
set_option linter.unusedVariables false
set_option linter.deprecated false
/-! DfQ -/
section
open Go Go.AM
namespace FrA
/-- Without what stands twice in a row. -/
def cpt : List Int → List Int
  | [] => []
  | [a] => [a]
  | a :: b :: l => if a = b then cpt (b :: l) else a :: cpt (b :: l)
theorem cpt_mem {x : Int} : ∀ {l : List Int}, x ∈ cpt l ↔ x ∈ l
  | [] => by simp [cpt]
  | [a] => by simp [cpt]
  | a :: b :: l => by
    rw [cpt]
    have ih := @cpt_mem x (b :: l)
    split
    · rename_i h; subst h; rw [ih]; simp
    · rw [List.mem_cons, ih, List.mem_cons (b := a)]
theorem cpt_sorted : ∀ {l : List Int}, l.Pairwise (· ≤ ·) → (cpt l).Pairwise (· < ·)
  | [], _ => by simp [cpt]
  | [a], _ => by simp [cpt]
  | a :: b :: l, h => by
    rw [cpt]
    have h2 := List.pairwise_cons.1 h
    have ih := cpt_sorted h2.2
    split
    · exact ih
    · rename_i hne
      refine List.pairwise_cons.2 ⟨fun x hx => ?_, ih⟩
      rw [cpt_mem] at hx
      have h3 := h2.1 b (by simp)
      have h4 := List.pairwise_cons.1 h2.2
      rcases List.mem_cons.1 hx with rfl | hx
      · omega
      · have := h4.1 x hx; omega
theorem cpt_len_le : ∀ {l : List Int}, (cpt l).length ≤ l.length
  | [] => by simp [cpt]
  | [a] => by simp [cpt]
  | a :: b :: l => by
    rw [cpt]
    have := @cpt_len_le (b :: l)
    split
    · simp only [List.length_cons] at this ⊢; omega
    · simp only [List.length_cons] at this ⊢; omega
/-- One more number behind. -/
theorem cpt_snoc {x y : Int} : ∀ {l : List Int}, cpt (l ++ [x, y]) = if x = y then cpt (l ++ [x]) else cpt (l ++ [x]) ++ [y]
  | [] => by
    simp only [List.nil_append, cpt]
    split
    · rename_i h; rw [h]
    · rfl
  | [a] => by
    have ih := @cpt_snoc x y []
    simp only [List.nil_append] at ih
    simp only [List.cons_append, List.nil_append]
    rw [cpt, ih]
    by_cases h1 : a = x
    · by_cases h2 : x = y
      · simp [cpt, h1, h2]
      · simp [cpt, h1, h2]
    · by_cases h2 : x = y
      · simp [cpt, h1, h2]
      · simp [cpt, h1, h2]
  | a :: b :: l => by
    have ih := @cpt_snoc x y (b :: l)
    simp only [List.cons_append] at ih ⊢
    rw [cpt, ih, cpt]
    by_cases h1 : a = b
    · simp [h1]
    · by_cases h2 : x = y
      · simp [h1, h2]
      · simp [h1, h2]
theorem cpt_step {l : List Int} {m : Nat} (h : m + 1 < l.length) : cpt (l.take (m + 2)) = if l.getD m 0 = l.getD (m + 1) 0 then cpt (l.take (m + 1)) else cpt (l.take (m + 1)) ++ [l.getD (m + 1) 0] := by
  rw [mtake (0 : Int) h, mtake (0 : Int) (show m < l.length by omega), List.append_assoc]
  exact cpt_snoc
/-- Rising rows with the same members are the same. -/
theorem rise_ext : ∀ {a b : List Int}, a.Pairwise (· < ·) → b.Pairwise (· < ·) → (∀ x, x ∈ a ↔ x ∈ b) → a = b
  | [], [], _, _, _ => rfl
  | [], y :: b, _, _, h => by have := (h y).2 (by simp); simp at this
  | x :: a, [], _, _, h => by have := (h x).1 (by simp); simp at this
  | x :: a, y :: b, ha, hb, h => by
    have ha2 := List.pairwise_cons.1 ha
    have hb2 := List.pairwise_cons.1 hb
    have e : x = y := by
      rcases List.mem_cons.1 ((h x).1 (by simp)) with e | e
      · exact e
      · rcases List.mem_cons.1 ((h y).2 (by simp)) with e2 | e2
        · exact e2.symm
        · have := ha2.1 y e2; have := hb2.1 x e; omega
    subst e
    rw [rise_ext ha2.2 hb2.2 fun z => ?_]
    constructor
    · intro hz
      rcases List.mem_cons.1 ((h z).1 (by simp [hz])) with e | e
      · have := ha2.1 z hz; omega
      · exact e
    · intro hz
      rcases List.mem_cons.1 ((h z).2 (by simp [hz])) with e | e
      · have := hb2.1 z hz; omega
      · exact e
theorem insA_mem {x y : Int} {o : List Int} : x ∈ insA y o ↔ x = y ∨ x ∈ o := by
  unfold insA
  have h := List.takeWhile_append_dropWhile (p := fun x => decide (x < y)) (l := o)
  conv => rhs; rw [← h]
  simp only [List.mem_append, List.mem_singleton]
  constructor
  · rintro ((h | h) | h)
    · exact .inr (.inl h)
    · exact .inl h
    · exact .inr (.inr h)
  · rintro (h | h | h)
    · exact .inl (.inr h)
    · exact .inl (.inl h)
    · exact .inr h
theorem tw_all {p : Int → Bool} {x : Int} : ∀ {l : List Int}, x ∈ l.takeWhile p → p x = true
  | [], h => by simp at h
  | a :: l, h => by
    rw [List.takeWhile_cons] at h
    split at h
    · rcases List.mem_cons.1 h with rfl | h
      · assumption
      · exact tw_all h
    · simp at h
theorem insA_rise {y : Int} {o : List Int} (ho : o.Pairwise (· < ·)) (hy : y ∉ o) : (insA y o).Pairwise (· < ·) := by
  obtain ⟨p, hp⟩ : ∃ p : Int → Bool, p = fun x => decide (x < y) := ⟨_, rfl⟩
  have e : insA y o = o.takeWhile p ++ [y] ++ o.dropWhile p := by rw [hp]; rfl
  have ht : ∀ x ∈ o.takeWhile p, x < y := fun x hx => by have := tw_all hx; rw [hp] at this; simpa using this
  have hsplit := List.takeWhile_append_dropWhile (p := p) (l := o)
  have hd : ∀ x ∈ o.dropWhile p, y < x := by
    intro x hx
    have hxo : x ∈ o := hsplit ▸ List.mem_append_right _ hx
    have hne : x ≠ y := fun q => hy (q ▸ hxo)
    cases hdw : o.dropWhile p with
    | nil => rw [hdw] at hx; simp at hx
    | cons z r =>
      have hz : p z = false := by
        have hlt : (o.takeWhile p).length < o.length := by
          have := congrArg List.length hsplit
          rw [List.length_append, hdw, List.length_cons] at this; omega
        have h1 := tw_end hlt
        have h2 : o.getD (o.takeWhile p).length 0 = z := by
          have h3 : (o.takeWhile p ++ o.dropWhile p).getD (o.takeWhile p).length 0 = z := by
            rw [List.getD_eq_getElem?_getD, List.getElem?_append_right (Nat.le_refl _), Nat.sub_self, hdw]; rfl
          rwa [hsplit] at h3
        rw [h2] at h1; exact h1
      rw [hp] at hz
      have hzy : ¬ z < y := by simpa using hz
      rw [hdw] at hx
      have hpw : (o.takeWhile p ++ o.dropWhile p).Pairwise (· < ·) := by rw [hsplit]; exact ho
      have hpw2 := (List.pairwise_append.1 hpw).2.1
      rw [hdw] at hpw2
      have hzo : z ∈ o := hsplit ▸ List.mem_append_right _ (by rw [hdw]; simp)
      have hzne : z ≠ y := fun q => hy (q ▸ hzo)
      rcases List.mem_cons.1 hx with rfl | hx
      · omega
      · have := (List.pairwise_cons.1 hpw2).1 x hx; omega
  have hpw : (o.takeWhile p ++ o.dropWhile p).Pairwise (· < ·) := by rw [hsplit]; exact ho
  obtain ⟨p1, p2, p3⟩ := List.pairwise_append.1 hpw
  rw [e]
  refine List.pairwise_append.2 ⟨List.pairwise_append.2 ⟨p1, by simp, fun a ha b hb => ?_⟩, p2, fun a ha b hb => ?_⟩
  · simp at hb; subst hb; exact ht a ha
  · rcases List.mem_append.1 ha with ha | ha
    · exact p3 a ha b hb
    · simp at ha; subst ha; exact hd b hb
theorem isort_rise {l : List Int} (h : l.Nodup) : (isort l).Pairwise (· < ·) ∧ ∀ x, x ∈ isort l ↔ x ∈ l := by
  have key : ∀ (l o : List Int), o.Pairwise (· < ·) → l.Nodup → (∀ x ∈ l, x ∉ o) → (l.foldl (fun o y => insA y o) o).Pairwise (· < ·) ∧ ∀ x, x ∈ l.foldl (fun o y => insA y o) o ↔ x ∈ o ∨ x ∈ l := by
    intro l
    induction l with
    | nil => intro o ho _ _; simp [ho]
    | cons a l ih =>
      intro o ho hn hd
      rw [List.nodup_cons] at hn
      have := ih (insA a o) (insA_rise ho (hd a (by simp))) hn.2 (fun x hx => by
        rw [insA_mem]
        rintro (rfl | q)
        · exact hn.1 hx
        · exact hd x (by simp [hx]) q)
      refine ⟨this.1, fun x => ?_⟩
      rw [List.foldl_cons, this.2 x, insA_mem, List.mem_cons]
      constructor
      · rintro ((h | h) | h)
        · exact .inr (.inl h)
        · exact .inl h
        · exact .inr (.inr h)
      · rintro (h | h | h)
        · exact .inl (.inr h)
        · exact .inl (.inl h)
        · exact .inr h
  have := key l [] (by simp) h (by simp)
  exact ⟨this.1, fun x => by have := this.2 x; simpa [isort] using this⟩
theorem addNew_mem {x : Int} : ∀ {b : Dt} {ids : List Int}, x ∈ addNew ids b ↔ x ∈ ids ∨ x ∈ b.map Rw.id
  | [], ids => by simp [addNew]
  | r :: b, ids => by
    have ih := fun ids => @addNew_mem x b ids
    unfold addNew at ih ⊢
    rw [List.foldl_cons, ih, List.map_cons, List.mem_cons]
    split
    · rename_i h
      constructor
      · rintro (q | q)
        · exact .inl q
        · exact .inr (.inr q)
      · rintro (q | q | q)
        · exact .inl q
        · exact .inl (q ▸ h)
        · exact .inr q
    · rw [List.mem_append, List.mem_singleton]
      constructor
      · rintro ((q | q) | q)
        · exact .inl q
        · exact .inr (.inl q)
        · exact .inr (.inr q)
      · rintro (q | q | q)
        · exact .inl (.inl q)
        · exact .inl (.inr q)
        · exact .inr q
theorem addNew_nodup : ∀ {b : Dt} {ids : List Int}, ids.Nodup → (addNew ids b).Nodup
  | [], ids, h => h
  | r :: b, ids, h => by
    have ih := fun ids => @addNew_nodup b ids
    unfold addNew at ih ⊢
    rw [List.foldl_cons]
    split
    · exact ih _ h
    · rename_i hn
      refine ih _ (List.nodup_append.2 ⟨h, by simp, fun a ha c hc => ?_⟩)
      simp at hc; subst hc
      intro e; exact hn (e ▸ ha)
theorem srt_sorted (l : List Int) : (srt l).Pairwise (· ≤ ·) := by
  have := List.pairwise_mergeSort (le := fun x y : Int => decide (x ≤ y)) (fun a b c h1 h2 => by simp at *; omega) (fun a b => by simp; omega) l
  exact this.imp fun h => by simpa using h
theorem srt_mem {x : Int} {l : List Int} : x ∈ srt l ↔ x ∈ l := List.mem_mergeSort
/-- What the program and the reference make of the numbers. -/
theorem ids_same {a b : Dt} (ha : (a.map Rw.id).Nodup) : cpt (srt (a.map Rw.id ++ b.map Rw.id)) = isort (addNew (a.map Rw.id) b) := by
  have h1 := isort_rise (addNew_nodup (b := b) ha)
  refine rise_ext (cpt_sorted (srt_sorted _)) h1.1 fun x => ?_
  rw [cpt_mem, srt_mem, h1.2, addNew_mem, List.mem_append]
end FrA
end
/-! DfD -/
section
open Go Go.AM
namespace FrA
open Go.Proofs
set_option maxRecDepth 100000
set_option linter.unusedSimpArgs false
def rz : List AV := [.i .i64 0, .nils]
theorem hGrow0 : HT 106 [.nils, i64 0] [] .nils true [] := by
  refine holds_of (c := Tryz.f106.body.getD .skip) (k := k106.1) (ts := [4]) HOk mixedT hintT Tryz.func106 (by kernel_rfl) (by kernel_rfl) (by kernel_rfl) k106.2 (by kernel_rfl) (le_of 2 _ (by kernel_rfl)) ?_
  have w0 : IntKind.i64.wrap (0 - 0) = 0 := by rfl
  have w1 : IntKind.i64.wrap 0 = 0 := by rfl
  have c0 : ¬ ((0 : Int) < 0) := by omega
  have c1 : ¬ ((0 : Int) > 0) := by omega
  simp -implicitDefEqProofs -dsimp only [k106, w0, w1, c0, c1, go_sem, ↓reduceIte, Nat.reduceEqDiff, Int.reduceLE, Int.reduceLT, Int.reduceNeg, Int.reduceEq, Int.reduceBEq, Int.reduceBNe, Nat.reduceMul, Nat.reduceAdd, Nat.reduceLeDiff, reduceCtorEq, Int.reduceToNat]
  exact Fin_val (by simp [resV, upd_at, retA]) (by simp [resV, upd_at, ResOk])
theorem hGrow (n : Nat) (h0 : 0 < n) (hn : n ≤ 2097152) : HT 106 [.nils, i64 n] [] (.sl (.p 0) 1 0 0 none) true [{ ver := 1, es := List.replicate n rz, esz := 2, own := True }] := by
  refine holds_of (c := Tryz.f106.body.getD .skip) (k := k106.1) (ts := [4]) HOk mixedT hintT Tryz.func106 (by kernel_rfl) (by kernel_rfl) (by kernel_rfl) k106.2 (by kernel_rfl) (le_of 2 _ (by kernel_rfl)) ?_
  have w0 : IntKind.i64.wrap (0 - 0) = 0 := by rfl
  have w1 : IntKind.i64.wrap 0 = 0 := by rfl
  have w2 : IntKind.i64.wrap (n : Int) = (n : Int) := wnat (by omega)
  have c0 : ¬ ((n : Int) < 0) := by omega
  have c1 : ((n : Int) > 0) := by omega
  simp -implicitDefEqProofs -dsimp only [k106, w0, w1, w2, c0, c1, go_sem, ↓reduceIte, Nat.reduceEqDiff, Int.reduceLE, Int.reduceLT, Int.reduceNeg, Int.reduceEq, Int.reduceBEq, Int.reduceBNe, Nat.reduceMul, Nat.reduceAdd, Nat.reduceLeDiff, reduceCtorEq, Int.reduceToNat]
  refine Gh_of (.nilc _ _ _ 17 (.l 900) 2 (some 0) (by simp [upd_at, S_0]) (by simp [objs_l]) rfl) ?_
  simp -implicitDefEqProofs -dsimp only [go_sem, ↓reduceIte, Nat.reduceEqDiff, Int.reduceLE, Int.reduceLT, Int.reduceNeg, Int.reduceEq, Int.reduceBEq, Int.reduceBNe, Nat.reduceMul, Nat.reduceAdd, Nat.reduceLeDiff, reduceCtorEq, Int.reduceToNat]
  refine EK_p ⟨by omega, by omega, by omega, by unfold bigOk; omega, by simp [AM.Good], by simp [AM.Flat], by simp [NoDat, AV.isDat]⟩ ?_
  simp -implicitDefEqProofs -dsimp only [c1, go_sem, ↓reduceIte, Nat.reduceEqDiff, Int.reduceLE, Int.reduceLT, Int.reduceNeg, Int.reduceEq, Int.reduceBEq, Int.reduceBNe, Nat.reduceMul, Nat.reduceAdd, Nat.reduceLeDiff, reduceCtorEq, Int.reduceToNat]
  refine Fin_one (obs := []) (.l 22) { ver := 2, es := List.replicate n rz, esz := 2 } { ver := 1, es := List.replicate n rz, esz := 2, own := True } rfl (by simp [hup_at, rz]) rfl (.inl Iff.rfl) (fun e he x hx => ?_) (fun k x hk => by simp at hk) ?_ ?_
  · rw [(List.mem_replicate.1 he).2] at hx
    simp only [rz, List.mem_cons, List.not_mem_nil, or_false] at hx
    rcases hx with rfl | rfl <;> rfl
  · simp [resV, upd_at, retA, cur, hup_at, List.idxOf?_cons]
  · simp [resV, upd_at, ResOk, cur, hup_at]
theorem flat_step {ls : List Dt} {i : Nat} (h : i < ls.length) : (ls.take (i + 1)).flatten = (ls.take i).flatten ++ ls.getD i [] := by
  rw [mtake ([] : Dt) h]; simp
theorem flat_le {ls : List Dt} (i : Nat) : ((ls.take i).flatten).length ≤ ls.flatten.length := by
  have := congrArg (fun l => (List.flatten l).length) (List.take_append_drop i ls)
  simp only [List.flatten_append, List.length_append] at this
  omega
def obD (ls : List Dt) (q : Prop) : Ob := { ver := 0, es := ls.map dtC, esz := 1, own := q, fixed := true }
theorem fin_obD {ls : List Dt} {q : Prop} {r : AV} {g : Slots} {h : Heap} {t : Nat} (h1 : retA h [] 1 (resV g [t]) = r) (h2 : ResOk h [] false (resV g [t])) (hh : h (.p 0) = some (obD ls q)) : FinB [t] [obD ls q] r false [obD ls q] g h := by
  refine Fin_obs h1 h2 rfl fun k ob hk => ?_
  cases k with
  | zero => simp at hk; subst hk; exact ⟨dt_pure _, q, .inr Iff.rfl, hh, rfl⟩
  | succ k => simp at hk
theorem h46 (ls : List Dt) (q0' : Prop) (hq0 : ¬ q0') (cap : Option Nat) (hl : ls.length ≤ 1048576) (hn : ls.flatten.length ≤ 2097152) : HT 46 [.sl (.p 0) 0 0 ls.length cap] [obD ls q0'] (rws ls.flatten) false [obD ls q0'] := by
  refine holds_of (c := Tryz.f46.body.getD .skip) (k := k46.1) (ts := [2]) HOk mixedT hintT Tryz.func46 (by kernel_rfl) (by kernel_rfl) (by kernel_rfl) k46.2 (by kernel_rfl) (le_of 1 _ (by kernel_rfl)) ?_
  unfold rws
  have c1 : ∀ n : Nat, ¬ ((n : Int) < 0) := fun n => by omega
  have hpo : objs [obD ls q0'] (.p 0) = some (obD ls q0') := rfl
  have hpo2 := hpo
  unfold obD at hpo2
  simp -implicitDefEqProofs -dsimp only [k46, obD, go_sem, ↓reduceIte, Nat.reduceEqDiff, Int.reduceLE, Int.reduceLT, Int.reduceNeg, Int.reduceEq, Int.reduceBEq, Int.reduceBNe, Nat.reduceMul, Nat.reduceAdd, Nat.reduceLeDiff, reduceCtorEq, Int.reduceToNat]
  refine K_for ls.length (fun i g h c => g 0 = .sl (.p 0) 0 0 ls.length cap ∧ g 9 = .sl (.p 0) 0 0 ls.length cap ∧ g 10 = i64 ls.length ∧ g 11 = i64 i ∧ g 3 = i64 ((ls.take i).flatten.length) ∧ h (.l 900) = none ∧ h (.r 24 0) = none ∧ h (.p 0) = some (obD ls q0')) ?_ ?_ ?_
  · exact ⟨by simp [upd_at, S_0], by simp [upd_at, S_0], by simp [upd_at], by simp [upd_at], by simp [upd_at], by simp [objs_l], by simp [objs_r], hpo⟩
  · rintro i A hi hA g h c ⟨q0, q9, q10, q11, q3, f1, f2, hp⟩
    have hp2 := hp
    unfold obD at hp2
    have hc : (i : Int) < (ls.length : Int) := by omega
    have w2 : IntKind.i64.wrap ((i : Int) + 1) = ((i + 1 : Nat) : Int) := wnat1 (by omega)
    have hg := mget ([] : Dt) hi
    have hf := flat_step hi
    have hle := flat_le (ls := ls) (i + 1)
    rw [hf, List.length_append] at hle
    generalize ls.getD i [] = d at hg hf hle
    have w3 : IntKind.i64.wrap (((ls.take i).flatten.length : Int) + (d.length : Int)) = (((ls.take i).flatten.length + d.length : Nat) : Int) := by rw [wr (by omega) (by omega)]; omega
    have c2 := c1 ((ls.take i).flatten.length + d.length)
    simp -implicitDefEqProofs -dsimp only [q0, q9, q10, q11, q3, hp2, hi, hc, hg, dtC, rws, AV.isDat, hq0, w2, w3, c2, Nat.reduceLT, go_sem, ↓reduceIte, Nat.reduceEqDiff, Int.reduceLE, Int.reduceLT, Int.reduceNeg, Int.reduceEq, Int.reduceBEq, Int.reduceBNe, Nat.reduceMul, Nat.reduceAdd, Nat.reduceLeDiff, reduceCtorEq, Int.reduceToNat]
    exact hA _ _ _ ⟨by simp [upd_at, q0], by simp [upd_at, q9], by simp [upd_at, q10], by simp [upd_at], by simp only [upd_at, ↓reduceIte, Nat.reduceEqDiff]; rw [hf, List.length_append], f1, f2, hp⟩
  · rintro A g h c ⟨q0, q9, q10, q11, q3, f1, f2, hp⟩
    have hp2 := hp
    unfold obD at hp2
    have hc : ¬ (ls.length : Int) < (ls.length : Int) := by omega
    rw [List.take_length] at q3
    by_cases hT : ls.flatten.length = 0
    · have hfl : ls.flatten = [] := List.length_eq_zero_iff.1 hT
      rw [hT] at q3
      rw [hfl]
      simp -implicitDefEqProofs -dsimp only [q0, q9, q10, q11, q3, hp2, hc, go_sem, ↓reduceIte, Nat.reduceEqDiff, Int.reduceLE, Int.reduceLT, Int.reduceNeg, Int.reduceEq, Int.reduceBEq, Int.reduceBNe, Nat.reduceMul, Nat.reduceAdd, Nat.reduceLeDiff, reduceCtorEq, Int.reduceToNat]
      refine Call_val (own := true) (hGrow0) (by simp [ExpOk, AV.pure]) (.inl rfl) ?_
      simp -implicitDefEqProofs -dsimp only [q0, q9, q10, q11, q3, hp2, hc, go_sem, ↓reduceIte, Nat.reduceEqDiff, Int.reduceLE, Int.reduceLT, Int.reduceNeg, Int.reduceEq, Int.reduceBEq, Int.reduceBNe, Nat.reduceMul, Nat.reduceAdd, Nat.reduceLeDiff, reduceCtorEq, Int.reduceToNat]
      refine K_for ls.length (fun i g h c => h (.p 0) = some (obD ls q0') ∧ g 25 = .sl (.p 0) 0 0 ls.length cap ∧ g 26 = i64 ls.length ∧ g 27 = i64 i ∧ g 6 = .nils ∧ h (.l 900) = none) ?_ ?_ ?_
      · exact ⟨by simp [hp], by simp [upd_at, q0], by simp [upd_at], by simp [upd_at], by simp [upd_at], f1⟩
      · rintro i A hi hA g h c ⟨hp, q25, q26, q27, q6, f1⟩
        have hp2 := hp
        unfold obD at hp2
        have hc : (i : Int) < (ls.length : Int) := by omega
        have w2 : IntKind.i64.wrap ((i : Int) + 1) = ((i + 1 : Nat) : Int) := wnat1 (by omega)
        have hg := mget ([] : Dt) hi
        have hf := flat_step hi
        have hle := flat_le (ls := ls) (i + 1)
        rw [hf, List.length_append] at hle
        generalize ls.getD i [] = d at hg hf hle
        have hd0 : d = [] := List.length_eq_zero_iff.1 (by omega)
        subst hd0
        simp -implicitDefEqProofs -dsimp only [q25, q26, q27, q6, hp2, hi, AV.isDat, hq0, hc, hg, dtC, rws, w2, Nat.reduceLT, go_sem, ↓reduceIte, Nat.reduceEqDiff, Int.reduceLE, Int.reduceLT, Int.reduceNeg, Int.reduceEq, Int.reduceBEq, Int.reduceBNe, Nat.reduceMul, Nat.reduceAdd, Nat.reduceLeDiff, reduceCtorEq, Int.reduceToNat]
        refine EK_p (by simp [AM.Good]) ?_
        simp -implicitDefEqProofs -dsimp only [q25, q26, q27, q6, w2, go_sem, ↓reduceIte, Nat.reduceEqDiff, Int.reduceLE, Int.reduceLT, Int.reduceNeg, Int.reduceEq, Int.reduceBEq, Int.reduceBNe, Nat.reduceMul, Nat.reduceAdd, Nat.reduceLeDiff, reduceCtorEq, Int.reduceToNat]
        exact hA _ _ _ ⟨by simp [hup_at, hp], by simp [upd_at, q25], by simp [upd_at, q26], by simp [upd_at], by simp [upd_at], f1⟩
      · rintro A g h c ⟨hp, q25, q26, q27, q6, f1⟩
        have hp2 := hp
        unfold obD at hp2
        have hc : ¬ (ls.length : Int) < (ls.length : Int) := by omega
        simp -implicitDefEqProofs -dsimp only [q25, q26, q27, q6, hc, go_sem, ↓reduceIte, Nat.reduceEqDiff, Int.reduceLE, Int.reduceLT, Int.reduceNeg, Int.reduceEq, Int.reduceBEq, Int.reduceBNe, Nat.reduceMul, Nat.reduceAdd, Nat.reduceLeDiff, reduceCtorEq, Int.reduceToNat]
        refine Gh_of (.trans (.nil _ _ _ 6 (.l 900) 2 (by simp [upd_at, q6]) f1 rfl) (.read _ _ _ 6 (.l 900) { ver := c, es := [], esz := 2 } 0 0 none (by simp [upd_at]) (by simp [hup_at]) (by simp) (fun e he => by cases he))) ?_
        simp -implicitDefEqProofs -dsimp only [go_sem, ↓reduceIte, Nat.reduceEqDiff, Int.reduceLE, Int.reduceLT, Int.reduceNeg, Int.reduceEq, Int.reduceBEq, Int.reduceBNe, Nat.reduceMul, Nat.reduceAdd, Nat.reduceLeDiff, reduceCtorEq, Int.reduceToNat]
        exact fin_obD (by simp [resV, upd_at, retA]) (by simp [resV, upd_at, ResOk]) (by simp [hup_at, hdel_at, hp])
    · simp -implicitDefEqProofs -dsimp only [q0, q9, q10, q11, q3, hp2, hc, go_sem, ↓reduceIte, Nat.reduceEqDiff, Int.reduceLE, Int.reduceLT, Int.reduceNeg, Int.reduceEq, Int.reduceBEq, Int.reduceBNe, Nat.reduceMul, Nat.reduceAdd, Nat.reduceLeDiff, reduceCtorEq, Int.reduceToNat]
      refine Call_news (own := true) (hGrow ls.flatten.length (by omega) hn) (by simp [ExpOk, AV.pure]) (fun x hx => ?_) (.inl rfl) (by simp) ?_
      · simp only [List.mem_cons, List.not_mem_nil, or_false] at hx; subst hx
        intro e he x hx
        rw [(List.mem_replicate.1 he).2] at hx
        simp only [rz, List.mem_cons, List.not_mem_nil, or_false] at hx
        rcases hx with rfl | rfl <;> rfl
      simp -implicitDefEqProofs -dsimp only [impA, impL, Option.getD_some, Nat.sub_self, Nat.sub_zero, q0, q9, q10, q11, q3, hp2, hc, go_sem, ↓reduceIte, Nat.reduceEqDiff, Int.reduceLE, Int.reduceLT, Int.reduceNeg, Int.reduceEq, Int.reduceBEq, Int.reduceBNe, Nat.reduceMul, Nat.reduceAdd, Nat.reduceLeDiff, reduceCtorEq, Int.reduceToNat]
      refine K_for ls.length (fun i g h c => h (.p 0) = some (obD ls q0') ∧ g 25 = .sl (.p 0) 0 0 ls.length cap ∧ g 26 = i64 ls.length ∧ g 27 = i64 i ∧ ∃ v q, g 6 = .sl (.r 24 0) v 0 (ls.take i).flatten.length none ∧ h (.r 24 0) = some { ver := v, es := ((ls.take i).flatten).map rwC ++ List.replicate (ls.flatten.length - (ls.take i).flatten.length) rz, esz := 2, own := q }) ?_ ?_ ?_
      · exact ⟨by simp [hup_at, hp], by simp [upd_at, q0], by simp [upd_at], by simp [upd_at], c, True, by simp [upd_at], by simp [hup_at, newObs]⟩
      · rintro i A hi hA g h c ⟨hp, q25, q26, q27, v, q, q6, hh⟩
        have hp2 := hp
        unfold obD at hp2
        have hc : (i : Int) < (ls.length : Int) := by omega
        have w2 : IntKind.i64.wrap ((i : Int) + 1) = ((i + 1 : Nat) : Int) := wnat1 (by omega)
        have hg := mget ([] : Dt) hi
        have hf := flat_step hi
        have hle := flat_le (ls := ls) (i + 1)
        rw [hf] at hle
        rw [List.length_append] at hle
        generalize ls.getD i [] = d at hg hf hle
        generalize (ls.take i).flatten = p at q6 hh hf hle
        have gd : AM.Good (d.map rwC) 2 := rw_good _
        have hEl : (p.map rwC ++ List.replicate (ls.flatten.length - p.length) rz).length = ls.flatten.length := by rw [List.length_append, List.length_map, List.length_replicate]; omega
        have tk : (p.map rwC ++ List.replicate (ls.flatten.length - p.length) rz).take p.length = p.map rwC := by rw [List.take_append_of_le_length (by simp), List.take_of_length_le (by simp)]
        have dp : (p.map rwC ++ List.replicate (ls.flatten.length - p.length) rz).drop (p.length + d.length) = List.replicate (ls.flatten.length - (p.length + d.length)) rz := by
          rw [List.drop_append, List.drop_of_length_le (by simp), List.nil_append, List.drop_replicate, List.length_map]; congr 1; omega
        have dn : d = [] ∨ ¬ p.length = ls.flatten.length := by
          by_cases hd : d = []
          · exact .inl hd
          · have : d.length ≠ 0 := fun h => hd (List.length_eq_zero_iff.1 h)
            exact .inr (by omega)
        by_cases hfull : p.length = ls.flatten.length
        · have hd : d = [] := dn.resolve_right (fun k => k hfull)
          subst hd
          have hE2 : p.map rwC ++ List.replicate (ls.flatten.length - p.length) rz = p.map rwC := by rw [hfull, Nat.sub_self, List.replicate_zero, List.append_nil]
          rw [hE2] at hh
          simp -implicitDefEqProofs -dsimp only [q25, q26, q27, q6, hp2, hi, AV.isDat, hq0, hh, hc, hg, dtC, rws, w2, Nat.reduceLT, hfull, go_sem, ↓reduceIte, Nat.reduceEqDiff, Int.reduceLE, Int.reduceLT, Int.reduceNeg, Int.reduceEq, Int.reduceBEq, Int.reduceBNe, Nat.reduceMul, Nat.reduceAdd, Nat.reduceLeDiff, reduceCtorEq, Int.reduceToNat]
          refine EK_p ⟨by simp [AM.Good], by unfold bigOk; omega, by omega⟩ ?_
          simp -implicitDefEqProofs -dsimp only [q25, q26, q27, q6, w2, go_sem, ↓reduceIte, Nat.reduceEqDiff, Int.reduceLE, Int.reduceLT, Int.reduceNeg, Int.reduceEq, Int.reduceBEq, Int.reduceBNe, Nat.reduceMul, Nat.reduceAdd, Nat.reduceLeDiff, reduceCtorEq, Int.reduceToNat]
          refine hA _ _ _ ⟨by simp [hup_at, hp], by simp [upd_at, q25], by simp [upd_at, q26], by simp [upd_at], c, (q ∧ AM.Flat ([] : List (List AV))), ?_, ?_⟩
          · simp only [upd_at, ↓reduceIte, Nat.reduceEqDiff]; rw [hf, List.append_nil, hfull]
          · rw [hup_at, if_pos rfl, hf, List.append_nil, hE2]
        · generalize hE : p.map rwC ++ List.replicate (ls.flatten.length - p.length) rz = E at hh hEl tk dp
          have hne : ¬ p.length = E.length := by omega
          simp -implicitDefEqProofs -dsimp only [q25, q26, q27, q6, hp2, hi, AV.isDat, hq0, hh, hc, hg, dtC, rws, w2, Nat.reduceLT, hne, go_sem, ↓reduceIte, Nat.reduceEqDiff, Int.reduceLE, Int.reduceLT, Int.reduceNeg, Int.reduceEq, Int.reduceBEq, Int.reduceBNe, Nat.reduceMul, Nat.reduceAdd, Nat.reduceLeDiff, reduceCtorEq, Int.reduceToNat]
          refine EK_p ⟨gd, by omega⟩ ?_
          simp -implicitDefEqProofs -dsimp only [q25, q26, q27, q6, w2, go_sem, ↓reduceIte, Nat.reduceEqDiff, Int.reduceLE, Int.reduceLT, Int.reduceNeg, Int.reduceEq, Int.reduceBEq, Int.reduceBNe, Nat.reduceMul, Nat.reduceAdd, Nat.reduceLeDiff, reduceCtorEq, Int.reduceToNat]
          refine hA _ _ _ ⟨by simp [hup_at, hp], by simp [upd_at, q25], by simp [upd_at, q26], by simp [upd_at], v, (q ∧ AM.Flat (d.map rwC)), ?_, ?_⟩
          · simp only [upd_at, ↓reduceIte, Nat.reduceEqDiff]; rw [hf, List.length_append]
          · rw [hup_at, if_pos rfl, hf, tk, dp, List.map_append, List.length_append]
      · rintro A g h c ⟨hp, q25, q26, q27, v, q, q6, hh⟩
        have hp2 := hp
        unfold obD at hp2
        have hc : ¬ (ls.length : Int) < (ls.length : Int) := by omega
        rw [List.take_length] at q6 hh
        rw [Nat.sub_self, List.replicate_zero, List.append_nil] at hh
        have hs : sub (ls.flatten.map rwC) 0 ls.flatten.length = ls.flatten.map rwC := sub_map _
        simp -implicitDefEqProofs -dsimp only [q25, q26, q27, q6, hc, go_sem, ↓reduceIte, Nat.reduceEqDiff, Int.reduceLE, Int.reduceLT, Int.reduceNeg, Int.reduceEq, Int.reduceBEq, Int.reduceBNe, Nat.reduceMul, Nat.reduceAdd, Nat.reduceLeDiff, reduceCtorEq, Int.reduceToNat]
        refine Gh_of (.read _ _ _ 6 (.r 24 0) { ver := v, es := ls.flatten.map rwC, esz := 2, own := q } 0 ls.flatten.length none (by simp only [upd_at, ↓reduceIte, Nat.reduceEqDiff]; exact q6) hh (by rw [List.length_map]; omega) (rw_pure _)) ?_
        simp -implicitDefEqProofs -dsimp only [go_sem, ↓reduceIte, Nat.reduceEqDiff, Int.reduceLE, Int.reduceLT, Int.reduceNeg, Int.reduceEq, Int.reduceBEq, Int.reduceBNe, Nat.reduceMul, Nat.reduceAdd, Nat.reduceLeDiff, reduceCtorEq, Int.reduceToNat]
        exact fin_obD (by simp [resV, upd_at, retA, hs]) (by simp [resV, upd_at, ResOk]) (by simp [hdel_at, hp])
end FrA
end
