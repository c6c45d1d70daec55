/- Files in their order, in plain Lean. No condition. -/
import Derived.Test.YtpiegccohgdkdaaAmDk1
import Derived.Lib.Bytealg
set_option linter.all false
set_option linter.unusedSimpArgs false
set_option linter.unusedVariables false
set_option linter.deprecated false
/-! DkC -/
open Go Go.AM
namespace FrA
abbrev cmpB := Lib.compareBytes
theorem cmpB_trans : ∀ (a b c : List UInt8), cmpB a b < 0 → cmpB b c < 0 → cmpB a c < 0
  | [], [], _, h, _ => by simp [cmpB, Lib.compareBytes] at h
  | [], _ :: _, [], _, h => by simp [cmpB, Lib.compareBytes] at h
  | [], _ :: _, _ :: _, _, _ => by simp [cmpB, Lib.compareBytes]
  | _ :: _, [], _, h, _ => by simp [cmpB, Lib.compareBytes] at h
  | _ :: _, _ :: _, [], _, h => by simp [cmpB, Lib.compareBytes] at h
  | a :: s, b :: t, c :: u, h1, h2 => by
    simp only [cmpB, Lib.compareBytes] at h1 h2 ⊢
    by_cases x1 : a < b
    · by_cases x2 : b < c
      · rw [if_pos (UInt8.lt_trans x1 x2)]; decide
      · rw [if_neg x2] at h2
        by_cases x3 : c < b
        · rw [if_pos x3] at h2; omega
        · have e : b = c := UInt8.le_antisymm (UInt8.not_lt.1 x3) (UInt8.not_lt.1 x2)
          subst e
          rw [if_pos x1]; decide
    · rw [if_neg x1] at h1
      by_cases x2 : b < a
      · rw [if_pos x2] at h1; omega
      · have e : a = b := UInt8.le_antisymm (UInt8.not_lt.1 x2) (UInt8.not_lt.1 x1)
        subst e
        rw [if_neg x2] at h1
        by_cases x3 : a < c
        · rw [if_pos x3]; decide
        · rw [if_neg x3] at h2 ⊢
          by_cases x4 : c < a
          · rw [if_pos x4] at h2; omega
          · rw [if_neg x4] at h2 ⊢
            exact cmpB_trans s t u h1 h2
theorem cmpB_self : ∀ a, cmpB a a = 0
  | [] => rfl
  | a :: s => by
    simp only [cmpB, Lib.compareBytes]
    rw [if_neg (UInt8.lt_irrefl a), if_neg (UInt8.lt_irrefl a)]
    exact cmpB_self s
theorem cmpB_eq : ∀ (a b : List UInt8), cmpB a b = 0 → a = b
  | [], [], _ => rfl
  | [], _ :: _, h => by simp [cmpB, Lib.compareBytes] at h
  | _ :: _, [], h => by simp [cmpB, Lib.compareBytes] at h
  | a :: s, b :: t, h => by
    simp only [cmpB, Lib.compareBytes] at h
    split at h
    · cases h
    · rename_i h1
      split at h
      · cases h
      · rename_i h2
        rw [UInt8.le_antisymm (UInt8.not_lt.1 h2) (UInt8.not_lt.1 h1), cmpB_eq s t h]
theorem cmpB_flip : ∀ (a b : List UInt8), cmpB a b = - cmpB b a
  | [], [] => rfl
  | [], _ :: _ => rfl
  | _ :: _, [] => rfl
  | a :: s, b :: t => by
    simp only [cmpB, Lib.compareBytes]
    by_cases h1 : a < b
    · have h2 : ¬ b < a := fun h => UInt8.lt_irrefl a (UInt8.lt_trans h1 h)
      rw [if_pos h1, if_neg h2, if_pos h1]
    · rw [if_neg h1]
      by_cases h2 : b < a
      · rw [if_pos h2, if_pos h2]; rfl
      · rw [if_neg h2, if_neg h2, if_neg h1]; exact cmpB_flip s t
theorem bl_cmp : ∀ (x y : List UInt8), Op.bytesLess x y = decide (cmpB x y < 0)
  | [], [] => rfl
  | [], _ :: _ => rfl
  | _ :: _, [] => rfl
  | a :: s, b :: t => by
    simp only [cmpB, Lib.compareBytes, Op.bytesLess]
    by_cases h1 : a < b
    · simp [h1]
    · by_cases h2 : b < a
      · simp [h1, h2]; exact fun e => absurd h2 (by rw [e]; exact UInt8.lt_irrefl b)
      · have e : a = b := UInt8.le_antisymm (UInt8.not_lt.1 h2) (UInt8.not_lt.1 h1)
        simp [h1, h2, e, bl_cmp s t]
theorem eq_cmp (x y : List UInt8) : (x == y) = decide (cmpB x y = 0) := by
  by_cases h : x = y
  · subst h; simp [cmpB_self]
  · have : cmpB x y ≠ 0 := fun e => h (cmpB_eq _ _ e)
    simp [h, this]
/-- The names stand in order, none twice. -/
def Srt (l : List File) : Prop := l.Pairwise fun f g => cmpB f.1 g.1 < 0
/-- Where a name stands, or would. -/
def pos (name : List UInt8) : List File → Nat
  | [] => 0
  | f :: l => if cmpB f.1 name < 0 then pos name l + 1 else 0
def has (name : List UInt8) : List File → Bool
  | [] => false
  | f :: l => if cmpB f.1 name < 0 then has name l else decide (cmpB f.1 name = 0)
theorem pos_le (name : List UInt8) : ∀ l, pos name l ≤ l.length
  | [] => Nat.le_refl _
  | f :: l => by have := pos_le name l; unfold pos; split <;> simp <;> omega
theorem pos_eq (name : List UInt8) : ∀ (l : List File) (i : Nat), i ≤ l.length → (∀ k, k < i → cmpB (l.getD k ([], [])).1 name < 0) → (i < l.length → ¬ cmpB (l.getD i ([], [])).1 name < 0) → pos name l = i
  | [], i, h, _, _ => by simp at h; subst h; rfl
  | f :: l, 0, _, _, h3 => by
    have := h3 (by simp)
    simp only [List.getD_cons_zero] at this
    simp only [pos]; rw [if_neg this]
  | f :: l, i + 1, h, h2, h3 => by
    have h0 := h2 0 (by omega)
    simp only [List.getD_cons_zero] at h0
    have ih := pos_eq name l i (by simpa using h) (fun k hk => by have := h2 (k + 1) (by omega); simpa using this) (fun hi => by have := h3 (by simpa using hi); simpa using this)
    simp only [pos]; rw [if_pos h0, ih]
theorem has_eq (name : List UInt8) : ∀ (l : List File), has name l = (decide (pos name l < l.length) && decide (cmpB (l.getD (pos name l) ([], [])).1 name = 0))
  | [] => rfl
  | f :: l => by
    simp only [has, pos]
    split
    · rw [has_eq name l]; simp
    · simp
theorem has_lt {name : List UInt8} {l : List File} (h : has name l = true) : pos name l < l.length := by
  rw [has_eq] at h; simp at h; exact h.1
theorem has_name {name : List UInt8} {l : List File} (h : has name l = true) : (l.getD (pos name l) ([], [])).1 = name := by
  rw [has_eq] at h; simp only [Bool.and_eq_true, decide_eq_true_eq] at h; exact cmpB_eq _ _ h.2
theorem srt_get {l : List File} (hs : Srt l) {i j : Nat} (hij : i < j) (hj : j < l.length) : cmpB (l.getD i ([], [])).1 (l.getD j ([], [])).1 < 0 := by
  have := List.pairwise_iff_getElem.1 hs i j (by omega) hj hij
  rw [List.getD_eq_getElem?_getD, List.getD_eq_getElem?_getD, List.getElem?_eq_getElem (by omega), List.getElem?_eq_getElem hj]
  exact this
/-- With a file of this name and data. -/
def put (l : List File) (name data : List UInt8) : List File := if has name l then l.set (pos name l) (name, data) else l.take (pos name l) ++ [(name, data)] ++ l.drop (pos name l)
def cut (l : List File) (name : List UInt8) : List File := if has name l then l.eraseIdx (pos name l) else l
abbrev Dop := Int × List UInt8 × List UInt8 × List UInt8
def olda (l : List File) (name : List UInt8) : List UInt8 := if has name l then (l.getD (pos name l) ([], [])).2 else []
def act (l : List File) (o : Dop) : List File :=
  if o.1 = 1 then put l o.2.1 (olda l o.2.1 ++ o.2.2.2)
  else if has o.2.1 l = false then l
  else if o.1 = 2 then put (cut l o.2.1) o.2.2.1 (olda l o.2.1) else cut l o.2.1
def actB (l : List File) (o : Dop) : Bool := if o.1 = 1 then true else has o.2.1 l
def nm (s : List UInt8) : Bool := decide (1 ≤ s.length) && decide (s.length ≤ 100)
def form (o : Dop) : Bool := if o.1 = 1 then nm o.2.1 && o.2.2.1 == [] else if o.1 = 2 then nm o.2.1 && nm o.2.2.1 && o.2.2.2 == [] else o.1 == 3 && nm o.2.1 && o.2.2.1 == [] && o.2.2.2 == []
/-! what the reference's loops do -/
def putR (name data : List UInt8) : Bool → List File → List File
  | d, [] => if d then [] else [(name, data)]
  | d, f :: l => (if d = false ∧ ¬ cmpB f.1 name < 0 then [(name, data)] else []) ++ (if cmpB f.1 name = 0 then [] else [f]) ++ putR name data (d || decide (¬ cmpB f.1 name < 0)) l
def cutR (name : List UInt8) : List File → List File
  | [] => []
  | f :: l => (if cmpB f.1 name = 0 then [] else [f]) ++ cutR name l
def atR (name : List UInt8) : Nat → List File → Int
  | _, [] => -1
  | i, f :: l => if cmpB f.1 name = 0 then i else atR name (i + 1) l
theorem srt_gt {f : File} {l : List File} {name : List UInt8} (hs : Srt (f :: l)) (h : ¬ cmpB f.1 name < 0) : ∀ g ∈ l, ¬ cmpB g.1 name < 0 ∧ cmpB g.1 name ≠ 0 := by
  intro g hg
  have h1 := (List.pairwise_cons.1 hs).1 g hg
  have key : ¬ cmpB g.1 name ≤ 0 := by
    intro hle
    by_cases h0 : cmpB g.1 name = 0
    · rw [cmpB_eq _ _ h0] at h1; exact h h1
    · exact h (cmpB_trans _ _ _ h1 (by omega))
  exact ⟨by omega, by omega⟩
theorem cutR_gt (name : List UInt8) : ∀ (l : List File), (∀ g ∈ l, cmpB g.1 name ≠ 0) → cutR name l = l
  | [], _ => rfl
  | f :: l, h => by
    unfold cutR; rw [if_neg (h f (by simp)), cutR_gt name l (fun g hg => h g (by simp [hg]))]; rfl
theorem putR_gt (name data : List UInt8) : ∀ (l : List File), (∀ g ∈ l, cmpB g.1 name ≠ 0) → putR name data true l = l
  | [], _ => rfl
  | f :: l, h => by
    unfold putR; rw [if_neg (by simp), if_neg (h f (by simp)), Bool.true_or, putR_gt name data l (fun g hg => h g (by simp [hg]))]; rfl
theorem cutR_eq (name : List UInt8) : ∀ (l : List File), Srt l → cutR name l = cut l name
  | [], _ => rfl
  | f :: l, hs => by
    have ih := cutR_eq name l (List.pairwise_cons.1 hs).2
    unfold cutR cut has pos
    by_cases h : cmpB f.1 name < 0
    · rw [if_pos h, if_pos h, if_neg (by omega), ih]
      unfold cut
      split <;> rfl
    · rw [if_neg h, if_neg h, cutR_gt name l (fun g hg => (srt_gt hs h g hg).2)]
      by_cases h0 : cmpB f.1 name = 0
      · simp [h0]
      · simp [h0]
theorem putR_eq (name data : List UInt8) : ∀ (l : List File), Srt l → putR name data false l = put l name data
  | [], _ => rfl
  | f :: l, hs => by
    have ih := putR_eq name data l (List.pairwise_cons.1 hs).2
    unfold putR put has pos
    by_cases h : cmpB f.1 name < 0
    · rw [if_pos h, if_pos h, if_neg (by simp [h]), if_neg (by omega)]
      have e : (false || decide (¬ cmpB f.1 name < 0)) = false := by simp; exact h
      rw [e, ih]
      unfold put
      split <;> rfl
    · rw [if_neg h, if_neg h, if_pos ⟨rfl, h⟩]
      have e : (false || decide (¬ cmpB f.1 name < 0)) = true := by simp only [h, not_false_iff, decide_true, Bool.or_true]
      rw [e, putR_gt name data l (fun g hg => (srt_gt hs h g hg).2)]
      by_cases h0 : cmpB f.1 name = 0
      · simp [h0]
      · simp [h0]
theorem atR_no (name : List UInt8) : ∀ (l : List File) (i : Nat), (∀ g ∈ l, cmpB g.1 name ≠ 0) → atR name i l = -1
  | [], _, _ => rfl
  | f :: l, i, h => by unfold atR; rw [if_neg (h f (by simp)), atR_no name l (i + 1) (fun g hg => h g (by simp [hg]))]
theorem atR_eq (name : List UInt8) : ∀ (l : List File) (i : Nat), Srt l → atR name i l = if has name l then ((i + pos name l : Nat) : Int) else -1
  | [], _, _ => rfl
  | f :: l, i, hs => by
    have ih := atR_eq name l (i + 1) (List.pairwise_cons.1 hs).2
    unfold atR has pos
    by_cases h : cmpB f.1 name < 0
    · rw [if_pos h, if_pos h, if_neg (by omega), ih]
      split
      · congr 1; omega
      · rfl
    · rw [if_neg h, if_neg h]
      by_cases h0 : cmpB f.1 name = 0
      · simp [h0]
      · rw [if_neg h0, atR_no name l _ (fun g hg => (srt_gt hs h g hg).2)]; simp [h0]
/-! right files -/
def tot : List File → Nat
  | [] => 0
  | f :: l => f.2.length + tot l
theorem tot_app : ∀ (l m : List File), tot (l ++ m) = tot l + tot m
  | [], m => by simp [tot]
  | f :: l, m => by simp [tot, tot_app l m]; omega
/-- Are the first n right, told one by one? -/
def okAt (l : List File) (i : Nat) : Prop := nm (l.getD i ([], [])).1 = true ∧ (0 < i → cmpB (l.getD (i - 1) ([], [])).1 (l.getD i ([], [])).1 < 0)
def okP (l : List File) : Prop := l.length ≤ 60 ∧ tot l ≤ 200000 ∧ ∀ i, i < l.length → okAt l i
noncomputable def okF (l : List File) : Bool := @decide (okP l) (Classical.propDecidable _)
theorem okF_t {l : List File} : okF l = true ↔ okP l := by unfold okF; exact @decide_eq_true_iff _ (Classical.propDecidable _)
theorem okF_f {l : List File} : okF l = false ↔ ¬ okP l := by unfold okF; exact @decide_eq_false_iff_not _ (Classical.propDecidable _)
theorem tot_take_le (l : List File) (n : Nat) : tot (l.take n) ≤ tot l := by
  conv => rhs; rw [← List.take_append_drop n l, tot_app]
  omega
theorem tot_take_succ {l : List File} {i : Nat} (h : i < l.length) : tot (l.take (i + 1)) = tot (l.take i) + (l.getD i ([], [])).2.length := by
  rw [List.take_add_one, tot_app, List.getElem?_eq_getElem h, List.getD_eq_getElem?_getD, List.getElem?_eq_getElem h]
  simp [tot]
theorem ok_srt {l : List File} (h : okP l) : Srt l := by
  refine List.pairwise_iff_getElem.2 ?_
  have key : ∀ (d i : Nat), i + d + 1 < l.length → cmpB (l.getD i ([], [])).1 (l.getD (i + d + 1) ([], [])).1 < 0 := by
    intro d
    induction d with
    | zero => intro i hi; have := (h.2.2 (i + 1) hi).2 (by omega); simpa using this
    | succ d ih =>
      intro i hi
      have h1 := ih i (by omega)
      have h2 := (h.2.2 (i + (d + 1) + 1) hi).2 (by omega)
      exact cmpB_trans _ _ _ h1 h2
  intro i j hi hj hij
  have := key (j - i - 1) i (by omega)
  rw [show i + (j - i - 1) + 1 = j by omega, List.getD_eq_getElem?_getD, List.getD_eq_getElem?_getD, List.getElem?_eq_getElem hi, List.getElem?_eq_getElem hj] at this
  exact this
theorem tot_get (l : List File) : ∀ f ∈ l, f.2.length ≤ tot l := by
  induction l with
  | nil => intro f hf; cases hf
  | cons g l ih =>
    intro f hf
    rcases List.mem_cons.1 hf with rfl | hf
    · simp [tot]
    · have := ih f hf; simp [tot]; omega
end FrA

/-! DkD -/
open Go Go.AM
namespace FrA
open Go.Proofs
set_option maxRecDepth 100000
set_option linter.unusedSimpArgs false
theorem h86 (x a b : Int) : HT 86 [i64 x, i64 a, i64 b] [] (.b (decide (a ≤ x) && decide (x ≤ b))) true [] := by
  refine holds_of (c := Try.f86.body.getD .skip) (k := k86.1) (ts := [6]) HOk mixedT hintT Try.func86 (by kernel_rfl) (by kernel_rfl) (by kernel_rfl) k86.2 (by kernel_rfl) (le_of 3 _ (by kernel_rfl)) ?_
  by_cases ha : a ≤ x
  · simp -dsimp only [k86, ha, go_sem, ↓reduceIte, Nat.reduceEqDiff, Int.reduceLE, Int.reduceLT, Int.reduceNeg, Int.reduceEq, Nat.reduceMul, Nat.reduceAdd, Nat.reduceLeDiff, reduceCtorEq]
    exact Fin_val (by simp [resV, upd_at, retA, ha]) (by simp [resV, upd_at, ResOk])
  · simp -dsimp only [k86, ha, go_sem, ↓reduceIte, Nat.reduceEqDiff, Int.reduceLE, Int.reduceLT, Int.reduceNeg, Int.reduceEq, Nat.reduceMul, Nat.reduceAdd, Nat.reduceLeDiff, reduceCtorEq]
    exact Fin_val (by simp [resV, upd_at, retA, ha]) (by simp [resV, upd_at, ResOk])
theorem h109 (x a b : Int) : HT 109 [i64 x, i64 a, i64 b] [] (.b (decide (a ≤ x) && decide (x ≤ b))) true [] := by
  refine holds_of (c := Try.f109.body.getD .skip) (k := k109.1) (ts := [6]) HOk mixedT hintT Try.func109 (by kernel_rfl) (by kernel_rfl) (by kernel_rfl) k109.2 (by kernel_rfl) (le_of 3 _ (by kernel_rfl)) ?_
  by_cases ha : x ≥ a
  · simp -dsimp only [k109, ha, go_sem, ↓reduceIte, Nat.reduceEqDiff, Int.reduceLE, Int.reduceLT, Int.reduceNeg, Int.reduceEq, Nat.reduceMul, Nat.reduceAdd, Nat.reduceLeDiff, reduceCtorEq]
    exact Fin_val (by simp [resV, upd_at, retA, show a ≤ x from ha]) (by simp [resV, upd_at, ResOk])
  · simp -dsimp only [k109, ha, go_sem, ↓reduceIte, Nat.reduceEqDiff, Int.reduceLE, Int.reduceLT, Int.reduceNeg, Int.reduceEq, Nat.reduceMul, Nat.reduceAdd, Nat.reduceLeDiff, reduceCtorEq]
    exact Fin_val (by simp [resV, upd_at, retA, show ¬ a ≤ x from ha]) (by simp [resV, upd_at, ResOk])
theorem nm_int (s : List UInt8) : (decide ((1 : Int) ≤ (s.length : Int)) && decide ((s.length : Int) ≤ 100)) = nm s := by
  unfold nm
  rw [show decide ((1 : Int) ≤ (s.length : Int)) = decide (1 ≤ s.length) from decide_eq_decide.2 (by omega), show decide ((s.length : Int) ≤ 100) = decide (s.length ≤ 100) from decide_eq_decide.2 (by omega)]
theorem h117 (s : List UInt8) : HT 117 [.s s] [] (.b (nm s)) true [] := by
  refine holds_of (c := Try.f117.body.getD .skip) (k := k117.1) (ts := [2]) HOk mixedT hintT Try.func117 (by kernel_rfl) (by kernel_rfl) (by kernel_rfl) k117.2 (by kernel_rfl) (le_of 1 _ (by kernel_rfl)) ?_
  simp -dsimp only [k117, go_sem, ↓reduceIte, Nat.reduceEqDiff, Int.reduceLE, Int.reduceLT, Int.reduceNeg, Int.reduceEq, Nat.reduceMul, Nat.reduceAdd, Nat.reduceLeDiff, reduceCtorEq]
  refine Call_val (own := true) (h86 s.length 1 100) (by simp [ExpOk, AV.pure]) (.inl rfl) ?_
  simp -dsimp only [nm_int, go_sem, ↓reduceIte, Nat.reduceEqDiff, Int.reduceLE, Int.reduceLT, Int.reduceNeg, Int.reduceEq, Nat.reduceMul, Nat.reduceAdd, Nat.reduceLeDiff, reduceCtorEq]
  exact Fin_val (by simp [resV, upd_at, retA]) (by simp [resV, upd_at, ResOk])
theorem h121 (s : List UInt8) : HT 121 [.s s] [] (.b (nm s)) true [] := by
  refine holds_of (c := Try.f121.body.getD .skip) (k := k121.1) (ts := [2]) HOk mixedT hintT Try.func121 (by kernel_rfl) (by kernel_rfl) (by kernel_rfl) k121.2 (by kernel_rfl) (le_of 1 _ (by kernel_rfl)) ?_
  rw [← nm_int s]
  by_cases ha : (s.length : Int) ≥ 1
  · simp -dsimp only [k121, ha, go_sem, ↓reduceIte, Nat.reduceEqDiff, Int.reduceLE, Int.reduceLT, Int.reduceNeg, Int.reduceEq, Nat.reduceMul, Nat.reduceAdd, Nat.reduceLeDiff, reduceCtorEq]
    exact Fin_val (by simp [resV, upd_at, retA, show (1 : Int) ≤ s.length from ha]) (by simp [resV, upd_at, ResOk])
  · simp -dsimp only [k121, ha, go_sem, ↓reduceIte, Nat.reduceEqDiff, Int.reduceLE, Int.reduceLT, Int.reduceNeg, Int.reduceEq, Nat.reduceMul, Nat.reduceAdd, Nat.reduceLeDiff, reduceCtorEq]
    exact Fin_val (by simp [resV, upd_at, retA, show ¬ (1 : Int) ≤ s.length from ha]) (by simp [resV, upd_at, ResOk])
theorem h142 (a b : List UInt8) : HT 142 [.s a, .s b] [] (i64 (cmpB a b)) true [] := by
  refine holds_of (c := Try.f142.body.getD .skip) (k := k142.1) (ts := [4]) HOk mixedT hintT Try.func142 (by kernel_rfl) (by kernel_rfl) (by kernel_rfl) k142.2 (by kernel_rfl) (le_of 2 _ (by kernel_rfl)) ?_
  simp -dsimp only [k142, go_sem, ↓reduceIte, Nat.reduceEqDiff, Int.reduceLE, Int.reduceLT, Int.reduceNeg, Int.reduceEq, Nat.reduceMul, Nat.reduceAdd, Nat.reduceLeDiff, reduceCtorEq]
  refine Call_x (hc146 a b _ _ _ ?_)
  simp -dsimp only [go_sem, ↓reduceIte, Nat.reduceEqDiff, Int.reduceLE, Int.reduceLT, Int.reduceNeg, Int.reduceEq, Nat.reduceMul, Nat.reduceAdd, Nat.reduceLeDiff, reduceCtorEq]
  exact Fin_val (by simp [resV, upd_at, retA]) (by simp [resV, upd_at, ResOk])
theorem h138 (a b : List UInt8) : HT 138 [.s a, .s b] [] (i64 (cmpB a b)) true [] := by
  refine holds_of (c := Try.f138.body.getD .skip) (k := k138.1) (ts := [4]) HOk mixedT hintT Try.func138 (by kernel_rfl) (by kernel_rfl) (by kernel_rfl) k138.2 (by kernel_rfl) (le_of 2 _ (by kernel_rfl)) ?_
  simp -dsimp only [k138, go_sem, ↓reduceIte, Nat.reduceEqDiff, Int.reduceLE, Int.reduceLT, Int.reduceNeg, Int.reduceEq, Nat.reduceMul, Nat.reduceAdd, Nat.reduceLeDiff, reduceCtorEq]
  refine Call_val (own := true) (h142 a b) (by simp [ExpOk, AV.pure]) (.inl rfl) ?_
  simp -dsimp only [go_sem, ↓reduceIte, Nat.reduceEqDiff, Int.reduceLE, Int.reduceLT, Int.reduceNeg, Int.reduceEq, Nat.reduceMul, Nat.reduceAdd, Nat.reduceLeDiff, reduceCtorEq]
  exact Fin_val (by simp [resV, upd_at, retA]) (by simp [resV, upd_at, ResOk])
theorem h137 (a d b : List UInt8) : HT 137 [.agg [.s a, .s d], .s b] [] (i64 (cmpB a b)) true [] := by
  refine holds_of (c := Try.f137.body.getD .skip) (k := k137.1) (ts := [4]) HOk mixedT hintT Try.func137 (by kernel_rfl) (by kernel_rfl) (by kernel_rfl) k137.2 (by kernel_rfl) (le_of 2 _ (by kernel_rfl)) ?_
  simp -dsimp only [k137, go_sem, ↓reduceIte, Nat.reduceEqDiff, Int.reduceLE, Int.reduceLT, Int.reduceNeg, Int.reduceEq, Nat.reduceMul, Nat.reduceAdd, Nat.reduceLeDiff, reduceCtorEq]
  refine Call_val (own := true) (h138 a b) (by simp [ExpOk, AV.pure]) (.inl rfl) ?_
  simp -dsimp only [go_sem, ↓reduceIte, Nat.reduceEqDiff, Int.reduceLE, Int.reduceLT, Int.reduceNeg, Int.reduceEq, Nat.reduceMul, Nat.reduceAdd, Nat.reduceLeDiff, reduceCtorEq]
  exact Fin_val (by simp [resV, upd_at, retA]) (by simp [resV, upd_at, ResOk])
def opC (o : Dop) : List AV := [.i .i64 o.1, .s o.2.1, .s o.2.2.1, .s o.2.2.2]
theorem h79 (o : Dop) : HT 79 [.agg (opC o)] [] (.b (form o)) true [] := by
  refine holds_of (c := Try.f79.body.getD .skip) (k := k79.1) (ts := [2]) HOk mixedT hintT Try.func79 (by kernel_rfl) (by kernel_rfl) (by kernel_rfl) k79.2 (by kernel_rfl) (le_of 1 _ (by kernel_rfl)) ?_
  obtain ⟨k, n, t, d⟩ := o
  unfold opC form
  simp only
  by_cases k1 : k = 1
  · have f1 : (k == 1) = true := by simp [k1]
    simp -dsimp only [k79, f1, go_sem, ↓reduceIte, Nat.reduceEqDiff, Int.reduceLE, Int.reduceLT, Int.reduceNeg, Int.reduceEq, Nat.reduceMul, Nat.reduceAdd, Nat.reduceLeDiff, reduceCtorEq]
    refine Call_val (own := true) (h117 n) (by simp [ExpOk, AV.pure]) (.inl rfl) ?_
    cases e2 : nm n
    · simp -dsimp only [go_sem, ↓reduceIte, Nat.reduceEqDiff, Int.reduceLE, Int.reduceLT, Int.reduceNeg, Int.reduceEq, Nat.reduceMul, Nat.reduceAdd, Nat.reduceLeDiff, reduceCtorEq]
      exact Fin_val (by simp_all [resV, upd_at, retA]) (by simp [resV, upd_at, ResOk])
    · simp -dsimp only [go_sem, ↓reduceIte, Nat.reduceEqDiff, Int.reduceLE, Int.reduceLT, Int.reduceNeg, Int.reduceEq, Nat.reduceMul, Nat.reduceAdd, Nat.reduceLeDiff, reduceCtorEq]
      exact Fin_val (by simp_all [resV, upd_at, retA]) (by simp [resV, upd_at, ResOk])
  · have e1 : (k == 1) = false := by simpa using k1
    by_cases k2 : k = 2
    · have f2 : (k == 2) = true := by simp [k2]
      simp -dsimp only [k79, e1, f2, go_sem, ↓reduceIte, Nat.reduceEqDiff, Int.reduceLE, Int.reduceLT, Int.reduceNeg, Int.reduceEq, Nat.reduceMul, Nat.reduceAdd, Nat.reduceLeDiff, reduceCtorEq]
      refine Call_val (own := true) (h117 n) (by simp [ExpOk, AV.pure]) (.inl rfl) ?_
      cases e2 : nm n
      · simp -dsimp only [go_sem, ↓reduceIte, Nat.reduceEqDiff, Int.reduceLE, Int.reduceLT, Int.reduceNeg, Int.reduceEq, Nat.reduceMul, Nat.reduceAdd, Nat.reduceLeDiff, reduceCtorEq]
        exact Fin_val (by simp_all [resV, upd_at, retA]) (by simp [resV, upd_at, ResOk])
      · simp -dsimp only [go_sem, ↓reduceIte, Nat.reduceEqDiff, Int.reduceLE, Int.reduceLT, Int.reduceNeg, Int.reduceEq, Nat.reduceMul, Nat.reduceAdd, Nat.reduceLeDiff, reduceCtorEq]
        refine Call_val (own := true) (h117 t) (by simp [ExpOk, AV.pure]) (.inl rfl) ?_
        cases e3 : nm t
        · simp -dsimp only [go_sem, ↓reduceIte, Nat.reduceEqDiff, Int.reduceLE, Int.reduceLT, Int.reduceNeg, Int.reduceEq, Nat.reduceMul, Nat.reduceAdd, Nat.reduceLeDiff, reduceCtorEq]
          exact Fin_val (by simp_all [resV, upd_at, retA]) (by simp [resV, upd_at, ResOk])
        · simp -dsimp only [go_sem, ↓reduceIte, Nat.reduceEqDiff, Int.reduceLE, Int.reduceLT, Int.reduceNeg, Int.reduceEq, Nat.reduceMul, Nat.reduceAdd, Nat.reduceLeDiff, reduceCtorEq]
          exact Fin_val (by simp_all [resV, upd_at, retA]) (by simp [resV, upd_at, ResOk])
    · have e2 : (k == 2) = false := by simpa using k2
      by_cases k3 : k = 3
      · have f3 : (k == 3) = true := by simp [k3]
        simp -dsimp only [k79, e1, e2, f3, go_sem, ↓reduceIte, Nat.reduceEqDiff, Int.reduceLE, Int.reduceLT, Int.reduceNeg, Int.reduceEq, Nat.reduceMul, Nat.reduceAdd, Nat.reduceLeDiff, reduceCtorEq]
        refine Call_val (own := true) (h117 n) (by simp [ExpOk, AV.pure]) (.inl rfl) ?_
        cases e3 : nm n
        · simp -dsimp only [go_sem, ↓reduceIte, Nat.reduceEqDiff, Int.reduceLE, Int.reduceLT, Int.reduceNeg, Int.reduceEq, Nat.reduceMul, Nat.reduceAdd, Nat.reduceLeDiff, reduceCtorEq]
          exact Fin_val (by simp_all [resV, upd_at, retA]) (by simp [resV, upd_at, ResOk])
        · cases e4 : (t == [])
          · simp -dsimp only [e4, go_sem, ↓reduceIte, Nat.reduceEqDiff, Int.reduceLE, Int.reduceLT, Int.reduceNeg, Int.reduceEq, Nat.reduceMul, Nat.reduceAdd, Nat.reduceLeDiff, reduceCtorEq]
            exact Fin_val (by simp_all [resV, upd_at, retA]) (by simp [resV, upd_at, ResOk])
          · simp -dsimp only [e4, go_sem, ↓reduceIte, Nat.reduceEqDiff, Int.reduceLE, Int.reduceLT, Int.reduceNeg, Int.reduceEq, Nat.reduceMul, Nat.reduceAdd, Nat.reduceLeDiff, reduceCtorEq]
            exact Fin_val (by simp_all [resV, upd_at, retA]) (by simp [resV, upd_at, ResOk])
      · have e3 : (k == 3) = false := by simpa using k3
        simp -dsimp only [k79, e1, e2, e3, go_sem, ↓reduceIte, Nat.reduceEqDiff, Int.reduceLE, Int.reduceLT, Int.reduceNeg, Int.reduceEq, Nat.reduceMul, Nat.reduceAdd, Nat.reduceLeDiff, reduceCtorEq]
        exact Fin_val (by simp [resV, upd_at, retA, k1, k2, k3]) (by simp [resV, upd_at, ResOk])
theorem h84 (o : Dop) : HT 84 [.agg (opC o)] [] (.b (form o)) true [] := by
  refine holds_of (c := Try.f84.body.getD .skip) (k := k84.1) (ts := [2]) HOk mixedT hintT Try.func84 (by kernel_rfl) (by kernel_rfl) (by kernel_rfl) k84.2 (by kernel_rfl) (le_of 1 _ (by kernel_rfl)) ?_
  obtain ⟨k, n, t, d⟩ := o
  unfold opC form
  simp only
  simp -dsimp only [k84, go_sem, ↓reduceIte, Nat.reduceEqDiff, Int.reduceLE, Int.reduceLT, Int.reduceNeg, Int.reduceEq, Nat.reduceMul, Nat.reduceAdd, Nat.reduceLeDiff, reduceCtorEq]
  refine Call_val (own := true) (h109 k 1 3) (by simp [ExpOk, AV.pure]) (.inl rfl) ?_
  cases hk : (decide (1 ≤ k) && decide (k ≤ 3))
  · simp -dsimp only [go_sem, ↓reduceIte, Nat.reduceEqDiff, Int.reduceLE, Int.reduceLT, Int.reduceNeg, Int.reduceEq, Nat.reduceMul, Nat.reduceAdd, Nat.reduceLeDiff, reduceCtorEq]
    have k1 : ¬ k = 1 := fun e => by subst e; simp at hk
    have k2 : ¬ k = 2 := fun e => by subst e; simp at hk
    have k3 : ¬ k = 3 := fun e => by subst e; simp at hk
    exact Fin_val (by simp [resV, upd_at, retA, k1, k2, k3]) (by simp [resV, upd_at, ResOk])
  · simp -dsimp only [go_sem, ↓reduceIte, Nat.reduceEqDiff, Int.reduceLE, Int.reduceLT, Int.reduceNeg, Int.reduceEq, Nat.reduceMul, Nat.reduceAdd, Nat.reduceLeDiff, reduceCtorEq]
    refine Call_val (own := true) (h121 n) (by simp [ExpOk, AV.pure]) (.inl rfl) ?_
    cases e2 : nm n
    · simp -dsimp only [go_sem, ↓reduceIte, Nat.reduceEqDiff, Int.reduceLE, Int.reduceLT, Int.reduceNeg, Int.reduceEq, Nat.reduceMul, Nat.reduceAdd, Nat.reduceLeDiff, reduceCtorEq]
      exact Fin_val (by simp_all [resV, upd_at, retA]) (by simp [resV, upd_at, ResOk])
    · by_cases k2 : k = 2
      · have f2 : (k == 2) = true := by simp [k2]
        simp -dsimp only [f2, go_sem, ↓reduceIte, Nat.reduceEqDiff, Int.reduceLE, Int.reduceLT, Int.reduceNeg, Int.reduceEq, Nat.reduceMul, Nat.reduceAdd, Nat.reduceLeDiff, reduceCtorEq]
        refine Call_val (own := true) (h121 t) (by simp [ExpOk, AV.pure]) (.inl rfl) ?_
        cases e3 : nm t
        · simp -dsimp only [go_sem, ↓reduceIte, Nat.reduceEqDiff, Int.reduceLE, Int.reduceLT, Int.reduceNeg, Int.reduceEq, Nat.reduceMul, Nat.reduceAdd, Nat.reduceLeDiff, reduceCtorEq]
          exact Fin_val (by simp_all [resV, upd_at, retA]) (by simp [resV, upd_at, ResOk])
        · simp -dsimp only [go_sem, ↓reduceIte, Nat.reduceEqDiff, Int.reduceLE, Int.reduceLT, Int.reduceNeg, Int.reduceEq, Nat.reduceMul, Nat.reduceAdd, Nat.reduceLeDiff, reduceCtorEq]
          exact Fin_val (by simp_all [resV, upd_at, retA]) (by simp [resV, upd_at, ResOk])
      · have f2 : (k == 2) = false := by simpa using k2
        cases e4 : (t == [])
        · simp -dsimp only [f2, e4, go_sem, ↓reduceIte, Nat.reduceEqDiff, Int.reduceLE, Int.reduceLT, Int.reduceNeg, Int.reduceEq, Nat.reduceMul, Nat.reduceAdd, Nat.reduceLeDiff, reduceCtorEq]
          exact Fin_val (by simp_all [resV, upd_at, retA]) (by simp [resV, upd_at, ResOk])
        · by_cases k1 : k = 1
          · have f1 : (k == 1) = true := by simp [k1]
            simp -dsimp only [f1, f2, e4, go_sem, ↓reduceIte, Nat.reduceEqDiff, Int.reduceLE, Int.reduceLT, Int.reduceNeg, Int.reduceEq, Nat.reduceMul, Nat.reduceAdd, Nat.reduceLeDiff, reduceCtorEq]
            exact Fin_val (by simp_all [resV, upd_at, retA]) (by simp [resV, upd_at, ResOk])
          · have f1 : (k == 1) = false := by simpa using k1
            have k3 : k = 3 := by simp at hk; omega
            simp -dsimp only [f1, f2, e4, go_sem, ↓reduceIte, Nat.reduceEqDiff, Int.reduceLE, Int.reduceLT, Int.reduceNeg, Int.reduceEq, Nat.reduceMul, Nat.reduceAdd, Nat.reduceLeDiff, reduceCtorEq]
            exact Fin_val (by simp_all [resV, upd_at, retA]) (by simp [resV, upd_at, ResOk])
end FrA

/-! DkE -/
open Go Go.AM
namespace FrA
open Go.Proofs
set_option maxRecDepth 100000
set_option linter.unusedSimpArgs false
theorem leq_cmp (x y : List UInt8) : (Op.bytesLess x y || x == y) = !decide (cmpB y x < 0) := by
  rw [bl_cmp, eq_cmp, cmpB_flip y x]
  by_cases h1 : cmpB x y < 0
  · have : ¬ -cmpB x y < 0 := by omega
    simp [h1, this]; omega
  · by_cases h2 : cmpB x y = 0
    · simp [h2]
    · have : -cmpB x y < 0 := by omega
      simp [h1, h2, this]; omega
theorem getD_mem {l : List File} {i : Nat} (h : i < l.length) : l.getD i ([], []) ∈ l := by
  rw [List.getD_eq_getElem?_getD, List.getElem?_eq_getElem h]; exact List.getElem_mem h
theorem h78 (l : List File) (hn : l.length ≤ 1048576) (hb : ∀ f ∈ l, f.2.length ≤ 1099511627776) : HT 78 [.dat 2 (fl l)] [] (.b (okF l)) true [] := by
  refine holds_of (c := Try.f78.body.getD .skip) (k := k78.1) (ts := [2]) HOk mixedT hintT Try.func78 (by kernel_rfl) (by kernel_rfl) (by kernel_rfl) k78.2 (by kernel_rfl) (le_of 1 _ (by kernel_rfl)) ?_
  simp -dsimp only [k78, fl_len, go_sem, ↓reduceIte, Nat.reduceEqDiff, Int.reduceLE, Int.reduceLT, Int.reduceNeg, Int.reduceEq, Nat.reduceMul, Nat.reduceAdd, Nat.reduceLeDiff, reduceCtorEq]
  refine K_loop (fun g h c => ∃ i : Nat, i ≤ l.length ∧ i ≤ 60 ∧ tot (l.take i) ≤ 200000 ∧ (∀ k, k < i → okAt l k) ∧ g 0 = .dat 2 (fl l) ∧ g 6 = .dat 2 (fl l) ∧ g 7 = i64 l.length ∧ g 8 = i64 i ∧ g 3 = i64 (tot (l.take i))) (fun g _ _ => match g 8 with | .i _ n => l.length - n.toNat | _ => 0) ?_ ?_
  · exact ⟨0, by omega, by omega, by simp [tot], fun k hk => by omega, by simp [upd_at, S_0], by simp [upd_at], by simp [upd_at], by simp [upd_at], by simp [upd_at, tot]⟩
  · rintro A n hA g h c ⟨i, hi, hi60, ht, hok, q0, q6, q7, q8, q3⟩ hm
    have hF : ¬ okP l → okF l = false := okF_f.2
    by_cases hlt : i < l.length
    · have hc : (i : Int) < (l.length : Int) := by omega
      have hd : (l.getD i ([], [])).2.length ≤ 1099511627776 := hb _ (getD_mem hlt)
      have w1 : IntKind.i64.wrap ((tot (l.take i) : Int) + ((l.getD i ([], [])).2.length : Int)) = ((tot (l.take i) + (l.getD i ([], [])).2.length : Nat) : Int) := by rw [wr (by omega) (by omega)]; rfl
      have w2 : IntKind.i64.wrap ((i : Int) + 1) = ((i + 1 : Nat) : Int) := by rw [wr (by omega) (by omega)]; rfl
      have hts := tot_take_succ hlt
      have fin : okF l = false → ∀ g h, g 2 = .b false → FinB [2] [] (.b (okF l)) true [] g h := fun hF g h hg => Fin_val (by simp [resV, retA, hg, hF]) (by simp [resV, ResOk, hg])
      by_cases e60 : i = 60
      · have f60 : ((i : Int) == 60) = true := by simp; omega
        simp -dsimp only [q0, q6, q7, q8, q3, hc, fl_get hlt, w1, f60, go_sem, ↓reduceIte, Nat.reduceEqDiff, Int.reduceLE, Int.reduceLT, Int.reduceNeg, Int.reduceEq, Nat.reduceMul, Nat.reduceAdd, Nat.reduceLeDiff, reduceCtorEq]
        exact fin (hF fun ok => by have := ok.1; omega) _ _ (by simp [upd_at])
      have f60 : ((i : Int) == 60) = false := by simp; omega
      by_cases eb : tot (l.take i) + (l.getD i ([], [])).2.length > 200000
      · have fb : ((tot (l.take i) + (l.getD i ([], [])).2.length : Nat) : Int) > 200000 := by omega
        simp -dsimp only [q0, q6, q7, q8, q3, hc, fl_get hlt, w1, f60, fb, go_sem, ↓reduceIte, Nat.reduceEqDiff, Int.reduceLE, Int.reduceLT, Int.reduceNeg, Int.reduceEq, Nat.reduceMul, Nat.reduceAdd, Nat.reduceLeDiff, reduceCtorEq]
        exact fin (hF fun ok => by have := ok.2.1; have := tot_take_le l (i + 1); omega) _ _ (by simp [upd_at])
      have fb : ¬ ((tot (l.take i) + (l.getD i ([], [])).2.length : Nat) : Int) > 200000 := by omega
      simp -dsimp only [q0, q6, q7, q8, q3, hc, fl_get hlt, w1, f60, fb, go_sem, ↓reduceIte, Nat.reduceEqDiff, Int.reduceLE, Int.reduceLT, Int.reduceNeg, Int.reduceEq, Nat.reduceMul, Nat.reduceAdd, Nat.reduceLeDiff, reduceCtorEq]
      refine Call0_val true (h117 (l.getD i ([], [])).1) (by simp [AV.free, AV.pure]) (.inl rfl) ?_
      cases en : nm (l.getD i ([], [])).1
      · simp -dsimp only [go_sem, ↓reduceIte, Nat.reduceEqDiff, Int.reduceLE, Int.reduceLT, Int.reduceNeg, Int.reduceEq, Nat.reduceMul, Nat.reduceAdd, Nat.reduceLeDiff, reduceCtorEq]
        exact fin (hF fun ok => by have := (ok.2.2 i hlt).1; rw [en] at this; cases this) _ _ (by simp [upd_at])
      by_cases e0 : i = 0
      · have f0 : ¬ (i : Int) > 0 := by omega
        simp -dsimp only [q0, q6, q7, q8, q3, f0, w2, go_sem, ↓reduceIte, Nat.reduceEqDiff, Int.reduceLE, Int.reduceLT, Int.reduceNeg, Int.reduceEq, Nat.reduceMul, Nat.reduceAdd, Nat.reduceLeDiff, reduceCtorEq]
        refine hA _ _ _ ?_ ?_
        · refine ⟨i + 1, by omega, by omega, by omega, fun k hk => ?_, by simp [upd_at, q0], by simp [upd_at, q6], by simp [upd_at, q7], by simp [upd_at], by simp [upd_at, hts]⟩
          have : k = i := by omega
          subst this; exact ⟨en, fun h => by omega⟩
        · rw [q8] at hm; simp [upd_at] at hm ⊢; omega
      have f0 : (i : Int) > 0 := by omega
      have w3 : IntKind.i64.wrap ((i : Int) - 1) = ((i - 1 : Nat) : Int) := by rw [wr (by omega) (by omega)]; omega
      have gi := fl_get (l := l) (i := i - 1) (by omega)
      by_cases ec : cmpB (l.getD (i - 1) ([], [])).1 (l.getD i ([], [])).1 < 0
      · simp -dsimp only [q0, q6, q7, q8, q3, f0, w2, w3, gi, bl_cmp, ec, go_sem, ↓reduceIte, Nat.reduceEqDiff, Int.reduceLE, Int.reduceLT, Int.reduceNeg, Int.reduceEq, Nat.reduceMul, Nat.reduceAdd, Nat.reduceLeDiff, reduceCtorEq]
        refine hA _ _ _ ?_ ?_
        · refine ⟨i + 1, by omega, by omega, by omega, fun k hk => ?_, by simp [upd_at, q0], by simp [upd_at, q6], by simp [upd_at, q7], by simp [upd_at], by simp [upd_at, hts]⟩
          by_cases hk2 : k = i
          · subst hk2; exact ⟨en, fun h => ec⟩
          · exact hok k (by omega)
        · rw [q8] at hm; simp [upd_at] at hm ⊢; omega
      · simp -dsimp only [q0, q6, q7, q8, q3, f0, w2, w3, gi, bl_cmp, ec, go_sem, ↓reduceIte, Nat.reduceEqDiff, Int.reduceLE, Int.reduceLT, Int.reduceNeg, Int.reduceEq, Nat.reduceMul, Nat.reduceAdd, Nat.reduceLeDiff, reduceCtorEq]
        exact fin (hF fun ok => ec ((ok.2.2 i hlt).2 (by omega))) _ _ (by simp [upd_at])
    · have hc : ¬ (i : Int) < (l.length : Int) := by omega
      simp -dsimp only [q0, q6, q7, q8, q3, hc, go_sem, ↓reduceIte, Nat.reduceEqDiff, Int.reduceLE, Int.reduceLT, Int.reduceNeg, Int.reduceEq, Nat.reduceMul, Nat.reduceAdd, Nat.reduceLeDiff, reduceCtorEq]
      have hil : i = l.length := by omega
      have hT : okF l = true := okF_t.2 ⟨by omega, by rw [hil, List.take_length] at ht; exact ht, fun k hk => hok k (by omega)⟩
      exact Fin_val (by simp [resV, upd_at, retA, hT]) (by simp [resV, upd_at, ResOk])
theorem h82 (l : List File) (hb : ∀ f ∈ l, f.2.length ≤ 1099511627776) : HT 82 [.dat 2 (fl l)] [] (.b (okF l)) true [] := by
  refine holds_of (c := Try.f82.body.getD .skip) (k := k82.1) (ts := [2]) HOk mixedT hintT Try.func82 (by kernel_rfl) (by kernel_rfl) (by kernel_rfl) k82.2 (by kernel_rfl) (le_of 1 _ (by kernel_rfl)) ?_
  have hF : ¬ okP l → okF l = false := okF_f.2
  have fin : okF l = false → ∀ g h, g 2 = .b false → FinB [2] [] (.b (okF l)) true [] g h := fun hF g h hg => Fin_val (by simp [resV, retA, hg, hF]) (by simp [resV, ResOk, hg])
  by_cases h60 : l.length > 60
  · have f60 : (l.length : Int) > 60 := by omega
    simp -dsimp only [k82, fl_len, f60, go_sem, ↓reduceIte, Nat.reduceEqDiff, Int.reduceLE, Int.reduceLT, Int.reduceNeg, Int.reduceEq, Nat.reduceMul, Nat.reduceAdd, Nat.reduceLeDiff, reduceCtorEq]
    exact fin (hF fun ok => by have := ok.1; omega) _ _ (by simp [upd_at])
  have f60 : ¬ (l.length : Int) > 60 := by omega
  simp -dsimp only [k82, fl_len, f60, go_sem, ↓reduceIte, Nat.reduceEqDiff, Int.reduceLE, Int.reduceLT, Int.reduceNeg, Int.reduceEq, Nat.reduceMul, Nat.reduceAdd, Nat.reduceLeDiff, reduceCtorEq]
  refine K_loop (fun g h c => ∃ i : Nat, i ≤ l.length ∧ tot (l.take i) ≤ i * 1099511627776 ∧ (∀ k, k < i → okAt l k) ∧ g 0 = .dat 2 (fl l) ∧ g 4 = i64 i ∧ g 3 = i64 (tot (l.take i))) (fun g _ _ => match g 4 with | .i _ n => l.length - n.toNat | _ => 0) ?_ ?_
  · exact ⟨0, by omega, by simp [tot], fun k hk => by omega, by simp [upd_at, S_0], by simp [upd_at], by simp [upd_at, tot]⟩
  · rintro A n hA g h c ⟨i, hi, ht, hok, q0, q4, q3⟩ hm
    by_cases hlt : i < l.length
    · have hc : (i : Int) < (l.length : Int) := by omega
      have hd : (l.getD i ([], [])).2.length ≤ 1099511627776 := hb _ (getD_mem hlt)
      have w1 : IntKind.i64.wrap ((tot (l.take i) : Int) + ((l.getD i ([], [])).2.length : Int)) = ((tot (l.take i) + (l.getD i ([], [])).2.length : Nat) : Int) := by rw [wr (by omega) (by omega)]; rfl
      have w2 : IntKind.i64.wrap ((i : Int) + 1) = ((i + 1 : Nat) : Int) := by rw [wr (by omega) (by omega)]; rfl
      have hts := tot_take_succ hlt
      simp -dsimp only [q0, q4, q3, hc, fl_get hlt, fl_len, go_sem, ↓reduceIte, Nat.reduceEqDiff, Int.reduceLE, Int.reduceLT, Int.reduceNeg, Int.reduceEq, Nat.reduceMul, Nat.reduceAdd, Nat.reduceLeDiff, reduceCtorEq]
      refine Call0_val true (h121 (l.getD i ([], [])).1) (by simp [AV.free, AV.pure]) (.inl rfl) ?_
      cases en : nm (l.getD i ([], [])).1
      · simp -dsimp only [go_sem, ↓reduceIte, Nat.reduceEqDiff, Int.reduceLE, Int.reduceLT, Int.reduceNeg, Int.reduceEq, Nat.reduceMul, Nat.reduceAdd, Nat.reduceLeDiff, reduceCtorEq]
        exact fin (hF fun ok => by have := (ok.2.2 i hlt).1; rw [en] at this; cases this) _ _ (by simp [upd_at])
      by_cases e0 : i = 0
      · have f0 : ¬ (i : Int) > 0 := by omega
        simp -dsimp only [q0, q4, q3, fl_get hlt, f0, w1, w2, go_sem, ↓reduceIte, Nat.reduceEqDiff, Int.reduceLE, Int.reduceLT, Int.reduceNeg, Int.reduceEq, Nat.reduceMul, Nat.reduceAdd, Nat.reduceLeDiff, reduceCtorEq]
        refine hA _ _ _ ?_ ?_
        · refine ⟨i + 1, by omega, by omega, fun k hk => ?_, by simp [upd_at, q0], by simp [upd_at], by simp [upd_at, hts]⟩
          have : k = i := by omega
          subst this; exact ⟨en, fun h => by omega⟩
        · rw [q4] at hm; simp [upd_at] at hm ⊢; omega
      have f0 : (i : Int) > 0 := by omega
      have w3 : IntKind.i64.wrap ((i : Int) - 1) = ((i - 1 : Nat) : Int) := by rw [wr (by omega) (by omega)]; omega
      have gi := fl_get (l := l) (i := i - 1) (by omega)
      by_cases ec : cmpB (l.getD (i - 1) ([], [])).1 (l.getD i ([], [])).1 < 0
      · simp -dsimp only [q0, q4, q3, fl_get hlt, f0, w1, w2, w3, gi, leq_cmp, ec, go_sem, ↓reduceIte, Nat.reduceEqDiff, Int.reduceLE, Int.reduceLT, Int.reduceNeg, Int.reduceEq, Nat.reduceMul, Nat.reduceAdd, Nat.reduceLeDiff, reduceCtorEq]
        refine hA _ _ _ ?_ ?_
        · refine ⟨i + 1, by omega, by omega, fun k hk => ?_, by simp [upd_at, q0], by simp [upd_at], by simp [upd_at, hts]⟩
          by_cases hk2 : k = i
          · subst hk2; exact ⟨en, fun h => ec⟩
          · exact hok k (by omega)
        · rw [q4] at hm; simp [upd_at] at hm ⊢; omega
      · simp -dsimp only [q0, q4, q3, fl_get hlt, f0, w1, w2, w3, gi, leq_cmp, ec, go_sem, ↓reduceIte, Nat.reduceEqDiff, Int.reduceLE, Int.reduceLT, Int.reduceNeg, Int.reduceEq, Nat.reduceMul, Nat.reduceAdd, Nat.reduceLeDiff, reduceCtorEq]
        exact fin (hF fun ok => ec ((ok.2.2 i hlt).2 (by omega))) _ _ (by simp [upd_at])
    · have hc : ¬ (i : Int) < (l.length : Int) := by omega
      have hil : i = l.length := by omega
      have hT : okF l = decide ((tot (l.take i) : Int) ≤ 200000) := by
        subst hil
        rw [List.take_length]
        by_cases hle : tot l ≤ 200000
        · rw [okF_t.2 ⟨by omega, hle, fun k hk => hok k (by omega)⟩]; symm; simp; omega
        · rw [okF_f.2 fun ok => hle ok.2.1]; symm; simp; omega
      simp -dsimp only [q0, q4, q3, hc, fl_len, go_sem, ↓reduceIte, Nat.reduceEqDiff, Int.reduceLE, Int.reduceLT, Int.reduceNeg, Int.reduceEq, Nat.reduceMul, Nat.reduceAdd, Nat.reduceLeDiff, reduceCtorEq]
      exact Fin_val (by simp [resV, upd_at, retA, hT]) (by simp [resV, upd_at, ResOk])
end FrA

/-! DkF -/
open Go Go.AM
namespace FrA
open Go.Proofs
set_option maxRecDepth 100000
set_option linter.unusedSimpArgs false
theorem half64 (c : Int) : c.fdiv (2 ^ (min (Int.toNat 1) 64)) = c / 2 := by
  have : (2 : Int) ^ (min (Int.toNat 1) 64) = 2 := by rfl
  rw [this, Int.fdiv_eq_ediv_of_nonneg _ (by decide)]
theorem wru {x : Int} (h0 : 0 ≤ x) (h1 : x < 1000000000) : IntKind.u64.wrap x = x := by
  unfold IntKind.wrap
  simp [IntKind.signed, IntKind.bits]
  omega
theorem h136 (l : List File) (name : List UInt8) (hs : Srt l) (hn : l.length ≤ 1048576) : HT 136 [.dat 2 (fl l), .s name, .fn 137 []] [] (.tup [i64 (pos name l), .b (has name l)]) true [] := by
  refine holds_of (c := Try.f136.body.getD .skip) (k := k136.1) (ts := [6, 7]) HOk mixedT hintT Try.func136 (by kernel_rfl) (by kernel_rfl) (by kernel_rfl) k136.2 (by kernel_rfl) (le_of 3 _ (by kernel_rfl)) ?_
  simp -dsimp only [k136, fl_len, go_sem, ↓reduceIte, Nat.reduceEqDiff, Int.reduceLE, Int.reduceLT, Int.reduceNeg, Int.reduceEq, Nat.reduceMul, Nat.reduceAdd, Nat.reduceLeDiff, reduceCtorEq]
  refine K_loop (fun g h c => ∃ i j : Nat, i ≤ j ∧ j ≤ l.length ∧ (∀ k, k < i → cmpB (l.getD k ([], [])).1 name < 0) ∧ (∀ k, j ≤ k → k < l.length → ¬ cmpB (l.getD k ([], [])).1 name < 0) ∧ g 0 = .dat 2 (fl l) ∧ g 1 = .s name ∧ g 2 = .fn 137 [] ∧ g 8 = i64 l.length ∧ g 9 = i64 i ∧ g 10 = i64 j)
    (fun g _ _ => match g 9, g 10 with | .i _ a, .i _ b => (b - a).toNat | _, _ => 0) ?_ ?_
  · exact ⟨0, l.length, by omega, by omega, fun k hk => by omega, fun k h1 h2 => by omega, by simp [upd_at, S_0], by simp [upd_at, S_1], by simp [upd_at, S_2], by simp [upd_at], by simp [upd_at], by simp [upd_at]⟩
  · rintro A n hA g h c ⟨i, j, hij, hj, hlo, hhi, q0, q1, q2, q8, q9, q10⟩ hm
    by_cases hlt : i < j
    · have hc : (i : Int) < (j : Int) := by omega
      obtain ⟨m, hmd⟩ : ∃ m, m = (i + j) / 2 := ⟨_, rfl⟩
      have a1 : IntKind.i64.wrap ((i : Int) + (j : Int)) = (i : Int) + (j : Int) := wr (by omega) (by omega)
      have a2 : IntKind.u64.wrap ((i : Int) + (j : Int)) = (i : Int) + (j : Int) := wru (by omega) (by omega)
      have w1 : IntKind.i64.wrap (((IntKind.u64.wrap (IntKind.i64.wrap ((i : Int) + (j : Int)))) / 2)) = ((m : Nat) : Int) := by
        rw [a1, a2, wr (by omega) (by omega)]; omega
      have w0 : IntKind.u64.wrap (IntKind.u64.wrap (IntKind.i64.wrap ((i : Int) + (j : Int))) / 2) = IntKind.u64.wrap (IntKind.i64.wrap ((i : Int) + (j : Int))) / 2 := by
        rw [a1, a2, wru (by omega) (by omega)]
      have w2 : IntKind.i64.wrap ((m : Int) + 1) = ((m + 1 : Nat) : Int) := by rw [wr (by omega) (by omega)]; rfl
      have gm := fl_get (l := l) (i := m) (by omega)
      simp -dsimp only [q0, q1, q2, q8, q9, q10, hc, half64, w0, w1, gm, go_sem, ↓reduceIte, Nat.reduceEqDiff, Int.reduceLE, Int.reduceLT, Int.reduceNeg, Int.reduceEq, Nat.reduceMul, Nat.reduceAdd, Nat.reduceLeDiff, reduceCtorEq]
      refine Call_val (own := true) (h137 _ _ name) (by simp [ExpOk, AV.pure]) (.inl rfl) ?_
      by_cases hcm : cmpB (l.getD m ([], [])).1 name < 0
      · simp -dsimp only [q0, q1, q2, q8, q9, q10, hcm, w2, go_sem, ↓reduceIte, Nat.reduceEqDiff, Int.reduceLE, Int.reduceLT, Int.reduceNeg, Int.reduceEq, Nat.reduceMul, Nat.reduceAdd, Nat.reduceLeDiff, reduceCtorEq]
        refine hA _ _ _ ?_ ?_
        · refine ⟨m + 1, j, by omega, by omega, fun k hk => ?_, hhi, by simp [upd_at, q0], by simp [upd_at, q1], by simp [upd_at, q2], by simp [upd_at, q8], by simp [upd_at], by simp [upd_at, q10]⟩
          by_cases e : k = m
          · subst e; exact hcm
          · by_cases hki : k < i
            · exact hlo k hki
            · exact cmpB_trans _ _ _ (srt_get hs (show k < m by omega) (by omega)) hcm
        · rw [q9, q10] at hm; simp [upd_at, q10] at hm ⊢; omega
      · simp -dsimp only [q0, q1, q2, q8, q9, q10, hcm, w2, go_sem, ↓reduceIte, Nat.reduceEqDiff, Int.reduceLE, Int.reduceLT, Int.reduceNeg, Int.reduceEq, Nat.reduceMul, Nat.reduceAdd, Nat.reduceLeDiff, reduceCtorEq]
        refine hA _ _ _ ?_ ?_
        · refine ⟨i, m, by omega, by omega, hlo, fun k hk hk2 => ?_, by simp [upd_at, q0], by simp [upd_at, q1], by simp [upd_at, q2], by simp [upd_at, q8], by simp [upd_at, q9], by simp [upd_at]⟩
          by_cases e : k = m
          · subst e; exact hcm
          · intro hk3
            exact hcm (cmpB_trans _ _ _ (srt_get hs (show m < k by omega) hk2) hk3)
        · rw [q9, q10] at hm; simp [upd_at, q9] at hm ⊢; omega
    · have hc : ¬ (i : Int) < (j : Int) := by omega
      have hij2 : i = j := by omega
      subst hij2
      have hp : pos name l = i := pos_eq name l i hj hlo (fun h => hhi i (Nat.le_refl _) h)
      by_cases hil : i < l.length
      · have hc2 : (i : Int) < (l.length : Int) := by omega
        have gm := fl_get (l := l) (i := i) hil
        simp -dsimp only [q0, q1, q2, q8, q9, q10, hc, hc2, gm, go_sem, ↓reduceIte, Nat.reduceEqDiff, Int.reduceLE, Int.reduceLT, Int.reduceNeg, Int.reduceEq, Nat.reduceMul, Nat.reduceAdd, Nat.reduceLeDiff, reduceCtorEq]
        refine Call_val (own := true) (h137 _ _ name) (by simp [ExpOk, AV.pure]) (.inl rfl) ?_
        simp -dsimp only [q0, q1, q2, q8, q9, q10, go_sem, ↓reduceIte, Nat.reduceEqDiff, Int.reduceLE, Int.reduceLT, Int.reduceNeg, Int.reduceEq, Nat.reduceMul, Nat.reduceAdd, Nat.reduceLeDiff, reduceCtorEq]
        have hh : has name l = (cmpB (l.getD i ([], [])).1 name == 0) := by
          rw [has_eq, hp]; simp only [hil, decide_true, Bool.true_and]; rfl
        refine Fin_val ?_ ?_
        · simp [resV, upd_at, retA, retL, hp, hh, q9]
        · simp [resV, upd_at, ResOk, ResL, q9]
      · have hc2 : ¬ (i : Int) < (l.length : Int) := by omega
        simp -dsimp only [q0, q1, q2, q8, q9, q10, hc, hc2, go_sem, ↓reduceIte, Nat.reduceEqDiff, Int.reduceLE, Int.reduceLT, Int.reduceNeg, Int.reduceEq, Nat.reduceMul, Nat.reduceAdd, Nat.reduceLeDiff, reduceCtorEq]
        have hh : has name l = false := by rw [has_eq, hp]; simp [hil]
        refine Fin_val ?_ ?_
        · simp [resV, upd_at, retA, retL, hp, hh, q9]
        · simp [resV, upd_at, ResOk, ResL, q9]
theorem h118 (l : List File) (name : List UInt8) (hs : Srt l) (hn : l.length ≤ 1048576) : HT 118 [.dat 2 (fl l), .s name] [] (.tup [i64 (pos name l), .b (has name l)]) true [] := by
  refine holds_of (c := Try.f118.body.getD .skip) (k := k118.1) (ts := [4, 5]) HOk mixedT hintT Try.func118 (by kernel_rfl) (by kernel_rfl) (by kernel_rfl) k118.2 (by kernel_rfl) (le_of 2 _ (by kernel_rfl)) ?_
  simp -dsimp only [k118, go_sem, ↓reduceIte, Nat.reduceEqDiff, Int.reduceLE, Int.reduceLT, Int.reduceNeg, Int.reduceEq, Nat.reduceMul, Nat.reduceAdd, Nat.reduceLeDiff, reduceCtorEq]
  refine Call_val (own := true) (h136 l name hs hn) (by simp [ExpOk, AV.pure]) (.inl rfl) ?_
  simp -dsimp only [go_sem, ↓reduceIte, Nat.reduceEqDiff, Int.reduceLE, Int.reduceLT, Int.reduceNeg, Int.reduceEq, Nat.reduceMul, Nat.reduceAdd, Nat.reduceLeDiff, reduceCtorEq]
  refine Fin_val ?_ ?_
  · simp [resV, upd_at, retA, retL]
  · simp [resV, upd_at, ResOk, ResL]
def obF (l : List File) : Ob := { ver := 1, es := fl l, esz := 2, own := True }
theorem fin_clone {es : List (List AV)} {z : Nat} {t : Nat} (o : Rid) (v n : Nat) (g : Slots) (h : Heap) (q : Prop) (ho : o.isP = false) (hg : g t = .sl o v 0 n none) (hh : h o = some { ver := v, es := es, esz := z, own := q }) (hn : n = es.length) (hf : Flat es) (hp : Pure es) :
    FinB [t] [] (.sl (.p 0) 1 0 es.length none) true [{ ver := 1, es := es, esz := z }] g h := by
  subst hn
  refine Fin_one (obs := []) o { ver := v, es := es, esz := z, own := q } { ver := 1, es := es, esz := z } ho hh rfl (.inr hf) hp (fun k x hk => by simp at hk) ?_ ?_
  · simp [resV, hg, retA, cur, hh, List.idxOf?_cons]
  · simp [resV, hg, ResOk, cur, hh]
theorem h87 (l : List File) (hn : l.length ≤ 1048576) : HT 87 [.dat 2 (fl l)] [] (.sl (.p 0) 1 0 l.length none) true [obF l] := by
  have fin := @fin_clone (fl l) 2 2
  rw [fl_len] at fin
  refine holds_of (c := Try.f87.body.getD .skip) (k := k87.1) (ts := [2]) HOk mixedT hintT Try.func87 (by kernel_rfl) (by kernel_rfl) (by kernel_rfl) k87.2 (by kernel_rfl) (le_of 1 _ (by kernel_rfl)) ?_
  by_cases h0 : l = []
  · subst h0
    simp -dsimp only [k87, go_sem, ↓reduceIte, Nat.reduceEqDiff, Int.reduceLE, Int.reduceLT, Int.reduceNeg, Int.reduceEq, Nat.reduceMul, Nat.reduceAdd, Nat.reduceLeDiff, reduceCtorEq]
    refine EqnK_any rfl rfl fun b => ?_
    cases b with
    | true =>
      simp -dsimp only [go_sem, ↓reduceIte, Nat.reduceEqDiff, Int.reduceLE, Int.reduceLT, Int.reduceNeg, Int.reduceEq, Nat.reduceMul, Nat.reduceAdd, Nat.reduceLeDiff, reduceCtorEq]
      refine Gh_of (.nil _ _ _ 2 (.l 900) 2 rfl rfl rfl) ?_
      simp -dsimp only [go_sem, ↓reduceIte, Nat.reduceEqDiff, Int.reduceLE, Int.reduceLT, Int.reduceNeg, Int.reduceEq, Nat.reduceMul, Nat.reduceAdd, Nat.reduceLeDiff, reduceCtorEq]
      exact fin (.l 900) 1 0 _ _ True rfl (by simp [upd_at]) (by simp [hup_at, fl]) rfl (fl_flat _) (fl_pure _)
    | false =>
      simp -dsimp only [fl_len, go_sem, ↓reduceIte, Nat.reduceEqDiff, Int.reduceLE, Int.reduceLT, Int.reduceNeg, Int.reduceEq, Nat.reduceMul, Nat.reduceAdd, Nat.reduceLeDiff, reduceCtorEq]
      refine EK_p (by simp [bigOk, fl_good]) ?_
      simp -dsimp only [fl_len, chunk, List.nil_append, Nat.zero_add, go_sem, ↓reduceIte, Nat.reduceEqDiff, Int.reduceLE, Int.reduceLT, Int.reduceNeg, Int.reduceEq, Nat.reduceMul, Nat.reduceAdd, Nat.reduceLeDiff, reduceCtorEq]
      exact fin (.l 5) 2 0 _ _ _ rfl (by simp [upd_at]) (by rw [hup_at, if_pos rfl]) rfl (fl_flat _) (fl_pure _)
  · have hne : fl l ≠ [] := by cases l <;> simp_all [fl]
    simp -dsimp only [k87, go_sem, ↓reduceIte, Nat.reduceEqDiff, Int.reduceLE, Int.reduceLT, Int.reduceNeg, Int.reduceEq, Nat.reduceMul, Nat.reduceAdd, Nat.reduceLeDiff, reduceCtorEq]
    refine EqnK_p hne ?_
    simp -dsimp only [fl_len, go_sem, ↓reduceIte, Nat.reduceEqDiff, Int.reduceLE, Int.reduceLT, Int.reduceNeg, Int.reduceEq, Nat.reduceMul, Nat.reduceAdd, Nat.reduceLeDiff, reduceCtorEq]
    refine EK_p ⟨fl_good _, ?_, ?_⟩ ?_
    · unfold bigOk; omega
    · omega
    simp -dsimp only [fl_len, chunk, List.nil_append, Nat.zero_add, go_sem, ↓reduceIte, Nat.reduceEqDiff, Int.reduceLE, Int.reduceLT, Int.reduceNeg, Int.reduceEq, Nat.reduceMul, Nat.reduceAdd, Nat.reduceLeDiff, reduceCtorEq]
    exact fin (.l 5) 2 l.length _ _ _ rfl (by simp [upd_at]) (by simp [hup_at]; rfl) rfl (fl_flat _) (fl_pure _)
end FrA

/-! DkG -/
open Go Go.AM
namespace FrA
open Go.Proofs
set_option maxRecDepth 100000
set_option linter.unusedSimpArgs false
theorem put_has {l : List File} {name data : List UInt8} (h : has name l = true) : put l name data = l.set (pos name l) ((l.getD (pos name l) ([], [])).1, data) := by
  rw [has_name h]; unfold put; rw [if_pos h]
theorem put_ins {l : List File} {name data : List UInt8} (h : has name l = false) : put l name data = ins l (pos name l) (name, data) := by
  unfold put ins; rw [h]; simp
theorem fl_set (l : List File) (i : Nat) (f : File) : (fl l).set i [.s f.1, .s f.2] = fl (l.set i f) := by
  simp [fl, List.map_set]
theorem h119 (l : List File) (name data : List UInt8) (hs : Srt l) (hn : l.length ≤ 1048576) : HT 119 [.dat 2 (fl l), .s name, .s data] [] (.dat 2 (fl (put l name data))) true [] := by
  refine holds_of (c := Try.f119.body.getD .skip) (k := k119.1) (ts := [6]) HOk mixedT hintT Try.func119 (by kernel_rfl) (by kernel_rfl) (by kernel_rfl) k119.2 (by kernel_rfl) (le_of 3 _ (by kernel_rfl)) ?_
  simp -dsimp only [k119, go_sem, ↓reduceIte, Nat.reduceEqDiff, Int.reduceLE, Int.reduceLT, Int.reduceNeg, Int.reduceEq, Nat.reduceMul, Nat.reduceAdd, Nat.reduceLeDiff, reduceCtorEq]
  refine Call_val (own := true) (h118 l name hs hn) (by simp [ExpOk, AV.pure]) (.inl rfl) ?_
  have fin : ∀ (o : Rid) (v m : Nat) (q : Prop) (g : Slots) (h : Heap), o.isP = false → g 6 = .sl o v 0 m none → h o = some { ver := v, es := fl (put l name data), esz := 2, own := q } → m = (put l name data).length → FinB [6] [] (.dat 2 (fl (put l name data))) true [] g h := by
    intro o v m q g h ho hg hh hm
    refine Fin_val ?_ ?_
    · have : sub (fl (put l name data)) 0 m = fl (put l name data) := by unfold sub; rw [if_pos ⟨rfl, by rw [fl_len, hm]⟩]
      simp [resV, hg, retA, cur, hh, List.idxOf?, this]
    · simp only [resV, hg, ResOk]
      exact ⟨{ ver := v, es := fl (put l name data), esz := 2, own := q }, by unfold cur; rw [hh]; simp, .inr ⟨ho, by simp, fl_pure _, by simp only [fl_len]; omega, fun _ => .inr (fl_flat _)⟩⟩
  have hpl := pos_le name l
  cases hh : has name l
  · simp -dsimp only [hh, go_sem, ↓reduceIte, Nat.reduceEqDiff, Int.reduceLE, Int.reduceLT, Int.reduceNeg, Int.reduceEq, Nat.reduceMul, Nat.reduceAdd, Nat.reduceLeDiff, reduceCtorEq]
    refine Call_new (own := true) (obF l) (h87 l hn) (by simp [ExpOk, AV.pure]) (fl_pure _) (.inl rfl) (fun _ => .inl trivial) ?_
    simp -dsimp only [impA, Option.getD_some, Nat.sub_self, go_sem, ↓reduceIte, Nat.reduceEqDiff, Int.reduceLE, Int.reduceLT, Int.reduceNeg, Int.reduceEq, Nat.reduceMul, Nat.reduceAdd, Nat.reduceLeDiff, reduceCtorEq]
    refine Call_x (hc139 l (name, data) (pos name l) (.r 17 0) (.l 30) _ _ _ True _ _ _ _ (by simp [hup_at, obF]) (by rw [hup_at, if_pos rfl]; rfl) (by simp) (by simp) (by simp) hpl hn fun o' c' k q' h'' ho h1 h2 => ?_)
    simp -dsimp only [go_sem, ↓reduceIte, Nat.reduceEqDiff, Int.reduceLE, Int.reduceLT, Int.reduceNeg, Int.reduceEq, Nat.reduceMul, Nat.reduceAdd, Nat.reduceLeDiff, reduceCtorEq]
    exact fin o' c' _ q' _ _ (by rcases ho with rfl | rfl <;> rfl) (by simp [upd_at]; rfl) (by rw [put_ins hh]; exact h1) (by rw [put_ins hh, ins_len _ _ _ hpl])
  · have hlt := has_lt hh
    simp -dsimp only [hh, go_sem, ↓reduceIte, Nat.reduceEqDiff, Int.reduceLE, Int.reduceLT, Int.reduceNeg, Int.reduceEq, Nat.reduceMul, Nat.reduceAdd, Nat.reduceLeDiff, reduceCtorEq]
    refine Call_new (own := true) (obF l) (h87 l hn) (by simp [ExpOk, AV.pure]) (fl_pure _) (.inl rfl) (fun _ => .inl trivial) ?_
    simp -dsimp only [impA, Option.getD_some, Nat.sub_self, obF, go_sem, ↓reduceIte, Nat.reduceEqDiff, Int.reduceLE, Int.reduceLT, Int.reduceNeg, Int.reduceEq, Nat.reduceMul, Nat.reduceAdd, Nat.reduceLeDiff, reduceCtorEq]
    refine VK_p hlt ?_
    have hst := fl_set l (pos name l) ((l.getD (pos name l) ([], [])).1, data)
    simp -dsimp only [fl_get hlt, hup_hup, Nat.zero_add, go_sem, ↓reduceIte, Nat.reduceEqDiff, Int.reduceLE, Int.reduceLT, Int.reduceNeg, Int.reduceEq, Nat.reduceMul, Nat.reduceAdd, Nat.reduceLeDiff, reduceCtorEq]
    exact fin (.r 17 0) 1 _ _ _ _ rfl (by simp [upd_at]; rfl) (by rw [hup_at, if_pos rfl, put_has hh]; rw [← hst]) (by rw [put_has hh, List.length_set])
theorem h80 (l : List File) (op : Dop) (hs : Srt l) (hn : l.length ≤ 1048576) (hb : ∀ f ∈ l, f.2.length ≤ 1099511627776) (hd : op.2.2.2.length ≤ 1099511627776) : HT 80 [.dat 2 (fl l), .agg (opC op)] [] (.tup [.dat 2 (fl (act l op)), .b (actB l op)]) false [] := by
  refine holds_of (c := Try.f80.body.getD .skip) (k := k80.1) (ts := [4, 5]) HOk mixedT hintT Try.func80 (by kernel_rfl) (by kernel_rfl) (by kernel_rfl) k80.2 (by kernel_rfl) (le_of 2 _ (by kernel_rfl)) ?_
  obtain ⟨k, n, t, d⟩ := op
  unfold opC act actB
  simp only at hd ⊢
  simp -dsimp only [k80, go_sem, ↓reduceIte, Nat.reduceEqDiff, Int.reduceLE, Int.reduceLT, Int.reduceNeg, Int.reduceEq, Nat.reduceMul, Nat.reduceAdd, Nat.reduceLeDiff, reduceCtorEq]
  refine Call_val (own := true) (h118 l n hs hn) (by simp [ExpOk, AV.pure]) (.inl rfl) ?_
  cases hh : has n l
  · have ho : olda l n = [] := by unfold olda; rw [hh]; rfl
    by_cases k1 : k = 1
    · have f1 : (k == 1) = true := by simp [k1]
      simp -dsimp only [f1, hh, go_sem, ↓reduceIte, Nat.reduceEqDiff, Int.reduceLE, Int.reduceLT, Int.reduceNeg, Int.reduceEq, Nat.reduceMul, Nat.reduceAdd, Nat.reduceLeDiff, reduceCtorEq]
      refine Call_val (own := true) (h119 l n d hs hn) (by simp [ExpOk, AV.pure]) (.inl rfl) ?_
      simp -dsimp only [go_sem, ↓reduceIte, Nat.reduceEqDiff, Int.reduceLE, Int.reduceLT, Int.reduceNeg, Int.reduceEq, Nat.reduceMul, Nat.reduceAdd, Nat.reduceLeDiff, reduceCtorEq]
      refine Fin_val ?_ ?_
      · simp [resV, upd_at, retA, retL, k1, ho]
      · simp [resV, upd_at, ResOk, ResL]
    · have f1 : (k == 1) = false := by simp [k1]
      simp -dsimp only [f1, hh, go_sem, ↓reduceIte, Nat.reduceEqDiff, Int.reduceLE, Int.reduceLT, Int.reduceNeg, Int.reduceEq, Nat.reduceMul, Nat.reduceAdd, Nat.reduceLeDiff, reduceCtorEq]
      refine Fin_val ?_ ?_
      · simp [resV, upd_at, retA, retL, k1, S_0]
      · simp [resV, upd_at, ResOk, ResL, S_0]
  · have hlt := has_lt hh
    have ho : olda l n = (l.getD (pos n l) ([], [])).2 := by unfold olda; rw [hh]; rfl
    have hd2 := hb _ (getD_mem hlt)
    by_cases k1 : k = 1
    · have f1 : (k == 1) = true := by simp [k1]
      simp -dsimp only [f1, hh, fl_get hlt, go_sem, ↓reduceIte, Nat.reduceEqDiff, Int.reduceLE, Int.reduceLT, Int.reduceNeg, Int.reduceEq, Nat.reduceMul, Nat.reduceAdd, Nat.reduceLeDiff, reduceCtorEq]
      refine VK_p (by omega) ?_
      simp -dsimp only [go_sem, ↓reduceIte, Nat.reduceEqDiff, Int.reduceLE, Int.reduceLT, Int.reduceNeg, Int.reduceEq, Nat.reduceMul, Nat.reduceAdd, Nat.reduceLeDiff, reduceCtorEq]
      refine Call_val (own := true) (h119 l n ((l.getD (pos n l) ([], [])).2 ++ d) hs hn) (by simp [ExpOk, AV.pure]) (.inl rfl) ?_
      simp -dsimp only [go_sem, ↓reduceIte, Nat.reduceEqDiff, Int.reduceLE, Int.reduceLT, Int.reduceNeg, Int.reduceEq, Nat.reduceMul, Nat.reduceAdd, Nat.reduceLeDiff, reduceCtorEq]
      refine Fin_val ?_ ?_
      · simp [resV, upd_at, retA, retL, k1, ho]
      · simp [resV, upd_at, ResOk, ResL]
    · have f1 : (k == 1) = false := by simp [k1]
      have w2 : IntKind.i64.wrap ((pos n l : Int) + 1) = ((pos n l + 1 : Nat) : Int) := by rw [wr (by omega) (by omega)]; rfl
      have hl0 : l ≠ [] := by intro e; subst e; simp at hlt
      have hcut : cut l n = l.eraseIdx (pos n l) := by unfold cut; rw [if_pos hh]
      have hel : (l.eraseIdx (pos n l)).length = l.length - 1 := List.length_eraseIdx_of_lt hlt
      have hsub : sub (fl (l.eraseIdx (pos n l)) ++ [z2]) 0 (l.length - 1) = fl (l.eraseIdx (pos n l)) := by
        unfold sub
        rw [if_neg (by rw [List.length_append, fl_len, hel]; simp), List.drop_zero, List.take_append_of_le_length (by rw [fl_len, hel]; omega), List.take_of_length_le (by rw [fl_len, hel]; omega)]
      have hpu : Pure (fl (l.eraseIdx (pos n l)) ++ [z2]) := by
        rw [show [z2] = fl [([], [])] from rfl, fl_app]; exact fl_pure _
      simp -dsimp only [f1, hh, fl_get hlt, go_sem, ↓reduceIte, Nat.reduceEqDiff, Int.reduceLE, Int.reduceLT, Int.reduceNeg, Int.reduceEq, Nat.reduceMul, Nat.reduceAdd, Nat.reduceLeDiff, reduceCtorEq]
      refine Call_new (own := true) (obF l) (h87 l hn) (by simp [ExpOk, AV.pure]) (fl_pure _) (.inl rfl) (fun _ => .inl trivial) ?_
      simp -dsimp only [impA, Option.getD_some, Nat.sub_self, obF, w2, go_sem, ↓reduceIte, Nat.reduceEqDiff, Int.reduceLE, Int.reduceLT, Int.reduceNeg, Int.reduceEq, Nat.reduceMul, Nat.reduceAdd, Nat.reduceLeDiff, reduceCtorEq]
      refine Call_x (hc120 l (.r 45 0) 2 (pos n l) True _ _ _ (by rw [hup_at, if_pos rfl]) hlt hn fun q' => ?_)
      by_cases k2 : k = 2
      · have f2 : (k == 2) = true := by simp [k2]
        simp -dsimp only [f2, go_sem, ↓reduceIte, Nat.reduceEqDiff, Int.reduceLE, Int.reduceLT, Int.reduceNeg, Int.reduceEq, Nat.reduceMul, Nat.reduceAdd, Nat.reduceLeDiff, reduceCtorEq]
        have hs2 : Srt (l.eraseIdx (pos n l)) := List.Pairwise.sublist (List.eraseIdx_sublist _ _) hs
        refine Call_val (own := true) (v := .dat 2 (fl (put (l.eraseIdx (pos n l)) t (l.getD (pos n l) ([], [])).2))) ?_ ?_ (.inl rfl) ?_
        · have := h119 (l.eraseIdx (pos n l)) t (l.getD (pos n l) ([], [])).2 hs2 (by omega)
          simpa [expL, expA, cur, hup_at, hsub, List.idxOf?] using this
        · simp [ExpOk, AV.pure, cur, hup_at, List.idxOf?, fl_len, hel, hpu]
        simp -dsimp only [go_sem, ↓reduceIte, Nat.reduceEqDiff, Int.reduceLE, Int.reduceLT, Int.reduceNeg, Int.reduceEq, Nat.reduceMul, Nat.reduceAdd, Nat.reduceLeDiff, reduceCtorEq]
        refine Fin_val ?_ ?_
        · simp [resV, upd_at, retA, retL, k2, hcut, ho]
        · simp [resV, upd_at, ResOk, ResL]
      · have f2 : (k == 2) = false := by simp [k2]
        simp -dsimp only [f2, go_sem, ↓reduceIte, Nat.reduceEqDiff, Int.reduceLE, Int.reduceLT, Int.reduceNeg, Int.reduceEq, Nat.reduceMul, Nat.reduceAdd, Nat.reduceLeDiff, reduceCtorEq]
        refine Fin_val ?_ ?_
        · simp [resV, upd_at, retA, retL, k1, k2, hcut, cur, hup_at, hsub, List.idxOf?]
        · simp [resV, upd_at, ResOk, ResL, cur, hup_at, hpu, fl_len, hel, Rid.isP]; omega
end FrA

