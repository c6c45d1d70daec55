/- Drawn texts, hurt; drawn rows and their texts. Walked. No condition. -/
import Derived.Test.YtdlaklminigoaaaDoorAmDrA
set_option linter.all false
set_option linter.unusedSimpArgs false
set_option linter.unusedVariables false
set_option linter.deprecated false
/-! DrB -/
open Go Go.AM
namespace FrA
open Go.Proofs
set_option maxRecDepth 100000
set_option linter.unusedSimpArgs false
def txs6h : List (List UInt8) := [[97], [48], [39], [49], [37], [32]]
def txs3h : List (List UInt8) := [[97], [10], [49]]
theorem txs6h_len : ∀ i, i < 6 → (txs6h.getD i []).length = 1 := by decide
theorem txs3h_len : ∀ i, i < 3 → (txs3h.getD i []).length = 1 := by decide
def hurtΦ (code : List UInt8) (n : Nat) (r : AV) (o' : List Ob) : Prop := ∃ p', p' ≤ code.length ∧ o' = [rdO code p'] ∧ ∃ t : List UInt8, r = .s t ∧ t.length ≤ n + 1
theorem h23 (code : List UInt8) (p : Nat) (s : List UInt8) (hp : p ≤ code.length) (hc : code.length ≤ 1048576) (hs : s.length ≤ 1000000) : HC 23 [.ptr (.p 0) 0 0 0, .s s] [rdO code p] false (hurtΦ code s.length) := by
  refine holds_of (c := Tryd.f23.body.getD .skip) (k := k23.1) (ts := [4]) HOk mixedT hintT Tryd.func23 (by kernel_rfl) (by kernel_rfl) (by kernel_rfl) k23.2 (by kernel_rfl) (le_of 2 _ (by kernel_rfl)) ?_
  have d6 := h14 code p 6 hp hc (by omega)
  simp -dsimp only [k23, go_sem, ↓reduceIte, Nat.reduceEqDiff, Int.reduceLE, Int.reduceLT, Int.reduceNeg, Int.reduceEq, Int.reduceBEq, Int.reduceBNe, Nat.reduceMul, Nat.reduceAdd, Nat.reduceLeDiff, reduceCtorEq, Int.reduceToNat]
  refine Call_rd (rd_obj code p) d6 (fun a ha => by simp at ha; subst ha; exact ⟨rfl, rfl⟩) ?_
  have hp1 := blw_le 6 hp
  have hl := blw_lt code p 6 (by omega)
  generalize (blw code p 6).2 = p1 at hp1
  generalize (blw code p 6).1 = m at hl
  have bF : ∀ k : Nat, m ≠ k → ((m : Int) == (k : Int)) = false := fun k hk => by simp; omega
  have bT : ∀ k : Nat, m = k → ((m : Int) == (k : Int)) = true := fun k hk => by simp [hk]
  have fin : ∀ (t : List UInt8) (p' : Nat) (g : Slots) (h : Heap), p' ≤ code.length → t.length ≤ s.length + 1 → g 4 = .s t → h (.p 0) = some (rdV code p' 0 true) → FinQ [4] [rdO code p] false (hurtΦ code s.length) g h := fun t p' g h q1 q2 q3 q4 =>
    rd_finQ (p' := p') (.s t) q4 (by simp [resV, q3, retA]) (by simp [resV, q3, ResOk]) ⟨p', q1, rfl, t, rfl, q2⟩
  by_cases n1 : m = 1
  · have b1 : ((m : Int) == 1) = true := bT 1 n1
    have w1 : IntKind.i64.wrap ((s.length : Int) + 1) = ((s.length + 1 : Nat) : Int) := by rw [wr (by omega) (by omega)]; rfl
    simp -dsimp only [b1, w1, go_sem, ↓reduceIte, Nat.reduceEqDiff, Int.reduceLE, Int.reduceLT, Int.reduceNeg, Int.reduceEq, Int.reduceBEq, Int.reduceBNe, Nat.reduceMul, Nat.reduceAdd, Nat.reduceLeDiff, reduceCtorEq, Int.reduceToNat]
    refine Call_rds (Φ := fun r _ => ∃ x : Nat, r = i64 x ∧ (x < s.length + 1 ∨ x = 0)) (by simp only [hup_at, newObs, ↓reduceIte, Nat.reduceEqDiff, reduceCtorEq, Rid.r.injEq, Rid.l.injEq, Nat.reduceAdd, Nat.zero_add, and_self, and_true, and_false, false_and, true_and] <;> rfl) (h14b code p1 (s.length + 1) hp1 hc (by omega)) (fun a ha => by simp at ha; subst ha; exact ⟨rfl, rfl⟩) ?_
    rintro ret p' hp' ⟨x, rfl, hx⟩
    refine ⟨by simp [impA], ?_⟩
    simp -dsimp only [go_sem, ↓reduceIte, Nat.reduceEqDiff, Int.reduceLE, Int.reduceLT, Int.reduceNeg, Int.reduceEq, Int.reduceBEq, Int.reduceBNe, Nat.reduceMul, Nat.reduceAdd, Nat.reduceLeDiff, reduceCtorEq, Int.reduceToNat]
    refine VK_p (by first | omega | (simp only [List.length_cons, List.length_nil, List.length_append]; omega) | (refine ⟨by omega, by omega, ?_⟩; first | omega | (simp only [List.length_cons, List.length_nil, List.length_append]; omega)) | (simp; omega) | (simp; done)) ?_
    simp -dsimp only [go_sem, ↓reduceIte, Nat.reduceEqDiff, Int.reduceLE, Int.reduceLT, Int.reduceNeg, Int.reduceEq, Int.reduceBEq, Int.reduceBNe, Nat.reduceMul, Nat.reduceAdd, Nat.reduceLeDiff, reduceCtorEq, Int.reduceToNat]
    refine fin _ p' _ _ hp' ?_ (by simp only [upd_at, ↓reduceIte, Nat.reduceEqDiff] <;> rfl) (by simp only [hup_at, newObs, ↓reduceIte, Nat.reduceEqDiff, reduceCtorEq, Rid.r.injEq, Rid.l.injEq, Nat.reduceAdd, Nat.zero_add, and_self, and_true, and_false, false_and, true_and] <;> rfl); simp; omega
  have b1 : ((m : Int) == 1) = false := bF 1 n1
  by_cases n2 : m = 2
  · have b2 : ((m : Int) == 2) = true := bT 2 n2
    by_cases h0 : 0 < s.length
    · have c0 : (s.length : Int) > 0 := by omega
      simp -dsimp only [b1, b2, c0, go_sem, ↓reduceIte, Nat.reduceEqDiff, Int.reduceLE, Int.reduceLT, Int.reduceNeg, Int.reduceEq, Int.reduceBEq, Int.reduceBNe, Nat.reduceMul, Nat.reduceAdd, Nat.reduceLeDiff, reduceCtorEq, Int.reduceToNat]
      refine Call_rds (Φ := fun r _ => ∃ x : Nat, r = i64 x ∧ (x < s.length ∨ x = 0)) (by simp only [hup_at, newObs, ↓reduceIte, Nat.reduceEqDiff, reduceCtorEq, Rid.r.injEq, Rid.l.injEq, Nat.reduceAdd, Nat.zero_add, and_self, and_true, and_false, false_and, true_and] <;> rfl) (h14b code p1 s.length hp1 hc (by omega)) (fun a ha => by simp at ha; subst ha; exact ⟨rfl, rfl⟩) ?_
      rintro ret p' hp' ⟨x, rfl, hx⟩
      refine ⟨by simp [impA], ?_⟩
      have hx' : x < s.length := by omega
      have w1 : IntKind.i64.wrap ((x : Int) + 1) = ((x + 1 : Nat) : Int) := by rw [wr (by omega) (by omega)]; rfl
      have dd := h14 code p' 6 hp' hc (by omega)
      have hl6 := blw_lt code p' 6 (by omega)
      have hp6 := blw_le 6 hp'
      generalize (blw code p' 6).2 = p6 at dd hp6
      have g6 := row_get (l := txs6h) (i := (blw code p' 6).1) hl6
      have l6 := txs6h_len _ hl6
      generalize (blw code p' 6).1 = i6 at dd hl6 g6 l6
      generalize txs6h.getD i6 [] = tx at g6 l6
      simp only [txs6h, List.map_cons, List.map_nil] at g6
      have n6 : ((i6 : Nat) : Int) < 6 := by omega
      simp -dsimp only [go_sem, ↓reduceIte, Nat.reduceEqDiff, Int.reduceLE, Int.reduceLT, Int.reduceNeg, Int.reduceEq, Int.reduceBEq, Int.reduceBNe, Nat.reduceMul, Nat.reduceAdd, Nat.reduceLeDiff, reduceCtorEq, Int.reduceToNat]
      refine VK_p (by first | omega | (simp only [List.length_cons, List.length_nil, List.length_append]; omega) | (refine ⟨by omega, by omega, ?_⟩; first | omega | (simp only [List.length_cons, List.length_nil, List.length_append]; omega)) | (simp; omega) | (simp; done)) ?_
      simp -dsimp only [chunk, go_sem, ↓reduceIte, Nat.reduceEqDiff, Int.reduceLE, Int.reduceLT, Int.reduceNeg, Int.reduceEq, Int.reduceBEq, Int.reduceBNe, Nat.reduceMul, Nat.reduceAdd, Nat.reduceLeDiff, reduceCtorEq, Int.reduceToNat]
      refine Callh_rd rfl (by simp only [hup_at, newObs, ↓reduceIte, Nat.reduceEqDiff, reduceCtorEq, Rid.r.injEq, Rid.l.injEq, Nat.reduceAdd, Nat.zero_add, and_self, and_true, and_false, false_and, true_and] <;> rfl) dd (fun a ha => by simp at ha; subst ha; exact ⟨rfl, rfl⟩) ?_
      simp -dsimp only [g6, n6, go_sem, ↓reduceIte, Nat.reduceEqDiff, Int.reduceLE, Int.reduceLT, Int.reduceNeg, Int.reduceEq, Int.reduceBEq, Int.reduceBNe, Nat.reduceMul, Nat.reduceAdd, Nat.reduceLeDiff, reduceCtorEq, Int.reduceToNat]
      refine VK_p (by first | omega | (simp only [List.length_cons, List.length_nil, List.length_append]; omega) | (refine ⟨by omega, by omega, ?_⟩; first | omega | (simp only [List.length_cons, List.length_nil, List.length_append]; omega)) | (simp; omega) | (simp; done)) ?_
      simp -dsimp only [g6, go_sem, ↓reduceIte, Nat.reduceEqDiff, Int.reduceLE, Int.reduceLT, Int.reduceNeg, Int.reduceEq, Int.reduceBEq, Int.reduceBNe, Nat.reduceMul, Nat.reduceAdd, Nat.reduceLeDiff, reduceCtorEq, Int.reduceToNat]
      refine VK_p (by first | omega | (simp only [List.length_cons, List.length_nil, List.length_append]; omega) | (refine ⟨by omega, by omega, ?_⟩; first | omega | (simp only [List.length_cons, List.length_nil, List.length_append]; omega)) | (simp; omega) | (simp; done)) ?_
      simp -dsimp only [w1, go_sem, ↓reduceIte, Nat.reduceEqDiff, Int.reduceLE, Int.reduceLT, Int.reduceNeg, Int.reduceEq, Int.reduceBEq, Int.reduceBNe, Nat.reduceMul, Nat.reduceAdd, Nat.reduceLeDiff, reduceCtorEq, Int.reduceToNat]
      refine VK_p (by first | omega | (simp only [List.length_cons, List.length_nil, List.length_append]; omega) | (refine ⟨by omega, by omega, ?_⟩; first | omega | (simp only [List.length_cons, List.length_nil, List.length_append]; omega)) | (simp; omega) | (simp; done)) ?_
      simp -dsimp only [go_sem, ↓reduceIte, Nat.reduceEqDiff, Int.reduceLE, Int.reduceLT, Int.reduceNeg, Int.reduceEq, Int.reduceBEq, Int.reduceBNe, Nat.reduceMul, Nat.reduceAdd, Nat.reduceLeDiff, reduceCtorEq, Int.reduceToNat]
      refine VK_p (by first | omega | (simp only [List.length_cons, List.length_nil, List.length_append]; omega) | (refine ⟨by omega, by omega, ?_⟩; first | omega | (simp only [List.length_cons, List.length_nil, List.length_append]; omega)) | (simp; omega) | (simp; done)) ?_
      simp -dsimp only [go_sem, ↓reduceIte, Nat.reduceEqDiff, Int.reduceLE, Int.reduceLT, Int.reduceNeg, Int.reduceEq, Int.reduceBEq, Int.reduceBNe, Nat.reduceMul, Nat.reduceAdd, Nat.reduceLeDiff, reduceCtorEq, Int.reduceToNat]
      refine fin _ p6 _ _ hp6 ?_ (by simp only [upd_at, ↓reduceIte, Nat.reduceEqDiff] <;> rfl) (by simp only [hup_at, newObs, ↓reduceIte, Nat.reduceEqDiff, reduceCtorEq, Rid.r.injEq, Rid.l.injEq, Nat.reduceAdd, Nat.zero_add, and_self, and_true, and_false, false_and, true_and] <;> rfl); simp; omega
    · have c0 : ¬ (s.length : Int) > 0 := by omega
      simp -dsimp only [b1, b2, c0, go_sem, ↓reduceIte, Nat.reduceEqDiff, Int.reduceLE, Int.reduceLT, Int.reduceNeg, Int.reduceEq, Int.reduceBEq, Int.reduceBNe, Nat.reduceMul, Nat.reduceAdd, Nat.reduceLeDiff, reduceCtorEq, Int.reduceToNat]
      refine fin _ p1 _ _ hp1 ?_ (by simp only [upd_at, ↓reduceIte, Nat.reduceEqDiff] <;> rfl) (by simp only [hup_at, newObs, ↓reduceIte, Nat.reduceEqDiff, reduceCtorEq, Rid.r.injEq, Rid.l.injEq, Nat.reduceAdd, Nat.zero_add, and_self, and_true, and_false, false_and, true_and] <;> rfl); omega
  have b2 : ((m : Int) == 2) = false := bF 2 n2
  by_cases n3 : m = 3
  · have b3 : ((m : Int) == 3) = true := bT 3 n3
    have dd := h14 code p1 3 hp1 hc (by omega)
    have hl3 := blw_lt code p1 3 (by omega)
    have hp3 := blw_le 3 hp1
    generalize (blw code p1 3).2 = p3 at dd hp3
    have g3 := row_get (l := txs3h) (i := (blw code p1 3).1) hl3
    have l3 := txs3h_len _ hl3
    generalize (blw code p1 3).1 = i3 at dd hl3 g3 l3
    generalize txs3h.getD i3 [] = tx at g3 l3
    simp only [txs3h, List.map_cons, List.map_nil] at g3
    have n3' : ((i3 : Nat) : Int) < 3 := by omega
    simp -dsimp only [b1, b2, b3, chunk, go_sem, ↓reduceIte, Nat.reduceEqDiff, Int.reduceLE, Int.reduceLT, Int.reduceNeg, Int.reduceEq, Int.reduceBEq, Int.reduceBNe, Nat.reduceMul, Nat.reduceAdd, Nat.reduceLeDiff, reduceCtorEq, Int.reduceToNat]
    refine Call_rd (by simp only [hup_at, newObs, ↓reduceIte, Nat.reduceEqDiff, reduceCtorEq, Rid.r.injEq, Rid.l.injEq, Nat.reduceAdd, Nat.zero_add, and_self, and_true, and_false, false_and, true_and] <;> rfl) dd (fun a ha => by simp at ha; subst ha; exact ⟨rfl, rfl⟩) ?_
    simp -dsimp only [g3, n3', go_sem, ↓reduceIte, Nat.reduceEqDiff, Int.reduceLE, Int.reduceLT, Int.reduceNeg, Int.reduceEq, Int.reduceBEq, Int.reduceBNe, Nat.reduceMul, Nat.reduceAdd, Nat.reduceLeDiff, reduceCtorEq, Int.reduceToNat]
    refine VK_p (by first | omega | (simp only [List.length_cons, List.length_nil, List.length_append]; omega) | (refine ⟨by omega, by omega, ?_⟩; first | omega | (simp only [List.length_cons, List.length_nil, List.length_append]; omega)) | (simp; omega) | (simp; done)) ?_
    simp -dsimp only [g3, go_sem, ↓reduceIte, Nat.reduceEqDiff, Int.reduceLE, Int.reduceLT, Int.reduceNeg, Int.reduceEq, Int.reduceBEq, Int.reduceBNe, Nat.reduceMul, Nat.reduceAdd, Nat.reduceLeDiff, reduceCtorEq, Int.reduceToNat]
    refine VK_p (by first | omega | (simp only [List.length_cons, List.length_nil, List.length_append]; omega) | (refine ⟨by omega, by omega, ?_⟩; first | omega | (simp only [List.length_cons, List.length_nil, List.length_append]; omega)) | (simp; omega) | (simp; done)) ?_
    simp -dsimp only [go_sem, ↓reduceIte, Nat.reduceEqDiff, Int.reduceLE, Int.reduceLT, Int.reduceNeg, Int.reduceEq, Int.reduceBEq, Int.reduceBNe, Nat.reduceMul, Nat.reduceAdd, Nat.reduceLeDiff, reduceCtorEq, Int.reduceToNat]
    refine fin _ p3 _ _ hp3 ?_ (by simp only [upd_at, ↓reduceIte, Nat.reduceEqDiff] <;> rfl) (by simp only [hup_at, newObs, ↓reduceIte, Nat.reduceEqDiff, reduceCtorEq, Rid.r.injEq, Rid.l.injEq, Nat.reduceAdd, Nat.zero_add, and_self, and_true, and_false, false_and, true_and] <;> rfl); simp; omega
  · have b3 : ((m : Int) == 3) = false := bF 3 n3
    simp -dsimp only [b1, b2, b3, go_sem, ↓reduceIte, Nat.reduceEqDiff, Int.reduceLE, Int.reduceLT, Int.reduceNeg, Int.reduceEq, Int.reduceBEq, Int.reduceBNe, Nat.reduceMul, Nat.reduceAdd, Nat.reduceLeDiff, reduceCtorEq, Int.reduceToNat]
    refine fin _ p1 _ _ hp1 ?_ (by simp only [upd_at, ↓reduceIte, Nat.reduceEqDiff] <;> rfl) (by simp only [hup_at, newObs, ↓reduceIte, Nat.reduceEqDiff, reduceCtorEq, Rid.r.injEq, Rid.l.injEq, Nat.reduceAdd, Nat.zero_add, and_self, and_true, and_false, false_and, true_and] <;> rfl); omega
/-- What a new reader is. -/
theorem rd_new {o : Rid} {h : Heap} {code : List UInt8} {c : Nat} : (hup h o { ({ rdO code 0 with ver := 1 } : Ob) with ver := c }) o = some (rdV code 0 c true) := by simp [hup_at, rdO, rdV]
def rowΦ (n : Nat) (r : AV) (o' : List Ob) : Prop := ∃ l : List Vl, r = .dat 3 (vl l) ∧ l.length ≤ n ∧ o' = []
theorem rText_len (l : List Vl) : (rText l).length ≤ 1000 := by
  unfold rText
  split
  · rename_i h
    have h1 := rowsB_len l
    have h2 := itoa_len20 (n := l.length) (by have := h.1; omega)
    have h3 := h.1
    rw [rRaw_eq, List.length_append]; omega
  · simp
theorem h5 (code : List UInt8) (hc : code.length ≤ 1048576) : HC 5 [.dat 1 (bts code)] [] false (rowΦ 6) := by
  refine holds_of (c := Tryd.f5.body.getD .skip) (k := k5.1) (ts := [2]) HOk mixedT hintT Tryd.func5 (by kernel_rfl) (by kernel_rfl) (by kernel_rfl) k5.2 (by kernel_rfl) (le_of 1 _ (by kernel_rfl)) ?_
  simp -dsimp only [k5, go_sem, ↓reduceIte, Nat.reduceEqDiff, Int.reduceLE, Int.reduceLT, Int.reduceNeg, Int.reduceEq, Int.reduceBEq, Int.reduceBNe, Nat.reduceMul, Nat.reduceAdd, Nat.reduceLeDiff, reduceCtorEq, Int.reduceToNat]
  refine Call_new (own := false) _ (h12 code) (by simp [ExpOk, AV.pure]) (rd_pure code 0) (.inr (by simp [AV.rooted])) (fun e => by cases e) ?_
  simp -dsimp only [impA, Option.getD_some, Nat.sub_self, go_sem, ↓reduceIte, Nat.reduceEqDiff, Int.reduceLE, Int.reduceLT, Int.reduceNeg, Int.reduceEq, Int.reduceBEq, Int.reduceBNe, Nat.reduceMul, Nat.reduceAdd, Nat.reduceLeDiff, reduceCtorEq, Int.reduceToNat]
  refine Call_rd rd_new (h14 code 0 5 (by omega) hc (by omega)) (fun a ha => by simp at ha; subst ha; exact ⟨rfl, rfl⟩) ?_
  have hp1 := blw_le (code := code) (p := 0) 5 (by omega)
  have hl := blw_lt code 0 5 (by omega)
  generalize (blw code 0 5).2 = p1 at hp1
  generalize (blw code 0 5).1 = m at hl
  simp -dsimp only [go_sem, ↓reduceIte, Nat.reduceEqDiff, Int.reduceLE, Int.reduceLT, Int.reduceNeg, Int.reduceEq, Int.reduceBEq, Int.reduceBNe, Nat.reduceMul, Nat.reduceAdd, Nat.reduceLeDiff, reduceCtorEq, Int.reduceToNat]
  refine Call_rdn (Φ := fun r p' n => ∃ l : List Vl, l.length = m ∧ (∀ v ∈ l, vB v) ∧ r = .sl (.p 1) 1 0 m (capE m) ∧ n = vO l) (by simp only [hup_at, newObs, ↓reduceIte, Nat.reduceEqDiff, reduceCtorEq, Rid.r.injEq, Rid.l.injEq, Nat.reduceAdd, Nat.zero_add, and_self, and_true, and_false, false_and, true_and] <;> rfl) (by simp) (h13 code p1 m hp1 hc (by omega)) (fun a ha => by simp at ha; subst ha; exact ⟨rfl, rfl⟩) ?_
  rintro ret p2 n hp2 ⟨l, hlm, hb, rfl, rfl⟩
  refine ⟨vl_pure l, ?_⟩
  have d12 := h15 code p2 12 hp2 hc (by omega) (by omega)
  simp -dsimp only [impA, Nat.sub_self, vO, go_sem, ↓reduceIte, Nat.reduceEqDiff, Int.reduceLE, Int.reduceLT, Int.reduceNeg, Int.reduceEq, Int.reduceBEq, Int.reduceBNe, Nat.reduceMul, Nat.reduceAdd, Nat.reduceLeDiff, reduceCtorEq, Int.reduceToNat]
  refine Call_rd (by simp only [hup_at, newObs, ↓reduceIte, Nat.reduceEqDiff, reduceCtorEq, Rid.r.injEq, Rid.l.injEq, Nat.reduceAdd, Nat.zero_add, and_self, and_true, and_false, false_and, true_and] <;> rfl) d12 (fun a ha => by simp at ha; subst ha; exact ⟨rfl, rfl⟩) ?_
  cases ho : onc code p2 12
  · simp -dsimp only [go_sem, ↓reduceIte, Nat.reduceEqDiff, Int.reduceLE, Int.reduceLT, Int.reduceNeg, Int.reduceEq, Int.reduceBEq, Int.reduceBNe, Nat.reduceMul, Nat.reduceAdd, Nat.reduceLeDiff, reduceCtorEq, Int.reduceToNat]
    refine FinA.q (r := .dat 3 (vl l)) (FinA_val (by simp [resV, upd_at, retA, cur, hup_at]; rw [← hlm]; exact sub_vl l) ?_) ⟨l, rfl, by omega, rfl⟩
    simp [resV, upd_at, ResOk, cur, hup_at, Rid.isP, vl_pure, vl_len, hlm]
  · have fx : AM.Flat [[AV.i .i64 3, .i .i64 0, .s []]] := vl_flat [(3, 0, [])]
    have gx : AM.Good [[AV.i .i64 3, .i .i64 0, .s []]] 3 := vl_good [(3, 0, [])]
    have e1 : vl l ++ [[AV.i .i64 3, .i .i64 0, .s []]] = vl (l ++ [(3, 0, [])]) := by rw [vl_app]; rfl
    simp -dsimp only [vl_len, hlm, go_sem, ↓reduceIte, Nat.reduceEqDiff, Int.reduceLE, Int.reduceLT, Int.reduceNeg, Int.reduceEq, Int.reduceBEq, Int.reduceBNe, Nat.reduceMul, Nat.reduceAdd, Nat.reduceLeDiff, reduceCtorEq, Int.reduceToNat]
    refine EK_p ⟨⟨fun _ => fx, gx⟩, by unfold bigOk; omega, by omega⟩ ?_
    simp -dsimp only [e1, go_sem, ↓reduceIte, Nat.reduceEqDiff, Int.reduceLE, Int.reduceLT, Int.reduceNeg, Int.reduceEq, Int.reduceBEq, Int.reduceBNe, Nat.reduceMul, Nat.reduceAdd, Nat.reduceLeDiff, reduceCtorEq, Int.reduceToNat]
    refine FinA.q (r := .dat 3 (vl (l ++ [(3, 0, [])]))) (FinA_val ?_ ?_) ⟨_, rfl, by simp; omega, rfl⟩
    · simp only [resV, upd_at, retA, cur, hup_at, ↓reduceIte, List.idxOf?_nil]
      have := sub_vl (l ++ [(3, 0, [])])
      simp only [List.length_append, List.length_cons, List.length_nil, Nat.zero_add, hlm] at this
      rw [this]
    · simp [resV, upd_at, ResOk, cur, hup_at, Rid.isP, vl_pure, vl_len, hlm]
def strΦ (n : Nat) (r : AV) (o' : List Ob) : Prop := ∃ t : List UInt8, r = .s t ∧ t.length ≤ n ∧ o' = []
theorem h10 (code : List UInt8) (hc : code.length ≤ 1048576) : HC 10 [.dat 1 (bts code)] [] false (strΦ 1001) := by
  refine holds_of (c := Tryd.f10.body.getD .skip) (k := k10.1) (ts := [2]) HOk mixedT hintT Tryd.func10 (by kernel_rfl) (by kernel_rfl) (by kernel_rfl) k10.2 (by kernel_rfl) (le_of 1 _ (by kernel_rfl)) ?_
  simp -dsimp only [k10, go_sem, ↓reduceIte, Nat.reduceEqDiff, Int.reduceLE, Int.reduceLT, Int.reduceNeg, Int.reduceEq, Int.reduceBEq, Int.reduceBNe, Nat.reduceMul, Nat.reduceAdd, Nat.reduceLeDiff, reduceCtorEq, Int.reduceToNat]
  refine Call_new (own := false) _ (h12 code) (by simp [ExpOk, AV.pure]) (rd_pure code 0) (.inr (by simp [AV.rooted])) (fun e => by cases e) ?_
  simp -dsimp only [impA, Option.getD_some, Nat.sub_self, go_sem, ↓reduceIte, Nat.reduceEqDiff, Int.reduceLE, Int.reduceLT, Int.reduceNeg, Int.reduceEq, Int.reduceBEq, Int.reduceBNe, Nat.reduceMul, Nat.reduceAdd, Nat.reduceLeDiff, reduceCtorEq, Int.reduceToNat]
  refine Call_rd rd_new (h14 code 0 4 (by omega) hc (by omega)) (fun a ha => by simp at ha; subst ha; exact ⟨rfl, rfl⟩) ?_
  have hp1 := blw_le (code := code) (p := 0) 4 (by omega)
  have hl := blw_lt code 0 4 (by omega)
  generalize (blw code 0 4).2 = p1 at hp1
  generalize (blw code 0 4).1 = m at hl
  simp -dsimp only [go_sem, ↓reduceIte, Nat.reduceEqDiff, Int.reduceLE, Int.reduceLT, Int.reduceNeg, Int.reduceEq, Int.reduceBEq, Int.reduceBNe, Nat.reduceMul, Nat.reduceAdd, Nat.reduceLeDiff, reduceCtorEq, Int.reduceToNat]
  refine Call_rdn (Φ := fun r p' n => ∃ l : List Vl, l.length = m ∧ (∀ v ∈ l, vB v) ∧ r = .sl (.p 1) 1 0 m (capE m) ∧ n = vO l) (by simp only [hup_at, newObs, ↓reduceIte, Nat.reduceEqDiff, reduceCtorEq, Rid.r.injEq, Rid.l.injEq, Nat.reduceAdd, Nat.zero_add, and_self, and_true, and_false, false_and, true_and] <;> rfl) (by simp) (h13 code p1 m hp1 hc (by omega)) (fun a ha => by simp at ha; subst ha; exact ⟨rfl, rfl⟩) ?_
  rintro ret p2 n hp2 ⟨l, hlm, hb, rfl, rfl⟩
  refine ⟨vl_pure l, ?_⟩
  have d8 := h8 l (by omega)
  have hrl := rText_len l
  have sv := sub_vl l
  rw [hlm] at sv
  have d2 := h15 code p2 2 hp2 hc (by omega) (by omega)
  have hp3 := blw_le 2 hp2
  generalize (blw code p2 2).2 = p3 at d2 hp3
  simp -dsimp only [impA, Nat.sub_self, vO, go_sem, ↓reduceIte, Nat.reduceEqDiff, Int.reduceLE, Int.reduceLT, Int.reduceNeg, Int.reduceEq, Int.reduceBEq, Int.reduceBNe, Nat.reduceMul, Nat.reduceAdd, Nat.reduceLeDiff, reduceCtorEq, Int.reduceToNat]
  refine Call_val (own := true) (v := .s (rText l)) (by simpa [expL, expA, cur, hup_at, List.idxOf?_cons, List.idxOf?_nil, objs_l, objs_r, objs_p, sv, vl_pure, vl_len, hlm] using d8) (by simp [ExpOk, AV.pure, cur, hup_at, List.idxOf?_cons, List.idxOf?_nil, objs_l, objs_r, objs_p, sv, vl_pure, vl_len, hlm]) (.inl rfl) ?_
  simp -dsimp only [go_sem, ↓reduceIte, Nat.reduceEqDiff, Int.reduceLE, Int.reduceLT, Int.reduceNeg, Int.reduceEq, Int.reduceBEq, Int.reduceBNe, Nat.reduceMul, Nat.reduceAdd, Nat.reduceLeDiff, reduceCtorEq, Int.reduceToNat]
  refine Call_rd (by simp only [hup_at, newObs, ↓reduceIte, Nat.reduceEqDiff, reduceCtorEq, Rid.r.injEq, Rid.l.injEq, Nat.reduceAdd, Nat.zero_add, and_self, and_true, and_false, false_and, true_and] <;> rfl) d2 (fun a ha => by simp at ha; subst ha; exact ⟨rfl, rfl⟩) ?_
  cases ho : onc code p2 2
  · simp -dsimp only [go_sem, ↓reduceIte, Nat.reduceEqDiff, Int.reduceLE, Int.reduceLT, Int.reduceNeg, Int.reduceEq, Int.reduceBEq, Int.reduceBNe, Nat.reduceMul, Nat.reduceAdd, Nat.reduceLeDiff, reduceCtorEq, Int.reduceToNat]
    refine Call_rds (Φ := fun r _ => ∃ t : List UInt8, r = .s t ∧ t.length ≤ (rText l).length + 1) (by simp only [hup_at, newObs, ↓reduceIte, Nat.reduceEqDiff, reduceCtorEq, Rid.r.injEq, Rid.l.injEq, Nat.reduceAdd, Nat.zero_add, and_self, and_true, and_false, false_and, true_and] <;> rfl) (h23 code p3 (rText l) hp3 hc (by omega)) (fun a ha => by simp at ha; subst ha; exact ⟨rfl, rfl⟩) ?_
    rintro ret p4 hp4 ⟨t, rfl, ht⟩
    refine ⟨by simp [impA], ?_⟩
    simp -dsimp only [go_sem, ↓reduceIte, Nat.reduceEqDiff, Int.reduceLE, Int.reduceLT, Int.reduceNeg, Int.reduceEq, Int.reduceBEq, Int.reduceBNe, Nat.reduceMul, Nat.reduceAdd, Nat.reduceLeDiff, reduceCtorEq, Int.reduceToNat]
    exact FinA.q (r := .s t) (FinA_val (by simp [resV, upd_at, retA]) (by simp [resV, upd_at, ResOk])) ⟨t, rfl, by omega, rfl⟩
  · simp -dsimp only [go_sem, ↓reduceIte, Nat.reduceEqDiff, Int.reduceLE, Int.reduceLT, Int.reduceNeg, Int.reduceEq, Int.reduceBEq, Int.reduceBNe, Nat.reduceMul, Nat.reduceAdd, Nat.reduceLeDiff, reduceCtorEq, Int.reduceToNat]
    exact FinA.q (r := .s (rText l)) (FinA_val (by simp [resV, upd_at, retA]) (by simp [resV, upd_at, ResOk])) ⟨_, rfl, by omega, rfl⟩
end FrA

