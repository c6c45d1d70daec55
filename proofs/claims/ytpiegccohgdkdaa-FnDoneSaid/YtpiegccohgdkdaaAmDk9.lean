/- Power is lost: plain and walked. No condition. -/
import Derived.Test.YtpiegccohgdkdaaAmDk8
set_option linter.all false
set_option linter.unusedSimpArgs false
set_option linter.unusedVariables false
set_option linter.deprecated false
/-! DkCr -/
open Go Go.AM
namespace FrA
open Go.Proofs
set_option maxRecDepth 100000
set_option linter.unusedSimpArgs false
theorem put_cons (f : File) (l : List File) (n d : List UInt8) : put (f :: l) n d = if cmpB f.1 n < 0 then f :: put l n d else if cmpB f.1 n = 0 then (n, d) :: l else (n, d) :: f :: l := by
  unfold put
  simp only [has, pos]
  by_cases h1 : cmpB f.1 n < 0
  · simp only [h1, if_true]; split <;> simp
  · simp only [h1, if_false]
    by_cases h2 : cmpB f.1 n = 0 <;> simp [h2]
theorem put_srt (n d : List UInt8) : ∀ (l : List File), Srt l → Srt (put l n d)
  | [], _ => by simp [put, has, pos, Srt]
  | f :: l, hs => by
    rw [put_cons]
    obtain ⟨h1, h2⟩ := List.pairwise_cons.1 hs
    split
    · rename_i hlt
      refine List.pairwise_cons.2 ⟨fun g hg => ?_, put_srt n d l h2⟩
      rcases mem_put hg with hg | rfl
      · exact h1 g hg
      · exact hlt
    · split
      · rename_i _ he
        refine List.pairwise_cons.2 ⟨fun g hg => ?_, h2⟩
        have := h1 g hg; rw [cmpB_eq _ _ he] at this; exact this
      · rename_i hlt hne
        have : cmpB n f.1 < 0 := by have := cmpB_flip f.1 n; omega
        refine List.pairwise_cons.2 ⟨fun g hg => ?_, hs⟩
        rcases List.mem_cons.1 hg with rfl | hg
        · exact this
        · exact cmpB_trans _ _ _ this (h1 g hg)
theorem cut_srt {l : List File} {n : List UInt8} (hs : Srt l) : Srt (cut l n) := by
  unfold cut; split
  · exact List.Pairwise.sublist (List.eraseIdx_sublist _ _) hs
  · exact hs
theorem act_srt {l : List File} {o : Dop} (hs : Srt l) : Srt (act l o) := by
  unfold act
  split
  · exact put_srt _ _ _ hs
  · split
    · exact hs
    · split
      · exact put_srt _ _ _ (cut_srt hs)
      · exact cut_srt hs
/-- Whole numbers as a row. -/
def il (l : List Int) : List (List AV) := l.map fun k => [.i .i64 k]
theorem il_len (l : List Int) : (il l).length = l.length := by simp [il]
theorem il_get {l : List Int} {i : Nat} (h : i < l.length) : (il l)[i]? = some [.i .i64 (l.getD i 0)] := by simp [il, List.getElem?_eq_getElem h]
theorem il_pure (l : List Int) : Pure (il l) := by
  intro e he c hc
  simp only [il, List.mem_map] at he
  obtain ⟨t, _, rfl⟩ := he
  simp at hc; subst hc; rfl
theorem il_flat (l : List Int) : Flat (il l) := by
  intro e he c hc
  simp only [il, List.mem_map] at he
  obtain ⟨t, _, rfl⟩ := he
  simp at hc; subst hc; rfl
theorem il_good (l : List Int) : Good (il l) 1 := by
  intro e he
  simp only [il, List.mem_map] at he
  obtain ⟨t, _, rfl⟩ := he
  simp [AV.storable]
/-- Is the i-th right? -/
def kAt (n : Nat) (keep : List Int) (i : Nat) : Prop := 0 ≤ keep.getD i 0 ∧ keep.getD i 0 ≤ (n : Int) - 1 ∧ (0 < i → keep.getD (i - 1) 0 < keep.getD i 0)
def kOk (n : Nat) (keep : List Int) : Prop := ∀ i, i < keep.length → kAt n keep i
theorem kAt_ge {n : Nat} {keep : List Int} : ∀ {i : Nat}, (∀ k, k ≤ i → kAt n keep k) → (i : Int) ≤ keep.getD i 0
  | 0, h => by have := (h 0 (Nat.le_refl _)).1; omega
  | i + 1, h => by
    have h1 := kAt_ge (i := i) fun k hk => h k (by omega)
    have h2 := (h (i + 1) (Nat.le_refl _)).2.2 (by omega)
    rw [Nat.add_sub_cancel] at h2; omega
theorem kAt_lt {n i : Nat} {keep : List Int} (h : ∀ k, k < i → kAt n keep k) : i ≤ n := by
  cases i with
  | zero => omega
  | succ i =>
    have h1 := kAt_ge (i := i) fun k hk => h k (by omega)
    have h2 := (h i (by omega)).2.1
    omega
def tear (last : Bool) (torn : Int) (o : Dop) : Dop := if last = true ∧ o.1 = 1 then (o.1, o.2.1, o.2.2.1, o.2.2.2.take torn.toNat) else o
def opK (ops : List Dop) (keep : List Int) (torn : Int) (i : Nat) : Dop := tear (decide (i + 1 = keep.length)) torn (ops.getD (keep.getD i 0).toNat dop0)
def crN (ops : List Dop) (keep : List Int) (torn : Int) (safe : List File) : Nat → List File
  | 0 => safe
  | i + 1 => act (crN ops keep torn safe i) (opK ops keep torn i)
theorem tear_le (b : Bool) (t : Int) (o : Dop) : (tear b t o).2.2.2.length ≤ o.2.2.2.length := by
  unfold tear; split
  · simp; omega
  · omega
theorem crN_ok {ops : List Dop} {keep : List Int} {torn : Int} {safe : List File} (hs : okP safe) (ho : ∀ o ∈ ops, o.2.2.2.length ≤ 1000000000) : ∀ i, Srt (crN ops keep torn safe i) ∧ (crN ops keep torn safe i).length ≤ 60 + i ∧ ∀ f ∈ crN ops keep torn safe i, f.2.length ≤ 200000 + i * 1000000000
  | 0 => ⟨ok_srt hs, by simpa [crN] using hs.1, fun f hf => by have := okP_le hs f hf; omega⟩
  | i + 1 => by
    obtain ⟨h1, h2, h3⟩ := crN_ok (ops := ops) (keep := keep) (torn := torn) hs ho i
    refine ⟨act_srt h1, ?_, fun f hf => ?_⟩
    · have := act_len (crN ops keep torn safe i) (opK ops keep torn i); simp only [crN]; omega
    · have hd : (opK ops keep torn i).2.2.2.length ≤ 1000000000 := by
        refine Nat.le_trans (tear_le _ _ _) ?_
        by_cases hlt : (keep.getD i 0).toNat < ops.length
        · exact ho _ (getO_mem hlt)
        · rw [List.getD_eq_getElem?_getD, List.getElem?_eq_none (by omega)]; simp [dop0]
      have := act_le h3 hd f hf; omega
noncomputable def crB (live safe : List File) (ops : List Dop) (keep : List Int) (torn : Int) : Bool := @decide (diskB live safe ops = true ∧ 0 ≤ torn ∧ kOk ops.length keep ∧ okP (crN ops keep torn safe keep.length)) (Classical.propDecidable _)
theorem crB_t {live safe : List File} {ops : List Dop} {keep : List Int} {torn : Int} : crB live safe ops keep torn = true ↔ diskB live safe ops = true ∧ 0 ≤ torn ∧ kOk ops.length keep ∧ okP (crN ops keep torn safe keep.length) := by unfold crB; exact @decide_eq_true_iff _ (Classical.propDecidable _)
theorem crB_f {live safe : List File} {ops : List Dop} {keep : List Int} {torn : Int} (h : ¬ (diskB live safe ops = true ∧ 0 ≤ torn ∧ kOk ops.length keep ∧ okP (crN ops keep torn safe keep.length))) : crB live safe ops keep torn = false := by
  cases e : crB live safe ops keep torn
  · rfl
  · exact absurd (crB_t.1 e) h
theorem wrs {x : Int} (h1 : -9000000000000000000 ≤ x) (h2 : x ≤ 9000000000000000000) : IntKind.i64.wrap x = x := IntWalk.i64_in _ ⟨by omega, by omega⟩
def crNo : AV := .tup [nilA, .b false]
def crYes (now : List File) : AV := .tup [syncA now, .b true]
theorem take_min (s : List UInt8) (torn : Int) (h : 0 ≤ torn) : List.take (min torn (s.length : Int)).toNat s = s.take torn.toNat := by
  by_cases hl : torn ≤ s.length
  · rw [Int.min_eq_left hl]
  · rw [Int.min_eq_right (by omega), Int.toNat_natCast, List.take_length, List.take_of_length_le (by omega)]
/-- What comes back. -/
def crΦ (live safe : List File) (ops : List Dop) (keep : List Int) (torn : Int) (r : AV) (o' : List Ob) : Prop :=
  (crB live safe ops keep torn = false ∧ r = crNo ∧ o' = []) ∨ (crB live safe ops keep torn = true ∧ r = crYes (crN ops keep torn safe keep.length) ∧ o' = [obF (crN ops keep torn safe keep.length), obF (crN ops keep torn safe keep.length)])
theorem h37 (live safe : List File) (ops : List Dop) (keep : List Int) (torn : Int) (hl : BdF live) (hsf : BdF safe) (ho : BdO ops) (hk : keep.length ≤ 1048576) : HC 37 [disk live safe ops, .dat 1 (il keep), .i .i64 torn] [] true (crΦ live safe ops keep torn) := by
  refine holdsc_of (c := Try.f37.body.getD .skip) (k := k37.1) (cs := [(6, some (true, 3)), (7, none)]) HOk mixedT hintT Try.func37 (by kernel_rfl) (by kernel_rfl) (by kernel_rfl) k37.2 (by kernel_rfl) (le_of 3 _ (by kernel_rfl)) ?_
  have d35 := h35 live safe ops hl hsf ho
  have fin : crB live safe ops keep torn = false → ∀ (g : Slots) (h : Heap), g 6 = .ptr (.l 6) 2 0 0 → g 7 = .b false → h (.l 6) = some { ver := 2, es := [[.nils, .nils, .nils]], esz := 3, own := False, fixed := true } →
      FinC [(6, some (true, 3)), (7, none)] [] true (crΦ live safe ops keep torn) .ret g h 0 := by
    intro hc g h g6 g7 hh
    refine ⟨True, [nilA, .b false], (by simp [resM, resE, g6, g7, loadF, cur, hh, yes, nilA]), trivial, crNo, [], .inl ⟨hc, rfl, rfl⟩, [], ⟨.nil, (by simp), rfl, (fun k ob hk => by simp at hk)⟩, ?_, ?_⟩
    · simp [resOne, retA, retL, crNo, nilA]
    · simp [resOne, ResOk, ResL, nilA]
  have eno : ∀ {p : Prop}, p → (diskB live safe ops = true → 0 ≤ torn → kOk ops.length keep → okP (crN ops keep torn safe keep.length) → ¬ p) → crB live safe ops keep torn = false := fun hp hn => crB_f fun ⟨a, b, c, d⟩ => hn a b c d hp
  unfold disk at d35 ⊢
  cases hd : diskB live safe ops
  · rw [hd] at d35
    simp -dsimp only [k37, go_sem, ↓reduceIte, Nat.reduceEqDiff, Int.reduceLE, Int.reduceLT, Int.reduceNeg, Int.reduceEq, Nat.reduceMul, Nat.reduceAdd, Nat.reduceLeDiff, reduceCtorEq]
    refine Call_val (own := true) (d35) (by simp [ExpOk, AV.pure]) (.inl rfl) ?_
    simp -dsimp only [go_sem, ↓reduceIte, Nat.reduceEqDiff, Int.reduceLE, Int.reduceLT, Int.reduceNeg, Int.reduceEq, Nat.reduceMul, Nat.reduceAdd, Nat.reduceLeDiff, reduceCtorEq]
    exact fin (crB_f fun h => by rw [hd] at h; simp at h) _ _ (by simp [upd_at]) (by simp [upd_at]) (by simp only [hup_at, newObs, ↓reduceIte, Nat.reduceEqDiff, reduceCtorEq, Rid.r.injEq, Rid.l.injEq, Nat.reduceAdd, Nat.zero_add, and_self, and_true, and_false, false_and, true_and] <;> rfl)
  rw [hd] at d35
  obtain ⟨p1, p2, p3⟩ := diskB_ok hd
  by_cases ht : torn < 0
  · simp -dsimp only [k37, go_sem, ↓reduceIte, Nat.reduceEqDiff, Int.reduceLE, Int.reduceLT, Int.reduceNeg, Int.reduceEq, Nat.reduceMul, Nat.reduceAdd, Nat.reduceLeDiff, reduceCtorEq]
    refine Call_val (own := true) (d35) (by simp [ExpOk, AV.pure]) (.inl rfl) ?_
    simp -dsimp only [ht, go_sem, ↓reduceIte, Nat.reduceEqDiff, Int.reduceLE, Int.reduceLT, Int.reduceNeg, Int.reduceEq, Nat.reduceMul, Nat.reduceAdd, Nat.reduceLeDiff, reduceCtorEq]
    exact fin (crB_f fun h => by have := h.2.1; omega) _ _ (by simp [upd_at]) (by simp [upd_at]) (by simp only [hup_at, newObs, ↓reduceIte, Nat.reduceEqDiff, reduceCtorEq, Rid.r.injEq, Rid.l.injEq, Nat.reduceAdd, Nat.zero_add, and_self, and_true, and_false, false_and, true_and] <;> rfl)
  simp -dsimp only [k37, go_sem, ↓reduceIte, Nat.reduceEqDiff, Int.reduceLE, Int.reduceLT, Int.reduceNeg, Int.reduceEq, Nat.reduceMul, Nat.reduceAdd, Nat.reduceLeDiff, reduceCtorEq]
  refine Call_val (own := true) (d35) (by simp [ExpOk, AV.pure]) (.inl rfl) ?_
  simp -dsimp only [ht, il_len, go_sem, ↓reduceIte, Nat.reduceEqDiff, Int.reduceLE, Int.reduceLT, Int.reduceNeg, Int.reduceEq, Nat.reduceMul, Nat.reduceAdd, Nat.reduceLeDiff, reduceCtorEq]
  have hbo := ho.2
  refine K_for keep.length (fun i g h c => (∀ k, k < i → kAt ops.length keep k) ∧ g 1 = .dat 1 (il keep) ∧ g 2 = .i .i64 torn ∧ g 3 = .ptr (.l 3) 1 0 0 ∧ g 6 = .ptr (.l 6) 2 0 0 ∧ g 8 = .dat 2 (fl (crN ops keep torn safe i)) ∧ g 22 = .dat 1 (il keep) ∧ g 23 = i64 keep.length ∧ g 24 = i64 i ∧
    h (.l 3) = some { ver := 1, es := [[.dat 2 (fl live), .dat 2 (fl safe), .dat 4 (ol ops)]], esz := 3, own := False, fixed := true } ∧ h (.l 6) = some { ver := 2, es := [[.nils, .nils, .nils]], esz := 3, own := False, fixed := true }) ?_ ?_ ?_
  · exact ⟨fun k hk => by omega, by simp [upd_at, S_1], by simp [upd_at, S_2], by simp [upd_at], by simp [upd_at], by simp [upd_at, crN], by simp [upd_at], by simp [upd_at], by simp [upd_at], (by simp only [hup_at, newObs, ↓reduceIte, Nat.reduceEqDiff, reduceCtorEq, Rid.r.injEq, Rid.l.injEq, Nat.reduceAdd, Nat.zero_add, and_self, and_true, and_false, false_and, true_and] <;> rfl), (by simp only [hup_at, newObs, ↓reduceIte, Nat.reduceEqDiff, reduceCtorEq, Rid.r.injEq, Rid.l.injEq, Nat.reduceAdd, Nat.zero_add, and_self, and_true, and_false, false_and, true_and] <;> rfl)⟩
  · rintro i A hi hA g h c ⟨hok, q1, q2, q3, q6, q8, q22, q23, q24, m3, m6⟩
    have hc : (i : Int) < (keep.length : Int) := by omega
    have gi := il_get hi
    obtain ⟨kv, hkv⟩ : ∃ kv, kv = keep.getD i 0 := ⟨_, rfl⟩
    rw [← hkv] at gi
    have w0 : IntKind.i64.wrap ((ops.length : Int) - 1) = (ops.length : Int) - 1 := wrs (by omega) (by omega)
    have w1 : IntKind.i64.wrap ((i : Int) + 1) = ((i + 1 : Nat) : Int) := by rw [wr (by omega) (by omega)]; rfl
    have bad : ¬ kAt ops.length keep i → crB live safe ops keep torn = false := fun hn => crB_f fun hh => hn (hh.2.2.1 i hi)
    simp -dsimp only [q1, q2, q3, q6, q8, q22, q23, q24, m3, m6, hc, gi, w0, ol_len, go_sem, ↓reduceIte, Nat.reduceEqDiff, Int.reduceLE, Int.reduceLT, Int.reduceNeg, Int.reduceEq, Nat.reduceMul, Nat.reduceAdd, Nat.reduceLeDiff, reduceCtorEq]
    refine Call_val (own := true) (h86 kv 0 ((ops.length : Int) - 1)) (by simp [ExpOk, AV.pure]) (.inl rfl) ?_
    cases e1 : (decide (0 ≤ kv) && decide (kv ≤ (ops.length : Int) - 1))
    · simp -dsimp only [q6, m6, go_sem, ↓reduceIte, Nat.reduceEqDiff, Int.reduceLE, Int.reduceLT, Int.reduceNeg, Int.reduceEq, Nat.reduceMul, Nat.reduceAdd, Nat.reduceLeDiff, reduceCtorEq]
      refine fin (bad fun hh => ?_) _ _ (by simp [upd_at, q6]) (by simp [upd_at]) (by simp only [hup_at, newObs, ↓reduceIte, Nat.reduceEqDiff, reduceCtorEq, Rid.r.injEq, Rid.l.injEq, Nat.reduceAdd, Nat.zero_add, and_self, and_true, and_false, false_and, true_and] <;> rfl)
      have h1 := hh.1; have h2 := hh.2.1; rw [← hkv] at h1 h2; simp at e1; omega
    simp only [Bool.and_eq_true, decide_eq_true_eq] at e1
    have hil : i ≤ ops.length := kAt_lt hok
    obtain ⟨s1, s2, s3⟩ := crN_ok (ops := ops) (keep := keep) (torn := torn) (safe := safe) p2 hbo i
    have hkn : kv.toNat < ops.length := by omega
    obtain ⟨op, hop⟩ : ∃ op, op = ops.getD kv.toNat dop0 := ⟨_, rfl⟩
    have go := ol_get hkn
    rw [← hop] at go
    have ec : opC op = [.i .i64 op.1, .s op.2.1, .s op.2.2.1, .s op.2.2.2] := rfl
    rw [ec] at go
    have hod : op.2.2.2.length ≤ 1000000000 := by rw [hop]; exact hbo _ (getO_mem hkn)
    have w2 : IntKind.i64.wrap ((keep.length : Int) - 1) = (keep.length : Int) - 1 := wrs (by omega) (by omega)
    have hopK : opK ops keep torn i = tear (decide (i + 1 = keep.length)) torn op := by unfold opK; rw [← hkv, ← hop]
    have dn := fun o' (ho' : o'.2.2.2.length ≤ 1000000000) => h80 (crN ops keep torn safe i) o' s1 (by omega) (fun f hf => by have := s3 f hf; omega) (by omega)
    by_cases e2 : i = 0
    case' pos =>
      have f2 : ¬ (i : Int) > 0 := by omega
      have ka : kAt ops.length keep i := ⟨by rw [← hkv]; exact e1.1, by rw [← hkv]; exact e1.2, fun h => by omega⟩
      simp -dsimp only [q1, q2, q3, q6, q8, q22, q23, q24, m3, m6, f2, go, w2, il_len, go_sem, ↓reduceIte, Nat.reduceEqDiff, Int.reduceLE, Int.reduceLT, Int.reduceNeg, Int.reduceEq, Nat.reduceMul, Nat.reduceAdd, Nat.reduceLeDiff, reduceCtorEq]
    case' neg =>
      have f2 : (i : Int) > 0 := by omega
      have w3 : IntKind.i64.wrap ((i : Int) - 1) = ((i - 1 : Nat) : Int) := by rw [wr (by omega) (by omega)]; omega
      have gj := il_get (l := keep) (i := i - 1) (by omega)
      by_cases e3 : keep.getD (i - 1) 0 ≥ kv
      · simp -dsimp only [q1, q2, q3, q6, q8, q22, q23, q24, m3, m6, f2, w3, gj, e3, il_len, go_sem, ↓reduceIte, Nat.reduceEqDiff, Int.reduceLE, Int.reduceLT, Int.reduceNeg, Int.reduceEq, Nat.reduceMul, Nat.reduceAdd, Nat.reduceLeDiff, reduceCtorEq]
        refine fin (bad fun hh => ?_) _ _ (by simp [upd_at, q6]) (by simp [upd_at]) (by simp only [hup_at, newObs, ↓reduceIte, Nat.reduceEqDiff, reduceCtorEq, Rid.r.injEq, Rid.l.injEq, Nat.reduceAdd, Nat.zero_add, and_self, and_true, and_false, false_and, true_and] <;> rfl)
        have h1 := hh.2.2 (by omega); rw [← hkv] at h1; omega
      have ka : kAt ops.length keep i := ⟨by rw [← hkv]; exact e1.1, by rw [← hkv]; exact e1.2, fun h => by rw [← hkv]; omega⟩
      simp -dsimp only [q1, q2, q3, q6, q8, q22, q23, q24, m3, m6, f2, w3, gj, e3, go, w2, il_len, go_sem, ↓reduceIte, Nat.reduceEqDiff, Int.reduceLE, Int.reduceLT, Int.reduceNeg, Int.reduceEq, Nat.reduceMul, Nat.reduceAdd, Nat.reduceLeDiff, reduceCtorEq]
    all_goals
      have hok' : ∀ k, k < i + 1 → kAt ops.length keep k := fun k hk => by by_cases hki : k = i <;> first | (subst hki; exact ka) | exact hok k (by omega)
      refine VK_p e1.1 ?_
      by_cases e4 : i + 1 = keep.length
      case' neg =>
        have f4 : ((i : Int) == (keep.length : Int) - 1) = false := by simp; omega
        have ho' : opK ops keep torn i = op := by rw [hopK]; unfold tear; rw [if_neg fun h => e4 (by simpa using h.1)]
        simp -dsimp only [q1, q2, q3, q6, q8, q22, q23, q24, m3, m6, f4, w2, il_len, go_sem, ↓reduceIte, Nat.reduceEqDiff, Int.reduceLE, Int.reduceLT, Int.reduceNeg, Int.reduceEq, Nat.reduceMul, Nat.reduceAdd, Nat.reduceLeDiff, reduceCtorEq]
      case' pos =>
        have f4 : ((i : Int) == (keep.length : Int) - 1) = true := by simp; omega
        by_cases e5 : op.1 = 1
        case' neg =>
          have f5 : (op.1 == 1) = false := by simp [e5]
          have ho' : opK ops keep torn i = op := by rw [hopK]; unfold tear; rw [if_neg fun h => e5 h.2]
          simp -dsimp only [q1, q2, q3, q6, q8, q22, q23, q24, m3, m6, f4, f5, w2, il_len, go_sem, ↓reduceIte, Nat.reduceEqDiff, Int.reduceLE, Int.reduceLT, Int.reduceNeg, Int.reduceEq, Nat.reduceMul, Nat.reduceAdd, Nat.reduceLeDiff, reduceCtorEq]
        case' pos =>
          have f5 : (op.1 == 1) = true := by simp [e5]
          have ho' : opK ops keep torn i = (op.1, op.2.1, op.2.2.1, op.2.2.2.take torn.toNat) := by rw [hopK]; unfold tear; rw [if_pos ⟨by simp [e4], e5⟩]
          simp -dsimp only [q1, q2, q3, q6, q8, q22, q23, q24, m3, m6, f4, f5, w2, il_len, mm2, List.foldlM_cons, List.foldlM_nil, Option.pure_def, Option.bind_eq_bind, go_sem, ↓reduceIte, Nat.reduceEqDiff, Int.reduceLE, Int.reduceLT, Int.reduceNeg, Int.reduceEq, Nat.reduceMul, Nat.reduceAdd, Nat.reduceLeDiff, reduceCtorEq]
          refine VK_p ⟨by omega, by omega⟩ ?_
          simp -dsimp only [q1, q2, q3, q6, q8, q22, q23, q24, m3, m6, f4, f5, w2, il_len, take_min _ _ (Int.not_lt.1 ht), go_sem, ↓reduceIte, Nat.reduceEqDiff, Int.reduceLE, Int.reduceLT, Int.reduceNeg, Int.reduceEq, Nat.reduceMul, Nat.reduceAdd, Nat.reduceLeDiff, reduceCtorEq]
    all_goals
      have hod' : (opK ops keep torn i).2.2.2.length ≤ 1000000000 := by rw [hopK]; exact Nat.le_trans (tear_le _ _ _) hod
      have dd := dn _ hod'
      rw [ho'] at dd
      unfold opC at dd
      refine Call_val (own := false) (dd) (by simp [ExpOk, AV.pure]) (.inr (by simp [AV.rooted, AV.ref1])) ?_
      simp -dsimp only [q1, q2, q3, q6, q8, q22, q23, q24, m3, m6, w1, go_sem, ↓reduceIte, Nat.reduceEqDiff, Int.reduceLE, Int.reduceLT, Int.reduceNeg, Int.reduceEq, Nat.reduceMul, Nat.reduceAdd, Nat.reduceLeDiff, reduceCtorEq]
      refine hA _ _ _ ⟨hok', by simp [upd_at, q1], by simp [upd_at, q2], by simp [upd_at, q3], by simp [upd_at, q6], by simp [upd_at, crN, ho'], by simp [upd_at, q22], by simp [upd_at, q23], by simp [upd_at], by simp [hup_at, m3], by simp [hup_at, m6]⟩
  · rintro A g h c ⟨hok, q1, q2, q3, q6, q8, q22, q23, q24, m3, m6⟩
    have hc : ¬ (keep.length : Int) < (keep.length : Int) := by omega
    have hil : keep.length ≤ ops.length := kAt_lt hok
    obtain ⟨s1, s2, s3⟩ := crN_ok (ops := ops) (keep := keep) (torn := torn) (safe := safe) p2 hbo keep.length
    obtain ⟨now, hnow⟩ : ∃ now, now = crN ops keep torn safe keep.length := ⟨_, rfl⟩
    rw [← hnow] at q8 s2 s3
    have d78 := h78 now (by omega) (fun f hf => by have := s3 f hf; omega)
    have d87 := h87 now (by omega)
    simp -dsimp only [q1, q2, q3, q6, q8, q22, q23, q24, m3, m6, hc, go_sem, ↓reduceIte, Nat.reduceEqDiff, Int.reduceLE, Int.reduceLT, Int.reduceNeg, Int.reduceEq, Nat.reduceMul, Nat.reduceAdd, Nat.reduceLeDiff, reduceCtorEq]
    refine Call_val (own := true) (d78) (by simp [ExpOk, AV.pure]) (.inl rfl) ?_
    cases e1 : okF now
    · simp -dsimp only [q6, m6, go_sem, ↓reduceIte, Nat.reduceEqDiff, Int.reduceLE, Int.reduceLT, Int.reduceNeg, Int.reduceEq, Nat.reduceMul, Nat.reduceAdd, Nat.reduceLeDiff, reduceCtorEq]
      exact fin (crB_f fun hh => by have := okF_t.2 hh.2.2.2; rw [← hnow, e1] at this; cases this) _ _ (by simp [upd_at, q6]) (by simp [upd_at]) (by simp only [hup_at, newObs, ↓reduceIte, Nat.reduceEqDiff, reduceCtorEq, Rid.r.injEq, Rid.l.injEq, Nat.reduceAdd, Nat.zero_add, and_self, and_true, and_false, false_and, true_and] <;> rfl)
    simp -dsimp only [q6, q8, m6, go_sem, ↓reduceIte, Nat.reduceEqDiff, Int.reduceLE, Int.reduceLT, Int.reduceNeg, Int.reduceEq, Nat.reduceMul, Nat.reduceAdd, Nat.reduceLeDiff, reduceCtorEq]
    refine Call_news (own := true) (d87) (by simp [ExpOk, AV.pure, cur, hup_at, List.idxOf?_cons, List.idxOf?_nil, obM, fl_len, ol_len, fl_pure, ol_pure, mkF_len, mkO_len, objs_l, objs_r, objs_p]) (by simp [obF, fl_pure, ol_pure]) (.inl rfl) (by simp [obF]) ?_
    simp -dsimp only [impA, impL, Option.getD_some, Nat.sub_self, Nat.sub_zero, obF, q6, q8, m6, go_sem, ↓reduceIte, Nat.reduceEqDiff, Int.reduceLE, Int.reduceLT, Int.reduceNeg, Int.reduceEq, Nat.reduceMul, Nat.reduceAdd, Nat.reduceLeDiff, reduceCtorEq]
    refine Call_news (own := true) (d87) (by simp [ExpOk, AV.pure, cur, hup_at, List.idxOf?_cons, List.idxOf?_nil, obM, fl_len, ol_len, fl_pure, ol_pure, mkF_len, mkO_len, objs_l, objs_r, objs_p]) (by simp [obF, fl_pure, ol_pure]) (.inl rfl) (by simp [obF]) ?_
    simp -dsimp only [impA, impL, Option.getD_some, Nat.sub_self, Nat.sub_zero, obF, q6, q8, m6, go_sem, ↓reduceIte, Nat.reduceEqDiff, Int.reduceLE, Int.reduceLT, Int.reduceNeg, Int.reduceEq, Nat.reduceMul, Nat.reduceAdd, Nat.reduceLeDiff, reduceCtorEq]
    have hyes : crB live safe ops keep torn = true := crB_t.2 ⟨hd, by omega, fun k hk => hok k hk, by rw [← hnow]; exact okF_t.1 e1⟩
    refine ⟨True, [.agg [.sl (.r 86 0) c 0 now.length none, .sl (.r 88 0) (c + 1) 0 now.length none, .nils], .b true], (by simp [resM, resE, upd_at, q6, loadF, cur, hup_at, yes]), trivial, crYes now, [obF now, obF now], .inr ⟨hyes, by rw [← hnow], by rw [← hnow]⟩, [.r 86 0, .r 88 0],
      finR_outs (by simp) (by simp [Rid.isP]) (.flat (by simp only [hup_at, newObs, ↓reduceIte, Nat.reduceEqDiff, reduceCtorEq, Rid.r.injEq, Rid.l.injEq, Nat.reduceAdd, Nat.zero_add, and_self, and_true, and_false, false_and, true_and] <;> rfl) (fl_flat _) (fl_pure _) (.flat (by simp only [hup_at, newObs, ↓reduceIte, Nat.reduceEqDiff, reduceCtorEq, Rid.r.injEq, Rid.l.injEq, Nat.reduceAdd, Nat.zero_add, and_self, and_true, and_false, false_and, true_and] <;> rfl) (fl_flat _) (fl_pure _) trivial)), ?_, ?_⟩
    · simp [resOne, retA, retL, cur, hup_at, List.idxOf?_cons, syncA, crYes]
    · simp [resOne, ResOk, ResL, cur, hup_at]
theorem h37_no (live safe : List File) (ops : List Dop) (keep : List Int) (torn : Int) (hl : BdF live) (hsf : BdF safe) (ho : BdO ops) (hk : keep.length ≤ 1048576) (hc : crB live safe ops keep torn = false) : HT 37 [disk live safe ops, .dat 1 (il keep), .i .i64 torn] [] crNo true [] :=
  (h37 live safe ops keep torn hl hsf ho hk).weak fun r o' hΦ => by
    rcases hΦ with ⟨_, rfl, rfl⟩ | ⟨h, _⟩
    · exact ⟨_, .refl _, rfl, rfl⟩
    · rw [hc] at h; cases h
theorem h37_yes (live safe : List File) (ops : List Dop) (keep : List Int) (torn : Int) (hl : BdF live) (hsf : BdF safe) (ho : BdO ops) (hk : keep.length ≤ 1048576) (hc : crB live safe ops keep torn = true) :
    HT 37 [disk live safe ops, .dat 1 (il keep), .i .i64 torn] [] (crYes (crN ops keep torn safe keep.length)) true [obF (crN ops keep torn safe keep.length), obF (crN ops keep torn safe keep.length)] :=
  (h37 live safe ops keep torn hl hsf ho hk).weak fun r o' hΦ => by
    rcases hΦ with ⟨h, _⟩ | ⟨_, rfl, rfl⟩
    · rw [hc] at h; cases h
    · exact ⟨_, .refl _, rfl, rfl⟩
end FrA

/-! DkCs -/
open Go Go.AM
namespace FrA
open Go.Proofs
set_option maxRecDepth 100000
set_option linter.unusedSimpArgs false
noncomputable def crV (live safe : List File) (ops : List Dop) (keep : List Int) (torn : Int) : AV := .tup [(if crB live safe ops keep torn = true then syncD (crN ops keep torn safe keep.length) else nilA), .b (crB live safe ops keep torn)]
theorem crV_no {live safe : List File} {ops : List Dop} {keep : List Int} {torn : Int} (h : crB live safe ops keep torn = false) : crV live safe ops keep torn = .tup [nilA, .b false] := by unfold crV; rw [h]; simp
theorem crV_yes {live safe : List File} {ops : List Dop} {keep : List Int} {torn : Int} (h : crB live safe ops keep torn = true) : crV live safe ops keep torn = .tup [syncD (crN ops keep torn safe keep.length), .b true] := by unfold crV; rw [h]; simp
theorem h56 (live safe : List File) (ops : List Dop) (keep : List Int) (torn : Int) (hl : BdF live) (hsf : BdF safe) (ho : BdO ops) (hk : keep.length ≤ 1048576) : HT 56 [disk live safe ops, .dat 1 (il keep), .i .i64 torn] [] (crV live safe ops keep torn) false [] := by
  refine holdsc_of (c := Try.f56.body.getD .skip) (k := k56.1) (cs := [(6, some (true, 3)), (7, none)]) HOk mixedT hintT Try.func56 (by kernel_rfl) (by kernel_rfl) (by kernel_rfl) k56.2 (by kernel_rfl) (le_of 3 _ (by kernel_rfl)) ?_
  have d36 := h36 live safe ops hl hsf ho
  have fin : crB live safe ops keep torn = false → ∀ (g : Slots) (h : Heap), g 6 = .ptr (.l 6) 2 0 0 → g 7 = .b false → h (.l 6) = some { ver := 2, es := [[.nils, .nils, .nils]], esz := 3, own := False, fixed := true } →
      FinC [(6, some (true, 3)), (7, none)] [] false (fun r' o' => r' = crV live safe ops keep torn ∧ o' = []) .ret g h 0 := by
    intro hc g h g6 g7 hh
    rw [crV_no hc]
    refine finC_val (p := True) (l := [nilA, .b false]) (by simp [resM, resE, g6, g7, loadF, cur, hh, yes, nilA]) trivial ?_ ?_
    · simp [resOne, retA, retL, nilA]
    · simp [resOne, ResOk, ResL, nilA]
  unfold disk at d36 ⊢
  cases hd : diskB live safe ops
  · rw [hd] at d36
    simp -dsimp only [k56, go_sem, ↓reduceIte, Nat.reduceEqDiff, Int.reduceLE, Int.reduceLT, Int.reduceNeg, Int.reduceEq, Nat.reduceMul, Nat.reduceAdd, Nat.reduceLeDiff, reduceCtorEq]
    refine Call_val (own := true) (d36) (by simp [ExpOk, AV.pure]) (.inl rfl) ?_
    simp -dsimp only [go_sem, ↓reduceIte, Nat.reduceEqDiff, Int.reduceLE, Int.reduceLT, Int.reduceNeg, Int.reduceEq, Nat.reduceMul, Nat.reduceAdd, Nat.reduceLeDiff, reduceCtorEq]
    exact fin (crB_f fun h => by rw [hd] at h; simp at h) _ _ (by simp [upd_at]) (by simp [upd_at]) (by simp only [hup_at, newObs, ↓reduceIte, Nat.reduceEqDiff, reduceCtorEq, Rid.r.injEq, Rid.l.injEq, Nat.reduceAdd, Nat.zero_add, and_self, and_true, and_false, false_and, true_and] <;> rfl)
  rw [hd] at d36
  obtain ⟨p1, p2, p3⟩ := diskB_ok hd
  by_cases ht : torn < 0
  · simp -dsimp only [k56, go_sem, ↓reduceIte, Nat.reduceEqDiff, Int.reduceLE, Int.reduceLT, Int.reduceNeg, Int.reduceEq, Nat.reduceMul, Nat.reduceAdd, Nat.reduceLeDiff, reduceCtorEq]
    refine Call_val (own := true) (d36) (by simp [ExpOk, AV.pure]) (.inl rfl) ?_
    simp -dsimp only [ht, go_sem, ↓reduceIte, Nat.reduceEqDiff, Int.reduceLE, Int.reduceLT, Int.reduceNeg, Int.reduceEq, Nat.reduceMul, Nat.reduceAdd, Nat.reduceLeDiff, reduceCtorEq]
    exact fin (crB_f fun h => by have := h.2.1; omega) _ _ (by simp [upd_at]) (by simp [upd_at]) (by simp only [hup_at, newObs, ↓reduceIte, Nat.reduceEqDiff, reduceCtorEq, Rid.r.injEq, Rid.l.injEq, Nat.reduceAdd, Nat.zero_add, and_self, and_true, and_false, false_and, true_and] <;> rfl)
  simp -dsimp only [k56, go_sem, ↓reduceIte, Nat.reduceEqDiff, Int.reduceLE, Int.reduceLT, Int.reduceNeg, Int.reduceEq, Nat.reduceMul, Nat.reduceAdd, Nat.reduceLeDiff, reduceCtorEq]
  refine Call_val (own := true) (d36) (by simp [ExpOk, AV.pure]) (.inl rfl) ?_
  simp -dsimp only [ht, go_sem, ↓reduceIte, Nat.reduceEqDiff, Int.reduceLE, Int.reduceLT, Int.reduceNeg, Int.reduceEq, Nat.reduceMul, Nat.reduceAdd, Nat.reduceLeDiff, reduceCtorEq]
  have hbo := ho.2
  refine K_for keep.length (fun i g h c => (∀ k, k < i → kAt ops.length keep k) ∧ g 1 = .dat 1 (il keep) ∧ g 2 = .i .i64 torn ∧ g 3 = .ptr (.l 3) 1 0 0 ∧ g 6 = .ptr (.l 6) 2 0 0 ∧ g 8 = i64 i ∧
    h (.l 3) = some { ver := 1, es := [[.dat 2 (fl live), .dat 2 (fl safe), .dat 4 (ol ops)]], esz := 3, own := False, fixed := true } ∧ h (.l 6) = some { ver := 2, es := [[.nils, .nils, .nils]], esz := 3, own := False, fixed := true }) ?_ ?_ ?_
  · exact ⟨fun k hk => by omega, by simp [upd_at, S_1], by simp [upd_at, S_2], by simp [upd_at], by simp [upd_at], by simp [upd_at], (by simp only [hup_at, newObs, ↓reduceIte, Nat.reduceEqDiff, reduceCtorEq, Rid.r.injEq, Rid.l.injEq, Nat.reduceAdd, Nat.zero_add, and_self, and_true, and_false, false_and, true_and] <;> rfl), (by simp only [hup_at, newObs, ↓reduceIte, Nat.reduceEqDiff, reduceCtorEq, Rid.r.injEq, Rid.l.injEq, Nat.reduceAdd, Nat.zero_add, and_self, and_true, and_false, false_and, true_and] <;> rfl)⟩
  · rintro i A hi hA g h c ⟨hok, q1, q2, q3, q6, q8, m3, m6⟩
    have hc : (i : Int) < (keep.length : Int) := by omega
    have gi := il_get hi
    obtain ⟨kv, hkv⟩ : ∃ kv, kv = keep.getD i 0 := ⟨_, rfl⟩
    rw [← hkv] at gi
    have w0 : IntKind.i64.wrap ((ops.length : Int) - 1) = (ops.length : Int) - 1 := wrs (by omega) (by omega)
    have w1 : IntKind.i64.wrap ((i : Int) + 1) = ((i + 1 : Nat) : Int) := by rw [wr (by omega) (by omega)]; rfl
    have bad : ¬ kAt ops.length keep i → crB live safe ops keep torn = false := fun hn => crB_f fun hh => hn (hh.2.2.1 i hi)
    simp -dsimp only [q1, q2, q3, q6, q8, m3, m6, hc, gi, w0, ol_len, il_len, go_sem, ↓reduceIte, Nat.reduceEqDiff, Int.reduceLE, Int.reduceLT, Int.reduceNeg, Int.reduceEq, Nat.reduceMul, Nat.reduceAdd, Nat.reduceLeDiff, reduceCtorEq]
    refine Call0_val true (h109 kv 0 ((ops.length : Int) - 1)) (by simp [AV.free, AV.pure]) (.inl rfl) ?_
    cases e1 : (decide (0 ≤ kv) && decide (kv ≤ (ops.length : Int) - 1))
    · simp -dsimp only [q6, m6, go_sem, ↓reduceIte, Nat.reduceEqDiff, Int.reduceLE, Int.reduceLT, Int.reduceNeg, Int.reduceEq, Nat.reduceMul, Nat.reduceAdd, Nat.reduceLeDiff, reduceCtorEq]
      refine fin (bad fun hh => ?_) _ _ (by simp [upd_at, q6]) (by simp [upd_at]) (by simp only [hup_at, newObs, ↓reduceIte, Nat.reduceEqDiff, reduceCtorEq, Rid.r.injEq, Rid.l.injEq, Nat.reduceAdd, Nat.zero_add, and_self, and_true, and_false, false_and, true_and] <;> rfl)
      have h1 := hh.1; have h2 := hh.2.1; rw [← hkv] at h1 h2; simp at e1; omega
    simp only [Bool.and_eq_true, decide_eq_true_eq] at e1
    by_cases e2 : i = 0
    case' pos =>
      have f2 : ¬ (i : Int) > 0 := by omega
      have ka : kAt ops.length keep i := ⟨by rw [← hkv]; exact e1.1, by rw [← hkv]; exact e1.2, fun h => by omega⟩
      simp -dsimp only [q1, q2, q3, q6, q8, m3, m6, f2, w1, gi, il_len, go_sem, ↓reduceIte, Nat.reduceEqDiff, Int.reduceLE, Int.reduceLT, Int.reduceNeg, Int.reduceEq, Nat.reduceMul, Nat.reduceAdd, Nat.reduceLeDiff, reduceCtorEq]
    case' neg =>
      have f2 : (i : Int) > 0 := by omega
      have w3 : IntKind.i64.wrap ((i : Int) - 1) = ((i - 1 : Nat) : Int) := by rw [wr (by omega) (by omega)]; omega
      have gj := il_get (l := keep) (i := i - 1) (by omega)
      by_cases e3 : kv ≤ keep.getD (i - 1) 0
      · simp -dsimp only [q1, q2, q3, q6, q8, m3, m6, f2, w3, gi, gj, e3, il_len, go_sem, ↓reduceIte, Nat.reduceEqDiff, Int.reduceLE, Int.reduceLT, Int.reduceNeg, Int.reduceEq, Nat.reduceMul, Nat.reduceAdd, Nat.reduceLeDiff, reduceCtorEq]
        refine fin (bad fun hh => ?_) _ _ (by simp [upd_at, q6]) (by simp [upd_at]) (by simp only [hup_at, newObs, ↓reduceIte, Nat.reduceEqDiff, reduceCtorEq, Rid.r.injEq, Rid.l.injEq, Nat.reduceAdd, Nat.zero_add, and_self, and_true, and_false, false_and, true_and] <;> rfl)
        have h1 := hh.2.2 (by omega); rw [← hkv] at h1; omega
      have ka : kAt ops.length keep i := ⟨by rw [← hkv]; exact e1.1, by rw [← hkv]; exact e1.2, fun h => by rw [← hkv]; omega⟩
      simp -dsimp only [q1, q2, q3, q6, q8, m3, m6, f2, w3, w1, gi, gj, e3, il_len, go_sem, ↓reduceIte, Nat.reduceEqDiff, Int.reduceLE, Int.reduceLT, Int.reduceNeg, Int.reduceEq, Nat.reduceMul, Nat.reduceAdd, Nat.reduceLeDiff, reduceCtorEq]
    all_goals
      have hok' : ∀ k, k < i + 1 → kAt ops.length keep k := fun k hk => by by_cases hki : k = i <;> first | (subst hki; exact ka) | exact hok k (by omega)
      exact hA _ _ _ ⟨hok', by simp [upd_at, q1], by simp [upd_at, q2], by simp [upd_at, q3], by simp [upd_at, q6], by simp [upd_at], by simp [hup_at, m3], by simp [hup_at, m6]⟩
  · rintro A g h c ⟨hok, q1, q2, q3, q6, q8, m3, m6⟩
    have hc : ¬ (keep.length : Int) < (keep.length : Int) := by omega
    have hil : keep.length ≤ ops.length := kAt_lt hok
    have hgl : Good (fl safe) 2 ∧ bigOk (fl safe).length 32 ∧ (fl safe).length ≤ 9223372036854775807 := ⟨fl_good _, by rw [fl_len]; unfold bigOk; have := hsf.1; omega, by rw [fl_len]; have := hsf.1; omega⟩
    simp -dsimp only [q1, q2, q3, q6, q8, m3, m6, hc, il_len, go_sem, ↓reduceIte, Nat.reduceEqDiff, Int.reduceLE, Int.reduceLT, Int.reduceNeg, Int.reduceEq, Nat.reduceMul, Nat.reduceAdd, Nat.reduceLeDiff, reduceCtorEq]
    refine EK_p hgl ?_
    simp -dsimp only [q1, q2, q3, q6, q8, m3, m6, hc, il_len, fl_len, go_sem, ↓reduceIte, Nat.reduceEqDiff, Int.reduceLE, Int.reduceLT, Int.reduceNeg, Int.reduceEq, Nat.reduceMul, Nat.reduceAdd, Nat.reduceLeDiff, reduceCtorEq]
    refine Gh_of (.read _ _ _ 9 (.l 53) { ver := c + 1, es := fl safe, esz := 2, own := NoDat [] ∧ Flat (fl safe) } 0 safe.length none (by simp [upd_at]) (by simp only [hup_at, newObs, ↓reduceIte, Nat.reduceEqDiff, reduceCtorEq, Rid.r.injEq, Rid.l.injEq, Nat.reduceAdd, Nat.zero_add, and_self, and_true, and_false, false_and, true_and] <;> rfl) (by simp [fl_len]) (fl_pure _)) ?_
    simp -dsimp only [q1, q2, q3, q6, q8, m3, m6, hc, il_len, fl_len, subF, go_sem, ↓reduceIte, Nat.reduceEqDiff, Int.reduceLE, Int.reduceLT, Int.reduceNeg, Int.reduceEq, Nat.reduceMul, Nat.reduceAdd, Nat.reduceLeDiff, reduceCtorEq]
    refine K_for keep.length (fun i g h c => g 1 = .dat 1 (il keep) ∧ g 2 = .i .i64 torn ∧ g 3 = .ptr (.l 3) 1 0 0 ∧ g 6 = .ptr (.l 6) 2 0 0 ∧ g 9 = .dat 2 (fl (crN ops keep torn safe i)) ∧ g 10 = i64 i ∧
      h (.l 3) = some { ver := 1, es := [[.dat 2 (fl live), .dat 2 (fl safe), .dat 4 (ol ops)]], esz := 3, own := False, fixed := true } ∧ h (.l 6) = some { ver := 2, es := [[.nils, .nils, .nils]], esz := 3, own := False, fixed := true }) ?_ ?_ ?_
    · exact ⟨by simp [upd_at, q1], by simp [upd_at, q2], by simp [upd_at, q3], by simp [upd_at, q6], by simp [upd_at, crN], by simp [upd_at], by simp [hup_at, hdel_at, m3], by simp [hup_at, hdel_at, m6]⟩
    · rintro i A hi hA g h c ⟨q1, q2, q3, q6, q9, q10, m3, m6⟩
      have hc : (i : Int) < (keep.length : Int) := by omega
      have gi := il_get hi
      obtain ⟨kv, hkv⟩ : ∃ kv, kv = keep.getD i 0 := ⟨_, rfl⟩
      rw [← hkv] at gi
      have ka := hok i hi
      have k1 : 0 ≤ kv := by rw [hkv]; exact ka.1
      have k2 : kv ≤ (ops.length : Int) - 1 := by rw [hkv]; exact ka.2.1
      obtain ⟨s1, s2, s3⟩ := crN_ok (ops := ops) (keep := keep) (torn := torn) (safe := safe) p2 hbo i
      have hkn : kv.toNat < ops.length := by omega
      obtain ⟨op, hop⟩ : ∃ op, op = ops.getD kv.toNat dop0 := ⟨_, rfl⟩
      have go := ol_get hkn
      rw [← hop] at go
      have ec : opC op = [.i .i64 op.1, .s op.2.1, .s op.2.2.1, .s op.2.2.2] := rfl
      rw [ec] at go
      have hod : op.2.2.2.length ≤ 1000000000 := by rw [hop]; exact hbo _ (getO_mem hkn)
      have w1 : IntKind.i64.wrap ((i : Int) + 1) = ((i + 1 : Nat) : Int) := by rw [wr (by omega) (by omega)]; rfl
      have w2 : IntKind.i64.wrap ((keep.length : Int) - 1) = (keep.length : Int) - 1 := wrs (by omega) (by omega)
      have hopK : opK ops keep torn i = tear (decide (i + 1 = keep.length)) torn op := by unfold opK; rw [← hkv, ← hop]
      have dn := fun o' (ho' : o'.2.2.2.length ≤ 1000000000) => h83 (crN ops keep torn safe i) o' s1 (by omega) (fun f hf => by have := s3 f hf; omega) (by omega)
      simp -dsimp only [q1, q2, q3, q6, q9, q10, m3, m6, hc, il_len, go_sem, ↓reduceIte, Nat.reduceEqDiff, Int.reduceLE, Int.reduceLT, Int.reduceNeg, Int.reduceEq, Nat.reduceMul, Nat.reduceAdd, Nat.reduceLeDiff, reduceCtorEq]
      refine Gh_of (.drop _ _ _ (.l 11) rfl) ?_
      simp -dsimp only [q1, q2, q3, q6, q9, q10, m3, m6, hc, il_len, gi, go, go_sem, ↓reduceIte, Nat.reduceEqDiff, Int.reduceLE, Int.reduceLT, Int.reduceNeg, Int.reduceEq, Nat.reduceMul, Nat.reduceAdd, Nat.reduceLeDiff, reduceCtorEq]
      refine VK_p k1 ?_
      simp -dsimp only [q1, q2, q3, q6, q9, q10, m3, m6, il_len, go, go_sem, ↓reduceIte, Nat.reduceEqDiff, Int.reduceLE, Int.reduceLT, Int.reduceNeg, Int.reduceEq, Nat.reduceMul, Nat.reduceAdd, Nat.reduceLeDiff, reduceCtorEq]
      intro v1
      by_cases e4 : i + 1 = keep.length
      case' neg =>
        have f4 : ((i : Int) == (keep.length : Int) - 1) = false := by simp; omega
        have ho' : opK ops keep torn i = op := by rw [hopK]; unfold tear; rw [if_neg fun h => e4 (by simpa using h.1)]
        simp -dsimp only [q1, q2, q3, q6, q9, q10, m3, m6, f4, w2, il_len, go_sem, ↓reduceIte, Nat.reduceEqDiff, Int.reduceLE, Int.reduceLT, Int.reduceNeg, Int.reduceEq, Nat.reduceMul, Nat.reduceAdd, Nat.reduceLeDiff, reduceCtorEq]
      case' pos =>
        have f4 : ((i : Int) == (keep.length : Int) - 1) = true := by simp; omega
        by_cases e5 : op.1 = 1
        case' neg =>
          have f5 : (op.1 == 1) = false := by simp [e5]
          have ho' : opK ops keep torn i = op := by rw [hopK]; unfold tear; rw [if_neg fun h => e5 h.2]
          simp -dsimp only [q1, q2, q3, q6, q9, q10, m3, m6, f4, f5, w2, il_len, go_sem, ↓reduceIte, Nat.reduceEqDiff, Int.reduceLE, Int.reduceLT, Int.reduceNeg, Int.reduceEq, Nat.reduceMul, Nat.reduceAdd, Nat.reduceLeDiff, reduceCtorEq]
        case' pos =>
          have f5 : (op.1 == 1) = true := by simp [e5]
          by_cases e6 : (op.2.2.2.length : Int) > torn
          case' pos =>
            have ho' : opK ops keep torn i = (op.1, op.2.1, op.2.2.1, op.2.2.2.take torn.toNat) := by rw [hopK]; unfold tear; rw [if_pos ⟨by simp [e4], e5⟩]
            simp -dsimp only [q1, q2, q3, q6, q9, q10, m3, m6, f4, f5, e6, w2, il_len, go_sem, ↓reduceIte, Nat.reduceEqDiff, Int.reduceLE, Int.reduceLT, Int.reduceNeg, Int.reduceEq, Nat.reduceMul, Nat.reduceAdd, Nat.reduceLeDiff, reduceCtorEq]
            refine VK_p ⟨by omega, by omega⟩ ?_
            simp -dsimp only [q1, q2, q3, q6, q9, q10, m3, m6, f4, f5, w2, il_len, go_sem, ↓reduceIte, Nat.reduceEqDiff, Int.reduceLE, Int.reduceLT, Int.reduceNeg, Int.reduceEq, Nat.reduceMul, Nat.reduceAdd, Nat.reduceLeDiff, reduceCtorEq]
          case' neg =>
            have ho' : opK ops keep torn i = op := by
              rw [hopK]; unfold tear; rw [if_pos ⟨by simp [e4], e5⟩, List.take_of_length_le (by omega)]
            simp -dsimp only [q1, q2, q3, q6, q9, q10, m3, m6, f4, f5, e6, w2, il_len, go_sem, ↓reduceIte, Nat.reduceEqDiff, Int.reduceLE, Int.reduceLT, Int.reduceNeg, Int.reduceEq, Nat.reduceMul, Nat.reduceAdd, Nat.reduceLeDiff, reduceCtorEq]
      all_goals
        have hod' : (opK ops keep torn i).2.2.2.length ≤ 1000000000 := by rw [hopK]; exact Nat.le_trans (tear_le _ _ _) hod
        have dd := dn _ hod'
        rw [ho'] at dd
        unfold opC at dd
        refine Call_val (own := false) (dd) (by simp [ExpOk, AV.pure]) (.inr (by simp [AV.rooted, AV.ref1])) ?_
        simp -dsimp only [q1, q2, q3, q6, q9, q10, m3, m6, w1, go_sem, ↓reduceIte, Nat.reduceEqDiff, Int.reduceLE, Int.reduceLT, Int.reduceNeg, Int.reduceEq, Nat.reduceMul, Nat.reduceAdd, Nat.reduceLeDiff, reduceCtorEq]
        refine hA _ _ _ ⟨by simp [upd_at, q1], by simp [upd_at, q2], by simp [upd_at, q3], by simp [upd_at, q6], by simp [upd_at, crN, ho'], by simp [upd_at], by simp [hup_at, hdel_at, m3], by simp [hup_at, hdel_at, m6]⟩
    · rintro A g h c ⟨q1, q2, q3, q6, q9, q10, m3, m6⟩
      have hc : ¬ (keep.length : Int) < (keep.length : Int) := by omega
      obtain ⟨s1, s2, s3⟩ := crN_ok (ops := ops) (keep := keep) (torn := torn) (safe := safe) p2 hbo keep.length
      obtain ⟨now, hnow⟩ : ∃ now, now = crN ops keep torn safe keep.length := ⟨_, rfl⟩
      rw [← hnow] at q9 s2 s3
      have d82 := h82 now (fun f hf => by have := s3 f hf; omega)
      have hgn : Good (fl now) 2 ∧ bigOk (fl now).length 32 ∧ (fl now).length ≤ 9223372036854775807 := ⟨fl_good _, by rw [fl_len]; unfold bigOk; omega, by rw [fl_len]; omega⟩
      simp -dsimp only [q1, q2, q3, q6, q9, q10, m3, m6, hc, il_len, go_sem, ↓reduceIte, Nat.reduceEqDiff, Int.reduceLE, Int.reduceLT, Int.reduceNeg, Int.reduceEq, Nat.reduceMul, Nat.reduceAdd, Nat.reduceLeDiff, reduceCtorEq]
      refine Gh_of (.refl _ _ _) ?_
      simp -dsimp only [q1, q2, q3, q6, q9, q10, m3, m6, hc, il_len, go_sem, ↓reduceIte, Nat.reduceEqDiff, Int.reduceLE, Int.reduceLT, Int.reduceNeg, Int.reduceEq, Nat.reduceMul, Nat.reduceAdd, Nat.reduceLeDiff, reduceCtorEq]
      refine Call_val (own := true) (d82) (by simp [ExpOk, AV.pure]) (.inl rfl) ?_
      cases e1 : okF now
      · simp -dsimp only [q6, m6, go_sem, ↓reduceIte, Nat.reduceEqDiff, Int.reduceLE, Int.reduceLT, Int.reduceNeg, Int.reduceEq, Nat.reduceMul, Nat.reduceAdd, Nat.reduceLeDiff, reduceCtorEq]
        exact fin (crB_f fun hh => by have := okF_t.2 hh.2.2.2; rw [← hnow, e1] at this; cases this) _ _ (by simp [upd_at, q6]) (by simp [upd_at]) (by simp only [hup_at, newObs, ↓reduceIte, Nat.reduceEqDiff, reduceCtorEq, Rid.r.injEq, Rid.l.injEq, Nat.reduceAdd, Nat.zero_add, and_self, and_true, and_false, false_and, true_and] <;> rfl)
      simp -dsimp only [q6, q9, m6, go_sem, ↓reduceIte, Nat.reduceEqDiff, Int.reduceLE, Int.reduceLT, Int.reduceNeg, Int.reduceEq, Nat.reduceMul, Nat.reduceAdd, Nat.reduceLeDiff, reduceCtorEq]
      refine EK_p hgn ?_
      simp -dsimp only [q6, q9, m6, fl_len, go_sem, ↓reduceIte, Nat.reduceEqDiff, Int.reduceLE, Int.reduceLT, Int.reduceNeg, Int.reduceEq, Nat.reduceMul, Nat.reduceAdd, Nat.reduceLeDiff, reduceCtorEq]
      have hyes : crB live safe ops keep torn = true := crB_t.2 ⟨hd, by omega, hok, by rw [← hnow]; exact okF_t.1 e1⟩
      rw [crV_yes hyes, ← hnow]
      refine finC_val (p := True) (l := [.agg [.dat 2 (fl now), .sl (.l 104) (c + 1) 0 now.length none, .nils], .b true]) (by simp [resM, resE, upd_at, q6, loadF, cur, hup_at, yes]) trivial ?_ ?_
      · simp [resOne, retA, retL, cur, hup_at, List.idxOf?, subF, syncD]
      · simp [resOne, ResOk, ResL, cur, hup_at, fl_pure, fl_len, Rid.isP]
end FrA

/-! DkCt -/
open Go Go.AM
namespace FrA
open Go.Proofs
set_option maxRecDepth 100000
set_option linter.unusedSimpArgs false
def obI (l : List Int) : Ob := { ver := 1, es := il l, esz := 1, own := True }
theorem il_set (l : List Int) (i : Nat) (x : Int) : (il l).set i [.i .i64 x] = il (l.set i x) := by simp [il, List.map_set]
theorem subI (l : List Int) : sub (il l) 0 l.length = il l := sub_all (il_len l).symm
theorem zo_il (n : Nat) : List.replicate n [AV.i .i64 0] = il (List.replicate n 0) := by simp [il]
theorem h57 (l : List Int) (hn : l.length ≤ 1048576) : HT 57 [.dat 1 (il l)] [] (.sl (.p 0) 1 0 l.length none) true [obI l] := by
  refine holds_of (c := Try.f57.body.getD .skip) (k := k57.1) (ts := [2]) HOk mixedT hintT Try.func57 (by kernel_rfl) (by kernel_rfl) (by kernel_rfl) k57.2 (by kernel_rfl) (le_of 1 _ (by kernel_rfl)) ?_
  simp -dsimp only [k57, il_len, go_sem, ↓reduceIte, Nat.reduceEqDiff, Int.reduceLE, Int.reduceLT, Int.reduceNeg, Int.reduceEq, Nat.reduceMul, Nat.reduceAdd, Nat.reduceLeDiff, reduceCtorEq]
  refine EK_p ?_ ?_
  · simp [bigOk]; omega
  simp -dsimp only [Int.toNat_natCast, zo_il, go_sem, ↓reduceIte, Nat.reduceEqDiff, Int.reduceLE, Int.reduceLT, Int.reduceNeg, Int.reduceEq, Nat.reduceMul, Nat.reduceAdd, Nat.reduceLeDiff, reduceCtorEq]
  refine K_for l.length (fun i g h c => g 0 = .dat 1 (il l) ∧ g 3 = .sl (.l 7) 1 0 l.length none ∧ g 4 = i64 i ∧ ∃ q, h (.l 7) = some { ver := 1, es := il (l.take i ++ List.replicate (l.length - i) 0), esz := 1, own := q }) ?_ ?_ ?_
  · exact ⟨by simp [upd_at, S_0], by simp [upd_at], by simp [upd_at], _, (by rw [hup_at, if_pos rfl]; simp; rfl)⟩
  · rintro i A hi hA g h c ⟨q0, q3, q4, q, hh⟩
    have hc : (i : Int) < (l.length : Int) := by omega
    have w2 : IntKind.i64.wrap ((i : Int) + 1) = ((i + 1 : Nat) : Int) := by rw [wr (by omega) (by omega)]; rfl
    have gz := il_get (l := l.take i ++ List.replicate (l.length - i) 0) (i := i) (by rw [tz_len _ _ _ (by omega)]; exact hi)
    have st := il_set (l.take i ++ List.replicate (l.length - i) 0) i (l.getD i 0)
    simp -dsimp only [q0, q3, q4, hh, hc, il_get hi, il_len, gz, st, w2, go_sem, ↓reduceIte, Nat.reduceEqDiff, Int.reduceLE, Int.reduceLT, Int.reduceNeg, Int.reduceEq, Nat.reduceMul, Nat.reduceAdd, Nat.reduceLeDiff, reduceCtorEq]
    exact hA _ _ _ ⟨by simp [upd_at, q0], by simp [upd_at, q3], by simp [upd_at], _, (by rw [hup_at, if_pos rfl, tz_set _ _ _ hi])⟩
  · rintro A g h c ⟨q0, q3, q4, q, hh⟩
    have hc : ¬ (l.length : Int) < (l.length : Int) := by omega
    rw [tz_end _ _ _ (Nat.le_refl _)] at hh
    simp -dsimp only [q0, q3, q4, hc, il_len, go_sem, ↓reduceIte, Nat.reduceEqDiff, Int.reduceLE, Int.reduceLT, Int.reduceNeg, Int.reduceEq, Nat.reduceMul, Nat.reduceAdd, Nat.reduceLeDiff, reduceCtorEq]
    have fin := @fin_clone (il l) 1 2
    rw [il_len] at fin
    exact fin (.l 7) 1 l.length _ _ q rfl (by simp [upd_at, q3]) hh rfl (il_flat _) (il_pure _)
theorem h57v (l : List Int) (hn : l.length ≤ 1048576) : HT 57 [.dat 1 (il l)] [] (.dat 1 (il l)) true [] := by
  refine holds_of (c := Try.f57.body.getD .skip) (k := k57.1) (ts := [2]) HOk mixedT hintT Try.func57 (by kernel_rfl) (by kernel_rfl) (by kernel_rfl) k57.2 (by kernel_rfl) (le_of 1 _ (by kernel_rfl)) ?_
  simp -dsimp only [k57, il_len, go_sem, ↓reduceIte, Nat.reduceEqDiff, Int.reduceLE, Int.reduceLT, Int.reduceNeg, Int.reduceEq, Nat.reduceMul, Nat.reduceAdd, Nat.reduceLeDiff, reduceCtorEq]
  refine EK_p ?_ ?_
  · simp [bigOk]; omega
  simp -dsimp only [Int.toNat_natCast, zo_il, go_sem, ↓reduceIte, Nat.reduceEqDiff, Int.reduceLE, Int.reduceLT, Int.reduceNeg, Int.reduceEq, Nat.reduceMul, Nat.reduceAdd, Nat.reduceLeDiff, reduceCtorEq]
  refine K_for l.length (fun i g h c => g 0 = .dat 1 (il l) ∧ g 3 = .sl (.l 7) 1 0 l.length none ∧ g 4 = i64 i ∧ ∃ q, h (.l 7) = some { ver := 1, es := il (l.take i ++ List.replicate (l.length - i) 0), esz := 1, own := q }) ?_ ?_ ?_
  · exact ⟨by simp [upd_at, S_0], by simp [upd_at], by simp [upd_at], _, (by rw [hup_at, if_pos rfl]; simp; rfl)⟩
  · rintro i A hi hA g h c ⟨q0, q3, q4, q, hh⟩
    have hc : (i : Int) < (l.length : Int) := by omega
    have w2 : IntKind.i64.wrap ((i : Int) + 1) = ((i + 1 : Nat) : Int) := by rw [wr (by omega) (by omega)]; rfl
    have gz := il_get (l := l.take i ++ List.replicate (l.length - i) 0) (i := i) (by rw [tz_len _ _ _ (by omega)]; exact hi)
    have st := il_set (l.take i ++ List.replicate (l.length - i) 0) i (l.getD i 0)
    simp -dsimp only [q0, q3, q4, hh, hc, il_get hi, il_len, gz, st, w2, go_sem, ↓reduceIte, Nat.reduceEqDiff, Int.reduceLE, Int.reduceLT, Int.reduceNeg, Int.reduceEq, Nat.reduceMul, Nat.reduceAdd, Nat.reduceLeDiff, reduceCtorEq]
    exact hA _ _ _ ⟨by simp [upd_at, q0], by simp [upd_at, q3], by simp [upd_at], _, (by rw [hup_at, if_pos rfl, tz_set _ _ _ hi])⟩
  · rintro A g h c ⟨q0, q3, q4, q, hh⟩
    have hc : ¬ (l.length : Int) < (l.length : Int) := by omega
    rw [tz_end _ _ _ (Nat.le_refl _)] at hh
    simp -dsimp only [q0, q3, q4, hc, il_len, go_sem, ↓reduceIte, Nat.reduceEqDiff, Int.reduceLE, Int.reduceLT, Int.reduceNeg, Int.reduceEq, Nat.reduceMul, Nat.reduceAdd, Nat.reduceLeDiff, reduceCtorEq]
    refine Fin_val ?_ ?_
    · simp [resV, upd_at, q3, retA, cur, hh, List.idxOf?, subI]
    · simp [resV, upd_at, q3, ResOk, cur, hh, il_pure, il_flat, il_len, Rid.isP]
theorem h58 (a : List Int) (ha : a.length ≤ 1048576) : HT 58 [.dat 1 (il a), .dat 1 (il a)] [] (.b true) true [] := by
  refine holds_of (c := Try.f58.body.getD .skip) (k := k58.1) (ts := [4]) HOk mixedT hintT Try.func58 (by kernel_rfl) (by kernel_rfl) (by kernel_rfl) k58.2 (by kernel_rfl) (le_of 2 _ (by kernel_rfl)) ?_
  have hc : ((a.length : Int) != (a.length : Int)) = false := by simp
  simp -dsimp only [k58, hc, il_len, go_sem, ↓reduceIte, Nat.reduceEqDiff, Int.reduceLE, Int.reduceLT, Int.reduceNeg, Int.reduceEq, Nat.reduceMul, Nat.reduceAdd, Nat.reduceLeDiff, reduceCtorEq]
  refine K_for a.length (fun i g h _ => g 0 = .dat 1 (il a) ∧ g 1 = .dat 1 (il a) ∧ g 5 = i64 i) ?_ ?_ ?_
  · exact ⟨by simp [upd_at, S_0], by simp [upd_at, S_1], by simp [upd_at]⟩
  · rintro i A hi hA g h c ⟨q0, q1, q5⟩
    have hc : (i : Int) < (a.length : Int) := by omega
    have w1 : IntKind.i64.wrap ((i : Int) + 1) = ((i + 1 : Nat) : Int) := by rw [wr (by omega) (by omega)]; rfl
    have e1 : ∀ x : Int, (x != x) = false := fun x => by simp
    simp -dsimp only [q0, q1, q5, hc, il_get hi, il_len, e1, w1, go_sem, ↓reduceIte, Nat.reduceEqDiff, Int.reduceLE, Int.reduceLT, Int.reduceNeg, Int.reduceEq, Nat.reduceMul, Nat.reduceAdd, Nat.reduceLeDiff, reduceCtorEq]
    exact hA _ _ _ ⟨by simp [upd_at, q0], by simp [upd_at, q1], by simp [upd_at]⟩
  · rintro A g h c ⟨q0, q1, q5⟩
    have hc : ¬ (a.length : Int) < (a.length : Int) := by omega
    simp -dsimp only [q0, q1, q5, hc, il_len, go_sem, ↓reduceIte, Nat.reduceEqDiff, Int.reduceLE, Int.reduceLT, Int.reduceNeg, Int.reduceEq, Nat.reduceMul, Nat.reduceAdd, Nat.reduceLeDiff, reduceCtorEq]
    exact Fin_val (by simp [resV, upd_at, retA]) (by simp [resV, upd_at, ResOk])
def mkI (k n : Nat) : List Int := (List.range n).map fun i => ((k + i : Nat) : Int)
theorem mkI_len (k n : Nat) : (mkI k n).length = n := by simp [mkI]
theorem mkI_succ (k n : Nat) : mkI k (n + 1) = mkI k n ++ [((k + n : Nat) : Int)] := by simp [mkI, List.range_succ]
theorem dropi_get {l : List Int} {i : Nat} (h : i < l.length) : l.drop i = l.getD i 0 :: l.drop (i + 1) := by
  rw [List.getD_eq_getElem?_getD, List.getElem?_eq_getElem h, Option.getD_some]; exact List.drop_eq_getElem_cons h
theorem h59 (l : List Int) (k : Nat) (cap : Option Nat) (q : Prop) (hk : 0 < k) (hkl : k + l.length ≤ 1000000000) : HT 59 [.sl (.p 0) 0 0 l.length cap, i64 k] [obM 1 (il l) q] (i64 (k + l.length : Nat)) true [obM 1 (il (mkI k l.length)) True] := by
  refine holds_of (c := Try.f59.body.getD .skip) (k := k59.1) (ts := [4]) HOk mixedT hintT Try.func59 (by kernel_rfl) (by kernel_rfl) (by kernel_rfl) k59.2 (by kernel_rfl) (le_of 2 _ (by kernel_rfl)) ?_
  simp -dsimp only [k59, go_sem, ↓reduceIte, Nat.reduceEqDiff, Int.reduceLE, Int.reduceLT, Int.reduceNeg, Int.reduceEq, Nat.reduceMul, Nat.reduceAdd, Nat.reduceLeDiff, reduceCtorEq]
  refine K_for l.length (fun i g h c => g 0 = .sl (.p 0) 0 0 l.length cap ∧ g 1 = i64 (k + i : Nat) ∧ g 5 = i64 i ∧ ∃ q, h (.p 0) = some (obM 1 (il (mkI k i ++ l.drop i)) q)) ?_ ?_ ?_
  · exact ⟨by simp [upd_at, S_0], by simp [upd_at, S_1], by simp [upd_at], q, by simp [mkI]; rfl⟩
  · rintro i A hi hA g h c ⟨q0, q1, q5, q', hh⟩
    have hc : (i : Int) < (l.length : Int) := by omega
    unfold obM at hh
    have gi : (il (mkI k i ++ l.drop i))[i]? = some [.i .i64 (l.getD i 0)] := by
      rw [il_get (by simp [mkI_len]; omega), dropi_get hi]
      rw [List.getD_eq_getElem?_getD, List.getElem?_append_right (by simp [mkI_len]), mkI_len]; simp
    have w0 : IntKind.i64.wrap ((k + i : Nat) : Int) = ((k + i : Nat) : Int) := wr (by omega) (by omega)
    have w1 : IntKind.i64.wrap ((i : Int) + 1) = ((i + 1 : Nat) : Int) := by rw [wr (by omega) (by omega)]; rfl
    have w2 : IntKind.i64.wrap (((k + i : Nat) : Int) + 1) = ((k + (i + 1) : Nat) : Int) := by rw [wr (by omega) (by omega)]; omega
    simp -dsimp only [q0, q1, q5, hc, hh, gi, w0, w1, w2, go_sem, ↓reduceIte, Nat.reduceEqDiff, Int.reduceLE, Int.reduceLT, Int.reduceNeg, Int.reduceEq, Nat.reduceMul, Nat.reduceAdd, Nat.reduceLeDiff, reduceCtorEq]
    have e : (il (mkI k i ++ l.drop i)).set i [.i .i64 (k + i : Nat)] = il (mkI k (i + 1) ++ l.drop (i + 1)) := by
      rw [il_set, pre_set _ (mkI_len k i) (by rw [dropi_get hi]; simp), mkI_succ, List.drop_drop, Nat.add_comm i 1]; simp
    exact hA _ _ _ ⟨by simp [upd_at, q0], by simp [upd_at], by simp [upd_at], _, (by rw [hup_at, if_pos rfl, e]; rfl)⟩
  · rintro A g h c ⟨q0, q1, q5, q', hh⟩
    have hc : ¬ (l.length : Int) < (l.length : Int) := by omega
    rw [List.drop_length, List.append_nil] at hh
    unfold obM at hh
    simp -dsimp only [q0, q1, q5, hc, hh, go_sem, ↓reduceIte, Nat.reduceEqDiff, Int.reduceLE, Int.reduceLT, Int.reduceNeg, Int.reduceEq, Nat.reduceMul, Nat.reduceAdd, Nat.reduceLeDiff, reduceCtorEq]
    refine Fin_obs (by simp [resV, upd_at, retA]) (by simp [resV, upd_at, ResOk]) rfl fun j ob hj => ?_
    match j, hj with
    | 0, hj => simp at hj; subst hj; exact ⟨il_pure _, q', .inl (il_flat _), by rw [hh]; rfl, rfl⟩
    | j + 1, hj => simp at hj
theorem h14 (live safe : List File) (ops : List Dop) (keep : List Int) (torn : Int) (hL : LgD live safe ops) (hkl : Lg keep.length) : HT 14 [disk live safe ops, .dat 1 (il keep), .i .i64 torn] [] (.b true) true [] := by
  refine holds_of (c := Try.f14.body.getD .skip) (k := k14.1) (ts := [6]) HOk mixedT hintT Try.func14 (by kernel_rfl) (by kernel_rfl) (by kernel_rfl) k14.2 (by kernel_rfl) (le_of 3 _ (by kernel_rfl)) ?_
  by_cases hk : keep.length ≤ 1048576
  · have ck : ¬ (keep.length : Int) > 1048576 := by omega
    have d40 := h40 live safe ops 1048576 (by omega) hL.n1 hL.n2 hL.n3 hL.b1 hL.b2 hL.b3
    by_cases hs : szd live safe ops ≤ 1048576
    · obtain ⟨B1, B2, B3⟩ := bds hs
      have d41 := h41o live safe ops B1.1 B2.1 B3.1
      have d41v := h41 live safe ops B1.1 B2.1 B3.1
      have d42 := h42 live safe ops B1.1 B2.1 B3.1
      have hb1 := B1.1
      have hb2 := B2.1
      have hb3 := B3.1
      have d57 := h57 keep hk
      have d58 := h58 keep hk
      have d57v := h57v keep hk
      have d52 := h52 live safe ops 1 none none none True True True (by omega) (by omega)
      have d59 := h59 keep (1 + 2 * live.length + 2 * safe.length + 4 * ops.length) none True (by omega) (by omega)
      have d56 := h56 live safe ops keep torn B1 B2 B3 hk
      rw [lefts_yes hs] at d40
      have c1 : ¬ ((1048576 - szd live safe ops : Nat) : Int) < 0 := by omega
      have f1 : ¬ ((1 + 2 * live.length + 2 * safe.length + 4 * ops.length + keep.length : Nat) : Int) < 0 := by omega
      cases hc : crB live safe ops keep torn
      · have d37 := h37_no live safe ops keep torn B1 B2 B3 hk hc
        rw [crV_no hc] at d56
        have s42 := h42n
        have s52 := h52n 1
        have s53 := h53n 1
        have f2 : ¬ ((1 : Nat) : Int) < 0 := by omega
        have f3 : (((1 : Nat) : Int) != ((1 : Nat) : Int)) = false := by simp
        have f0 : ((false == false) != true) = false := rfl
        unfold crNo at d37
        unfold disk at d40 d41 d41v d42 d56 d37 ⊢
        unfold nilA at s42 s52 s53 d56 d37
        simp -dsimp only [k14, ck, il_len, go_sem, ↓reduceIte, Nat.reduceEqDiff, Int.reduceLE, Int.reduceLT, Int.reduceNeg, Int.reduceEq, Nat.reduceMul, Nat.reduceAdd, Nat.reduceLeDiff, reduceCtorEq]
        refine Call_val (own := true) (d40) (by simp [ExpOk, AV.pure]) (.inl rfl) ?_
        simp -dsimp only [c1, go_sem, ↓reduceIte, Nat.reduceEqDiff, Int.reduceLE, Int.reduceLT, Int.reduceNeg, Int.reduceEq, Nat.reduceMul, Nat.reduceAdd, Nat.reduceLeDiff, reduceCtorEq]
        refine Call_val (own := false) (d41v) (by simp [ExpOk, AV.pure]) (.inr (by simp [AV.rooted, AV.ref1])) ?_
        simp -dsimp only [go_sem, ↓reduceIte, Nat.reduceEqDiff, Int.reduceLE, Int.reduceLT, Int.reduceNeg, Int.reduceEq, Nat.reduceMul, Nat.reduceAdd, Nat.reduceLeDiff, reduceCtorEq]
        refine Call_val (own := true) (d57v) (by simp [ExpOk, AV.pure]) (.inl rfl) ?_
        simp -dsimp only [go_sem, ↓reduceIte, Nat.reduceEqDiff, Int.reduceLE, Int.reduceLT, Int.reduceNeg, Int.reduceEq, Nat.reduceMul, Nat.reduceAdd, Nat.reduceLeDiff, reduceCtorEq]
        refine Call_val (own := false) (d56) (by simp [ExpOk, AV.pure]) (.inr (by simp [AV.rooted, AV.ref1])) ?_
        simp -dsimp only [go_sem, ↓reduceIte, Nat.reduceEqDiff, Int.reduceLE, Int.reduceLT, Int.reduceNeg, Int.reduceEq, Nat.reduceMul, Nat.reduceAdd, Nat.reduceLeDiff, reduceCtorEq]
        refine Call_news (own := true) (d41) (by simp [ExpOk, AV.pure, cur, hup_at, List.idxOf?_cons, List.idxOf?_nil, obM, fl_len, ol_len, fl_pure, ol_pure, mkF_len, mkO_len, objs_l, objs_r, objs_p, il_pure, il_len]) (by simp [obF, obO, fl_pure, ol_pure, il_pure]) (.inl rfl) (by simp [obF, obO]) ?_
        simp -dsimp only [copyA, impA, impL, Option.getD_some, Nat.sub_self, Nat.sub_zero, obF, obO, go_sem, ↓reduceIte, Nat.reduceEqDiff, Int.reduceLE, Int.reduceLT, Int.reduceNeg, Int.reduceEq, Nat.reduceMul, Nat.reduceAdd, Nat.reduceLeDiff, reduceCtorEq]
        refine Call_news (own := true) (d57) (by simp [ExpOk, AV.pure, cur, hup_at, List.idxOf?_cons, List.idxOf?_nil, obM, fl_len, ol_len, fl_pure, ol_pure, mkF_len, mkO_len, objs_l, objs_r, objs_p, il_pure, il_len]) (by simp [obI, fl_pure, ol_pure, il_pure]) (.inl rfl) (by simp [obI]) ?_
        simp -dsimp only [impA, impL, Option.getD_some, Nat.sub_self, Nat.sub_zero, obI, go_sem, ↓reduceIte, Nat.reduceEqDiff, Int.reduceLE, Int.reduceLT, Int.reduceNeg, Int.reduceEq, Nat.reduceMul, Nat.reduceAdd, Nat.reduceLeDiff, reduceCtorEq]
        refine Call_val (own := true) (v := .tup [.agg [.nils, .nils, .nils], .b false]) (by simpa [expL, expA, cur, hup_at, List.idxOf?_cons, List.idxOf?_nil, obM, subF, subO, subFm, subOm, fl_len, ol_len, mkF_len, mkO_len, objs_l, objs_r, objs_p, subI, il_len] using d37) (by simp [ExpOk, AV.pure, cur, hup_at, List.idxOf?_cons, List.idxOf?_nil, obM, fl_len, ol_len, fl_pure, ol_pure, mkF_len, mkO_len, objs_l, objs_r, objs_p, il_pure, il_len]) (.inl rfl) ?_
        simp -dsimp only [go_sem, ↓reduceIte, Nat.reduceEqDiff, Int.reduceLE, Int.reduceLT, Int.reduceNeg, Int.reduceEq, Nat.reduceMul, Nat.reduceAdd, Nat.reduceLeDiff, reduceCtorEq]
        refine Call_val (own := true) (s42) (by simp [ExpOk, AV.pure]) (.inl rfl) ?_
        simp -dsimp only [f0, go_sem, ↓reduceIte, Nat.reduceEqDiff, Int.reduceLE, Int.reduceLT, Int.reduceNeg, Int.reduceEq, Nat.reduceMul, Nat.reduceAdd, Nat.reduceLeDiff, reduceCtorEq]
        refine Call0_val false d41v (by simp [AV.free, AV.pure]) (.inr (by simp [AV.rooted, AV.ref1])) ?_
        simp -dsimp only [go_sem, ↓reduceIte, Nat.reduceEqDiff, Int.reduceLE, Int.reduceLT, Int.reduceNeg, Int.reduceEq, Nat.reduceMul, Nat.reduceAdd, Nat.reduceLeDiff, reduceCtorEq]
        refine Callv_val (v := .b true) true (by simpa [expL, expA, cur, hup_at, List.idxOf?_cons, List.idxOf?_nil, obM, subF, subO, subFm, subOm, fl_len, ol_len, mkF_len, mkO_len, objs_l, objs_r, objs_p, subI, il_len] using d42) (by simp [ExpOk, AV.pure, cur, hup_at, List.idxOf?_cons, List.idxOf?_nil, obM, fl_len, ol_len, fl_pure, ol_pure, mkF_len, mkO_len, objs_l, objs_r, objs_p, il_pure, il_len]) (.inl rfl) ?_
        simp -dsimp only [go_sem, ↓reduceIte, Nat.reduceEqDiff, Int.reduceLE, Int.reduceLT, Int.reduceNeg, Int.reduceEq, Nat.reduceMul, Nat.reduceAdd, Nat.reduceLeDiff, reduceCtorEq]
        refine Call_val (own := true) (d57v) (by simp [ExpOk, AV.pure]) (.inl rfl) ?_
        simp -dsimp only [go_sem, ↓reduceIte, Nat.reduceEqDiff, Int.reduceLE, Int.reduceLT, Int.reduceNeg, Int.reduceEq, Nat.reduceMul, Nat.reduceAdd, Nat.reduceLeDiff, reduceCtorEq]
        refine Call_val (own := true) (v := .b true) (by simpa [expL, expA, cur, hup_at, List.idxOf?_cons, List.idxOf?_nil, obM, subF, subO, subFm, subOm, fl_len, ol_len, mkF_len, mkO_len, objs_l, objs_r, objs_p, subI, il_len] using d58) (by simp [ExpOk, AV.pure, cur, hup_at, List.idxOf?_cons, List.idxOf?_nil, obM, fl_len, ol_len, fl_pure, ol_pure, mkF_len, mkO_len, objs_l, objs_r, objs_p, il_pure, il_len]) (.inl rfl) ?_
        simp -dsimp only [go_sem, ↓reduceIte, Nat.reduceEqDiff, Int.reduceLE, Int.reduceLT, Int.reduceNeg, Int.reduceEq, Nat.reduceMul, Nat.reduceAdd, Nat.reduceLeDiff, reduceCtorEq]
        refine Call_many (own := true) (v := i64 (1 + 2 * live.length + 2 * safe.length + 4 * ops.length : Nat)) [.r 37 0, .r 37 1, .r 37 2] [{ ver := 3, es := fl live, esz := 2 }, { ver := 3, es := fl safe, esz := 2 }, { ver := 3, es := ol ops, esz := 4 }] [obM 2 (fl (mkF 1 live.length)) True, obM 2 (fl (mkF (1 + 2 * live.length) safe.length)) True, obM 4 (ol (mkO (1 + 2 * live.length + 2 * safe.length) ops.length)) True] (by simp [hup_at, objs_l, objs_r, objs_p, obM]) (by simp) (by simpa [expL, expA, cur, hup_at, List.idxOf?_cons, List.idxOf?_nil, obM, subF, subO, subFm, subOm, fl_len, ol_len, mkF_len, mkO_len, objs_l, objs_r, objs_p, subI, il_len] using d52) rfl (by simp [ExpOk, AV.pure, cur, hup_at, List.idxOf?_cons, List.idxOf?_nil, obM, fl_len, ol_len, fl_pure, ol_pure, mkF_len, mkO_len, objs_l, objs_r, objs_p, il_pure, il_len]) (by simp [obM, fl_pure, ol_pure, il_pure]) (by simp [obM, fl_pure, ol_pure, il_pure]) (.inl rfl) (by simp [obM]) ?_
        simp -dsimp only [obM, go_sem, ↓reduceIte, Nat.reduceEqDiff, Int.reduceLE, Int.reduceLT, Int.reduceNeg, Int.reduceEq, Nat.reduceMul, Nat.reduceAdd, Nat.reduceLeDiff, reduceCtorEq]
        refine Call_many (own := true) (v := i64 (1 + 2 * live.length + 2 * safe.length + 4 * ops.length + keep.length : Nat)) [.r 39 0] [{ ver := 5, es := il keep, esz := 1 }] [obM 1 (il (mkI (1 + 2 * live.length + 2 * safe.length + 4 * ops.length) keep.length)) True] (by simp [hup_at, objs_l, objs_r, objs_p, obM]) (by simp) (by simpa [expL, expA, cur, hup_at, List.idxOf?_cons, List.idxOf?_nil, obM, subF, subO, subFm, subOm, fl_len, ol_len, mkF_len, mkO_len, objs_l, objs_r, objs_p, subI, il_len] using d59) rfl (by simp [ExpOk, AV.pure, cur, hup_at, List.idxOf?_cons, List.idxOf?_nil, obM, fl_len, ol_len, fl_pure, ol_pure, mkF_len, mkO_len, objs_l, objs_r, objs_p, il_pure, il_len]) (by simp [obM, fl_pure, ol_pure, il_pure]) (by simp [obM, fl_pure, ol_pure, il_pure]) (.inl rfl) (by simp [obM]) ?_
        simp -dsimp only [obM, f1, go_sem, ↓reduceIte, Nat.reduceEqDiff, Int.reduceLE, Int.reduceLT, Int.reduceNeg, Int.reduceEq, Nat.reduceMul, Nat.reduceAdd, Nat.reduceLeDiff, reduceCtorEq]
        refine Call_val (own := true) (s42) (by simp [ExpOk, AV.pure]) (.inl rfl) ?_
        simp -dsimp only [f0, go_sem, ↓reduceIte, Nat.reduceEqDiff, Int.reduceLE, Int.reduceLT, Int.reduceNeg, Int.reduceEq, Nat.reduceMul, Nat.reduceAdd, Nat.reduceLeDiff, reduceCtorEq]
        refine Call_val (own := true) (s52) (by simp [ExpOk, AV.pure]) (.inl rfl) ?_
        simp -dsimp only [go_sem, ↓reduceIte, Nat.reduceEqDiff, Int.reduceLE, Int.reduceLT, Int.reduceNeg, Int.reduceEq, Nat.reduceMul, Nat.reduceAdd, Nat.reduceLeDiff, reduceCtorEq]
        refine Call_val (own := true) (s53) (by simp [ExpOk, AV.pure]) (.inl rfl) ?_
        simp -dsimp only [f2, f3, go_sem, ↓reduceIte, Nat.reduceEqDiff, Int.reduceLE, Int.reduceLT, Int.reduceNeg, Int.reduceEq, Nat.reduceMul, Nat.reduceAdd, Nat.reduceLeDiff, reduceCtorEq]
        refine Call_val (own := false) (d41v) (by simp [ExpOk, AV.pure]) (.inr (by simp [AV.rooted, AV.ref1])) ?_
        simp -dsimp only [go_sem, ↓reduceIte, Nat.reduceEqDiff, Int.reduceLE, Int.reduceLT, Int.reduceNeg, Int.reduceEq, Nat.reduceMul, Nat.reduceAdd, Nat.reduceLeDiff, reduceCtorEq]
        refine Call_val (own := true) (d57v) (by simp [ExpOk, AV.pure]) (.inl rfl) ?_
        simp -dsimp only [go_sem, ↓reduceIte, Nat.reduceEqDiff, Int.reduceLE, Int.reduceLT, Int.reduceNeg, Int.reduceEq, Nat.reduceMul, Nat.reduceAdd, Nat.reduceLeDiff, reduceCtorEq]
        refine Call_val (own := true) (v := .tup [.agg [.nils, .nils, .nils], .b false]) (by simpa [expL, expA, cur, hup_at, List.idxOf?_cons, List.idxOf?_nil, obM, subF, subO, subFm, subOm, fl_len, ol_len, mkF_len, mkO_len, objs_l, objs_r, objs_p, subI, il_len] using d37) (by simp [ExpOk, AV.pure, cur, hup_at, List.idxOf?_cons, List.idxOf?_nil, obM, fl_len, ol_len, fl_pure, ol_pure, mkF_len, mkO_len, objs_l, objs_r, objs_p, il_pure, il_len]) (.inl rfl) ?_
        simp -dsimp only [go_sem, ↓reduceIte, Nat.reduceEqDiff, Int.reduceLE, Int.reduceLT, Int.reduceNeg, Int.reduceEq, Nat.reduceMul, Nat.reduceAdd, Nat.reduceLeDiff, reduceCtorEq]
        refine Call_val (own := true) (s42) (by simp [ExpOk, AV.pure]) (.inl rfl) ?_
        simp -dsimp only [f0, go_sem, ↓reduceIte, Nat.reduceEqDiff, Int.reduceLE, Int.reduceLT, Int.reduceNeg, Int.reduceEq, Nat.reduceMul, Nat.reduceAdd, Nat.reduceLeDiff, reduceCtorEq]
        refine Call_val (own := true) (s53) (by simp [ExpOk, AV.pure]) (.inl rfl) ?_
        simp -dsimp only [f2, f3, go_sem, ↓reduceIte, Nat.reduceEqDiff, Int.reduceLE, Int.reduceLT, Int.reduceNeg, Int.reduceEq, Nat.reduceMul, Nat.reduceAdd, Nat.reduceLeDiff, reduceCtorEq]
        exact Fin_val (by simp [resV, upd_at, retA]) (by simp [resV, upd_at, ResOk])
      · have d37 := h37_yes live safe ops keep torn B1 B2 B3 hk hc
        rw [crV_yes hc] at d56
        have hn0 := (crB_t.1 hc).2.2.2.1
        obtain ⟨now, hnow⟩ : ∃ now, now = crN ops keep torn safe keep.length := ⟨_, rfl⟩
        rw [← hnow] at d37 d56 hn0
        have s42 := h42s now (by omega)
        have s52 := h52s now now 1 none none True True (by omega) (by omega)
        have s53 := h53s 1 now.length now.length (by omega) (by omega)
        have f2 : ¬ ((1 + 2 * now.length + 2 * now.length : Nat) : Int) < 0 := by omega
        have f3 : (((1 + 2 * now.length + 2 * now.length : Nat) : Int) != ((1 + 2 * now.length + 2 * now.length : Nat) : Int)) = false := by simp
        have f0 : ((true == true) != true) = false := rfl
        unfold crYes at d37
        unfold disk at d40 d41 d41v d42 d56 d37 ⊢
        unfold syncD at s42 d56
        simp -dsimp only [k14, ck, il_len, go_sem, ↓reduceIte, Nat.reduceEqDiff, Int.reduceLE, Int.reduceLT, Int.reduceNeg, Int.reduceEq, Nat.reduceMul, Nat.reduceAdd, Nat.reduceLeDiff, reduceCtorEq]
        refine Call_val (own := true) (d40) (by simp [ExpOk, AV.pure]) (.inl rfl) ?_
        simp -dsimp only [c1, go_sem, ↓reduceIte, Nat.reduceEqDiff, Int.reduceLE, Int.reduceLT, Int.reduceNeg, Int.reduceEq, Nat.reduceMul, Nat.reduceAdd, Nat.reduceLeDiff, reduceCtorEq]
        refine Call_val (own := false) (d41v) (by simp [ExpOk, AV.pure]) (.inr (by simp [AV.rooted, AV.ref1])) ?_
        simp -dsimp only [go_sem, ↓reduceIte, Nat.reduceEqDiff, Int.reduceLE, Int.reduceLT, Int.reduceNeg, Int.reduceEq, Nat.reduceMul, Nat.reduceAdd, Nat.reduceLeDiff, reduceCtorEq]
        refine Call_val (own := true) (d57v) (by simp [ExpOk, AV.pure]) (.inl rfl) ?_
        simp -dsimp only [go_sem, ↓reduceIte, Nat.reduceEqDiff, Int.reduceLE, Int.reduceLT, Int.reduceNeg, Int.reduceEq, Nat.reduceMul, Nat.reduceAdd, Nat.reduceLeDiff, reduceCtorEq]
        refine Call_val (own := false) (d56) (by simp [ExpOk, AV.pure]) (.inr (by simp [AV.rooted, AV.ref1])) ?_
        simp -dsimp only [go_sem, ↓reduceIte, Nat.reduceEqDiff, Int.reduceLE, Int.reduceLT, Int.reduceNeg, Int.reduceEq, Nat.reduceMul, Nat.reduceAdd, Nat.reduceLeDiff, reduceCtorEq]
        refine Call_news (own := true) (d41) (by simp [ExpOk, AV.pure, cur, hup_at, List.idxOf?_cons, List.idxOf?_nil, obM, fl_len, ol_len, fl_pure, ol_pure, mkF_len, mkO_len, objs_l, objs_r, objs_p, il_pure, il_len]) (by simp [obF, obO, fl_pure, ol_pure, il_pure]) (.inl rfl) (by simp [obF, obO]) ?_
        simp -dsimp only [copyA, impA, impL, Option.getD_some, Nat.sub_self, Nat.sub_zero, obF, obO, go_sem, ↓reduceIte, Nat.reduceEqDiff, Int.reduceLE, Int.reduceLT, Int.reduceNeg, Int.reduceEq, Nat.reduceMul, Nat.reduceAdd, Nat.reduceLeDiff, reduceCtorEq]
        refine Call_news (own := true) (d57) (by simp [ExpOk, AV.pure, cur, hup_at, List.idxOf?_cons, List.idxOf?_nil, obM, fl_len, ol_len, fl_pure, ol_pure, mkF_len, mkO_len, objs_l, objs_r, objs_p, il_pure, il_len]) (by simp [obI, fl_pure, ol_pure, il_pure]) (.inl rfl) (by simp [obI]) ?_
        simp -dsimp only [impA, impL, Option.getD_some, Nat.sub_self, Nat.sub_zero, obI, go_sem, ↓reduceIte, Nat.reduceEqDiff, Int.reduceLE, Int.reduceLT, Int.reduceNeg, Int.reduceEq, Nat.reduceMul, Nat.reduceAdd, Nat.reduceLeDiff, reduceCtorEq]
        refine Call_news (own := true) (by simpa [expL, expA, cur, hup_at, List.idxOf?_nil, subF, subO, subI] using d37) (by simp [ExpOk, AV.pure, cur, hup_at, List.idxOf?_nil, fl_pure, ol_pure, fl_len, ol_len, il_pure, il_len]) (by simp [obF, fl_pure]) (.inl rfl) (by simp [obF]) ?_
        simp -dsimp only [syncA, impA, impL, Option.getD_some, Nat.sub_self, Nat.sub_zero, obF, obO, go_sem, ↓reduceIte, Nat.reduceEqDiff, Int.reduceLE, Int.reduceLT, Int.reduceNeg, Int.reduceEq, Nat.reduceMul, Nat.reduceAdd, Nat.reduceLeDiff, reduceCtorEq]
        refine Call_val (own := true) (v := .b true) (by simpa [expL, expA, cur, hup_at, List.idxOf?_cons, List.idxOf?_nil, obM, subF, subO, subFm, subOm, fl_len, ol_len, mkF_len, mkO_len, objs_l, objs_r, objs_p, subI, il_len] using s42) (by simp [ExpOk, AV.pure, cur, hup_at, List.idxOf?_cons, List.idxOf?_nil, obM, fl_len, ol_len, fl_pure, ol_pure, mkF_len, mkO_len, objs_l, objs_r, objs_p, il_pure, il_len]) (.inl rfl) ?_
        simp -dsimp only [f0, go_sem, ↓reduceIte, Nat.reduceEqDiff, Int.reduceLE, Int.reduceLT, Int.reduceNeg, Int.reduceEq, Nat.reduceMul, Nat.reduceAdd, Nat.reduceLeDiff, reduceCtorEq]
        refine Call0_val false d41v (by simp [AV.free, AV.pure]) (.inr (by simp [AV.rooted, AV.ref1])) ?_
        simp -dsimp only [go_sem, ↓reduceIte, Nat.reduceEqDiff, Int.reduceLE, Int.reduceLT, Int.reduceNeg, Int.reduceEq, Nat.reduceMul, Nat.reduceAdd, Nat.reduceLeDiff, reduceCtorEq]
        refine Callv_val (v := .b true) true (by simpa [expL, expA, cur, hup_at, List.idxOf?_cons, List.idxOf?_nil, obM, subF, subO, subFm, subOm, fl_len, ol_len, mkF_len, mkO_len, objs_l, objs_r, objs_p, subI, il_len] using d42) (by simp [ExpOk, AV.pure, cur, hup_at, List.idxOf?_cons, List.idxOf?_nil, obM, fl_len, ol_len, fl_pure, ol_pure, mkF_len, mkO_len, objs_l, objs_r, objs_p, il_pure, il_len]) (.inl rfl) ?_
        simp -dsimp only [go_sem, ↓reduceIte, Nat.reduceEqDiff, Int.reduceLE, Int.reduceLT, Int.reduceNeg, Int.reduceEq, Nat.reduceMul, Nat.reduceAdd, Nat.reduceLeDiff, reduceCtorEq]
        refine Call_val (own := true) (d57v) (by simp [ExpOk, AV.pure]) (.inl rfl) ?_
        simp -dsimp only [go_sem, ↓reduceIte, Nat.reduceEqDiff, Int.reduceLE, Int.reduceLT, Int.reduceNeg, Int.reduceEq, Nat.reduceMul, Nat.reduceAdd, Nat.reduceLeDiff, reduceCtorEq]
        refine Call_val (own := true) (v := .b true) (by simpa [expL, expA, cur, hup_at, List.idxOf?_cons, List.idxOf?_nil, obM, subF, subO, subFm, subOm, fl_len, ol_len, mkF_len, mkO_len, objs_l, objs_r, objs_p, subI, il_len] using d58) (by simp [ExpOk, AV.pure, cur, hup_at, List.idxOf?_cons, List.idxOf?_nil, obM, fl_len, ol_len, fl_pure, ol_pure, mkF_len, mkO_len, objs_l, objs_r, objs_p, il_pure, il_len]) (.inl rfl) ?_
        simp -dsimp only [go_sem, ↓reduceIte, Nat.reduceEqDiff, Int.reduceLE, Int.reduceLT, Int.reduceNeg, Int.reduceEq, Nat.reduceMul, Nat.reduceAdd, Nat.reduceLeDiff, reduceCtorEq]
        refine Call_many (own := true) (v := i64 (1 + 2 * live.length + 2 * safe.length + 4 * ops.length : Nat)) [.r 37 0, .r 37 1, .r 37 2] [{ ver := 3, es := fl live, esz := 2 }, { ver := 3, es := fl safe, esz := 2 }, { ver := 3, es := ol ops, esz := 4 }] [obM 2 (fl (mkF 1 live.length)) True, obM 2 (fl (mkF (1 + 2 * live.length) safe.length)) True, obM 4 (ol (mkO (1 + 2 * live.length + 2 * safe.length) ops.length)) True] (by simp [hup_at, objs_l, objs_r, objs_p, obM]) (by simp) (by simpa [expL, expA, cur, hup_at, List.idxOf?_cons, List.idxOf?_nil, obM, subF, subO, subFm, subOm, fl_len, ol_len, mkF_len, mkO_len, objs_l, objs_r, objs_p, subI, il_len] using d52) rfl (by simp [ExpOk, AV.pure, cur, hup_at, List.idxOf?_cons, List.idxOf?_nil, obM, fl_len, ol_len, fl_pure, ol_pure, mkF_len, mkO_len, objs_l, objs_r, objs_p, il_pure, il_len]) (by simp [obM, fl_pure, ol_pure, il_pure]) (by simp [obM, fl_pure, ol_pure, il_pure]) (.inl rfl) (by simp [obM]) ?_
        simp -dsimp only [obM, go_sem, ↓reduceIte, Nat.reduceEqDiff, Int.reduceLE, Int.reduceLT, Int.reduceNeg, Int.reduceEq, Nat.reduceMul, Nat.reduceAdd, Nat.reduceLeDiff, reduceCtorEq]
        refine Call_many (own := true) (v := i64 (1 + 2 * live.length + 2 * safe.length + 4 * ops.length + keep.length : Nat)) [.r 39 0] [{ ver := 5, es := il keep, esz := 1 }] [obM 1 (il (mkI (1 + 2 * live.length + 2 * safe.length + 4 * ops.length) keep.length)) True] (by simp [hup_at, objs_l, objs_r, objs_p, obM]) (by simp) (by simpa [expL, expA, cur, hup_at, List.idxOf?_cons, List.idxOf?_nil, obM, subF, subO, subFm, subOm, fl_len, ol_len, mkF_len, mkO_len, objs_l, objs_r, objs_p, subI, il_len] using d59) rfl (by simp [ExpOk, AV.pure, cur, hup_at, List.idxOf?_cons, List.idxOf?_nil, obM, fl_len, ol_len, fl_pure, ol_pure, mkF_len, mkO_len, objs_l, objs_r, objs_p, il_pure, il_len]) (by simp [obM, fl_pure, ol_pure, il_pure]) (by simp [obM, fl_pure, ol_pure, il_pure]) (.inl rfl) (by simp [obM]) ?_
        simp -dsimp only [obM, f1, go_sem, ↓reduceIte, Nat.reduceEqDiff, Int.reduceLE, Int.reduceLT, Int.reduceNeg, Int.reduceEq, Nat.reduceMul, Nat.reduceAdd, Nat.reduceLeDiff, reduceCtorEq]
        refine Call_val (own := true) (v := .b true) (by simpa [expL, expA, cur, hup_at, List.idxOf?_cons, List.idxOf?_nil, obM, subF, subO, subFm, subOm, fl_len, ol_len, mkF_len, mkO_len, objs_l, objs_r, objs_p, subI, il_len] using s42) (by simp [ExpOk, AV.pure, cur, hup_at, List.idxOf?_cons, List.idxOf?_nil, obM, fl_len, ol_len, fl_pure, ol_pure, mkF_len, mkO_len, objs_l, objs_r, objs_p, il_pure, il_len]) (.inl rfl) ?_
        simp -dsimp only [f0, go_sem, ↓reduceIte, Nat.reduceEqDiff, Int.reduceLE, Int.reduceLT, Int.reduceNeg, Int.reduceEq, Nat.reduceMul, Nat.reduceAdd, Nat.reduceLeDiff, reduceCtorEq]
        refine Call_many (own := true) (v := i64 (1 + 2 * now.length + 2 * now.length : Nat)) [.r 44 0, .r 44 1] [{ ver := 6, es := fl now, esz := 2 }, { ver := 6, es := fl now, esz := 2 }] [obM 2 (fl (mkF 1 now.length)) True, obM 2 (fl (mkF (1 + 2 * now.length) now.length)) True] (by simp [hup_at, objs_l, objs_r, objs_p, obM]) (by simp) (by simpa [expL, expA, cur, hup_at, List.idxOf?_cons, List.idxOf?_nil, obM, subF, subO, subFm, subOm, fl_len, ol_len, mkF_len, mkO_len, objs_l, objs_r, objs_p, subI, il_len] using s52) rfl (by simp [ExpOk, AV.pure, cur, hup_at, List.idxOf?_cons, List.idxOf?_nil, obM, fl_len, ol_len, fl_pure, ol_pure, mkF_len, mkO_len, objs_l, objs_r, objs_p, il_pure, il_len]) (by simp [obM, fl_pure, ol_pure, il_pure]) (by simp [obM, fl_pure, ol_pure, il_pure]) (.inl rfl) (by simp [obM]) ?_
        simp -dsimp only [obM, go_sem, ↓reduceIte, Nat.reduceEqDiff, Int.reduceLE, Int.reduceLT, Int.reduceNeg, Int.reduceEq, Nat.reduceMul, Nat.reduceAdd, Nat.reduceLeDiff, reduceCtorEq]
        refine Call_val (own := true) (v := i64 (1 + 2 * now.length + 2 * now.length : Nat)) (by simpa [expL, expA, cur, hup_at, List.idxOf?_cons, List.idxOf?_nil, obM, subF, subO, subFm, subOm, fl_len, ol_len, mkF_len, mkO_len, objs_l, objs_r, objs_p, subI, il_len] using s53) (by simp [ExpOk, AV.pure, cur, hup_at, List.idxOf?_cons, List.idxOf?_nil, obM, fl_len, ol_len, fl_pure, ol_pure, mkF_len, mkO_len, objs_l, objs_r, objs_p, il_pure, il_len]) (.inl rfl) ?_
        simp -dsimp only [f2, f3, go_sem, ↓reduceIte, Nat.reduceEqDiff, Int.reduceLE, Int.reduceLT, Int.reduceNeg, Int.reduceEq, Nat.reduceMul, Nat.reduceAdd, Nat.reduceLeDiff, reduceCtorEq]
        refine Call_val (own := false) (d41v) (by simp [ExpOk, AV.pure]) (.inr (by simp [AV.rooted, AV.ref1])) ?_
        simp -dsimp only [go_sem, ↓reduceIte, Nat.reduceEqDiff, Int.reduceLE, Int.reduceLT, Int.reduceNeg, Int.reduceEq, Nat.reduceMul, Nat.reduceAdd, Nat.reduceLeDiff, reduceCtorEq]
        refine Call_val (own := true) (d57v) (by simp [ExpOk, AV.pure]) (.inl rfl) ?_
        simp -dsimp only [go_sem, ↓reduceIte, Nat.reduceEqDiff, Int.reduceLE, Int.reduceLT, Int.reduceNeg, Int.reduceEq, Nat.reduceMul, Nat.reduceAdd, Nat.reduceLeDiff, reduceCtorEq]
        refine Call_news (own := true) (d37) (by simp [ExpOk, AV.pure, cur, hup_at, List.idxOf?_cons, List.idxOf?_nil, obM, fl_len, ol_len, fl_pure, ol_pure, mkF_len, mkO_len, objs_l, objs_r, objs_p, il_pure, il_len]) (by simp [obF, fl_pure, ol_pure, il_pure]) (.inl rfl) (by simp [obF]) ?_
        simp -dsimp only [syncA, impA, impL, Option.getD_some, Nat.sub_self, Nat.sub_zero, obF, obO, go_sem, ↓reduceIte, Nat.reduceEqDiff, Int.reduceLE, Int.reduceLT, Int.reduceNeg, Int.reduceEq, Nat.reduceMul, Nat.reduceAdd, Nat.reduceLeDiff, reduceCtorEq]
        refine Call_val (own := true) (v := .b true) (by simpa [expL, expA, cur, hup_at, List.idxOf?_cons, List.idxOf?_nil, obM, subF, subO, subFm, subOm, fl_len, ol_len, mkF_len, mkO_len, objs_l, objs_r, objs_p, subI, il_len] using s42) (by simp [ExpOk, AV.pure, cur, hup_at, List.idxOf?_cons, List.idxOf?_nil, obM, fl_len, ol_len, fl_pure, ol_pure, mkF_len, mkO_len, objs_l, objs_r, objs_p, il_pure, il_len]) (.inl rfl) ?_
        simp -dsimp only [f0, go_sem, ↓reduceIte, Nat.reduceEqDiff, Int.reduceLE, Int.reduceLT, Int.reduceNeg, Int.reduceEq, Nat.reduceMul, Nat.reduceAdd, Nat.reduceLeDiff, reduceCtorEq]
        refine Call_val (own := true) (v := i64 (1 + 2 * now.length + 2 * now.length : Nat)) (by simpa [expL, expA, cur, hup_at, List.idxOf?_cons, List.idxOf?_nil, obM, subF, subO, subFm, subOm, fl_len, ol_len, mkF_len, mkO_len, objs_l, objs_r, objs_p, subI, il_len] using s53) (by simp [ExpOk, AV.pure, cur, hup_at, List.idxOf?_cons, List.idxOf?_nil, obM, fl_len, ol_len, fl_pure, ol_pure, mkF_len, mkO_len, objs_l, objs_r, objs_p, il_pure, il_len]) (.inl rfl) ?_
        simp -dsimp only [f2, f3, go_sem, ↓reduceIte, Nat.reduceEqDiff, Int.reduceLE, Int.reduceLT, Int.reduceNeg, Int.reduceEq, Nat.reduceMul, Nat.reduceAdd, Nat.reduceLeDiff, reduceCtorEq]
        exact Fin_val (by simp [resV, upd_at, retA]) (by simp [resV, upd_at, ResOk])
    · unfold disk at d40 ⊢
      rw [lefts_no hs] at d40
      simp -dsimp only [k14, ck, il_len, go_sem, ↓reduceIte, Nat.reduceEqDiff, Int.reduceLE, Int.reduceLT, Int.reduceNeg, Int.reduceEq, Nat.reduceMul, Nat.reduceAdd, Nat.reduceLeDiff, reduceCtorEq]
      refine Call_val (own := true) (d40) (by simp [ExpOk, AV.pure]) (.inl rfl) ?_
      simp -dsimp only [neg1, go_sem, ↓reduceIte, Nat.reduceEqDiff, Int.reduceLE, Int.reduceLT, Int.reduceNeg, Int.reduceEq, Nat.reduceMul, Nat.reduceAdd, Nat.reduceLeDiff, reduceCtorEq]
      exact Fin_val (by simp [resV, upd_at, retA]) (by simp [resV, upd_at, ResOk])
  · have ck : (keep.length : Int) > 1048576 := by omega
    unfold disk
    simp -dsimp only [k14, ck, il_len, go_sem, ↓reduceIte, Nat.reduceEqDiff, Int.reduceLE, Int.reduceLT, Int.reduceNeg, Int.reduceEq, Nat.reduceMul, Nat.reduceAdd, Nat.reduceLeDiff, reduceCtorEq]
    exact Fin_val (by simp [resV, upd_at, retA]) (by simp [resV, upd_at, ResOk])
end FrA

