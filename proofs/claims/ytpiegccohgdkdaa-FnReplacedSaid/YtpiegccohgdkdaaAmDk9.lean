/- Power is lost: plain and walked. No condition. -/
import Derived.Test.YtpiegccohgdkdaaAmDk8
set_option linter.all false
set_option linter.unusedSimpArgs false
set_option linter.unusedVariables false
set_option linter.deprecated false
/-! DkCr -/
open Go Go.AM
namespace FrA
open Go.Proofs
set_option maxRecDepth 100000
set_option linter.unusedSimpArgs false
theorem put_cons (f : File) (l : List File) (n d : List UInt8) : put (f :: l) n d = if cmpB f.1 n < 0 then f :: put l n d else if cmpB f.1 n = 0 then (n, d) :: l else (n, d) :: f :: l := by
  unfold put
  simp only [has, pos]
  by_cases h1 : cmpB f.1 n < 0
  · simp only [h1, if_true]; split <;> simp
  · simp only [h1, if_false]
    by_cases h2 : cmpB f.1 n = 0 <;> simp [h2]
theorem put_srt (n d : List UInt8) : ∀ (l : List File), Srt l → Srt (put l n d)
  | [], _ => by simp [put, has, pos, Srt]
  | f :: l, hs => by
    rw [put_cons]
    obtain ⟨h1, h2⟩ := List.pairwise_cons.1 hs
    split
    · rename_i hlt
      refine List.pairwise_cons.2 ⟨fun g hg => ?_, put_srt n d l h2⟩
      rcases mem_put hg with hg | rfl
      · exact h1 g hg
      · exact hlt
    · split
      · rename_i _ he
        refine List.pairwise_cons.2 ⟨fun g hg => ?_, h2⟩
        have := h1 g hg; rw [cmpB_eq _ _ he] at this; exact this
      · rename_i hlt hne
        have : cmpB n f.1 < 0 := by have := cmpB_flip f.1 n; omega
        refine List.pairwise_cons.2 ⟨fun g hg => ?_, hs⟩
        rcases List.mem_cons.1 hg with rfl | hg
        · exact this
        · exact cmpB_trans _ _ _ this (h1 g hg)
theorem cut_srt {l : List File} {n : List UInt8} (hs : Srt l) : Srt (cut l n) := by
  unfold cut; split
  · exact List.Pairwise.sublist (List.eraseIdx_sublist _ _) hs
  · exact hs
theorem act_srt {l : List File} {o : Dop} (hs : Srt l) : Srt (act l o) := by
  unfold act
  split
  · exact put_srt _ _ _ hs
  · split
    · exact hs
    · split
      · exact put_srt _ _ _ (cut_srt hs)
      · exact cut_srt hs
/-- Whole numbers as a row. -/
def il (l : List Int) : List (List AV) := l.map fun k => [.i .i64 k]
theorem il_len (l : List Int) : (il l).length = l.length := by simp [il]
theorem il_get {l : List Int} {i : Nat} (h : i < l.length) : (il l)[i]? = some [.i .i64 (l.getD i 0)] := by simp [il, List.getElem?_eq_getElem h]
theorem il_pure (l : List Int) : Pure (il l) := by
  intro e he c hc
  simp only [il, List.mem_map] at he
  obtain ⟨t, _, rfl⟩ := he
  simp at hc; subst hc; rfl
theorem il_flat (l : List Int) : Flat (il l) := by
  intro e he c hc
  simp only [il, List.mem_map] at he
  obtain ⟨t, _, rfl⟩ := he
  simp at hc; subst hc; rfl
theorem il_good (l : List Int) : Good (il l) 1 := by
  intro e he
  simp only [il, List.mem_map] at he
  obtain ⟨t, _, rfl⟩ := he
  simp [AV.storable]
/-- Is the i-th right? -/
def kAt (n : Nat) (keep : List Int) (i : Nat) : Prop := 0 ≤ keep.getD i 0 ∧ keep.getD i 0 ≤ (n : Int) - 1 ∧ (0 < i → keep.getD (i - 1) 0 < keep.getD i 0)
def kOk (n : Nat) (keep : List Int) : Prop := ∀ i, i < keep.length → kAt n keep i
theorem kAt_ge {n : Nat} {keep : List Int} : ∀ {i : Nat}, (∀ k, k ≤ i → kAt n keep k) → (i : Int) ≤ keep.getD i 0
  | 0, h => by have := (h 0 (Nat.le_refl _)).1; omega
  | i + 1, h => by
    have h1 := kAt_ge (i := i) fun k hk => h k (by omega)
    have h2 := (h (i + 1) (Nat.le_refl _)).2.2 (by omega)
    rw [Nat.add_sub_cancel] at h2; omega
theorem kAt_lt {n i : Nat} {keep : List Int} (h : ∀ k, k < i → kAt n keep k) : i ≤ n := by
  cases i with
  | zero => omega
  | succ i =>
    have h1 := kAt_ge (i := i) fun k hk => h k (by omega)
    have h2 := (h i (by omega)).2.1
    omega
def tear (last : Bool) (torn : Int) (o : Dop) : Dop := if last = true ∧ o.1 = 1 then (o.1, o.2.1, o.2.2.1, o.2.2.2.take torn.toNat) else o
def opK (ops : List Dop) (keep : List Int) (torn : Int) (i : Nat) : Dop := tear (decide (i + 1 = keep.length)) torn (ops.getD (keep.getD i 0).toNat dop0)
def crN (ops : List Dop) (keep : List Int) (torn : Int) (safe : List File) : Nat → List File
  | 0 => safe
  | i + 1 => act (crN ops keep torn safe i) (opK ops keep torn i)
theorem tear_le (b : Bool) (t : Int) (o : Dop) : (tear b t o).2.2.2.length ≤ o.2.2.2.length := by
  unfold tear; split
  · simp; omega
  · omega
theorem crN_ok {ops : List Dop} {keep : List Int} {torn : Int} {safe : List File} (hs : okP safe) (ho : ∀ o ∈ ops, o.2.2.2.length ≤ 1000000000) : ∀ i, Srt (crN ops keep torn safe i) ∧ (crN ops keep torn safe i).length ≤ 60 + i ∧ ∀ f ∈ crN ops keep torn safe i, f.2.length ≤ 200000 + i * 1000000000
  | 0 => ⟨ok_srt hs, by simpa [crN] using hs.1, fun f hf => by have := okP_le hs f hf; omega⟩
  | i + 1 => by
    obtain ⟨h1, h2, h3⟩ := crN_ok (ops := ops) (keep := keep) (torn := torn) hs ho i
    refine ⟨act_srt h1, ?_, fun f hf => ?_⟩
    · have := act_len (crN ops keep torn safe i) (opK ops keep torn i); simp only [crN]; omega
    · have hd : (opK ops keep torn i).2.2.2.length ≤ 1000000000 := by
        refine Nat.le_trans (tear_le _ _ _) ?_
        by_cases hlt : (keep.getD i 0).toNat < ops.length
        · exact ho _ (getO_mem hlt)
        · rw [List.getD_eq_getElem?_getD, List.getElem?_eq_none (by omega)]; simp [dop0]
      have := act_le h3 hd f hf; omega
noncomputable def crB (live safe : List File) (ops : List Dop) (keep : List Int) (torn : Int) : Bool := @decide (diskB live safe ops = true ∧ 0 ≤ torn ∧ kOk ops.length keep ∧ okP (crN ops keep torn safe keep.length)) (Classical.propDecidable _)
theorem crB_t {live safe : List File} {ops : List Dop} {keep : List Int} {torn : Int} : crB live safe ops keep torn = true ↔ diskB live safe ops = true ∧ 0 ≤ torn ∧ kOk ops.length keep ∧ okP (crN ops keep torn safe keep.length) := by unfold crB; exact @decide_eq_true_iff _ (Classical.propDecidable _)
theorem crB_f {live safe : List File} {ops : List Dop} {keep : List Int} {torn : Int} (h : ¬ (diskB live safe ops = true ∧ 0 ≤ torn ∧ kOk ops.length keep ∧ okP (crN ops keep torn safe keep.length))) : crB live safe ops keep torn = false := by
  cases e : crB live safe ops keep torn
  · rfl
  · exact absurd (crB_t.1 e) h
theorem wrs {x : Int} (h1 : -9000000000000000000 ≤ x) (h2 : x ≤ 9000000000000000000) : IntKind.i64.wrap x = x := IntWalk.i64_in _ ⟨by omega, by omega⟩
def crNo : AV := .tup [nilA, .b false]
def crYes (now : List File) : AV := .tup [syncA now, .b true]
theorem take_min (s : List UInt8) (torn : Int) (h : 0 ≤ torn) : List.take (min torn (s.length : Int)).toNat s = s.take torn.toNat := by
  by_cases hl : torn ≤ s.length
  · rw [Int.min_eq_left hl]
  · rw [Int.min_eq_right (by omega), Int.toNat_natCast, List.take_length, List.take_of_length_le (by omega)]
/-- What comes back. -/
def crΦ (live safe : List File) (ops : List Dop) (keep : List Int) (torn : Int) (r : AV) (o' : List Ob) : Prop :=
  (crB live safe ops keep torn = false ∧ r = crNo ∧ o' = []) ∨ (crB live safe ops keep torn = true ∧ r = crYes (crN ops keep torn safe keep.length) ∧ o' = [obF (crN ops keep torn safe keep.length), obF (crN ops keep torn safe keep.length)])
theorem h37 (live safe : List File) (ops : List Dop) (keep : List Int) (torn : Int) (hl : BdF live) (hsf : BdF safe) (ho : BdO ops) (hk : keep.length ≤ 1048576) : HC 37 [disk live safe ops, .dat 1 (il keep), .i .i64 torn] [] true (crΦ live safe ops keep torn) := by
  refine holdsc_of (c := Try.f37.body.getD .skip) (k := k37.1) (cs := [(6, some (true, 3)), (7, none)]) HOk mixedT hintT Try.func37 (by kernel_rfl) (by kernel_rfl) (by kernel_rfl) k37.2 (by kernel_rfl) (le_of 3 _ (by kernel_rfl)) ?_
  have d35 := h35 live safe ops hl hsf ho
  have fin : crB live safe ops keep torn = false → ∀ (g : Slots) (h : Heap), g 6 = .ptr (.l 6) 2 0 0 → g 7 = .b false → h (.l 6) = some { ver := 2, es := [[.nils, .nils, .nils]], esz := 3, own := False, fixed := true } →
      FinC [(6, some (true, 3)), (7, none)] [] true (crΦ live safe ops keep torn) .ret g h 0 := by
    intro hc g h g6 g7 hh
    refine ⟨True, [nilA, .b false], (by simp [resM, resE, g6, g7, loadF, cur, hh, yes, nilA]), trivial, crNo, [], .inl ⟨hc, rfl, rfl⟩, [], ⟨.nil, (by simp), rfl, (fun k ob hk => by simp at hk)⟩, ?_, ?_⟩
    · simp [resOne, retA, retL, crNo, nilA]
    · simp [resOne, ResOk, ResL, nilA]
  have eno : ∀ {p : Prop}, p → (diskB live safe ops = true → 0 ≤ torn → kOk ops.length keep → okP (crN ops keep torn safe keep.length) → ¬ p) → crB live safe ops keep torn = false := fun hp hn => crB_f fun ⟨a, b, c, d⟩ => hn a b c d hp
  unfold disk at d35 ⊢
  cases hd : diskB live safe ops
  · rw [hd] at d35
    simp -dsimp only [k37, go_sem, ↓reduceIte, Nat.reduceEqDiff, Int.reduceLE, Int.reduceLT, Int.reduceNeg, Int.reduceEq, Nat.reduceMul, Nat.reduceAdd, Nat.reduceLeDiff, reduceCtorEq]
    refine Call_val (own := true) (d35) (by simp [ExpOk, AV.pure]) (.inl rfl) ?_
    simp -dsimp only [go_sem, ↓reduceIte, Nat.reduceEqDiff, Int.reduceLE, Int.reduceLT, Int.reduceNeg, Int.reduceEq, Nat.reduceMul, Nat.reduceAdd, Nat.reduceLeDiff, reduceCtorEq]
    exact fin (crB_f fun h => by rw [hd] at h; simp at h) _ _ (by simp [upd_at]) (by simp [upd_at]) (by simp only [hup_at, newObs, ↓reduceIte, Nat.reduceEqDiff, reduceCtorEq, Rid.r.injEq, Rid.l.injEq, Nat.reduceAdd, Nat.zero_add, and_self, and_true, and_false, false_and, true_and] <;> rfl)
  rw [hd] at d35
  obtain ⟨p1, p2, p3⟩ := diskB_ok hd
  by_cases ht : torn < 0
  · simp -dsimp only [k37, go_sem, ↓reduceIte, Nat.reduceEqDiff, Int.reduceLE, Int.reduceLT, Int.reduceNeg, Int.reduceEq, Nat.reduceMul, Nat.reduceAdd, Nat.reduceLeDiff, reduceCtorEq]
    refine Call_val (own := true) (d35) (by simp [ExpOk, AV.pure]) (.inl rfl) ?_
    simp -dsimp only [ht, go_sem, ↓reduceIte, Nat.reduceEqDiff, Int.reduceLE, Int.reduceLT, Int.reduceNeg, Int.reduceEq, Nat.reduceMul, Nat.reduceAdd, Nat.reduceLeDiff, reduceCtorEq]
    exact fin (crB_f fun h => by have := h.2.1; omega) _ _ (by simp [upd_at]) (by simp [upd_at]) (by simp only [hup_at, newObs, ↓reduceIte, Nat.reduceEqDiff, reduceCtorEq, Rid.r.injEq, Rid.l.injEq, Nat.reduceAdd, Nat.zero_add, and_self, and_true, and_false, false_and, true_and] <;> rfl)
  simp -dsimp only [k37, go_sem, ↓reduceIte, Nat.reduceEqDiff, Int.reduceLE, Int.reduceLT, Int.reduceNeg, Int.reduceEq, Nat.reduceMul, Nat.reduceAdd, Nat.reduceLeDiff, reduceCtorEq]
  refine Call_val (own := true) (d35) (by simp [ExpOk, AV.pure]) (.inl rfl) ?_
  simp -dsimp only [ht, il_len, go_sem, ↓reduceIte, Nat.reduceEqDiff, Int.reduceLE, Int.reduceLT, Int.reduceNeg, Int.reduceEq, Nat.reduceMul, Nat.reduceAdd, Nat.reduceLeDiff, reduceCtorEq]
  have hbo := ho.2
  refine K_for keep.length (fun i g h c => (∀ k, k < i → kAt ops.length keep k) ∧ g 1 = .dat 1 (il keep) ∧ g 2 = .i .i64 torn ∧ g 3 = .ptr (.l 3) 1 0 0 ∧ g 6 = .ptr (.l 6) 2 0 0 ∧ g 8 = .dat 2 (fl (crN ops keep torn safe i)) ∧ g 22 = .dat 1 (il keep) ∧ g 23 = i64 keep.length ∧ g 24 = i64 i ∧
    h (.l 3) = some { ver := 1, es := [[.dat 2 (fl live), .dat 2 (fl safe), .dat 4 (ol ops)]], esz := 3, own := False, fixed := true } ∧ h (.l 6) = some { ver := 2, es := [[.nils, .nils, .nils]], esz := 3, own := False, fixed := true }) ?_ ?_ ?_
  · exact ⟨fun k hk => by omega, by simp [upd_at, S_1], by simp [upd_at, S_2], by simp [upd_at], by simp [upd_at], by simp [upd_at, crN], by simp [upd_at], by simp [upd_at], by simp [upd_at], (by simp only [hup_at, newObs, ↓reduceIte, Nat.reduceEqDiff, reduceCtorEq, Rid.r.injEq, Rid.l.injEq, Nat.reduceAdd, Nat.zero_add, and_self, and_true, and_false, false_and, true_and] <;> rfl), (by simp only [hup_at, newObs, ↓reduceIte, Nat.reduceEqDiff, reduceCtorEq, Rid.r.injEq, Rid.l.injEq, Nat.reduceAdd, Nat.zero_add, and_self, and_true, and_false, false_and, true_and] <;> rfl)⟩
  · rintro i A hi hA g h c ⟨hok, q1, q2, q3, q6, q8, q22, q23, q24, m3, m6⟩
    have hc : (i : Int) < (keep.length : Int) := by omega
    have gi := il_get hi
    obtain ⟨kv, hkv⟩ : ∃ kv, kv = keep.getD i 0 := ⟨_, rfl⟩
    rw [← hkv] at gi
    have w0 : IntKind.i64.wrap ((ops.length : Int) - 1) = (ops.length : Int) - 1 := wrs (by omega) (by omega)
    have w1 : IntKind.i64.wrap ((i : Int) + 1) = ((i + 1 : Nat) : Int) := by rw [wr (by omega) (by omega)]; rfl
    have bad : ¬ kAt ops.length keep i → crB live safe ops keep torn = false := fun hn => crB_f fun hh => hn (hh.2.2.1 i hi)
    simp -dsimp only [q1, q2, q3, q6, q8, q22, q23, q24, m3, m6, hc, gi, w0, ol_len, go_sem, ↓reduceIte, Nat.reduceEqDiff, Int.reduceLE, Int.reduceLT, Int.reduceNeg, Int.reduceEq, Nat.reduceMul, Nat.reduceAdd, Nat.reduceLeDiff, reduceCtorEq]
    refine Call_val (own := true) (h86 kv 0 ((ops.length : Int) - 1)) (by simp [ExpOk, AV.pure]) (.inl rfl) ?_
    cases e1 : (decide (0 ≤ kv) && decide (kv ≤ (ops.length : Int) - 1))
    · simp -dsimp only [q6, m6, go_sem, ↓reduceIte, Nat.reduceEqDiff, Int.reduceLE, Int.reduceLT, Int.reduceNeg, Int.reduceEq, Nat.reduceMul, Nat.reduceAdd, Nat.reduceLeDiff, reduceCtorEq]
      refine fin (bad fun hh => ?_) _ _ (by simp [upd_at, q6]) (by simp [upd_at]) (by simp only [hup_at, newObs, ↓reduceIte, Nat.reduceEqDiff, reduceCtorEq, Rid.r.injEq, Rid.l.injEq, Nat.reduceAdd, Nat.zero_add, and_self, and_true, and_false, false_and, true_and] <;> rfl)
      have h1 := hh.1; have h2 := hh.2.1; rw [← hkv] at h1 h2; simp at e1; omega
    simp only [Bool.and_eq_true, decide_eq_true_eq] at e1
    have hil : i ≤ ops.length := kAt_lt hok
    obtain ⟨s1, s2, s3⟩ := crN_ok (ops := ops) (keep := keep) (torn := torn) (safe := safe) p2 hbo i
    have hkn : kv.toNat < ops.length := by omega
    obtain ⟨op, hop⟩ : ∃ op, op = ops.getD kv.toNat dop0 := ⟨_, rfl⟩
    have go := ol_get hkn
    rw [← hop] at go
    have ec : opC op = [.i .i64 op.1, .s op.2.1, .s op.2.2.1, .s op.2.2.2] := rfl
    rw [ec] at go
    have hod : op.2.2.2.length ≤ 1000000000 := by rw [hop]; exact hbo _ (getO_mem hkn)
    have w2 : IntKind.i64.wrap ((keep.length : Int) - 1) = (keep.length : Int) - 1 := wrs (by omega) (by omega)
    have hopK : opK ops keep torn i = tear (decide (i + 1 = keep.length)) torn op := by unfold opK; rw [← hkv, ← hop]
    have dn := fun o' (ho' : o'.2.2.2.length ≤ 1000000000) => h80 (crN ops keep torn safe i) o' s1 (by omega) (fun f hf => by have := s3 f hf; omega) (by omega)
    by_cases e2 : i = 0
    case' pos =>
      have f2 : ¬ (i : Int) > 0 := by omega
      have ka : kAt ops.length keep i := ⟨by rw [← hkv]; exact e1.1, by rw [← hkv]; exact e1.2, fun h => by omega⟩
      simp -dsimp only [q1, q2, q3, q6, q8, q22, q23, q24, m3, m6, f2, go, w2, il_len, go_sem, ↓reduceIte, Nat.reduceEqDiff, Int.reduceLE, Int.reduceLT, Int.reduceNeg, Int.reduceEq, Nat.reduceMul, Nat.reduceAdd, Nat.reduceLeDiff, reduceCtorEq]
    case' neg =>
      have f2 : (i : Int) > 0 := by omega
      have w3 : IntKind.i64.wrap ((i : Int) - 1) = ((i - 1 : Nat) : Int) := by rw [wr (by omega) (by omega)]; omega
      have gj := il_get (l := keep) (i := i - 1) (by omega)
      by_cases e3 : keep.getD (i - 1) 0 ≥ kv
      · simp -dsimp only [q1, q2, q3, q6, q8, q22, q23, q24, m3, m6, f2, w3, gj, e3, il_len, go_sem, ↓reduceIte, Nat.reduceEqDiff, Int.reduceLE, Int.reduceLT, Int.reduceNeg, Int.reduceEq, Nat.reduceMul, Nat.reduceAdd, Nat.reduceLeDiff, reduceCtorEq]
        refine fin (bad fun hh => ?_) _ _ (by simp [upd_at, q6]) (by simp [upd_at]) (by simp only [hup_at, newObs, ↓reduceIte, Nat.reduceEqDiff, reduceCtorEq, Rid.r.injEq, Rid.l.injEq, Nat.reduceAdd, Nat.zero_add, and_self, and_true, and_false, false_and, true_and] <;> rfl)
        have h1 := hh.2.2 (by omega); rw [← hkv] at h1; omega
      have ka : kAt ops.length keep i := ⟨by rw [← hkv]; exact e1.1, by rw [← hkv]; exact e1.2, fun h => by rw [← hkv]; omega⟩
      simp -dsimp only [q1, q2, q3, q6, q8, q22, q23, q24, m3, m6, f2, w3, gj, e3, go, w2, il_len, go_sem, ↓reduceIte, Nat.reduceEqDiff, Int.reduceLE, Int.reduceLT, Int.reduceNeg, Int.reduceEq, Nat.reduceMul, Nat.reduceAdd, Nat.reduceLeDiff, reduceCtorEq]
    all_goals
      have hok' : ∀ k, k < i + 1 → kAt ops.length keep k := fun k hk => by by_cases hki : k = i <;> first | (subst hki; exact ka) | exact hok k (by omega)
      refine VK_p e1.1 ?_
      by_cases e4 : i + 1 = keep.length
      case' neg =>
        have f4 : ((i : Int) == (keep.length : Int) - 1) = false := by simp; omega
        have ho' : opK ops keep torn i = op := by rw [hopK]; unfold tear; rw [if_neg fun h => e4 (by simpa using h.1)]
        simp -dsimp only [q1, q2, q3, q6, q8, q22, q23, q24, m3, m6, f4, w2, il_len, go_sem, ↓reduceIte, Nat.reduceEqDiff, Int.reduceLE, Int.reduceLT, Int.reduceNeg, Int.reduceEq, Nat.reduceMul, Nat.reduceAdd, Nat.reduceLeDiff, reduceCtorEq]
      case' pos =>
        have f4 : ((i : Int) == (keep.length : Int) - 1) = true := by simp; omega
        by_cases e5 : op.1 = 1
        case' neg =>
          have f5 : (op.1 == 1) = false := by simp [e5]
          have ho' : opK ops keep torn i = op := by rw [hopK]; unfold tear; rw [if_neg fun h => e5 h.2]
          simp -dsimp only [q1, q2, q3, q6, q8, q22, q23, q24, m3, m6, f4, f5, w2, il_len, go_sem, ↓reduceIte, Nat.reduceEqDiff, Int.reduceLE, Int.reduceLT, Int.reduceNeg, Int.reduceEq, Nat.reduceMul, Nat.reduceAdd, Nat.reduceLeDiff, reduceCtorEq]
        case' pos =>
          have f5 : (op.1 == 1) = true := by simp [e5]
          have ho' : opK ops keep torn i = (op.1, op.2.1, op.2.2.1, op.2.2.2.take torn.toNat) := by rw [hopK]; unfold tear; rw [if_pos ⟨by simp [e4], e5⟩]
          simp -dsimp only [q1, q2, q3, q6, q8, q22, q23, q24, m3, m6, f4, f5, w2, il_len, mm2, List.foldlM_cons, List.foldlM_nil, Option.pure_def, Option.bind_eq_bind, go_sem, ↓reduceIte, Nat.reduceEqDiff, Int.reduceLE, Int.reduceLT, Int.reduceNeg, Int.reduceEq, Nat.reduceMul, Nat.reduceAdd, Nat.reduceLeDiff, reduceCtorEq]
          refine VK_p ⟨by omega, by omega⟩ ?_
          simp -dsimp only [q1, q2, q3, q6, q8, q22, q23, q24, m3, m6, f4, f5, w2, il_len, take_min _ _ (Int.not_lt.1 ht), go_sem, ↓reduceIte, Nat.reduceEqDiff, Int.reduceLE, Int.reduceLT, Int.reduceNeg, Int.reduceEq, Nat.reduceMul, Nat.reduceAdd, Nat.reduceLeDiff, reduceCtorEq]
    all_goals
      have hod' : (opK ops keep torn i).2.2.2.length ≤ 1000000000 := by rw [hopK]; exact Nat.le_trans (tear_le _ _ _) hod
      have dd := dn _ hod'
      rw [ho'] at dd
      unfold opC at dd
      refine Call_val (own := false) (dd) (by simp [ExpOk, AV.pure]) (.inr (by simp [AV.rooted, AV.ref1])) ?_
      simp -dsimp only [q1, q2, q3, q6, q8, q22, q23, q24, m3, m6, w1, go_sem, ↓reduceIte, Nat.reduceEqDiff, Int.reduceLE, Int.reduceLT, Int.reduceNeg, Int.reduceEq, Nat.reduceMul, Nat.reduceAdd, Nat.reduceLeDiff, reduceCtorEq]
      refine hA _ _ _ ⟨hok', by simp [upd_at, q1], by simp [upd_at, q2], by simp [upd_at, q3], by simp [upd_at, q6], by simp [upd_at, crN, ho'], by simp [upd_at, q22], by simp [upd_at, q23], by simp [upd_at], by simp [hup_at, m3], by simp [hup_at, m6]⟩
  · rintro A g h c ⟨hok, q1, q2, q3, q6, q8, q22, q23, q24, m3, m6⟩
    have hc : ¬ (keep.length : Int) < (keep.length : Int) := by omega
    have hil : keep.length ≤ ops.length := kAt_lt hok
    obtain ⟨s1, s2, s3⟩ := crN_ok (ops := ops) (keep := keep) (torn := torn) (safe := safe) p2 hbo keep.length
    obtain ⟨now, hnow⟩ : ∃ now, now = crN ops keep torn safe keep.length := ⟨_, rfl⟩
    rw [← hnow] at q8 s2 s3
    have d78 := h78 now (by omega) (fun f hf => by have := s3 f hf; omega)
    have d87 := h87 now (by omega)
    simp -dsimp only [q1, q2, q3, q6, q8, q22, q23, q24, m3, m6, hc, go_sem, ↓reduceIte, Nat.reduceEqDiff, Int.reduceLE, Int.reduceLT, Int.reduceNeg, Int.reduceEq, Nat.reduceMul, Nat.reduceAdd, Nat.reduceLeDiff, reduceCtorEq]
    refine Call_val (own := true) (d78) (by simp [ExpOk, AV.pure]) (.inl rfl) ?_
    cases e1 : okF now
    · simp -dsimp only [q6, m6, go_sem, ↓reduceIte, Nat.reduceEqDiff, Int.reduceLE, Int.reduceLT, Int.reduceNeg, Int.reduceEq, Nat.reduceMul, Nat.reduceAdd, Nat.reduceLeDiff, reduceCtorEq]
      exact fin (crB_f fun hh => by have := okF_t.2 hh.2.2.2; rw [← hnow, e1] at this; cases this) _ _ (by simp [upd_at, q6]) (by simp [upd_at]) (by simp only [hup_at, newObs, ↓reduceIte, Nat.reduceEqDiff, reduceCtorEq, Rid.r.injEq, Rid.l.injEq, Nat.reduceAdd, Nat.zero_add, and_self, and_true, and_false, false_and, true_and] <;> rfl)
    simp -dsimp only [q6, q8, m6, go_sem, ↓reduceIte, Nat.reduceEqDiff, Int.reduceLE, Int.reduceLT, Int.reduceNeg, Int.reduceEq, Nat.reduceMul, Nat.reduceAdd, Nat.reduceLeDiff, reduceCtorEq]
    refine Call_news (own := true) (d87) (by simp [ExpOk, AV.pure, cur, hup_at, List.idxOf?_cons, List.idxOf?_nil, obM, fl_len, ol_len, fl_pure, ol_pure, mkF_len, mkO_len, objs_l, objs_r, objs_p]) (by simp [obF, fl_pure, ol_pure]) (.inl rfl) (by simp [obF]) ?_
    simp -dsimp only [impA, impL, Option.getD_some, Nat.sub_self, Nat.sub_zero, obF, q6, q8, m6, go_sem, ↓reduceIte, Nat.reduceEqDiff, Int.reduceLE, Int.reduceLT, Int.reduceNeg, Int.reduceEq, Nat.reduceMul, Nat.reduceAdd, Nat.reduceLeDiff, reduceCtorEq]
    refine Call_news (own := true) (d87) (by simp [ExpOk, AV.pure, cur, hup_at, List.idxOf?_cons, List.idxOf?_nil, obM, fl_len, ol_len, fl_pure, ol_pure, mkF_len, mkO_len, objs_l, objs_r, objs_p]) (by simp [obF, fl_pure, ol_pure]) (.inl rfl) (by simp [obF]) ?_
    simp -dsimp only [impA, impL, Option.getD_some, Nat.sub_self, Nat.sub_zero, obF, q6, q8, m6, go_sem, ↓reduceIte, Nat.reduceEqDiff, Int.reduceLE, Int.reduceLT, Int.reduceNeg, Int.reduceEq, Nat.reduceMul, Nat.reduceAdd, Nat.reduceLeDiff, reduceCtorEq]
    have hyes : crB live safe ops keep torn = true := crB_t.2 ⟨hd, by omega, fun k hk => hok k hk, by rw [← hnow]; exact okF_t.1 e1⟩
    refine ⟨True, [.agg [.sl (.r 86 0) c 0 now.length none, .sl (.r 88 0) (c + 1) 0 now.length none, .nils], .b true], (by simp [resM, resE, upd_at, q6, loadF, cur, hup_at, yes]), trivial, crYes now, [obF now, obF now], .inr ⟨hyes, by rw [← hnow], by rw [← hnow]⟩, [.r 86 0, .r 88 0],
      finR_outs (by simp) (by simp [Rid.isP]) (.flat (by simp only [hup_at, newObs, ↓reduceIte, Nat.reduceEqDiff, reduceCtorEq, Rid.r.injEq, Rid.l.injEq, Nat.reduceAdd, Nat.zero_add, and_self, and_true, and_false, false_and, true_and] <;> rfl) (fl_flat _) (fl_pure _) (.flat (by simp only [hup_at, newObs, ↓reduceIte, Nat.reduceEqDiff, reduceCtorEq, Rid.r.injEq, Rid.l.injEq, Nat.reduceAdd, Nat.zero_add, and_self, and_true, and_false, false_and, true_and] <;> rfl) (fl_flat _) (fl_pure _) trivial)), ?_, ?_⟩
    · simp [resOne, retA, retL, cur, hup_at, List.idxOf?_cons, syncA, crYes]
    · simp [resOne, ResOk, ResL, cur, hup_at]
theorem h37_no (live safe : List File) (ops : List Dop) (keep : List Int) (torn : Int) (hl : BdF live) (hsf : BdF safe) (ho : BdO ops) (hk : keep.length ≤ 1048576) (hc : crB live safe ops keep torn = false) : HT 37 [disk live safe ops, .dat 1 (il keep), .i .i64 torn] [] crNo true [] :=
  (h37 live safe ops keep torn hl hsf ho hk).weak fun r o' hΦ => by
    rcases hΦ with ⟨_, rfl, rfl⟩ | ⟨h, _⟩
    · exact ⟨_, .refl _, rfl, rfl⟩
    · rw [hc] at h; cases h
theorem h37_yes (live safe : List File) (ops : List Dop) (keep : List Int) (torn : Int) (hl : BdF live) (hsf : BdF safe) (ho : BdO ops) (hk : keep.length ≤ 1048576) (hc : crB live safe ops keep torn = true) :
    HT 37 [disk live safe ops, .dat 1 (il keep), .i .i64 torn] [] (crYes (crN ops keep torn safe keep.length)) true [obF (crN ops keep torn safe keep.length), obF (crN ops keep torn safe keep.length)] :=
  (h37 live safe ops keep torn hl hsf ho hk).weak fun r o' hΦ => by
    rcases hΦ with ⟨h, _⟩ | ⟨_, rfl, rfl⟩
    · rw [hc] at h; cases h
    · exact ⟨_, .refl _, rfl, rfl⟩
end FrA

