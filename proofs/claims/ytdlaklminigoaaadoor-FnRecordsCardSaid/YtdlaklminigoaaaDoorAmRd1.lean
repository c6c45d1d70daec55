/- A reader of drawn bytes: walked. No condition. -/
import Derived.Test.YtdlaklminigoaaaDoorAmSeat
import Derived.Test.YtdlaklminigoaaaDoorAmBtA
import Derived.Test.YtdlaklminigoaaaDoorAmKsR
import Derived.Test.YtdlaklminigoaaaDoorAmFuns
set_option linter.all false
set_option linter.unusedSimpArgs false
set_option linter.unusedVariables false
set_option linter.deprecated false
/-! RdA -/
open Go Go.AM
namespace FrA
open Go.Proofs
set_option maxRecDepth 100000
set_option linter.unusedSimpArgs false
/-- A reader of the code: where it stands. -/
def rdO (code : List UInt8) (p : Nat) : Ob := { ver := 0, es := [[.dat 1 (bts code), i64 p]], esz := 2, own := False, fixed := true }
theorem rd_pure (code : List UInt8) (p : Nat) : AM.Pure (rdO code p).es := by
  intro e he c hc
  simp only [rdO, List.mem_cons, List.not_mem_nil, or_false] at he; subst he
  simp only [List.mem_cons, List.not_mem_nil, or_false] at hc
  rcases hc with rfl | rfl <;> rfl
def nx (code : List UInt8) (p : Nat) : Nat × Nat := if p < code.length then ((code.getD p 0).toNat, p + 1) else (0, p)
theorem nx_lt (code : List UInt8) (p : Nat) : (nx code p).1 < 256 := by
  unfold nx; split
  · exact UInt8.toNat_lt _
  · show (0 : Nat) < 256; omega
theorem nx_le {code : List UInt8} {p : Nat} (h : p ≤ code.length) : (nx code p).2 ≤ code.length := by unfold nx; split <;> simp <;> omega
theorem rd_fin {code : List UInt8} {p p' : Nat} {g : Slots} {h : Heap} {r : AV} {ts : List Nat} (q : Prop) (hq : ¬ q) (hh : h (.p 0) = some { rdO code p' with own := q }) (h1 : retA h [] 1 (resV g ts) = r) (h2 : ResOk h [] false (resV g ts)) : FinB ts [rdO code p] r false [rdO code p'] g h := by
  refine Fin_obs h1 h2 rfl fun k ob hk => ?_
  cases k with
  | zero => simp at hk; subst hk; exact ⟨rd_pure _ _, q, .inr (by simp [rdO, hq]), hh, rfl⟩
  | succ k => simp at hk
/-- The reader, wherever it lies. -/
def rdV (code : List UInt8) (p v : Nat) (fx : Bool) : Ob := { ver := v, es := [[.dat 1 (bts code), i64 p]], esz := 2, own := False, fixed := fx }
theorem rdV_pure (code : List UInt8) (p v : Nat) (fx : Bool) : AM.Pure (rdV code p v fx).es := rd_pure code p
theorem expL_free' {h : Heap} {os : List Rid} : ∀ {l : List AV}, (∀ a ∈ l, a.free = true) → expL h os l = l
  | [], _ => by simp [expL]
  | a :: r, hl => by rw [expL, expA_free2 (hl a List.mem_cons_self), expL_free' fun b hb => hl b (List.mem_cons_of_mem _ hb)]
section
variable {C : Con} {s : Stk} {g : Slots} {h : Heap} {c : Nat} {r m : List KOp} {d : Option Nat}
theorem exp_rd {h : Heap} {o : Rid} {b : Ob} {v : Nat} {vals : List AV} (ho : h o = some b) (hb : b.ver = v) (hv : ∀ a ∈ vals, a.free = true ∧ a.rooted = false) : expL h [o] ((.ptr o v 0 0 :: vals) ++ []) = .ptr (.p 0) 0 0 0 :: vals := by
  rw [List.append_nil, expL, expL_free' fun a ha => (hv a ha).1]
  have : cur h o v = some b := by unfold cur; rw [ho]; simp [hb]
  simp [expA, this, List.idxOf?_cons]
theorem ok_rd {h : Heap} {o : Rid} {b : Ob} {v : Nat} {vals : List AV} (ho : h o = some b) (hb : b.ver = v) (hv : ∀ a ∈ vals, a.free = true ∧ a.rooted = false) : ∀ a ∈ (.ptr o v 0 0 :: vals) ++ [], ExpOk h [o] a := by
  have hc : cur h o v = some b := by unfold cur; rw [ho]; simp [hb]
  intro a ha
  rw [List.append_nil] at ha
  rcases List.mem_cons.1 ha with rfl | ha
  · simp [ExpOk, hc, List.idxOf?_cons]
  · exact ExpOk_free (hv a ha).1
theorem root_rd {o : Rid} {v : Nat} {vals : List AV} (hv : ∀ a ∈ vals, a.free = true ∧ a.rooted = false) : ∀ a ∈ (.ptr o v 0 0 :: vals) ++ [], a.rooted = false := by
  intro a ha
  rw [List.append_nil] at ha
  rcases List.mem_cons.1 ha with rfl | ha
  · rfl
  · exact (hv a ha).2
/-- A call of a reader's method. -/
theorem Call_rd {f : Nat} {code : List UInt8} {p p' v : Nat} {fx : Bool} {o : Rid} {vals : List AV} {ret : AV} (ho : h o = some (rdV code p v fx)) (hC : C.det f (.ptr (.p 0) 0 0 0 :: vals) [rdO code p] ret false [rdO code p']) (hv : ∀ a ∈ vals, a.free = true ∧ a.rooted = false)
    (hq : RunD C r m s (updO g d ret) (hup h o (rdV code p' v fx)) c) (hi : ∀ t n c, impA t n c ret = ret := by intros; first | rfl | (simp [impA, impL]; done)) : CallK C (.fn f []) (.ptr o v 0 0 :: vals) d r m s g h c :=
  Call_one (own := false) o (rdV code p v fx) (rdO code p') ho (by rw [exp_rd (v := v) ho rfl hv]; exact hC) (ok_rd ho rfl hv) (rdV_pure _ _ _ _) (rd_pure _ _) (.inr (root_rd hv)) (fun e => by cases e) hq hi
theorem Callh_rd {f : Nat} {code : List UInt8} {p p' v : Nat} {fx : Bool} {o : Rid} {vals : List AV} {ret : AV} (hol : o.isL = false) (ho : h o = some (rdV code p v fx)) (hC : C.det f (.ptr (.p 0) 0 0 0 :: vals) [rdO code p] ret false [rdO code p']) (hv : ∀ a ∈ vals, a.free = true ∧ a.rooted = false)
    (hq : RunD C r m s (updO g d ret) (hup h o (rdV code p' v fx)) c) (hi : ∀ t n c, impA t n c ret = ret := by intros; first | rfl | (simp [impA, impL]; done)) : CallKh C (.fn f []) (.ptr o v 0 0 :: vals) d r m s g h c :=
  Callh_one (own := false) o (rdV code p v fx) (rdO code p') hol ho (by rw [exp_rd (v := v) ho rfl hv]; exact hC) (fun a ha => ⟨ok_rd ho rfl hv a ha, by
    rw [List.append_nil] at ha
    rcases List.mem_cons.1 ha with rfl | ha
    · exact .inr (by simp)
    · exact .inl (hv a ha).1⟩) (rdV_pure _ _ _ _) (rd_pure _ _) (.inr (root_rd hv)) (fun e => by cases e) hq hi
/-- The same, its answer not told. -/
theorem Call_rds {f : Nat} {code : List UInt8} {p v : Nat} {fx : Bool} {o : Rid} {vals : List AV} {Φ : AV → Nat → Prop} (ho : h o = some (rdV code p v fx)) (hC : C f (.ptr (.p 0) 0 0 0 :: vals) [rdO code p] false (fun ret o' => ∃ p', p' ≤ code.length ∧ o' = [rdO code p'] ∧ Φ ret p')) (hv : ∀ a ∈ vals, a.free = true ∧ a.rooted = false)
    (hq : ∀ ret p', p' ≤ code.length → Φ ret p' → (∀ t n c, impA t n c ret = ret) ∧ RunD C r m s (updO g d ret) (hup h o (rdV code p' v fx)) c) : CallK C (.fn f []) (.ptr o v 0 0 :: vals) d r m s g h c :=
  Call_ones (own := false) (Φ := fun ret o' => ∃ p', p' ≤ code.length ∧ o' = [rdO code p'] ∧ Φ ret p') o (rdV code p v fx) ho (by rw [exp_rd (v := v) ho rfl hv]; exact hC) (ok_rd ho rfl hv) (rdV_pure _ _ _ _) (.inr (root_rd hv)) fun ret o' ⟨p', h1, h2, h3⟩ => by
    obtain ⟨q1, q2⟩ := hq ret p' h1 h3
    exact ⟨rdO code p', h2, rd_pure _ _, (fun e => by cases e), q1, q2⟩
end
theorem rd_finQ {code : List UInt8} {p p' : Nat} {ts : List Nat} {g : Slots} {h : Heap} {Φ : AV → List Ob → Prop} (r : AV) (hh : h (.p 0) = some (rdV code p' 0 true)) (h1 : retA h [] 1 (resV g ts) = r) (h2 : ResOk h [] false (resV g ts)) (hΦ : Φ r [rdO code p']) : FinQ ts [rdO code p] false Φ g h :=
  ⟨r, [rdO code p'], hΦ, FinA_obs (obs := [rdO code p]) (obs' := [rdO code p']) h1 h2 rfl fun k ob hk => by
    cases k with
    | zero => simp at hk; subst hk; exact ⟨rd_pure _ _, False, .inr (by simp [rdO]), hh, rfl⟩
    | succ k => simp at hk⟩
def blw (code : List UInt8) (p n : Nat) : Nat × Nat := if n ≤ 1 then (0, p) else ((nx code p).1 % n, (nx code p).2)
theorem blw_lt (code : List UInt8) (p n : Nat) (h : 0 < n) : (blw code p n).1 < n := by
  unfold blw; split
  · exact h
  · exact Nat.mod_lt _ h
theorem blw_le {code : List UInt8} {p : Nat} (n : Nat) (h : p ≤ code.length) : (blw code p n).2 ≤ code.length := by
  unfold blw; split
  · exact h
  · exact nx_le h
theorem rd_obj (code : List UInt8) (p : Nat) : objs [rdO code p] (.p 0) = some (rdV code p 0 true) := rfl
theorem h4 (code : List UInt8) : HT 4 [.dat 1 (bts code)] [] (.b (decide ((code.length : Int) > 1048576))) true [] := by
  refine holds_of (c := Tryd.f4.body.getD .skip) (k := k4.1) (ts := [2]) HOk mixedT hintT Tryd.func4 (by kernel_rfl) (by kernel_rfl) (by kernel_rfl) k4.2 (by kernel_rfl) (le_of 1 _ (by kernel_rfl)) ?_
  simp -dsimp only [k4, bts_len, go_sem, ↓reduceIte, Nat.reduceEqDiff, Int.reduceLE, Int.reduceLT, Int.reduceNeg, Int.reduceEq, Int.reduceBEq, Int.reduceBNe, Nat.reduceMul, Nat.reduceAdd, Nat.reduceLeDiff, reduceCtorEq, Int.reduceToNat]
  refine Fin_val ?_ ?_
  · simp [resV, upd_at, retA]
  · simp [resV, upd_at, ResOk]
theorem h12 (code : List UInt8) : HT 12 [.dat 1 (bts code)] [] (.ptr (.p 0) 1 0 0) false [{ rdO code 0 with ver := 1 }] := by
  refine holds_of (c := Tryd.f12.body.getD .skip) (k := k12.1) (ts := [2]) HOk mixedT hintT Tryd.func12 (by kernel_rfl) (by kernel_rfl) (by kernel_rfl) k12.2 (by kernel_rfl) (le_of 1 _ (by kernel_rfl)) ?_
  simp -dsimp only [k12, bts_len, go_sem, ↓reduceIte, Nat.reduceEqDiff, Int.reduceLE, Int.reduceLT, Int.reduceNeg, Int.reduceEq, Int.reduceBEq, Int.reduceBNe, Nat.reduceMul, Nat.reduceAdd, Nat.reduceLeDiff, reduceCtorEq, Int.reduceToNat]
  refine Fin_one (obs := []) (.l 5) { ver := 1, es := [[.dat 1 (bts code), i64 0]], esz := 2, own := False, fixed := true } { rdO code 0 with ver := 1 } rfl (by simp [hup_at]) rfl (.inl (by simp [rdO])) (rd_pure code 0) (fun k x hk => by simp at hk) ?_ ?_
  · simp [resV, upd_at, retA, cur, hup_at, List.idxOf?_cons]
  · simp [resV, upd_at, ResOk, cur, hup_at]
theorem h27 (code : List UInt8) (p : Nat) (hp : p ≤ code.length) (hc : code.length ≤ 1048576) : HT 27 [.ptr (.p 0) 0 0 0] [rdO code p] (i64 (nx code p).1) false [rdO code (nx code p).2] := by
  refine holds_of (c := Tryd.f27.body.getD .skip) (k := k27.1) (ts := [2]) HOk mixedT hintT Tryd.func27 (by kernel_rfl) (by kernel_rfl) (by kernel_rfl) k27.2 (by kernel_rfl) (le_of 1 _ (by kernel_rfl)) ?_
  by_cases hlt : p < code.length
  · have c1 : ¬ (p : Int) ≥ (code.length : Int) := by omega
    have w1 : IntKind.i64.wrap ((p : Int) + 1) = ((p + 1 : Nat) : Int) := by rw [wr (by omega) (by omega)]; rfl
    have w2 : IntKind.i64.wrap (((p + 1 : Nat) : Int) - 1) = (p : Int) := by rw [wr (by omega) (by omega)]; omega
    have w3 : IntKind.i64.wrap ((code.getD p 0).toNat : Int) = ((code.getD p 0).toNat : Int) := wr (by omega) (by have := UInt8.toNat_lt (code.getD p 0); omega)
    have hg := bts_get hlt
    have hn : nx code p = ((code.getD p 0).toNat, p + 1) := by unfold nx; rw [if_pos hlt]
    unfold rdO
    simp -dsimp only [k27, c1, w1, w2, w3, hg, bts_len, objs_p, go_sem, ↓reduceIte, Nat.reduceEqDiff, Int.reduceLE, Int.reduceLT, Int.reduceNeg, Int.reduceEq, Int.reduceBEq, Int.reduceBNe, Nat.reduceMul, Nat.reduceAdd, Nat.reduceLeDiff, reduceCtorEq, Int.reduceToNat]
    refine rd_fin False (fun h => h) ?_ ?_ ?_
    · rw [hn]; simp [hup_at, rdO]
    · simp [resV, upd_at, retA, hn]
    · simp [resV, upd_at, ResOk]
  · have c1 : (p : Int) ≥ (code.length : Int) := by omega
    have hn : nx code p = (0, p) := by unfold nx; rw [if_neg hlt]
    unfold rdO
    simp -dsimp only [k27, c1, bts_len, objs_p, go_sem, ↓reduceIte, Nat.reduceEqDiff, Int.reduceLE, Int.reduceLT, Int.reduceNeg, Int.reduceEq, Int.reduceBEq, Int.reduceBNe, Nat.reduceMul, Nat.reduceAdd, Nat.reduceLeDiff, reduceCtorEq, Int.reduceToNat]
    refine rd_fin False (fun h => h) ?_ ?_ ?_
    · rw [hn]; rfl
    · simp [resV, upd_at, retA, hn]
    · simp [resV, upd_at, ResOk]
theorem h14 (code : List UInt8) (p n : Nat) (hp : p ≤ code.length) (hc : code.length ≤ 1048576) (hn : n ≤ 256) : HT 14 [.ptr (.p 0) 0 0 0, i64 n] [rdO code p] (i64 (blw code p n).1) false [rdO code (blw code p n).2] := by
  refine holds_of (c := Tryd.f14.body.getD .skip) (k := k14.1) (ts := [4]) HOk mixedT hintT Tryd.func14 (by kernel_rfl) (by kernel_rfl) (by kernel_rfl) k14.2 (by kernel_rfl) (le_of 2 _ (by kernel_rfl)) ?_
  by_cases h2 : n ≤ 1
  · have c1 : (n : Int) ≤ 1 := by omega
    have hb : blw code p n = (0, p) := by unfold blw; rw [if_pos h2]
    simp -dsimp only [k14, c1, go_sem, ↓reduceIte, Nat.reduceEqDiff, Int.reduceLE, Int.reduceLT, Int.reduceNeg, Int.reduceEq, Int.reduceBEq, Int.reduceBNe, Nat.reduceMul, Nat.reduceAdd, Nat.reduceLeDiff, reduceCtorEq, Int.reduceToNat]
    refine rd_fin False (fun h => h) ?_ ?_ ?_
    · rw [hb]; rfl
    · simp [resV, upd_at, retA, hb]
    · simp [resV, upd_at, ResOk]
  · have c1 : ¬ (n : Int) ≤ 1 := by omega
    have c2 : (n : Int) ≤ 256 := by omega
    have hb : blw code p n = ((nx code p).1 % n, (nx code p).2) := by unfold blw; rw [if_neg h2]
    simp -dsimp only [k14, c1, c2, go_sem, ↓reduceIte, Nat.reduceEqDiff, Int.reduceLE, Int.reduceLT, Int.reduceNeg, Int.reduceEq, Int.reduceBEq, Int.reduceBNe, Nat.reduceMul, Nat.reduceAdd, Nat.reduceLeDiff, reduceCtorEq, Int.reduceToNat]
    refine Call_rd (rd_obj code p) (h27 code p hp hc) (fun a ha => by cases ha) ?_
    have t1 : ((nx code p).1 : Int).tmod (n : Int) = (((nx code p).1 % n : Nat) : Int) := by rw [Int.tmod_eq_emod_of_nonneg (by omega)]; rfl
    simp -dsimp only [t1, go_sem, ↓reduceIte, Nat.reduceEqDiff, Int.reduceLE, Int.reduceLT, Int.reduceNeg, Int.reduceEq, Int.reduceBEq, Int.reduceBNe, Nat.reduceMul, Nat.reduceAdd, Nat.reduceLeDiff, reduceCtorEq, Int.reduceToNat]
    refine VK_p (by omega) ?_
    simp -dsimp only [go_sem, ↓reduceIte, Nat.reduceEqDiff, Int.reduceLE, Int.reduceLT, Int.reduceNeg, Int.reduceEq, Int.reduceBEq, Int.reduceBNe, Nat.reduceMul, Nat.reduceAdd, Nat.reduceLeDiff, reduceCtorEq, Int.reduceToNat]
    refine rd_fin False (fun h => h) ?_ ?_ ?_
    · rw [hb]; simp [hup_at, rdO, rdV]
    · simp [resV, upd_at, retA, hb]
    · simp [resV, upd_at, ResOk]
/-- Some number below. -/
def blwΦ (code : List UInt8) (n : Nat) (r : AV) (o' : List Ob) : Prop := ∃ p', p' ≤ code.length ∧ o' = [rdO code p'] ∧ ∃ x : Nat, r = i64 x ∧ (x < n ∨ x = 0)
theorem h14b (code : List UInt8) (p n : Nat) (hp : p ≤ code.length) (hc : code.length ≤ 1048576) (hn : n ≤ 1000000000) : HC 14 [.ptr (.p 0) 0 0 0, i64 n] [rdO code p] false (blwΦ code n) := by
  by_cases h256 : n ≤ 256
  · refine (h14 code p n hp hc h256).weak ?_
    rintro r o' ⟨rfl, rfl⟩
    refine ⟨_, .refl _, _, blw_le n hp, rfl, _, rfl, ?_⟩
    by_cases h0 : 0 < n
    · exact .inl (blw_lt code p n h0)
    · exact .inr (by unfold blw; rw [if_pos (by omega)])
  · refine holds_of (c := Tryd.f14.body.getD .skip) (k := k14.1) (ts := [4]) HOk mixedT hintT Tryd.func14 (by kernel_rfl) (by kernel_rfl) (by kernel_rfl) k14.2 (by kernel_rfl) (le_of 2 _ (by kernel_rfl)) ?_
    have c1 : ¬ (n : Int) ≤ 1 := by omega
    have c2 : ¬ (n : Int) ≤ 256 := by omega
    have l1 := nx_lt code p
    have hp1 := nx_le hp
    have l2 := nx_lt code (nx code p).2
    have hp2 := nx_le hp1
    have d2 := h27 code (nx code p).2 hp1 hc
    generalize (nx code (nx code p).2).1 = x2 at l2 d2
    generalize (nx code (nx code p).2).2 = p2 at hp2 d2
    have w1 : IntKind.i64.wrap (((nx code p).1 : Int) * 256) = (((nx code p).1 * 256 : Nat) : Int) := by rw [wr (by omega) (by omega)]; omega
    have w2 : IntKind.i64.wrap ((((nx code p).1 * 256 : Nat) : Int) + (x2 : Int)) = (((nx code p).1 * 256 + x2 : Nat) : Int) := by rw [wr (by omega) (by omega)]; omega
    have t1 : (((nx code p).1 * 256 + x2 : Nat) : Int).tmod (n : Int) = ((((nx code p).1 * 256 + x2) % n : Nat) : Int) := by rw [Int.tmod_eq_emod_of_nonneg (by omega)]; rfl
    simp -dsimp only [k14, c1, c2, go_sem, ↓reduceIte, Nat.reduceEqDiff, Int.reduceLE, Int.reduceLT, Int.reduceNeg, Int.reduceEq, Int.reduceBEq, Int.reduceBNe, Nat.reduceMul, Nat.reduceAdd, Nat.reduceLeDiff, reduceCtorEq, Int.reduceToNat]
    refine Call_rd (rd_obj code p) (h27 code p hp hc) (fun a ha => by cases ha) ?_
    simp -dsimp only [w1, go_sem, ↓reduceIte, Nat.reduceEqDiff, Int.reduceLE, Int.reduceLT, Int.reduceNeg, Int.reduceEq, Int.reduceBEq, Int.reduceBNe, Nat.reduceMul, Nat.reduceAdd, Nat.reduceLeDiff, reduceCtorEq, Int.reduceToNat]
    refine Call_rd (by simp [hup_at]; rfl) d2 (fun a ha => by cases ha) ?_
    simp -dsimp only [w2, t1, go_sem, ↓reduceIte, Nat.reduceEqDiff, Int.reduceLE, Int.reduceLT, Int.reduceNeg, Int.reduceEq, Int.reduceBEq, Int.reduceBNe, Nat.reduceMul, Nat.reduceAdd, Nat.reduceLeDiff, reduceCtorEq, Int.reduceToNat]
    refine VK_p (by omega) ?_
    simp -dsimp only [go_sem, ↓reduceIte, Nat.reduceEqDiff, Int.reduceLE, Int.reduceLT, Int.reduceNeg, Int.reduceEq, Int.reduceBEq, Int.reduceBNe, Nat.reduceMul, Nat.reduceAdd, Nat.reduceLeDiff, reduceCtorEq, Int.reduceToNat]
    refine rd_finQ (p' := p2) (i64 (((nx code p).1 * 256 + x2) % n : Nat)) (by simp [hup_at]) (by simp [resV, upd_at, retA]) (by simp [resV, upd_at, ResOk]) ⟨p2, hp2, rfl, _, rfl, .inl (Nat.mod_lt _ (by omega))⟩
def onc (code : List UInt8) (p n : Nat) : Bool := decide (((blw code p n).1 : Int) = ((n - 1 : Nat) : Int))
theorem h15 (code : List UInt8) (p n : Nat) (hp : p ≤ code.length) (hc : code.length ≤ 1048576) (hn : n ≤ 256) (h0 : 0 < n) : HT 15 [.ptr (.p 0) 0 0 0, i64 n] [rdO code p] (.b (onc code p n)) false [rdO code (blw code p n).2] := by
  refine holds_of (c := Tryd.f15.body.getD .skip) (k := k15.1) (ts := [4]) HOk mixedT hintT Tryd.func15 (by kernel_rfl) (by kernel_rfl) (by kernel_rfl) k15.2 (by kernel_rfl) (le_of 2 _ (by kernel_rfl)) ?_
  have w1 : IntKind.i64.wrap ((n : Int) - 1) = ((n - 1 : Nat) : Int) := by rw [wr (by omega) (by omega)]; omega
  have e1 : (((blw code p n).1 : Int) == ((n - 1 : Nat) : Int)) = onc code p n := by unfold onc; rfl
  simp -dsimp only [k15, go_sem, ↓reduceIte, Nat.reduceEqDiff, Int.reduceLE, Int.reduceLT, Int.reduceNeg, Int.reduceEq, Int.reduceBEq, Int.reduceBNe, Nat.reduceMul, Nat.reduceAdd, Nat.reduceLeDiff, reduceCtorEq, Int.reduceToNat]
  refine Call_rd (rd_obj code p) (h14 code p n hp hc hn) (fun a ha => by simp at ha; subst ha; exact ⟨rfl, rfl⟩) ?_
  simp -dsimp only [w1, e1, go_sem, ↓reduceIte, Nat.reduceEqDiff, Int.reduceLE, Int.reduceLT, Int.reduceNeg, Int.reduceEq, Int.reduceBEq, Int.reduceBNe, Nat.reduceMul, Nat.reduceAdd, Nat.reduceLeDiff, reduceCtorEq, Int.reduceToNat]
  refine rd_fin False (fun h => h) ?_ ?_ ?_
  · simp [hup_at, rdO, rdV]
  · simp [resV, upd_at, retA]
  · simp [resV, upd_at, ResOk]
theorem row_get {l : List (List UInt8)} {i : Nat} (h : i < l.length) : (l.map fun s => [AV.s s])[i]? = some [.s (l.getD i [])] := by simp [List.getElem?_eq_getElem h]
theorem rd_finC {code : List UInt8} {p p' : Nat} {cs : List RS} {g : Slots} {h : Heap} {r : AV} {pr : Prop} {l : List AV} (hh : h (.p 0) = some (rdV code p' 0 true)) (h0 : resM h g cs = some (pr, l)) (hp : pr) (h1 : retA h [] 1 (resOne l) = r) (h2 : ResOk h [] false (resOne l)) :
    FinC cs [rdO code p] false (fun r' o' => r' = r ∧ o' = [rdO code p']) .ret g h 0 :=
  finC_obs (obs := [rdO code p]) h0 hp rfl (fun k ob hk => by
    cases k with
    | zero => simp at hk; subst hk; exact ⟨rd_pure _ _, False, .inr (by simp [rdO]), hh, rfl⟩
    | succ k => simp at hk) h1 h2
theorem rd_finP {code : List UInt8} {p p' : Nat} {cs : List RS} {g : Slots} {h : Heap} {c : Nat} {Φ : AV → List Ob → Prop} (r : AV) {pr : Prop} {l : List AV} (hh : h (.p 0) = some (rdV code p' 0 true)) (h0 : resM h g cs = some (pr, l)) (hp : pr) (h1 : retA h [] 1 (resOne l) = r) (h2 : ResOk h [] false (resOne l)) (hΦ : Φ r [rdO code p']) :
    FinC cs [rdO code p] false Φ .ret g h c := by
  obtain ⟨q, l', q0, qp, r', o', ⟨e1, e2⟩, rest⟩ := finC_obs (own := false) (obs := [rdO code p]) (obs' := [rdO code p']) h0 hp rfl (fun k ob hk => by
    cases k with
    | zero => simp at hk; subst hk; exact ⟨rd_pure _ _, False, .inr (by simp [rdO]), hh, rfl⟩
    | succ k => simp at hk) h1 h2
  subst e1; subst e2
  exact ⟨q, l', q0, qp, _, _, hΦ, rest⟩
/-- Some number, and the reader stands somewhere. -/
def numΦ (code : List UInt8) (k : IntKind) (r : AV) (o' : List Ob) : Prop := ∃ p', p' ≤ code.length ∧ o' = [rdO code p'] ∧ ∃ x : Int, r = .i k x
theorem hcall_rdn {h : Heap} {o : Rid} {b : Ob} {t : Nat} (ho : h o = some b) (hne : o ≠ .r t 0) (b' n : Ob) (c : Nat) : hcall h [o] [b', n] t c = hup (hup h o { b' with ver := b.ver, fixed := b.fixed }) (.r t 0) { n with ver := c } := by
  funext u
  have ei : [o].idxOf? u = if u = o then some 0 else none := by
    by_cases hu : u = o
    · subst hu; simp [List.idxOf?_cons]
    · have : (o == u) = false := by simpa using fun h => hu h.symm
      simp [List.idxOf?_cons, this, hu]
  have e : tgt [o] t [b', n].length u = if u = .r t 0 then some 1 else if u = o then some 0 else none := by
    cases u with
    | r t' j =>
      rw [tgt_r_eq]
      by_cases h1 : t' = t ∧ j = 0
      · obtain ⟨rfl, rfl⟩ := h1
        simp
      · have h2 : ¬ (t' = t ∧ [o].length + j < [b', n].length) := by simp; omega
        have h3 : ¬ (Rid.r t' j = .r t 0) := by intro h; cases h; exact h1 ⟨rfl, rfl⟩
        rw [if_neg h2, if_neg h3, ei]
    | p _ => simp [tgt, ei]
    | l _ => simp [tgt, ei]
  unfold hcall hup
  rw [e]
  by_cases h1 : u = .r t 0
  · subst h1; simp
  · rw [if_neg h1, if_neg h1]
    by_cases h2 : u = o
    · subst h2; simp [ho]
    · simp [h2]
section
variable {C : Con} {s : Stk} {g : Slots} {h : Heap} {c : Nat} {r m : List KOp}
/-- A reader's method that gives back one new object. -/
theorem Call_rdn {f t : Nat} {code : List UInt8} {p v : Nat} {fx : Bool} {o : Rid} {vals : List AV} {Φ : AV → Nat → Ob → Prop} (ho : h o = some (rdV code p v fx)) (hne : o ≠ .r t 0) (hC : C f (.ptr (.p 0) 0 0 0 :: vals) [rdO code p] false (fun ret o' => ∃ p' n, p' ≤ code.length ∧ o' = [rdO code p', n] ∧ Φ ret p' n)) (hv : ∀ a ∈ vals, a.free = true ∧ a.rooted = false)
    (hq : ∀ ret p' n, p' ≤ code.length → Φ ret p' n → AM.Pure n.es ∧ RunD C r m s (upd g t (impA t 1 c ret)) (hup (hup h o (rdV code p' v fx)) (.r t 0) { n with ver := c }) (c + 1)) : CallK C (.fn f []) (.ptr o v 0 0 :: vals) (some t) r m s g h c :=
  Call_any [o] [rdO code p] false (fun ret o' => ∃ p' n, p' ≤ code.length ∧ o' = [rdO code p', n] ∧ Φ ret p' n) (by rw [exp_rd (v := v) ho rfl hv]; exact hC) (by simp [ho, rdV, rdO]) (by simp) (ok_rd ho rfl hv) (fun x hx => by simp at hx; subst hx; exact rd_pure _ _) (.inr (root_rd hv)) fun ret o' ⟨p', n, h1, h2, h3⟩ => by
    obtain ⟨q1, q2⟩ := hq ret p' n h1 h3
    subst h2
    refine ⟨by simp, fun x hx => ?_, (fun e => by cases e), ?_⟩
    · simp at hx; rcases hx with rfl | rfl
      · exact rd_pure _ _
      · exact q1
    · show RunD C r m s (upd g t (impA t 1 c ret)) (hcall h [o] [rdO code p', n] t c) (c + 1)
      rw [hcall_rdn ho hne]
      exact q2
end
theorem Outs1 {h : Heap} {o : Rid} {b : Ob} {v : Nat} {q : Prop} (hb : h o = some { b with ver := v, own := q }) (hv : b.ver = 1) (hp : AM.Pure b.es) (hf : (b.own ↔ q) ∨ AM.Flat b.es) : Outs h [o] [b] := ⟨⟨hp, hv, v, q, hb, hf⟩, trivial⟩
/-- The end of a walk that was handed a reader, and gives back a new object. -/
theorem rd_finN {code : List UInt8} {p p' : Nat} {ts : List Nat} {g : Slots} {h : Heap} {Φ : AV → List Ob → Prop} (r : AV) (o : Rid) (n : Ob) (v : Nat) (q : Prop) (hno : o.isP = false) (hh : h (.p 0) = some (rdV code p' 0 true)) (hn : h o = some { n with ver := v, own := q }) (hv : n.ver = 1) (hp : AM.Pure n.es) (hf : (n.own ↔ q) ∨ AM.Flat n.es)
    (h1 : retA h [o] 1 (resV g ts) = r) (h2 : ResOk h [o] false (resV g ts)) (hΦ : Φ r [rdO code p', n]) : FinQ ts [rdO code p] false Φ g h := by
  refine ⟨r, [rdO code p', n], hΦ, [o], ⟨by simp, fun u hu => by simp at hu; subst hu; exact hno, by simp, fun k ob hk => ?_⟩, h1, h2⟩
  match k, hk with
  | 0, hk => simp at hk; subst hk; exact ⟨rd_pure _ _, rdV code p' 0 true, False, .inl (by simp [rdV]), .inl ⟨by simp, hh, rfl, rfl⟩⟩
  | 1, hk =>
    simp at hk; subst hk
    refine ⟨hp, _, n.own, hf, .inr ⟨by simp, o, by simp, hn, ?_⟩⟩
    cases n; simp only at hv; subst hv; rfl
  | k + 2, hk => simp at hk
end FrA

