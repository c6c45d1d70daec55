/- FnExactFrameOf walked. No condition. -/
import Derived.Test.YtpiegccohgdkdaaAmFrB
set_option linter.all false
set_option linter.unusedSimpArgs false
set_option linter.unusedVariables false
set_option linter.deprecated false
open Go Go.AM
namespace FrA
set_option maxRecDepth 100000
set_option linter.unusedSimpArgs false
def U32 (c : Int) : Prop := 0 ≤ c ∧ c < 4294967296
theorem wrap_u32 (n : Int) : U32 (IntKind.u32.wrap n) := by
  have : IntKind.u32.wrap n = n % 4294967296 := by simp [IntKind.wrap, IntKind.signed, IntKind.bits]
  rw [this]; exact ⟨Int.emod_nonneg _ (by decide), Int.emod_lt_of_pos _ (by decide)⟩
theorem xor_u32 (a b : Int) : U32 (bits2 .xor .u32 a b) := wrap_u32 _
theorem half_def (c : Int) : half c = c / 2 := by
  have e : (2 : Int) ^ (min (Int.toNat 1) IntKind.u32.bits) = 2 := by decide
  unfold half; rw [e, Int.fdiv_eq_ediv_of_nonneg _ (by decide)]
theorem half_u32 {c : Int} (h : U32 c) : U32 (half c) := by rw [half_def]; obtain ⟨h1, h2⟩ := h; exact ⟨by omega, by omega⟩
theorem and_one {c : Int} (h : U32 c) : bits2 .and .u32 c 1 = c.tmod 2 := by
  obtain ⟨h1, h2⟩ := h
  obtain ⟨n, rfl⟩ : ∃ n : Nat, c = n := ⟨c.toNat, by omega⟩
  have hn : n < 4294967296 := by omega
  have e : bits2 .and .u32 (n : Int) 1 = IntKind.u32.wrap ((BitVec.ofInt 32 (n : Int) &&& BitVec.ofInt 32 1).toNat : Int) := rfl
  have e2 : (BitVec.ofInt 32 (n : Int) &&& BitVec.ofInt 32 1).toNat = n % 2 := by
    rw [BitVec.toNat_and]
    have : (BitVec.ofInt 32 (n : Int)).toNat = n := by simp; omega
    rw [this, show (BitVec.ofInt 32 1).toNat = 1 by decide, Nat.and_one_is_mod]
  rw [e, e2]
  have : ((n % 2 : Nat) : Int) = (n : Int) % 2 := by omega
  rw [Int.tmod_eq_emod_of_nonneg (by omega), this]
  have e3 : IntKind.u32.wrap ((n : Int) % 2) = ((n : Int) % 2) % 4294967296 := by simp [IntKind.wrap, IntKind.signed, IntKind.bits]
  rw [e3]; omega
theorem step_eq {c : Int} (h : U32 c) : step c = step2 c ∧ U32 (step2 c) := by
  unfold step step2
  rw [and_one h]
  refine ⟨rfl, ?_⟩
  split
  · exact xor_u32 _ _
  · exact half_u32 h
theorem steps_eq {c : Int} (h : U32 c) : ∀ n, steps n c = steps2 n c ∧ U32 (steps2 n c)
  | 0 => ⟨rfl, h⟩
  | n + 1 => by
    obtain ⟨h1, h2⟩ := steps_eq h n
    unfold steps steps2
    rw [h1]; exact step_eq h2
theorem fold_eq : ∀ (l : List UInt8) (c : Int), l.foldl crcB c = l.foldl crcB2 c
  | [], _ => rfl
  | b :: r, c => by
    rw [List.foldl_cons, List.foldl_cons, fold_eq r]
    congr 1
    exact (steps_eq (xor_u32 _ _) 8).1
theorem crc_eq (l : List UInt8) : crcV l = crcV2 l := by unfold crcV crcV2 crcL crcL2; rw [fold_eq]

theorem walk3 (C : Con) (l : List UInt8) (hs : ∀ l : List UInt8, l.length ≤ 1048576 → C.det 16 [.s l] [] (.s (frame (crcV2 l) l)) true []) (hi : ∀ l : List UInt8, l.length ≤ 1048576 → C.det 17 [.s l] [] (.s (frame (crcV l) l)) true []) :
    RunK C k3.1 (.done (Fin [2] [] (.b true) true [])) (slots0 [.s l]) (objs []) 1 := by
  have h0 : slots0 [.s l] 0 = .s l := rfl
  by_cases hb : l.length ≤ 1048576
  · have h1 : ¬ (l.length : Int) > 1048576 := by omega
    simp (config := {dsimp := false}) only [k3, h0, h1, K_seq, K_reg, K_dreg, K_block, K_skip, K_exit, K_ret, K_cond, R_seq, R_seq_exit, R_seq_ret, R_blk, R_blk_ret, R_blk_exit, R_post, R_post_exit, R_post_ret, R_done, D_nil, D_end, D_if, D_mv, D_pick, D_build, D_load, D_nilck, D_bin, D_eqt, eqtF, eqCells, eqK, D_un, D_conv, D_slc, D_sls, D_fld, D_fldv, D_idx, D_ids, D_ext, D_len, D_mm, D_mkf, D_store, D_call, D_call0, D_callh, D_alloc, D_box, D_bslice, D_mks, D_app, VK_yes, EK_yes, WK_yes, Pick_t, Pick_f, Grd_t, Grd_f, Cnd_t, Cnd_f, ev, updO, note_same, note_at, upd_at, hup_at, hdel_at, yes, cur, loadF, nilckF, slcF, slsF, fldF, fldvF, idxF, idsF, extF, lenF, mmF, buildF, binF, binI, binS, unF, convF, loN, hiN, AV.asI, AV.asS, AV.isDat, AV.cells, storeF, allocF, boxF, srcF, appF, AV.storable, List.all_cons, List.all_nil, Bool.and_true, Bool.and_self, Option.bind_some, Option.map_some, Option.map_none, ↓reduceIte, Nat.reduceEqDiff, Int.reduceLE, Int.reduceLT, Int.reduceNeg, ne_eq, Int.reduceEq, bslF, chunk, fillA, List.replicate_succ, List.replicate_zero, List.flatten_cons, List.flatten_nil, sub, bytesOf, Nat.reduceMul, Nat.mul_one, Nat.one_mul, Nat.zero_mul, Nat.mul_zero, Nat.le_refl, Nat.reduceAdd, Nat.reduceLeDiff, Bool.false_eq_true, Bool.true_eq_false, List.getElem?_cons_zero, List.getElem?_cons_succ, List.length_cons, List.length_nil, List.drop_zero, List.drop_succ_cons, List.drop_nil, List.take_zero, List.take_succ_cons, List.take_nil, List.append_nil, List.nil_append, List.cons_append, List.set_cons_zero, List.set_cons_succ, List.map_cons, List.map_nil, not_false_eq_true, implies_true, and_self, and_true, true_and, Int.toNat_natCast, Int.natCast_nonneg, List.length_map, List.getElem?_map, decide_true, decide_false, decide_not, Nat.zero_add, Nat.add_zero, Bool.not_true, Bool.not_false, false_implies, Rid.l.injEq, reduceCtorEq, Int.ofNat_lt]
    refine Call_val (own := true) (hs l hb) (fun a ha => by simp at ha; subst ha; rfl) (.inl rfl) ?_
    simp (config := {dsimp := false}) only [h0, K_seq, K_reg, K_dreg, K_block, K_skip, K_exit, K_ret, K_cond, R_seq, R_seq_exit, R_seq_ret, R_blk, R_blk_ret, R_blk_exit, R_post, R_post_exit, R_post_ret, R_done, D_nil, D_end, D_if, D_mv, D_pick, D_build, D_load, D_nilck, D_bin, D_eqt, eqtF, eqCells, eqK, D_un, D_conv, D_slc, D_sls, D_fld, D_fldv, D_idx, D_ids, D_ext, D_len, D_mm, D_mkf, D_store, D_call, D_call0, D_callh, D_alloc, D_box, D_bslice, D_mks, D_app, VK_yes, EK_yes, WK_yes, Pick_t, Pick_f, Grd_t, Grd_f, Cnd_t, Cnd_f, ev, updO, note_same, note_at, upd_at, hup_at, hdel_at, yes, cur, loadF, nilckF, slcF, slsF, fldF, fldvF, idxF, idsF, extF, lenF, mmF, buildF, binF, binI, binS, unF, convF, loN, hiN, AV.asI, AV.asS, AV.isDat, AV.cells, storeF, allocF, boxF, srcF, appF, AV.storable, List.all_cons, List.all_nil, Bool.and_true, Bool.and_self, Option.bind_some, Option.map_some, Option.map_none, ↓reduceIte, Nat.reduceEqDiff, Int.reduceLE, Int.reduceLT, Int.reduceNeg, ne_eq, Int.reduceEq, bslF, chunk, fillA, List.replicate_succ, List.replicate_zero, List.flatten_cons, List.flatten_nil, sub, bytesOf, Nat.reduceMul, Nat.mul_one, Nat.one_mul, Nat.zero_mul, Nat.mul_zero, Nat.le_refl, Nat.reduceAdd, Nat.reduceLeDiff, Bool.false_eq_true, Bool.true_eq_false, List.getElem?_cons_zero, List.getElem?_cons_succ, List.length_cons, List.length_nil, List.drop_zero, List.drop_succ_cons, List.drop_nil, List.take_zero, List.take_succ_cons, List.take_nil, List.append_nil, List.nil_append, List.cons_append, List.set_cons_zero, List.set_cons_succ, List.map_cons, List.map_nil, not_false_eq_true, implies_true, and_self, and_true, true_and, Int.toNat_natCast, Int.natCast_nonneg, List.length_map, List.getElem?_map, decide_true, decide_false, decide_not, Nat.zero_add, Nat.add_zero, Bool.not_true, Bool.not_false, false_implies, Rid.l.injEq, reduceCtorEq, Int.ofNat_lt]
    refine Call_val (own := true) (hi l hb) (fun a ha => by simp at ha; subst ha; rfl) (.inl rfl) ?_
    simp (config := {dsimp := false}) only [h0, crc_eq, bne_self_eq_false, beq_self_eq_true, K_seq, K_reg, K_dreg, K_block, K_skip, K_exit, K_ret, K_cond, R_seq, R_seq_exit, R_seq_ret, R_blk, R_blk_ret, R_blk_exit, R_post, R_post_exit, R_post_ret, R_done, D_nil, D_end, D_if, D_mv, D_pick, D_build, D_load, D_nilck, D_bin, D_eqt, eqtF, eqCells, eqK, D_un, D_conv, D_slc, D_sls, D_fld, D_fldv, D_idx, D_ids, D_ext, D_len, D_mm, D_mkf, D_store, D_call, D_call0, D_callh, D_alloc, D_box, D_bslice, D_mks, D_app, VK_yes, EK_yes, WK_yes, Pick_t, Pick_f, Grd_t, Grd_f, Cnd_t, Cnd_f, ev, updO, note_same, note_at, upd_at, hup_at, hdel_at, yes, cur, loadF, nilckF, slcF, slsF, fldF, fldvF, idxF, idsF, extF, lenF, mmF, buildF, binF, binI, binS, unF, convF, loN, hiN, AV.asI, AV.asS, AV.isDat, AV.cells, storeF, allocF, boxF, srcF, appF, AV.storable, List.all_cons, List.all_nil, Bool.and_true, Bool.and_self, Option.bind_some, Option.map_some, Option.map_none, ↓reduceIte, Nat.reduceEqDiff, Int.reduceLE, Int.reduceLT, Int.reduceNeg, ne_eq, Int.reduceEq, bslF, chunk, fillA, List.replicate_succ, List.replicate_zero, List.flatten_cons, List.flatten_nil, sub, bytesOf, Nat.reduceMul, Nat.mul_one, Nat.one_mul, Nat.zero_mul, Nat.mul_zero, Nat.le_refl, Nat.reduceAdd, Nat.reduceLeDiff, Bool.false_eq_true, Bool.true_eq_false, List.getElem?_cons_zero, List.getElem?_cons_succ, List.length_cons, List.length_nil, List.drop_zero, List.drop_succ_cons, List.drop_nil, List.take_zero, List.take_succ_cons, List.take_nil, List.append_nil, List.nil_append, List.cons_append, List.set_cons_zero, List.set_cons_succ, List.map_cons, List.map_nil, not_false_eq_true, implies_true, and_self, and_true, true_and, Int.toNat_natCast, Int.natCast_nonneg, List.length_map, List.getElem?_map, decide_true, decide_false, decide_not, Nat.zero_add, Nat.add_zero, Bool.not_true, Bool.not_false, false_implies, Rid.l.injEq, reduceCtorEq, Int.ofNat_lt]
    refine Fin_val ?_ ?_
    · simp [resV, upd_at, retA]
    · simp [resV, upd_at, ResOk]
  · have h1 : (l.length : Int) > 1048576 := by omega
    simp (config := {dsimp := false}) only [k3, h0, h1, K_seq, K_reg, K_dreg, K_block, K_skip, K_exit, K_ret, K_cond, R_seq, R_seq_exit, R_seq_ret, R_blk, R_blk_ret, R_blk_exit, R_post, R_post_exit, R_post_ret, R_done, D_nil, D_end, D_if, D_mv, D_pick, D_build, D_load, D_nilck, D_bin, D_eqt, eqtF, eqCells, eqK, D_un, D_conv, D_slc, D_sls, D_fld, D_fldv, D_idx, D_ids, D_ext, D_len, D_mm, D_mkf, D_store, D_call, D_call0, D_callh, D_alloc, D_box, D_bslice, D_mks, D_app, VK_yes, EK_yes, WK_yes, Pick_t, Pick_f, Grd_t, Grd_f, Cnd_t, Cnd_f, ev, updO, note_same, note_at, upd_at, hup_at, hdel_at, yes, cur, loadF, nilckF, slcF, slsF, fldF, fldvF, idxF, idsF, extF, lenF, mmF, buildF, binF, binI, binS, unF, convF, loN, hiN, AV.asI, AV.asS, AV.isDat, AV.cells, storeF, allocF, boxF, srcF, appF, AV.storable, List.all_cons, List.all_nil, Bool.and_true, Bool.and_self, Option.bind_some, Option.map_some, Option.map_none, ↓reduceIte, Nat.reduceEqDiff, Int.reduceLE, Int.reduceLT, Int.reduceNeg, ne_eq, Int.reduceEq, bslF, chunk, fillA, List.replicate_succ, List.replicate_zero, List.flatten_cons, List.flatten_nil, sub, bytesOf, Nat.reduceMul, Nat.mul_one, Nat.one_mul, Nat.zero_mul, Nat.mul_zero, Nat.le_refl, Nat.reduceAdd, Nat.reduceLeDiff, Bool.false_eq_true, Bool.true_eq_false, List.getElem?_cons_zero, List.getElem?_cons_succ, List.length_cons, List.length_nil, List.drop_zero, List.drop_succ_cons, List.drop_nil, List.take_zero, List.take_succ_cons, List.take_nil, List.append_nil, List.nil_append, List.cons_append, List.set_cons_zero, List.set_cons_succ, List.map_cons, List.map_nil, not_false_eq_true, implies_true, and_self, and_true, true_and, Int.toNat_natCast, Int.natCast_nonneg, List.length_map, List.getElem?_map, decide_true, decide_false, decide_not, Nat.zero_add, Nat.add_zero, Bool.not_true, Bool.not_false, false_implies, Rid.l.injEq, reduceCtorEq, Int.ofNat_lt]
    refine Fin_val ?_ ?_
    · simp [resV, upd_at, retA]
    · simp [resV, upd_at, ResOk]
end FrA
