/- Fields, cuts of slices and texts. No condition. -/
import Derived.Test.YtpiegccohgdkdaaAmOp3
set_option linter.all false
set_option linter.unusedSimpArgs false
set_option linter.unusedVariables false
set_option linter.deprecated false
namespace Go.AM
variable {w : World} {κ : Cfg} {h : Heap} {clk : Nat} {P : Program}

theorem fieldT_eq {t : TypeId} {f : Nat} {fd : Field} (hf : fieldT P t f = some fd) : ∃ fs, P.underlying t = some (.struct fs) ∧ fs[f]? = some fd := by
  unfold fieldT at hf
  split at hf
  · exact ⟨_, by assumption, hf⟩
  · cases hf

theorem fld_ok {t : TypeId} {f off : Nat} {fd : Field} {a : AV} {va : Value} {p : Prop} {v : AV} (hf : fieldT P t f = some fd) (hz : P.cellsOf fd.type ≠ 0) (hi : (P.info? fd.type).isSome = true) (ho : fd.offset = off)
    (ha : VR w κ h clk a va) (hk : fldF h off a = some (p, v)) : Gives P (Instr.fieldAt t va f) w κ h clk v := by
  obtain ⟨fs, hu, hfs⟩ := fieldT_eq hf
  have key : ∀ b o, (Instr.fieldAt t (.pointer (some (at_ b o))) f).run P w = .ok (.pointer (some (at_ b (o + off)))) w := by
    intro b o
    simp only [Instr.fieldAt, Sem.run_bind, und_run hu, Result.andThen, hfs, Instr.sureAddr, Sem.run_pure, fieldPlace, sizeOf_run hi, hz, if_false, addr_add, ho]
  unfold fldF at hk
  split at hk
  · rename_i o ver e c
    cases hc : cur h o ver with
    | none => rw [hc] at hk; cases hk
    | some ob =>
      rw [hc] at hk
      simp only [Option.bind_some, yes, Option.some.injEq, Prod.mk.injEq] at hk; obtain ⟨_, rfl⟩ := hk
      have e1 := ha.of_ptr hc; subst e1
      refine ⟨_, key _ _, .ptr _ _ _ _ _ ⟨_, rfl⟩ ha.ptr_lt fun ob' hc' => ?_⟩
      rw [hc] at hc'; cases hc'
      rw [Cfg.addr, Nat.add_assoc]
  · simp only [Option.some.injEq, Prod.mk.injEq] at hk; obtain ⟨rfl, rfl⟩ := hk
    obtain ⟨blk, o, val, rfl, hX, hcs, hr⟩ := ha.of_eptr
    refine ⟨_, key _ _, ?_⟩
    rw [Nat.add_assoc]
    exact .eptr _ _ blk o val hX hcs hr
  · cases hk

theorem fldv_ok {t : TypeId} {f off n : Nat} {agg : Bool} {fd : Field} {a : AV} {va : Value} {p : Prop} {v : AV} (hf : fieldT P t f = some fd) (hi : (P.info? fd.type).isSome = true) (hu' : (P.underlying fd.type).isSome = true) (ho : fd.offset = off)
    (hz : isAggT P fd.type = agg) (hn : P.cellsOf fd.type = n) (ha : VR w κ h clk a va) (hk : fldvF agg off n a = some (p, v)) (hp : p) : Gives P (Instr.field t va f) w κ h clk v := by
  obtain ⟨fs, hu, hfs⟩ := fieldT_eq hf
  unfold fldvF at hk
  split at hk
  · rename_i cs
    obtain ⟨vs, rfl, hl, hr⟩ := ha.of_agg
    cases agg with
    | true =>
      simp only [Option.some.injEq, Prod.mk.injEq] at hk; obtain ⟨rfl, rfl⟩ := hk
      refine ⟨.agg (vs.extract off (off + n)), ?_, .agg _ _ (by simp; omega) fun j x hx => ?_⟩
      · simp only [Instr.field, Sem.run_bind, und_run hu, Result.andThen, hfs, asAgg, Sem.run_pure, part, isAgg_run hu', hz, if_true, sizeOf_run hi, hn, ho]
      · have hj : j < n := by
          have := (List.getElem?_eq_some_iff.1 hx).1
          simp at this; omega
        have hx' : cs[off + j]? = some x := by
          rw [List.getElem?_take, if_pos hj, List.getElem?_drop] at hx
          exact hx
        have : (vs.extract off (off + n)).getD j Go.undef = vs.getD (off + j) Go.undef := by
          simp only [Array.getD_eq_getD_getElem?, Array.getElem?_extract]
          rw [if_pos (by omega)]
        rw [this]
        exact hr _ x hx'
    | false =>
      cases hy : cs[off]? with
      | none => simp only [hy] at hk; cases hk
      | some x =>
        simp only [hy, Option.bind_some, yes, Option.some.injEq, Prod.mk.injEq] at hk; obtain ⟨_, rfl⟩ := hk
        have hlt : off < vs.size := by rw [← hl]; exact (List.getElem?_eq_some_iff.1 hy).1
        refine ⟨vs.getD off Go.undef, ?_, hr _ _ hy⟩
        simp only [Instr.field, Sem.run_bind, und_run hu, Result.andThen, hfs, asAgg, Sem.run_pure, part, isAgg_run hu', hz, Bool.false_eq_true, if_false, ho]
        simp [Array.getElem?_eq_getElem hlt, Array.getD_eq_getD_getElem?]
  · cases hk

/-! ### Cuts -/
theorem lo_val {a : Option Operand} {g : Slots} {ρ : Operand → Value} {l : Int} (hg : ∀ x, VR w κ h clk (ev g (cv x)) (ρ x)) (hl : loN ((a.map cv).map (ev g)) = some l) :
    (a = none ∧ l = 0) ∨ ∃ x k, a = some x ∧ ρ x = .int k l := by
  cases a with
  | none => simp [loN] at hl; exact .inl ⟨rfl, hl.symm⟩
  | some x =>
    simp only [Option.map_some, loN] at hl
    cases hx : ev g (cv x) <;> simp [hx, AV.asI] at hl
    rename_i k n
    subst hl
    have := hg x; rw [hx] at this
    exact .inr ⟨x, k, rfl, this.of_i⟩
theorem hi_val {a : Option Operand} {g : Slots} {ρ : Operand → Value} {l : Int} {len : Nat} (hg : ∀ x, VR w κ h clk (ev g (cv x)) (ρ x)) (hl : hiN len ((a.map cv).map (ev g)) = some l) :
    (a = none ∧ l = len) ∨ ∃ x k, a = some x ∧ ρ x = .int k l := by
  cases a with
  | none => simp [hiN] at hl; exact .inl ⟨rfl, hl.symm⟩
  | some x =>
    simp only [Option.map_some, hiN] at hl
    cases hx : ev g (cv x) <;> simp [hx, AV.asI] at hl
    rename_i k n
    subst hl
    have := hg x; rw [hx] at this
    exact .inr ⟨x, k, rfl, this.of_i⟩
theorem bound_run {k : IntKind} {n : Int} {y : Nat} {code : BoundsCode} (h0 : 0 ≤ n) (h1 : n ≤ y) : (Instr.sliceBound (.int k n) y code).run P w = .ok n.toNat w := by
  simp only [Instr.sliceBound, asIntOf, Sem.run_bind, Sem.run_pure, Result.andThen, h0, h1, and_self, if_true]
/-- Bounds without a maximum. -/
theorem bounds_run {isSlice : Bool} {len cap : Nat} {lo hi : Option Operand} {ρ : Operand → Value} {l hh : Int} (hl : (lo = none ∧ l = 0) ∨ ∃ x k, lo = some x ∧ ρ x = .int k l)
    (hhi : (hi = none ∧ hh = len) ∨ ∃ x k, hi = some x ∧ ρ x = .int k hh) (h0 : 0 ≤ l) (h1 : l ≤ hh) (h2 : hh ≤ cap) :
    (Instr.sliceBounds isSlice len cap (lo.map ρ) (hi.map ρ) none).run P w = .ok (l.toNat, hh.toNat, cap) w := by
  unfold Instr.sliceBounds
  rcases hhi with ⟨rfl, rfl⟩ | ⟨x, k, rfl, hx⟩ <;> rcases hl with ⟨rfl, rfl⟩ | ⟨y, k', rfl, hy⟩
  · simp [Sem.run_bind, Result.andThen]
  · simp only [Option.map_none, Option.map_some, Sem.run_bind, Sem.run_pure, Result.andThen, hy]
    rw [bound_run h0 (by omega)]; simp
  · simp only [Option.map_none, Option.map_some, Sem.run_bind, Sem.run_pure, Result.andThen, hx]
    rw [bound_run (by omega) h2]; simp
  · simp only [Option.map_none, Option.map_some, Sem.run_bind, Sem.run_pure, Result.andThen, hx, hy]
    rw [bound_run (by omega) h2]; simp only
    rw [bound_run h0 (by omega)]
theorem bounds_run3 {isSlice : Bool} {len cap : Nat} {lo hi : Option Operand} {m : Operand} {ρ : Operand → Value} {l hh mm : Int} {km : IntKind} (hl : (lo = none ∧ l = 0) ∨ ∃ x k, lo = some x ∧ ρ x = .int k l)
    (hhi : ∃ x k, hi = some x ∧ ρ x = .int k hh) (hm : ρ m = .int km mm) (h0 : 0 ≤ l) (h1 : l ≤ hh) (h2 : hh ≤ mm) (h3 : mm ≤ cap) :
    (Instr.sliceBounds isSlice len cap (lo.map ρ) (hi.map ρ) (some (ρ m))).run P w = .ok (l.toNat, hh.toNat, mm.toNat) w := by
  unfold Instr.sliceBounds
  obtain ⟨x, k, rfl, hx⟩ := hhi
  rcases hl with ⟨rfl, rfl⟩ | ⟨y, k', rfl, hy⟩
  · simp only [Option.map_none, Option.map_some, Sem.run_bind, Sem.run_pure, Result.andThen, hx, hm]
    rw [bound_run (by omega) h3]; simp only
    rw [bound_run (by omega) (by omega)]; simp
  · simp only [Option.map_some, Sem.run_bind, Sem.run_pure, Result.andThen, hx, hy, hm]
    rw [bound_run (by omega) h3]; simp only
    rw [bound_run (by omega) (by omega)]; simp only
    rw [bound_run h0 (by omega)]

theorem sls_ok {t : TypeId} {x : Operand} {lo hi : Option Operand} {g : Slots} {ρ : Operand → Value} {p : Prop} {v : AV} (ht : P.underlying t = some .string) (hg : ∀ x, VR w κ h clk (ev g (cv x)) (ρ x))
    (hk : slsF (ev g (cv x)) ((lo.map cv).map (ev g)) ((hi.map cv).map (ev g)) = some (p, v)) (hp : p) : Gives P (Instr.sliceAt t (ρ x) (lo.map ρ) (hi.map ρ) none) w κ h clk v := by
  unfold slsF at hk
  cases hx : ev g (cv x) <;> simp only [hx, AV.asS, Option.bind_none, Option.bind_some, reduceCtorEq] at hk
  rename_i s
  have e1 := hg x; rw [hx] at e1; have e2 := e1.of_s
  cases hl : loN ((lo.map cv).map (ev g)) with
  | none => simp only [hl] at hk; cases hk
  | some l =>
    cases hh : hiN s.length ((hi.map cv).map (ev g)) with
    | none => simp only [hl, hh, Option.bind_some] at hk; cases hk
    | some m =>
      simp only [hl, hh, Option.bind_some, Option.some.injEq, Prod.mk.injEq] at hk; obtain ⟨rfl, rfl⟩ := hk
      obtain ⟨h0, h1, h2⟩ := hp
      have sz : (⟨s.toArray⟩ : ByteArray).size = s.length := by simp [ByteArray.size]
      refine ⟨.string ((⟨s.toArray⟩ : ByteArray).extract l.toNat m.toNat), ?_, ?_⟩
      · simp only [Instr.sliceAt, Sem.run_bind, und_run ht, Result.andThen, Instr.slice, e2, Option.isSome_none, Bool.false_eq_true, if_false]
        rw [bounds_run (P := P) (w := w) (isSlice := false) (len := (⟨s.toArray⟩ : ByteArray).size) (cap := (⟨s.toArray⟩ : ByteArray).size) (lo_val hg hl) (by rw [sz]; exact hi_val hg hh) h0 h1 (by rw [sz]; exact h2)]
        rfl
      · have : (⟨s.toArray⟩ : ByteArray).extract l.toNat m.toNat = ⟨((s.drop l.toNat).take (m - l).toNat).toArray⟩ := by
          have h3 : ((⟨s.toArray⟩ : ByteArray).extract l.toNat m.toNat).data.toList = (s.drop l.toNat).take (m.toNat - l.toNat) := by
            rw [Lib.extract_data]
          apply ByteArray.ext
          apply Array.ext'
          rw [h3, show (m - l).toNat = m.toNat - l.toNat by omega]
        rw [this]
        exact .mk_s _
end Go.AM
