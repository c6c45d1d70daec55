/- Loads, fields, cuts. No condition. -/
import Derived.Test.YtpiegccohgdkdaaAmOp2
set_option linter.all false
set_option linter.unusedSimpArgs false
set_option linter.unusedVariables false
set_option linter.deprecated false
namespace Go.AM
variable {w : World} {κ : Cfg} {h : Heap} {clk : Nat} {P : Program}

theorem ids_ok {t : TypeId} {a i : AV} {va vi : Value} {p : Prop} {v : AV} (ht : P.underlying t = some .string) (ha : VR w κ h clk a va) (hi : VR w κ h clk i vi) (hk : idsF a i = some (p, v)) (hp : p) :
    Gives P (Instr.index t va vi) w κ h clk v := by
  unfold idsF at hk
  split at hk
  · rename_i l k n
    have e1 := ha.of_s; subst e1
    have e2 := hi.of_i; subst e2
    cases hx : l[n.toNat]? with
    | none => rw [hx] at hk; cases hk
    | some b =>
      rw [hx] at hk
      simp only [Option.bind_some, Option.some.injEq, Prod.mk.injEq] at hk; obtain ⟨rfl, rfl⟩ := hk
      refine ⟨_, ?_, .mk_i _ _⟩
      have hb : (⟨l.toArray⟩ : ByteArray)[n.toNat]? = some b := by
        have hlt := (List.getElem?_eq_some_iff.1 hx)
        obtain ⟨hlt, hv⟩ := hlt
        rw [getElem?_pos (⟨l.toArray⟩ : ByteArray) n.toNat (by simpa [ByteArray.size] using hlt)]
        congr 1
      simp only [Instr.index, asIntOf, Sem.run_bind, Sem.run_pure, Result.andThen, und_run ht, hp, if_true, hb]
  · cases hk

theorem isAgg_run {t : TypeId} (ht : (P.underlying t).isSome = true) : (isAgg t).run P w = .ok (isAggT P t) w := by
  obtain ⟨d, hd⟩ := Option.isSome_iff_exists.1 ht
  simp only [isAgg, Sem.run_bind, und_run hd, Result.andThen]
  unfold isAggT
  rw [hd]
  cases d <;> rfl
theorem sizeOf_run {t : TypeId} (ht : (P.info? t).isSome = true) : (sizeOf t).run P w = .ok (P.cellsOf t) w := by
  obtain ⟨i, hi⟩ := Option.isSome_iff_exists.1 ht
  exact run_sizeOf w hi

/-- A variable's cells, read. -/
theorem loadVar_run {t : TypeId} {b o : Nat} {agg : Bool} {n : Nat} (f : Nat → Value) (hi : (P.info? t).isSome = true) (hu : (P.underlying t).isSome = true) (hz : isAggT P t = agg) (hn : P.cellsOf t = n)
    (hc : ∀ j, j < n → w.cell? (at_ b (o + j)) = some (f j)) (h1 : agg = false → n = 1) :
    (loadVar t (at_ b o)).run P w = .ok (if agg then .agg ((List.range n).map f).toArray else f 0) w := by
  simp only [loadVar, Sem.run_bind, isAgg_run hu, Result.andThen, hz]
  cases agg with
  | true =>
    simp only [if_true, Sem.run_bind, sizeOf_run hi, hn, Result.andThen, Sem.run_pure]
    rw [run_loadCells w (at_ b o) n f (fun j hj => by rw [addr_add]; exact hc j hj)]
  | false =>
    have hn1 := h1 rfl
    have := hc 0 (by omega)
    simp only [Bool.false_eq_true, if_false, load, Sem.run]
    rw [Nat.add_zero] at this
    rw [this]

theorem cval_cells {cs : List AV} {n c : Nat} {f : Nat → Value} (hl : c + n ≤ cs.length) (hr : ∀ (j : Nat) x, j < n → cs[c + j]? = some x → VR w κ h clk x (f j)) :
    VR w κ h clk (.agg ((cs.drop c).take n)) (.agg ((List.range n).map f).toArray) := by
  refine .agg _ _ (by simp; omega) fun j x hx => ?_
  have hj : j < n := by
    have := (List.getElem?_eq_some_iff.1 hx).1
    simp at this; omega
  have hx' : cs[c + j]? = some x := by
    rw [List.getElem?_take, if_pos hj, List.getElem?_drop] at hx
    exact hx
  have : (((List.range n).map f).toArray).getD j Go.undef = f j := by
    simp [Array.getD_eq_getD_getElem?, hj]
  rw [this]
  exact hr j x hj hx'

theorem CR.vr {own : Prop} {S : Bs} {x : AV} {v : Value} (hc : CR w κ h clk own S x v) (hd : x.isDat = true → ¬ own) : VR w κ h clk x v := by
  cases x with
  | dat es => exact .ro _ _ (hc.2 (hd rfl))
  | agg _ => exact hc.elim
  | tup _ => exact hc.elim
  | _ => exact hc
theorem CR.vr_flat {own : Prop} {S : Bs} {x : AV} {v : Value} (hc : CR w κ h clk own S x v) (hd : own → x.isDat = false) : VR w κ h clk x v := by
  refine hc.vr fun hx ho => ?_
  rw [hd ho] at hx; cases hx

theorem load_ok {t : TypeId} {agg : Bool} {n : Nat} {a : AV} {va : Value} {p : Prop} {v : AV} (hO : ∀ o ob, h o = some ob → ObR w κ h clk o ob)
    (hi : (P.info? t).isSome = true) (hu : (P.underlying t).isSome = true) (hz : isAggT P t = agg) (hn : P.cellsOf t = n) (h1 : agg = false → n = 1)
    (ha : VR w κ h clk a va) (hk : loadF h agg n a = some (p, v)) (hp : p) : Gives P (Instr.loadAt t va) w κ h clk v := by
  unfold loadF at hk
  split at hk
  · rename_i o ver e c
    cases hc : cur h o ver with
    | none => rw [hc] at hk; cases hk
    | some ob =>
      have e1 := ha.of_ptr hc; subst e1
      obtain ⟨hob, _⟩ := cur_some hc
      have oR := hO o ob hob
      rw [hc] at hk
      simp only [Option.bind_some] at hk
      cases hx : ob.es[e]? with
      | none => rw [hx] at hk; cases hk
      | some cells =>
        rw [hx] at hk
        simp only [Option.bind_some] at hk
        have hcell : ∀ (j : Nat) x, cells[j]? = some x → ∃ u, w.cell? (κ.addr o ob.esz e j) = some u ∧ CR w κ h clk ob.own (κ.F o e j) x u := fun j x hj => oR.cells e j x (cellOf_some hx hj)
        cases agg with
        | true =>
          simp only [Option.some.injEq, Prod.mk.injEq] at hk; obtain ⟨rfl, rfl⟩ := hk
          obtain ⟨hl, hf⟩ := hp
          let f : Nat → Value := fun j => ((w.cell? (κ.addr o ob.esz e (c + j))).getD Go.undef)
          have hcs : ∀ j, j < n → w.cell? (at_ (κ.ι o).1 ((κ.ι o).2 + e * ob.esz + c + j)) = some (f j) := by
            intro j hj
            obtain ⟨u, hu', _⟩ := hcell (c + j) cells[c + j] (List.getElem?_eq_getElem (by omega))
            have : w.cell? (κ.addr o ob.esz e (c + j)) = some (f j) := by simp [f, hu']
            rw [Cfg.addr] at this
            rw [show (κ.ι o).2 + e * ob.esz + c + j = (κ.ι o).2 + e * ob.esz + (c + j) by omega]
            exact this
          refine ⟨_, ?_, cval_cells (f := f) hl fun j x hj hx' => ?_⟩
          · simp only [Instr.loadAt, Instr.sureAddr, Sem.run_bind, Sem.run_pure, Result.andThen, Cfg.addr]
            rw [loadVar_run f hi hu hz hn hcs h1]; rfl
          · obtain ⟨u, hu', hcr⟩ := hcell (c + j) x hx'
            have : f j = u := by simp [f, hu']
            rw [this]
            refine hcr.vr_flat fun ho => hf ho _ (List.mem_singleton.2 rfl) x ?_
            exact List.mem_of_getElem? (i := j) (by rw [List.getElem?_take, if_pos hj, List.getElem?_drop]; exact hx')
        | false =>
          cases hy : cells[c]? with
          | none => simp only [hy] at hk; cases hk
          | some x =>
            simp only [hy, Option.bind_some, Option.some.injEq, Prod.mk.injEq] at hk; obtain ⟨rfl, rfl⟩ := hk
            obtain ⟨u, hu', hcr⟩ := hcell c _ hy
            refine ⟨u, ?_, hcr.vr hp⟩
            have hn1 := h1 rfl
            simp only [Instr.loadAt, Instr.sureAddr, Sem.run_bind, Sem.run_pure, Result.andThen, Cfg.addr]
            rw [loadVar_run (fun _ => u) hi hu hz hn (fun j hj => by rw [show j = 0 by omega]; exact hu') h1]; rfl
  · rename_i cells c
    obtain ⟨blk, off, val, rfl, hX, hcs, hr⟩ := ha.of_eptr
    cases agg with
    | true =>
      simp only [Option.some.injEq, Prod.mk.injEq] at hk; obtain ⟨rfl, rfl⟩ := hk
      refine ⟨_, ?_, cval_cells (f := fun j => val (c + j)) hp fun j x hj hx' => .ro _ _ (hr _ x hx')⟩
      simp only [Instr.loadAt, Instr.sureAddr, Sem.run_bind, Sem.run_pure, Result.andThen]
      rw [loadVar_run (fun j => val (c + j)) hi hu hz hn (fun j hj => by
        rw [Nat.add_assoc]; exact hcs (c + j) cells[c + j] (List.getElem?_eq_getElem (by omega))) h1]; rfl
    | false =>
      cases hy : cells[c]? with
      | none => simp only [hy] at hk; cases hk
      | some x =>
        simp only [hy, Option.bind_some, yes, Option.some.injEq, Prod.mk.injEq] at hk; obtain ⟨rfl, rfl⟩ := hk
        refine ⟨val c, ?_, .ro _ _ (hr c _ hy)⟩
        have hn1 := h1 rfl
        simp only [Instr.loadAt, Instr.sureAddr, Sem.run_bind, Sem.run_pure, Result.andThen]
        rw [loadVar_run (fun _ => val c) hi hu hz hn (fun j hj => by rw [show j = 0 by omega]; exact hcs c _ hy) h1]; rfl
  · cases hk
end Go.AM
