/- Every operation without an effect. No condition. -/
import Derived.Test.YtpiegccohgdkdaaAmOp7
import Derived.BigFrame
set_option linter.all false
set_option linter.unusedSimpArgs false
set_option linter.unusedVariables false
set_option linter.deprecated false
namespace Go.AM
variable {w : World} {κ : Cfg} {h : Heap} {clk : Nat} {P : Program}

theorem elemT_eq {t e : TypeId} (he : elemT P t = some e) : P.underlying t = some (.slice e) ∧ (P.info? e).isSome = true := by
  unfold elemT at he
  split at he
  · split at he
    · cases he; exact ⟨by assumption, by assumption⟩
    · cases he
  · cases he

theorem zero_cells (z : Value) : Cells w κ h clk (cval z).cells z.cells := by
  have one : ∀ (y : AV) (u : Value), VR w κ h clk y u → Cells w κ h clk [y] #[u] := by
    intro y u hy
    refine ⟨rfl, fun j x hx => ?_⟩
    cases j with
    | zero => simp at hx; subst hx; exact hy
    | succ j => simp at hx
  have hz := cval_ok (w := w) (κ := κ) (h := h) (clk := clk) z
  cases z with
  | agg cs =>
    obtain ⟨vs, he, hl, hr⟩ := (show VR w κ h clk (.agg _) (.agg cs) from hz).of_agg
    cases he
    exact ⟨hl, hr⟩
  | slice a l c => cases a <;> cases l <;> cases c <;> exact one _ _ hz
  | pointer a => cases a <;> exact one _ _ hz
  | _ => exact one _ _ hz

theorem zeroT_ok {t : TypeId} (hz : ((P.info? t).bind (·.zero)).isSome = true) : ∃ z, (zeroValue t).run P w = .ok z w ∧ Cells w κ h clk (zeroT P t) z.cells := by
  obtain ⟨z, hz⟩ := Option.isSome_iff_exists.1 hz
  cases hi : P.info? t with
  | none => rw [hi] at hz; cases hz
  | some i =>
    rw [hi] at hz
    refine ⟨z, ?_, ?_⟩
    · simp only [Option.bind_some] at hz
      simp only [zeroValue, Sem.run_bind, run_typeInfo w hi, Result.andThen, hz]; rfl
    · unfold zeroT
      rw [hi]; simp only [hz]
      exact zero_cells z

theorem mapM_sizes (fs : List Field) (hi : ∀ f ∈ fs, (P.info? f.type).isSome = true) : ((fs.mapM fun f => do pure (f.offset, ← sizeOf f.type) : Sem (List (Nat × Nat)))).run P w = .ok (fs.map fun f => (f.offset, P.cellsOf f.type)) w := by
  induction fs with
  | nil => rfl
  | cons f fs ih =>
    simp only [List.mapM_cons, Sem.run_bind, sizeOf_run (hi f (by simp)), Result.andThen, Sem.run_pure, ih (fun g hg => hi g (by simp [hg])), List.map_cons]

theorem build_ok {t : TypeId} {fs : Array Field} {ps : Array (Nat × Operand)} {g : Slots} {ρ : Operand → Value} {p : Prop} {v : AV} (hu : P.underlying t = some (.struct fs)) (hz : ((P.info? t).bind (·.zero)).isSome = true)
    (hf : ∀ f ∈ fs.toList, (P.info? f.type).isSome = true) (hg : ∀ x, VR w κ h clk (ev g (cv x)) (ρ x))
    (hps : ∀ i x, (i, x) ∈ ps.toList → i < fs.size)
    (hk : buildF (zeroT P t) ((ps.toList.map fun (i, x) => ((fs[i]?).elim 0 (·.offset), (fs[i]?).elim 0 (fun f => P.cellsOf f.type), cv x)).map fun (off, n, x) => (off, n, ev g x)) = some (p, v)) :
    Gives P (Instr.build t (ps.map fun (i, x) => (i, ρ x))) w κ h clk v := by
  obtain ⟨z, hzr, hzc⟩ := zeroT_ok (w := w) (κ := κ) (h := h) (clk := clk) hz
  obtain ⟨gs, hgs⟩ : ∃ gs, gs = ps.toList.map fun (x : Nat × Operand) => ((fs[x.1]?).elim 0 (·.offset), (fs[x.1]?).elim 0 (fun f => P.cellsOf f.type), ev g (cv x.2)) := ⟨_, rfl⟩
  have hgs' : ((ps.toList.map fun (i, x) => ((fs[i]?).elim 0 (·.offset), (fs[i]?).elim 0 (fun f => P.cellsOf f.type), cv x)).map fun (off, n, x) => (off, n, ev g x)) = gs := by
    rw [hgs, List.map_map]; rfl
  rw [hgs'] at hk
  unfold buildF at hk
  cases hfl : fillA (zeroT P t) (gs.map fun (off, n, x) => (off, n, x.cells)) with
  | none => rw [hfl] at hk; cases hk
  | some cs =>
    rw [hfl] at hk
    simp only [Option.bind_some, yes, Option.some.injEq, Prod.mk.injEq] at hk; obtain ⟨_, rfl⟩ := hk
    have hpl := fill_ok (w := w) (κ := κ) (h := h) (clk := clk) (fun i => ((fs.toList.map fun f => (f.offset, P.cellsOf f.type)).toArray)[i]?) ρ ps.toList (zeroT P t) z.cells gs cs hzc (by simp [hgs])
      (fun k i x hkx => by
        have hi := hps i x (List.mem_of_getElem? hkx)
        refine ⟨_, _, _, by rw [hgs, List.getElem?_map, hkx]; rfl, ?_, hg x⟩
        simp [Array.getElem?_eq_getElem hi, hi]) hfl
    obtain ⟨cs', h1, h2⟩ := hpl
    refine ⟨.agg cs', ?_, .agg _ _ h2.1 h2.2⟩
    simp only [Instr.build, Sem.run_bind, hzr, Result.andThen, und_run hu]
    rw [Array.mapM_eq_mapM_toList]
    simp only [Sem.run_map, mapM_sizes fs.toList hf, Result.andThen, Array.toList_map]
    rw [h1]; rfl

theorem len_ok {str : Bool} {ats : Array TypeId} {ty t : TypeId} {a : AV} {va : Value} {p : Prop} {v : AV} (hat : ats[0]? = some t) (hs : str = true → P.underlying t = some .string) (hs2 : str = false → ∃ e, P.underlying t = some (.slice e))
    (ha : VR w κ h clk a va) (hk : lenF h str a = some (p, v)) : Gives P (Builtin.len_ ats ty #[va]) w κ h clk v := by
  obtain ⟨n, rfl, ⟨rfl, b, c, rfl⟩ | ⟨rfl, l, rfl, rfl⟩⟩ := len_val ha hk
  · obtain ⟨e, he⟩ := hs2 rfl
    refine ⟨.int .i64 n, ?_, .mk_i _ _⟩
    simp only [Builtin.len_, hat, List.getElem?_toArray, List.getElem?_cons_zero, Sem.run_bind, und_run he, Result.andThen]
    rfl
  · refine ⟨.int .i64 l.length, ?_, .mk_i _ _⟩
    simp only [Builtin.len_, hat, List.getElem?_toArray, List.getElem?_cons_zero, Sem.run_bind, und_run (hs rfl), Result.andThen]
    rfl
end Go.AM
