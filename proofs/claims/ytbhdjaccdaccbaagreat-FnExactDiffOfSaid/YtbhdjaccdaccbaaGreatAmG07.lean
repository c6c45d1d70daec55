/- Every operation without an effect. No condition. -/
import Derived.Test.YtbhdjaccdaccbaaGreatAmG06
import Derived.BigFrame
set_option linter.all false
set_option linter.unusedSimpArgs false
set_option linter.unusedVariables false
set_option linter.deprecated false
/-! Op8 -/
section
namespace Go.AM
variable {w : World} {κ : Cfg} {h : Heap} {clk : Nat} {P : Program}

theorem arrT_eq {t e : TypeId} {n : Nat} (he : arrT P t = some (n, e)) : P.underlying t = some (.array n e) ∧ (P.info? e).isSome = true := by
  unfold arrT at he
  split at he
  · rename_i k e' h1
    split at he
    · rename_i h2; cases he; exact ⟨h1, h2⟩
    · cases he
  · cases he
theorem elemT_eq {t e : TypeId} (he : elemT P t = some e) : P.underlying t = some (.slice e) ∧ (P.info? e).isSome = true := by
  unfold elemT at he
  split at he
  · split at he
    · cases he; exact ⟨by assumption, by assumption⟩
    · cases he
  · cases he

theorem zero_cells (z : Value) : Cells w κ h clk (cval z).cells z.cells := by
  have one : ∀ (y : AV) (u : Value), VR w κ h clk y u → Cells w κ h clk [y] #[u] := by
    intro y u hy
    refine ⟨rfl, fun j x hx => ?_⟩
    cases j with
    | zero => simp at hx; subst hx; exact hy
    | succ j => simp at hx
  have hz := cval_ok (w := w) (κ := κ) (h := h) (clk := clk) z
  cases z with
  | agg cs =>
    obtain ⟨vs, he, hl, hr⟩ := (show VR w κ h clk (.agg _) (.agg cs) from hz).of_agg
    cases he
    exact ⟨hl, hr⟩
  | slice a l c => cases a <;> cases l <;> cases c <;> exact one _ _ hz
  | pointer a => cases a <;> exact one _ _ hz
  | _ => exact one _ _ hz

theorem zeroT_ok {t : TypeId} (hz : ((P.info? t).bind (·.zero)).isSome = true) : ∃ z, (zeroValue t).run P w = .ok z w ∧ Cells w κ h clk (zeroT P t) z.cells := by
  obtain ⟨z, hz⟩ := Option.isSome_iff_exists.1 hz
  cases hi : P.info? t with
  | none => rw [hi] at hz; cases hz
  | some i =>
    rw [hi] at hz
    refine ⟨z, ?_, ?_⟩
    · simp only [Option.bind_some] at hz
      simp only [zeroValue, Sem.run_bind, run_typeInfo w hi, Result.andThen, hz]; rfl
    · unfold zeroT
      rw [hi]; simp only [hz]
      exact zero_cells z

theorem mapM_sizes (fs : List Field) (hi : ∀ f ∈ fs, (P.info? f.type).isSome = true) : ((fs.mapM fun f => do pure (f.offset, ← sizeOf f.type) : Sem (List (Nat × Nat)))).run P w = .ok (fs.map fun f => (f.offset, P.cellsOf f.type)) w := by
  induction fs with
  | nil => rfl
  | cons f fs ih =>
    simp only [List.mapM_cons, Sem.run_bind, sizeOf_run (hi f (by simp)), Result.andThen, Sem.run_pure, ih (fun g hg => hi g (by simp [hg])), List.map_cons]

theorem build_ok {t : TypeId} {fs : Array Field} {ps : Array (Nat × Operand)} {g : Slots} {ρ : Operand → Value} {p : Prop} {v : AV} (hu : P.underlying t = some (.struct fs)) (hz : ((P.info? t).bind (·.zero)).isSome = true)
    (hf : ∀ f ∈ fs.toList, (P.info? f.type).isSome = true) (hg : ∀ x, VR w κ h clk (ev g (cv x)) (ρ x))
    (hps : ∀ i x, (i, x) ∈ ps.toList → i < fs.size)
    (hk : buildF (zeroT P t) ((ps.toList.map fun (i, x) => ((fs[i]?).elim 0 (·.offset), (fs[i]?).elim 0 (fun f => P.cellsOf f.type), cv x)).map fun (off, n, x) => (off, n, ev g x)) = some (p, v)) :
    Gives P (Instr.build t (ps.map fun (i, x) => (i, ρ x))) w κ h clk v := by
  obtain ⟨z, hzr, hzc⟩ := zeroT_ok (w := w) (κ := κ) (h := h) (clk := clk) hz
  obtain ⟨gs, hgs⟩ : ∃ gs, gs = ps.toList.map fun (x : Nat × Operand) => ((fs[x.1]?).elim 0 (·.offset), (fs[x.1]?).elim 0 (fun f => P.cellsOf f.type), ev g (cv x.2)) := ⟨_, rfl⟩
  have hgs' : ((ps.toList.map fun (i, x) => ((fs[i]?).elim 0 (·.offset), (fs[i]?).elim 0 (fun f => P.cellsOf f.type), cv x)).map fun (off, n, x) => (off, n, ev g x)) = gs := by
    rw [hgs, List.map_map]; rfl
  rw [hgs'] at hk
  unfold buildF at hk
  cases hfl : fillA (zeroT P t) (gs.map fun (off, n, x) => (off, n, x.cells)) with
  | none => rw [hfl] at hk; cases hk
  | some cs =>
    rw [hfl] at hk
    simp only [Option.bind_some, yes, Option.some.injEq, Prod.mk.injEq] at hk; obtain ⟨_, rfl⟩ := hk
    have hpl := fill_ok (w := w) (κ := κ) (h := h) (clk := clk) (fun i => ((fs.toList.map fun f => (f.offset, P.cellsOf f.type)).toArray)[i]?) ρ ps.toList (zeroT P t) z.cells gs cs hzc (by simp [hgs])
      (fun k i x hkx => by
        have hi := hps i x (List.mem_of_getElem? hkx)
        refine ⟨_, _, _, by rw [hgs, List.getElem?_map, hkx]; rfl, ?_, hg x⟩
        simp [Array.getElem?_eq_getElem hi, hi]) hfl
    obtain ⟨cs', h1, h2⟩ := hpl
    refine ⟨.agg cs', ?_, .agg _ _ h2.1 h2.2⟩
    simp only [Instr.build, Sem.run_bind, hzr, Result.andThen, und_run hu]
    rw [Array.mapM_eq_mapM_toList]
    simp only [Sem.run_map, mapM_sizes fs.toList hf, Result.andThen, Array.toList_map]
    rw [h1]; rfl

theorem len_ok {str : Bool} {ats : Array TypeId} {ty t : TypeId} {a : AV} {va : Value} {p : Prop} {v : AV} (hat : ats[0]? = some t) (hs : str = true → P.underlying t = some .string) (hs2 : str = false → ∃ e, P.underlying t = some (.slice e))
    (ha : VR w κ h clk a va) (hk : lenF h str a = some (p, v)) : Gives P (Builtin.len_ ats ty #[va]) w κ h clk v := by
  obtain ⟨n, rfl, ⟨rfl, b, c, rfl⟩ | ⟨rfl, l, rfl, rfl⟩⟩ := len_val ha hk
  · obtain ⟨e, he⟩ := hs2 rfl
    refine ⟨.int .i64 n, ?_, .mk_i _ _⟩
    simp only [Builtin.len_, hat, List.getElem?_toArray, List.getElem?_cons_zero, Sem.run_bind, und_run he, Result.andThen]
    rfl
  · refine ⟨.int .i64 l.length, ?_, .mk_i _ _⟩
    simp only [Builtin.len_, hat, List.getElem?_toArray, List.getElem?_cons_zero, Sem.run_bind, und_run (hs rfl), Result.andThen]
    rfl
theorem cap_ok {ats : Array TypeId} {ty t : TypeId} {a : AV} {va : Value} {p : Prop} {v : AV} (hat : ats[0]? = some t) (hs : ∃ e, P.underlying t = some (.slice e)) (ha : VR w κ h clk a va) (hk : capF h a = some (p, v)) (hp : p) :
    Gives P (Builtin.cap_ ats ty #[va]) w κ h clk v := by
  obtain ⟨e, he⟩ := hs
  have go : ∀ (b : Option Addr) (l k : Nat), va = .slice b l k → v = i64 k → Gives P (Builtin.cap_ ats ty #[va]) w κ h clk v := by
    rintro b l k rfl rfl
    refine ⟨.int .i64 k, ?_, .mk_i _ _⟩
    simp only [Builtin.cap_, hat, List.getElem?_toArray, List.getElem?_cons_zero, Sem.run_bind, und_run he, Result.andThen]
    rfl
  unfold capF at hk
  split at hk
  · simp only [yes, Option.some.injEq, Prod.mk.injEq] at hk; obtain ⟨_, rfl⟩ := hk
    exact go none 0 0 ha.of_nils rfl
  · rename_i o v' off len k
    cases hc : cur h o v' with
    | none => rw [hc] at hk; cases hk
    | some ob =>
      rw [hc] at hk
      simp only [Option.bind_some, Option.some.injEq, Prod.mk.injEq] at hk; obtain ⟨rfl, rfl⟩ := hk
      rcases ha.of_sl hc with ⟨h1, _⟩ | ⟨rc, _, hv, _, _, hck, _⟩
      · exact absurd h1 hp
      · have := hck k rfl
        subst this
        exact go _ _ _ hv rfl
  · cases hk
end Go.AM
end
/-! Op9 -/
section
namespace Go.AM
variable {w : World} {κ : Cfg} {h : Heap} {clk : Nat} {P : Program}

theorem equal_run {t : TypeId} {x y : Value} {r : Bool} (hr : ∀ d, (Op.equalIn (d + 1) t x y).run P w = .ok r w) : (Op.equal t x y).run P w = .ok r w := hr 9999

/-- What '==' and '!=' come to where the operands are no numbers and no texts. -/
theorem eq_run {op : BinOp} {neg : Bool} {t : TypeId} {x y : Operand} {a b : Value} {r : Bool} (hop : op = if neg then .neq else .eql) (hg : (eqGuard op t x y a b).run P w = .ok () w) (hi : ∀ k n, a ≠ .int k n) (hs : ∀ s, a ≠ .string s)
    (hf : ∀ k n, a ≠ .float k n) (hc : ∀ k n m, a ≠ .complex k n m) (he : (Op.equal t a b).run P w = .ok r w) : (do eqGuard op t x y a b; binOp op t a b : Sem Value).run P w = .ok (.bool (r != neg)) w := by
  simp only [Sem.run_bind, hg, Result.andThen]
  subst hop
  cases neg with
  | false =>
    have : binOp .eql t a b = (do pure (.bool (← Op.equal t a b)) : Sem Value) := by
      cases a <;> first | exact absurd rfl (hi _ _) | exact absurd rfl (hs _) | exact absurd rfl (hf _ _) | exact absurd rfl (hc _ _ _) | rfl
    simp only [Bool.false_eq_true, if_false, this, Sem.run_bind, he, Result.andThen, Sem.run_pure]
    cases r <;> rfl
  | true =>
    have : binOp .neq t a b = (do pure (.bool (!(← Op.equal t a b))) : Sem Value) := by
      cases a <;> first | exact absurd rfl (hi _ _) | exact absurd rfl (hs _) | exact absurd rfl (hf _ _) | exact absurd rfl (hc _ _ _) | rfl
    simp only [if_true, this, Sem.run_bind, he, Result.andThen, Sem.run_pure]
    cases r <;> rfl

/-- Does a type fit what is held against each other? -/
def EqFit (P : Program) (t : TypeId) : EqT → Prop
  | .bool => P.underlying t = some .bool
  | .ptr => ∃ e, P.underlying t = some (.pointer e)
  | .slice => ∃ e, P.underlying t = some (.slice e)
  | .func => ∃ a b c, P.underlying t = some (.func a b c)
  | .struct ks => (∃ fs, P.underlying t = some (.struct fs)) ∧ flatT P 8 t = some ks ∧ P.eqGuardType P.depth t = false

theorem eqt_ok {et : EqT} {neg : Bool} {t : TypeId} {x y : Operand} {a b : AV} {va vb : Value} {p : Prop} {v : AV} (hfit : EqFit P t et) (ha : VR w κ h clk a va) (hb : VR w κ h clk b vb) (hk : eqtF h et neg a b = some (p, v)) (hp : p) :
    Gives P (do eqGuard (if neg then .neq else .eql) t x y va vb; binOp (if neg then .neq else .eql) t va vb) w κ h clk v := by
  unfold eqtF at hk
  split at hk
  · -- truths
    have e1 := ha.of_b; have e2 := hb.of_b; subst e1; subst e2
    simp only [yes, Option.some.injEq, Prod.mk.injEq] at hk; obtain ⟨_, rfl⟩ := hk
    exact ⟨_, eq_run rfl (eqGuard_plain (by simp) (by simp)) (by simp) (by simp) (by simp) (by simp) (equal_run fun d => by
      simp only [Op.equalIn, Sem.run_bind, und_run hfit, Result.andThen]; rfl), .mk_b _⟩
  · have e1 := ha.of_nilp; have e2 := hb.of_nilp; subst e1; subst e2
    obtain ⟨e, he⟩ := hfit
    simp only [yes, Option.some.injEq, Prod.mk.injEq] at hk; obtain ⟨_, rfl⟩ := hk
    have := eq_run (P := P) (w := w) (neg := neg) (t := t) (x := x) (y := y) (a := .pointer none) (b := .pointer none) rfl (eqGuard_plain (by simp) (by simp)) (by simp) (by simp) (by simp) (by simp) (equal_run (r := true) fun d => by
      simp only [Op.equalIn, Sem.run_bind, und_run he, Result.andThen]; rfl)
    exact ⟨_, this, by cases neg <;> exact .mk_b _⟩
  · rename_i o ver e' c'
    have e1 := ha.of_nilp; subst e1
    obtain ⟨e, he⟩ := hfit
    cases hc : cur h o ver with
    | none => rw [hc] at hk; cases hk
    | some ob =>
      rw [hc] at hk
      simp only [Option.bind_some, yes, Option.some.injEq, Prod.mk.injEq] at hk; obtain ⟨_, rfl⟩ := hk
      have e2 := hb.of_ptr hc; subst e2
      have := eq_run (P := P) (w := w) (neg := neg) (t := t) (x := x) (y := y) (a := .pointer none) (b := .pointer (some (κ.addr o ob.esz e' c'))) rfl (eqGuard_plain (by simp) (by simp)) (by simp) (by simp) (by simp) (by simp) (equal_run (r := false) fun d => by
        simp only [Op.equalIn, Sem.run_bind, und_run he, Result.andThen]; rfl)
      exact ⟨_, this, by cases neg <;> exact .mk_b _⟩
  · rename_i o ver e' c'
    have e1 := hb.of_nilp; subst e1
    obtain ⟨e, he⟩ := hfit
    cases hc : cur h o ver with
    | none => rw [hc] at hk; cases hk
    | some ob =>
      rw [hc] at hk
      simp only [Option.bind_some, yes, Option.some.injEq, Prod.mk.injEq] at hk; obtain ⟨_, rfl⟩ := hk
      have e2 := ha.of_ptr hc; subst e2
      have := eq_run (P := P) (w := w) (neg := neg) (t := t) (x := x) (y := y) (a := .pointer (some (κ.addr o ob.esz e' c'))) (b := .pointer none) rfl (eqGuard_plain (by simp) (by simp)) (by simp) (by simp) (by simp) (by simp) (equal_run (r := false) fun d => by
        simp only [Op.equalIn, Sem.run_bind, und_run he, Result.andThen]; rfl)
      exact ⟨_, this, by cases neg <;> exact .mk_b _⟩
  · rename_i cells c'
    have e1 := ha.of_nilp; subst e1
    obtain ⟨blk, off, val, e2, _⟩ := hb.of_eptr; subst e2
    obtain ⟨e, he⟩ := hfit
    simp only [yes, Option.some.injEq, Prod.mk.injEq] at hk; obtain ⟨_, rfl⟩ := hk
    have := eq_run (P := P) (w := w) (neg := neg) (t := t) (x := x) (y := y) (a := .pointer none) (b := .pointer (some (at_ blk (off + c')))) rfl (eqGuard_plain (by simp) (by simp)) (by simp) (by simp) (by simp) (by simp) (equal_run (r := false) fun d => by
      simp only [Op.equalIn, Sem.run_bind, und_run he, Result.andThen]; rfl)
    exact ⟨_, this, by cases neg <;> exact .mk_b _⟩
  · rename_i cells c'
    have e1 := hb.of_nilp; subst e1
    obtain ⟨blk, off, val, e2, _⟩ := ha.of_eptr; subst e2
    obtain ⟨e, he⟩ := hfit
    simp only [yes, Option.some.injEq, Prod.mk.injEq] at hk; obtain ⟨_, rfl⟩ := hk
    have := eq_run (P := P) (w := w) (neg := neg) (t := t) (x := x) (y := y) (a := .pointer (some (at_ blk (off + c')))) (b := .pointer none) rfl (eqGuard_plain (by simp) (by simp)) (by simp) (by simp) (by simp) (by simp) (equal_run (r := false) fun d => by
      simp only [Op.equalIn, Sem.run_bind, und_run he, Result.andThen]; rfl)
    exact ⟨_, this, by cases neg <;> exact .mk_b _⟩
  · have e1 := ha.of_nils; have e2 := hb.of_nils; subst e1; subst e2
    obtain ⟨e, he⟩ := hfit
    simp only [yes, Option.some.injEq, Prod.mk.injEq] at hk; obtain ⟨_, rfl⟩ := hk
    have := eq_run (P := P) (w := w) (neg := neg) (t := t) (x := x) (y := y) (a := .slice none 0 0) (b := .slice none 0 0) rfl (eqGuard_plain (by simp) (by simp)) (by simp) (by simp) (by simp) (by simp) (equal_run (r := true) fun d => by
      simp only [Op.equalIn, Sem.run_bind, und_run he, Result.andThen]; rfl)
    exact ⟨_, this, by cases neg <;> exact .mk_b _⟩
  · rename_i es
    have e1 := hb.of_nils; subst e1
    obtain ⟨e, he⟩ := hfit
    simp only [Option.some.injEq, Prod.mk.injEq] at hk; obtain ⟨rfl, rfl⟩ := hk
    obtain ⟨ad, len, rc, e2⟩ : ∃ ad len rc, va = .slice (some ad) len rc := by
      have hr := ha.of_dat
      cases hr with
      | dat0 => exact absurd rfl hp
      | dat => exact ⟨_, _, _, rfl⟩
    subst e2
    have := eq_run (P := P) (w := w) (neg := neg) (t := t) (x := x) (y := y) (a := .slice (some ad) len rc) (b := .slice none 0 0) rfl (eqGuard_plain (by simp) (by simp)) (by simp) (by simp) (by simp) (by simp) (equal_run (r := false) fun d => by
      simp only [Op.equalIn, Sem.run_bind, und_run he, Result.andThen]; rfl)
    exact ⟨_, this, by cases neg <;> exact .mk_b _⟩
  · rename_i es
    have e1 := ha.of_nils; subst e1
    obtain ⟨e, he⟩ := hfit
    simp only [Option.some.injEq, Prod.mk.injEq] at hk; obtain ⟨rfl, rfl⟩ := hk
    obtain ⟨ad, len, rc, e2⟩ : ∃ ad len rc, vb = .slice (some ad) len rc := by
      have hr := hb.of_dat
      cases hr with
      | dat0 => exact absurd rfl hp
      | dat => exact ⟨_, _, _, rfl⟩
    subst e2
    have := eq_run (P := P) (w := w) (neg := neg) (t := t) (x := x) (y := y) (a := .slice none 0 0) (b := .slice (some ad) len rc) rfl (eqGuard_plain (by simp) (by simp)) (by simp) (by simp) (by simp) (by simp) (equal_run (r := false) fun d => by
      simp only [Op.equalIn, Sem.run_bind, und_run he, Result.andThen]; rfl)
    exact ⟨_, this, by cases neg <;> exact .mk_b _⟩
  · rename_i o ver off len cap
    have e1 := hb.of_nils; subst e1
    obtain ⟨e, he⟩ := hfit
    cases hc : cur h o ver with
    | none => rw [hc] at hk; cases hk
    | some ob =>
    rw [hc] at hk
    simp only [Option.bind_some, Option.some.injEq, Prod.mk.injEq] at hk; obtain ⟨rfl, rfl⟩ := hk
    obtain ⟨ad, rc, e2⟩ : ∃ ad rc, va = .slice (some ad) len rc := by
      rcases ha.of_sl hc with ⟨h0, _⟩ | ⟨rc, _, e2, _⟩
      · exact absurd h0 hp
      · exact ⟨_, _, e2⟩
    subst e2
    have := eq_run (P := P) (w := w) (neg := neg) (t := t) (x := x) (y := y) (a := .slice (some ad) len rc) (b := .slice none 0 0) rfl (eqGuard_plain (by simp) (by simp)) (by simp) (by simp) (by simp) (by simp) (equal_run (r := false) fun d => by
      simp only [Op.equalIn, Sem.run_bind, und_run he, Result.andThen]; rfl)
    exact ⟨_, this, by cases neg <;> exact .mk_b _⟩
  · rename_i o ver off len cap
    have e1 := ha.of_nils; subst e1
    obtain ⟨e, he⟩ := hfit
    cases hc : cur h o ver with
    | none => rw [hc] at hk; cases hk
    | some ob =>
    rw [hc] at hk
    simp only [Option.bind_some, Option.some.injEq, Prod.mk.injEq] at hk; obtain ⟨rfl, rfl⟩ := hk
    obtain ⟨ad, rc, e2⟩ : ∃ ad rc, vb = .slice (some ad) len rc := by
      rcases hb.of_sl hc with ⟨h0, _⟩ | ⟨rc, _, e2, _⟩
      · exact absurd h0 hp
      · exact ⟨_, _, e2⟩
    subst e2
    have := eq_run (P := P) (w := w) (neg := neg) (t := t) (x := x) (y := y) (a := .slice none 0 0) (b := .slice (some ad) len rc) rfl (eqGuard_plain (by simp) (by simp)) (by simp) (by simp) (by simp) (by simp) (equal_run (r := false) fun d => by
      simp only [Op.equalIn, Sem.run_bind, und_run he, Result.andThen]; rfl)
    exact ⟨_, this, by cases neg <;> exact .mk_b _⟩
  · have e1 := ha.of_nilf; have e2 := hb.of_nilf; subst e1; subst e2
    obtain ⟨_, _, _, he⟩ := hfit
    simp only [yes, Option.some.injEq, Prod.mk.injEq] at hk; obtain ⟨_, rfl⟩ := hk
    have := eq_run (P := P) (w := w) (neg := neg) (t := t) (x := x) (y := y) (a := .nilFunc) (b := .nilFunc) rfl (eqGuard_plain (by simp) (by simp)) (by simp) (by simp) (by simp) (by simp) (equal_run (r := true) fun d => by
      simp only [Op.equalIn, Sem.run_bind, und_run he, Result.andThen]; rfl)
    exact ⟨_, this, by cases neg <;> exact .mk_b _⟩
  · rename_i f cs
    have e1 := ha.of_nilf; subst e1
    obtain ⟨vs, e2, _⟩ := hb.of_fn; subst e2
    obtain ⟨_, _, _, he⟩ := hfit
    simp only [yes, Option.some.injEq, Prod.mk.injEq] at hk; obtain ⟨_, rfl⟩ := hk
    have := eq_run (P := P) (w := w) (neg := neg) (t := t) (x := x) (y := y) (a := .nilFunc) (b := .func (.func f) #[] vs) rfl (eqGuard_plain (by simp) (by simp)) (by simp) (by simp) (by simp) (by simp) (equal_run (r := false) fun d => by
      simp only [Op.equalIn, Sem.run_bind, und_run he, Result.andThen]; rfl)
    exact ⟨_, this, by cases neg <;> exact .mk_b _⟩
  · rename_i f cs
    have e1 := hb.of_nilf; subst e1
    obtain ⟨vs, e2, _⟩ := ha.of_fn; subst e2
    obtain ⟨_, _, _, he⟩ := hfit
    simp only [yes, Option.some.injEq, Prod.mk.injEq] at hk; obtain ⟨_, rfl⟩ := hk
    have := eq_run (P := P) (w := w) (neg := neg) (t := t) (x := x) (y := y) (a := .func (.func f) #[] vs) (b := .nilFunc) rfl (eqGuard_plain (by simp) (by simp)) (by simp) (by simp) (by simp) (by simp) (equal_run (r := false) fun d => by
      simp only [Op.equalIn, Sem.run_bind, und_run he, Result.andThen]; rfl)
    exact ⟨_, this, by cases neg <;> exact .mk_b _⟩
  · rename_i ks as bs
    obtain ⟨⟨fs, he⟩, hfl, hge⟩ := hfit
    obtain ⟨xs, e1, hx⟩ := ha.of_agg; subst e1
    obtain ⟨ys, e2, hy⟩ := hb.of_agg; subst e2
    cases hq : eqCells ks as bs with
    | none => rw [hq] at hk; cases hk
    | some r =>
      rw [hq] at hk
      simp only [Option.bind_some, yes, Option.some.injEq, Prod.mk.injEq] at hk; obtain ⟨_, rfl⟩ := hk
      have hag : isAggT P t = true := by simp [isAggT, he]
      have hg : (eqGuard (if neg then .neq else .eql) t x y (.agg xs) (.agg ys)).run P w = .ok () w := by
        cases neg <;> simp [eqGuard, hge, Result.andThen]
      exact ⟨_, eq_run rfl hg (by simp) (by simp) (by simp) (by simp) (((eq_flat (w := w) (κ := κ) (h := h) (clk := clk) 8 t ks hfl 10000 (by omega)).1 hag as bs xs ys r hx hy hq)), .mk_b _⟩
  · cases hk
/-- A slice is held against nil. -/
theorem eqn_ok {neg : Bool} {t : TypeId} {e : TypeId} {x y : Operand} {a b : AV} {va vb : Value} (he : P.underlying t = some (.slice e)) (ha : VR w κ h clk a va) (hb : VR w κ h clk b vb) (hx : a.isSl = true) (hy : b.isNils = true) :
    ∃ r : Bool, Gives P (do eqGuard (if neg then .neq else .eql) t x y va vb; binOp (if neg then .neq else .eql) t va vb) w κ h clk (.b r) := by
  have e1 : vb = .slice none 0 0 := by
    cases b <;> simp [AV.isNils] at hy
    exact hb.of_nils
  obtain ⟨ad, len, rc, e2⟩ : ∃ ad len rc, va = .slice ad len rc := by
    cases a <;> simp [AV.isSl] at hx
    · exact ⟨_, _, _, ha.of_nils⟩
    · cases ha with
      | ro _ _ hr => cases hr
      | sl _ _ _ _ _ _ hs _ _ => exact hs
    · have hr := ha.of_dat
      cases hr with
      | dat0 => exact ⟨_, _, _, rfl⟩
      | dat => exact ⟨_, _, _, rfl⟩
  subst e1; subst e2
  have := eq_run (P := P) (w := w) (neg := neg) (t := t) (x := x) (y := y) (a := .slice ad len rc) (b := .slice none 0 0) rfl (eqGuard_plain (by simp) (by simp)) (by simp) (by simp) (by simp) (by simp) (equal_run (r := ad.isNone) fun d => by
    simp only [Op.equalIn, Sem.run_bind, und_run he, Result.andThen]; cases ad <;> rfl)
  exact ⟨_, _, this, .mk_b _⟩
end Go.AM
end
