/- Every operation without an effect: joined. No condition. -/
import Derived.Test.YtpiegccohgdkdaaAmOp8
set_option linter.all false
set_option linter.unusedSimpArgs false
set_option linter.unusedVariables false
set_option linter.deprecated false
namespace Go.AM
variable {w : World} {κ : Cfg} {h : Heap} {clk : Nat} {P : Program}

theorem equal_run {t : TypeId} {x y : Value} {r : Bool} (hr : ∀ d, (Op.equalIn (d + 1) t x y).run P w = .ok r w) : (Op.equal t x y).run P w = .ok r w := hr 9999

/-- What '==' and '!=' come to where the operands are no numbers and no texts. -/
theorem eq_run {op : BinOp} {neg : Bool} {t : TypeId} {x y : Operand} {a b : Value} {r : Bool} (hop : op = if neg then .neq else .eql) (hg : (eqGuard op t x y a b).run P w = .ok () w) (hi : ∀ k n, a ≠ .int k n) (hs : ∀ s, a ≠ .string s)
    (hf : ∀ k n, a ≠ .float k n) (hc : ∀ k n m, a ≠ .complex k n m) (he : (Op.equal t a b).run P w = .ok r w) : (do eqGuard op t x y a b; binOp op t a b : Sem Value).run P w = .ok (.bool (r != neg)) w := by
  simp only [Sem.run_bind, hg, Result.andThen]
  subst hop
  cases neg with
  | false =>
    have : binOp .eql t a b = (do pure (.bool (← Op.equal t a b)) : Sem Value) := by
      cases a <;> first | exact absurd rfl (hi _ _) | exact absurd rfl (hs _) | exact absurd rfl (hf _ _) | exact absurd rfl (hc _ _ _) | rfl
    simp only [Bool.false_eq_true, if_false, this, Sem.run_bind, he, Result.andThen, Sem.run_pure]
    cases r <;> rfl
  | true =>
    have : binOp .neq t a b = (do pure (.bool (!(← Op.equal t a b))) : Sem Value) := by
      cases a <;> first | exact absurd rfl (hi _ _) | exact absurd rfl (hs _) | exact absurd rfl (hf _ _) | exact absurd rfl (hc _ _ _) | rfl
    simp only [if_true, this, Sem.run_bind, he, Result.andThen, Sem.run_pure]
    cases r <;> rfl

/-- Does a type fit what is held against each other? -/
def EqFit (P : Program) (t : TypeId) : EqT → Prop
  | .bool => P.underlying t = some .bool
  | .ptr => ∃ e, P.underlying t = some (.pointer e)
  | .slice => ∃ e, P.underlying t = some (.slice e)
  | .func => ∃ a b c, P.underlying t = some (.func a b c)
  | .struct ks => (∃ fs, P.underlying t = some (.struct fs)) ∧ flatT P 8 t = some ks ∧ P.eqGuardType P.depth t = false

theorem eqt_ok {et : EqT} {neg : Bool} {t : TypeId} {x y : Operand} {a b : AV} {va vb : Value} {p : Prop} {v : AV} (hfit : EqFit P t et) (ha : VR w κ h clk a va) (hb : VR w κ h clk b vb) (hk : eqtF h et neg a b = some (p, v)) (hp : p) :
    Gives P (do eqGuard (if neg then .neq else .eql) t x y va vb; binOp (if neg then .neq else .eql) t va vb) w κ h clk v := by
  unfold eqtF at hk
  split at hk
  · -- truths
    have e1 := ha.of_b; have e2 := hb.of_b; subst e1; subst e2
    simp only [yes, Option.some.injEq, Prod.mk.injEq] at hk; obtain ⟨_, rfl⟩ := hk
    exact ⟨_, eq_run rfl (eqGuard_plain (by simp) (by simp)) (by simp) (by simp) (by simp) (by simp) (equal_run fun d => by
      simp only [Op.equalIn, Sem.run_bind, und_run hfit, Result.andThen]; rfl), .mk_b _⟩
  · have e1 := ha.of_nilp; have e2 := hb.of_nilp; subst e1; subst e2
    obtain ⟨e, he⟩ := hfit
    simp only [yes, Option.some.injEq, Prod.mk.injEq] at hk; obtain ⟨_, rfl⟩ := hk
    have := eq_run (P := P) (w := w) (neg := neg) (t := t) (x := x) (y := y) (a := .pointer none) (b := .pointer none) rfl (eqGuard_plain (by simp) (by simp)) (by simp) (by simp) (by simp) (by simp) (equal_run (r := true) fun d => by
      simp only [Op.equalIn, Sem.run_bind, und_run he, Result.andThen]; rfl)
    exact ⟨_, this, by cases neg <;> exact .mk_b _⟩
  · rename_i o ver e' c'
    have e1 := ha.of_nilp; subst e1
    obtain ⟨e, he⟩ := hfit
    cases hc : cur h o ver with
    | none => rw [hc] at hk; cases hk
    | some ob =>
      rw [hc] at hk
      simp only [Option.bind_some, yes, Option.some.injEq, Prod.mk.injEq] at hk; obtain ⟨_, rfl⟩ := hk
      have e2 := hb.of_ptr hc; subst e2
      have := eq_run (P := P) (w := w) (neg := neg) (t := t) (x := x) (y := y) (a := .pointer none) (b := .pointer (some (κ.addr o ob.esz e' c'))) rfl (eqGuard_plain (by simp) (by simp)) (by simp) (by simp) (by simp) (by simp) (equal_run (r := false) fun d => by
        simp only [Op.equalIn, Sem.run_bind, und_run he, Result.andThen]; rfl)
      exact ⟨_, this, by cases neg <;> exact .mk_b _⟩
  · rename_i o ver e' c'
    have e1 := hb.of_nilp; subst e1
    obtain ⟨e, he⟩ := hfit
    cases hc : cur h o ver with
    | none => rw [hc] at hk; cases hk
    | some ob =>
      rw [hc] at hk
      simp only [Option.bind_some, yes, Option.some.injEq, Prod.mk.injEq] at hk; obtain ⟨_, rfl⟩ := hk
      have e2 := ha.of_ptr hc; subst e2
      have := eq_run (P := P) (w := w) (neg := neg) (t := t) (x := x) (y := y) (a := .pointer (some (κ.addr o ob.esz e' c'))) (b := .pointer none) rfl (eqGuard_plain (by simp) (by simp)) (by simp) (by simp) (by simp) (by simp) (equal_run (r := false) fun d => by
        simp only [Op.equalIn, Sem.run_bind, und_run he, Result.andThen]; rfl)
      exact ⟨_, this, by cases neg <;> exact .mk_b _⟩
  · rename_i cells c'
    have e1 := ha.of_nilp; subst e1
    obtain ⟨blk, off, val, e2, _⟩ := hb.of_eptr; subst e2
    obtain ⟨e, he⟩ := hfit
    simp only [yes, Option.some.injEq, Prod.mk.injEq] at hk; obtain ⟨_, rfl⟩ := hk
    have := eq_run (P := P) (w := w) (neg := neg) (t := t) (x := x) (y := y) (a := .pointer none) (b := .pointer (some (at_ blk (off + c')))) rfl (eqGuard_plain (by simp) (by simp)) (by simp) (by simp) (by simp) (by simp) (equal_run (r := false) fun d => by
      simp only [Op.equalIn, Sem.run_bind, und_run he, Result.andThen]; rfl)
    exact ⟨_, this, by cases neg <;> exact .mk_b _⟩
  · rename_i cells c'
    have e1 := hb.of_nilp; subst e1
    obtain ⟨blk, off, val, e2, _⟩ := ha.of_eptr; subst e2
    obtain ⟨e, he⟩ := hfit
    simp only [yes, Option.some.injEq, Prod.mk.injEq] at hk; obtain ⟨_, rfl⟩ := hk
    have := eq_run (P := P) (w := w) (neg := neg) (t := t) (x := x) (y := y) (a := .pointer (some (at_ blk (off + c')))) (b := .pointer none) rfl (eqGuard_plain (by simp) (by simp)) (by simp) (by simp) (by simp) (by simp) (equal_run (r := false) fun d => by
      simp only [Op.equalIn, Sem.run_bind, und_run he, Result.andThen]; rfl)
    exact ⟨_, this, by cases neg <;> exact .mk_b _⟩
  · have e1 := ha.of_nils; have e2 := hb.of_nils; subst e1; subst e2
    obtain ⟨e, he⟩ := hfit
    simp only [yes, Option.some.injEq, Prod.mk.injEq] at hk; obtain ⟨_, rfl⟩ := hk
    have := eq_run (P := P) (w := w) (neg := neg) (t := t) (x := x) (y := y) (a := .slice none 0 0) (b := .slice none 0 0) rfl (eqGuard_plain (by simp) (by simp)) (by simp) (by simp) (by simp) (by simp) (equal_run (r := true) fun d => by
      simp only [Op.equalIn, Sem.run_bind, und_run he, Result.andThen]; rfl)
    exact ⟨_, this, by cases neg <;> exact .mk_b _⟩
  · rename_i es
    have e1 := hb.of_nils; subst e1
    obtain ⟨e, he⟩ := hfit
    simp only [Option.some.injEq, Prod.mk.injEq] at hk; obtain ⟨rfl, rfl⟩ := hk
    obtain ⟨ad, len, rc, e2⟩ : ∃ ad len rc, va = .slice (some ad) len rc := by
      have hr := ha.of_dat
      cases hr with
      | dat0 => exact absurd rfl hp
      | dat => exact ⟨_, _, _, rfl⟩
    subst e2
    have := eq_run (P := P) (w := w) (neg := neg) (t := t) (x := x) (y := y) (a := .slice (some ad) len rc) (b := .slice none 0 0) rfl (eqGuard_plain (by simp) (by simp)) (by simp) (by simp) (by simp) (by simp) (equal_run (r := false) fun d => by
      simp only [Op.equalIn, Sem.run_bind, und_run he, Result.andThen]; rfl)
    exact ⟨_, this, by cases neg <;> exact .mk_b _⟩
  · rename_i es
    have e1 := ha.of_nils; subst e1
    obtain ⟨e, he⟩ := hfit
    simp only [Option.some.injEq, Prod.mk.injEq] at hk; obtain ⟨rfl, rfl⟩ := hk
    obtain ⟨ad, len, rc, e2⟩ : ∃ ad len rc, vb = .slice (some ad) len rc := by
      have hr := hb.of_dat
      cases hr with
      | dat0 => exact absurd rfl hp
      | dat => exact ⟨_, _, _, rfl⟩
    subst e2
    have := eq_run (P := P) (w := w) (neg := neg) (t := t) (x := x) (y := y) (a := .slice none 0 0) (b := .slice (some ad) len rc) rfl (eqGuard_plain (by simp) (by simp)) (by simp) (by simp) (by simp) (by simp) (equal_run (r := false) fun d => by
      simp only [Op.equalIn, Sem.run_bind, und_run he, Result.andThen]; rfl)
    exact ⟨_, this, by cases neg <;> exact .mk_b _⟩
  · rename_i o ver off len cap
    have e1 := hb.of_nils; subst e1
    obtain ⟨e, he⟩ := hfit
    cases hc : cur h o ver with
    | none => rw [hc] at hk; cases hk
    | some ob =>
    rw [hc] at hk
    simp only [Option.bind_some, Option.some.injEq, Prod.mk.injEq] at hk; obtain ⟨rfl, rfl⟩ := hk
    obtain ⟨ad, rc, e2⟩ : ∃ ad rc, va = .slice (some ad) len rc := by
      rcases ha.of_sl hc with ⟨h0, _⟩ | ⟨rc, _, e2, _⟩
      · exact absurd h0 hp
      · exact ⟨_, _, e2⟩
    subst e2
    have := eq_run (P := P) (w := w) (neg := neg) (t := t) (x := x) (y := y) (a := .slice (some ad) len rc) (b := .slice none 0 0) rfl (eqGuard_plain (by simp) (by simp)) (by simp) (by simp) (by simp) (by simp) (equal_run (r := false) fun d => by
      simp only [Op.equalIn, Sem.run_bind, und_run he, Result.andThen]; rfl)
    exact ⟨_, this, by cases neg <;> exact .mk_b _⟩
  · rename_i o ver off len cap
    have e1 := ha.of_nils; subst e1
    obtain ⟨e, he⟩ := hfit
    cases hc : cur h o ver with
    | none => rw [hc] at hk; cases hk
    | some ob =>
    rw [hc] at hk
    simp only [Option.bind_some, Option.some.injEq, Prod.mk.injEq] at hk; obtain ⟨rfl, rfl⟩ := hk
    obtain ⟨ad, rc, e2⟩ : ∃ ad rc, vb = .slice (some ad) len rc := by
      rcases hb.of_sl hc with ⟨h0, _⟩ | ⟨rc, _, e2, _⟩
      · exact absurd h0 hp
      · exact ⟨_, _, e2⟩
    subst e2
    have := eq_run (P := P) (w := w) (neg := neg) (t := t) (x := x) (y := y) (a := .slice none 0 0) (b := .slice (some ad) len rc) rfl (eqGuard_plain (by simp) (by simp)) (by simp) (by simp) (by simp) (by simp) (equal_run (r := false) fun d => by
      simp only [Op.equalIn, Sem.run_bind, und_run he, Result.andThen]; rfl)
    exact ⟨_, this, by cases neg <;> exact .mk_b _⟩
  · have e1 := ha.of_nilf; have e2 := hb.of_nilf; subst e1; subst e2
    obtain ⟨_, _, _, he⟩ := hfit
    simp only [yes, Option.some.injEq, Prod.mk.injEq] at hk; obtain ⟨_, rfl⟩ := hk
    have := eq_run (P := P) (w := w) (neg := neg) (t := t) (x := x) (y := y) (a := .nilFunc) (b := .nilFunc) rfl (eqGuard_plain (by simp) (by simp)) (by simp) (by simp) (by simp) (by simp) (equal_run (r := true) fun d => by
      simp only [Op.equalIn, Sem.run_bind, und_run he, Result.andThen]; rfl)
    exact ⟨_, this, by cases neg <;> exact .mk_b _⟩
  · rename_i f cs
    have e1 := ha.of_nilf; subst e1
    obtain ⟨vs, e2, _⟩ := hb.of_fn; subst e2
    obtain ⟨_, _, _, he⟩ := hfit
    simp only [yes, Option.some.injEq, Prod.mk.injEq] at hk; obtain ⟨_, rfl⟩ := hk
    have := eq_run (P := P) (w := w) (neg := neg) (t := t) (x := x) (y := y) (a := .nilFunc) (b := .func (.func f) #[] vs) rfl (eqGuard_plain (by simp) (by simp)) (by simp) (by simp) (by simp) (by simp) (equal_run (r := false) fun d => by
      simp only [Op.equalIn, Sem.run_bind, und_run he, Result.andThen]; rfl)
    exact ⟨_, this, by cases neg <;> exact .mk_b _⟩
  · rename_i f cs
    have e1 := hb.of_nilf; subst e1
    obtain ⟨vs, e2, _⟩ := ha.of_fn; subst e2
    obtain ⟨_, _, _, he⟩ := hfit
    simp only [yes, Option.some.injEq, Prod.mk.injEq] at hk; obtain ⟨_, rfl⟩ := hk
    have := eq_run (P := P) (w := w) (neg := neg) (t := t) (x := x) (y := y) (a := .func (.func f) #[] vs) (b := .nilFunc) rfl (eqGuard_plain (by simp) (by simp)) (by simp) (by simp) (by simp) (by simp) (equal_run (r := false) fun d => by
      simp only [Op.equalIn, Sem.run_bind, und_run he, Result.andThen]; rfl)
    exact ⟨_, this, by cases neg <;> exact .mk_b _⟩
  · rename_i ks as bs
    obtain ⟨⟨fs, he⟩, hfl, hge⟩ := hfit
    obtain ⟨xs, e1, hx⟩ := ha.of_agg; subst e1
    obtain ⟨ys, e2, hy⟩ := hb.of_agg; subst e2
    cases hq : eqCells ks as bs with
    | none => rw [hq] at hk; cases hk
    | some r =>
      rw [hq] at hk
      simp only [Option.bind_some, yes, Option.some.injEq, Prod.mk.injEq] at hk; obtain ⟨_, rfl⟩ := hk
      have hag : isAggT P t = true := by simp [isAggT, he]
      have hg : (eqGuard (if neg then .neq else .eql) t x y (.agg xs) (.agg ys)).run P w = .ok () w := by
        cases neg <;> simp [eqGuard, hge, Result.andThen]
      exact ⟨_, eq_run rfl hg (by simp) (by simp) (by simp) (by simp) (((eq_flat (w := w) (κ := κ) (h := h) (clk := clk) 8 t ks hfl 10000 (by omega)).1 hag as bs xs ys r hx hy hq)), .mk_b _⟩
  · cases hk
end Go.AM
