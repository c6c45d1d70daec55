/- Code. No condition. -/
import Derived.Test.YtpiegccohgdkdaaAmCode2
set_option linter.all false
set_option linter.unusedSimpArgs false
set_option linter.unusedVariables false
set_option linter.deprecated false
namespace Go.AM
variable {P : Program} {I : Ini} {C : Con}

theorem undef_not_b {b : Bool} : Go.undef ≠ .bool b := by intro h; cases h

theorem yielded_ok {ops : Array Oper} {g : Slots} {h : Heap} {clk : Nat} {a : Act} {w : World} {κ : Cfg} {j : Nat} {x : Bool} (hg : ∀ t, VR w κ h clk (g t) (a.tmps.getD t Go.undef)) (hsz : a.tmps.size = I.n)
    (hx : g (((ops[j]?).bind (·.dst)).getD I.n) = .b x) : yielded ops a.tmps j = some x := by
  have h1 := hg (((ops[j]?).bind (·.dst)).getD I.n)
  rw [hx] at h1
  have h2 := h1.of_b
  unfold yielded
  cases hd : (ops[j]?).bind (·.dst) with
  | none =>
    rw [hd] at h2
    simp only [Option.getD_none] at h2
    rw [Array.getD_eq_getD_getElem?, Array.getElem?_eq_none (by omega)] at h2
    exact absurd h2 undef_not_b
  | some d =>
    rw [hd] at h2
    simp only [Option.getD_some] at h2
    simp only [Option.bind_some]
    cases ht : a.tmps[d]? with
    | none =>
      rw [Array.getD_eq_getD_getElem?, ht] at h2
      exact absurd h2 undef_not_b
    | some v =>
      rw [Array.getD_eq_getD_getElem?, ht] at h2
      simp only [Option.getD_some] at h2
      rw [h2]

theorem Rel.slot {g : Slots} {h : Heap} {clk : Nat} {a : Act} {w : World} (R : Rel I g h clk a w) {t : Nat} {x : Bool} (hx : g t = .b x) : Rel I (upd g t (.b x)) h clk a w := by
  obtain ⟨κ, H, E, hg⟩ := R.st
  refine ⟨R.df, R.sz, κ, H, E, fun s => ?_⟩
  unfold upd
  by_cases hs : s = t
  · subst hs; rw [if_pos rfl, ← hx]; exact hg s
  · rw [if_neg hs]; exact hg s

theorem Rel.putU {g : Slots} {h : Heap} {clk : Nat} {a : Act} {w : World} (R : Rel I g h clk a w) (d : Option Nat) : Rel I (updO g d .undef) h clk (a.put d Go.undef) w := by
  obtain ⟨κ, H, E, hg⟩ := R.st
  cases d with
  | none => exact R
  | some t =>
    refine ⟨R.df, by simp [Act.put, R.sz], κ, H, E, fun s => ?_⟩
    simp only [updO, upd]
    by_cases hs : s = t
    · rw [if_pos hs]; exact .undef _
    · rw [if_neg hs]
      have := hg s
      rw [Array.getD_eq_getD_getElem?] at this ⊢
      simp only [Act.put]
      rw [Array.getElem?_setIfInBounds_ne (by omega)]
      exact this

theorem kops_ok (hC : ConOk P C) {ops : Array Oper} {Q : Post} {QQ : Exit → Act → World → Prop} (hK : Lands C I Q (QQ .normal)) :
    ∀ (l : List Oper) {g : Slots} {h : Heap} {clk : Nat} {a : Act} {w : World}, Rel I g h clk a w → kops C (l.map (cop P I.n ops)) Q g h clk → wpList P ops QQ l a w
  | [], g, h, clk, a, w, R, hk => hK _ _ _ _ _ hk R
  | o :: r, g, h, clk, a, w, R, hk => by
    have ih : ∀ {g : Slots} {h : Heap} {clk : Nat} {a : Act} {w : World}, Rel I g h clk a w → kops C (r.map (cop P I.n ops)) Q g h clk → wpList P ops QQ r a w := fun R hk => kops_ok hC hK r R hk
    have done : ∀ {g h clk a w}, Rel I g h clk a w → kop C (cop P I.n ops o).d (cop P I.n ops o).o (kops C (r.map (cop P I.n ops)) Q) g h clk → o.wp P a w (wpList P ops QQ r) QQ := by
      intro g h clk a w R hk
      by_cases hd : o.dst.all (· < I.n) = true
      · have e1 : (cop P I.n ops o).o = co P o.op := by simp only [cop]; rw [if_pos hd]
        rw [e1] at hk
        exact kop_ok hC R hd hk (fun g h clk a w hq R => ih R hq)
      · have e1 : (cop P I.n ops o).o = .bad := by simp only [cop]; rw [if_neg hd]
        rw [e1] at hk
        obtain ⟨p, v, h1, _⟩ := hk
        cases h1
    unfold wpList
    rw [List.map_cons] at hk
    unfold kops at hk
    cases hgd : o.guard with
    | none =>
      have hw : Region.wanted o (yielded ops a.tmps) = true := by unfold Region.wanted; rw [hgd]
      rw [if_pos hw]
      have e1 : (cop P I.n ops o).g = none := by simp [cop, hgd]
      rw [e1] at hk
      exact .inl (done R hk)
    | some jw =>
      obtain ⟨j, wt⟩ := jw
      have e1 : (cop P I.n ops o).g = some (((ops[j]?).bind (·.dst)).getD I.n, wt) := by simp [cop, hgd]
      rw [e1] at hk
      obtain ⟨x, hx, h1, h2⟩ := hk
      obtain ⟨κ, H, E, hg⟩ := R.st
      have hy := yielded_ok hg R.sz hx
      have hw : Region.wanted o (yielded ops a.tmps) = (x == wt) := by
        unfold Region.wanted; rw [hgd]; simp only [hy]; cases x <;> cases wt <;> rfl
      rw [hw]
      by_cases hxw : x = wt
      · subst hxw
        simp only [beq_self_eq_true, if_true]
        exact .inl (done (R.slot hx) (h1 rfl))
      · have hxn : x = !wt := by cases x <;> cases wt <;> simp_all
        have : (x == wt) = false := by simpa using hxw
        rw [this]
        simp only [Bool.false_eq_true, if_false]
        have R2 := R.slot hx
        rw [hxn] at R2
        exact ih (R2.putU o.dst) (h2 hxn)

/-- The exits' sides. -/
def Meets (C : Con) (I : Ini) (Q : Ex → Post) (QQ : Exit → Act → World → Prop) : Prop :=
  Lands C I (Q .normal) (QQ .normal) ∧ (∀ id, Lands C I (Q (.exit id)) (QQ (.exit id))) ∧ Lands C I (Q .ret) (QQ .ret)

theorem Lands.nop (K : Act → World → Prop) : Lands C I (fun _ _ _ => False) K := fun _ _ _ _ _ hf _ => hf.elim
end Go.AM
