/- Operations that touch nothing: the model's run gives the abstract value. No condition. -/
import Derived.Test.YtpiegccohgdkdaaAmRel
import Derived.Laws.Cells
import Derived.Laws.Sem
import Derived.ChangeKeysEq
import Derived.Laws.Entries
import Derived.Lib.Strings
set_option linter.all false
set_option linter.unusedSimpArgs false
set_option linter.unusedVariables false
set_option linter.deprecated false
namespace Go.AM
variable {w : World} {κ : Cfg} {h : Heap} {clk : Nat}

theorem VR.undef (v : Value) : VR w κ h clk .undef v := .ro _ _ (.undef v)
theorem VR.of_b {b : Bool} {v : Value} (hv : VR w κ h clk (.b b) v) : v = .bool b := by cases hv with | ro _ _ hr => cases hr; rfl
theorem VR.of_i {k : IntKind} {n : Int} {v : Value} (hv : VR w κ h clk (.i k n) v) : v = .int k n := by cases hv with | ro _ _ hr => cases hr; rfl
theorem VR.of_s {l : List UInt8} {v : Value} (hv : VR w κ h clk (.s l) v) : v = .string ⟨l.toArray⟩ := by cases hv with | ro _ _ hr => cases hr; rfl
theorem VR.of_nilp {v : Value} (hv : VR w κ h clk .nilp v) : v = .pointer none := by cases hv with | ro _ _ hr => cases hr; rfl
theorem VR.of_nils {v : Value} (hv : VR w κ h clk .nils v) : v = .slice none 0 0 := by cases hv with | ro _ _ hr => cases hr; rfl
theorem VR.of_nilf {v : Value} (hv : VR w κ h clk .nilf v) : v = .nilFunc := by cases hv with | ro _ _ hr => cases hr; rfl
theorem VR.mk_b (b : Bool) : VR w κ h clk (.b b) (.bool b) := .ro _ _ (.b b)
theorem VR.mk_i (k : IntKind) (n : Int) : VR w κ h clk (.i k n) (.int k n) := .ro _ _ (.i k n)
theorem VR.mk_s (l : List UInt8) : VR w κ h clk (.s l) (.string ⟨l.toArray⟩) := .ro _ _ (.s l)
theorem VR.of_dat {es : List (List AV)} {v : Value} (hv : VR w κ h clk (.dat es) v) : Ro w (κ.X h w) (.dat es) v := by cases hv with | ro _ _ hr => exact hr

theorem cval1 (v : Value) : VR w κ h clk (match v with | .bool b => .b b | .int k n => .i k n | .string s => .s s.data.toList | .pointer none => .nilp | .slice none 0 0 => .nils | .nilFunc => .nilf | _ => AV.undef) v := by
  split
  · exact .ro _ _ (.b _)
  · exact .ro _ _ (.i _ _)
  · rename_i s
    have : VR w κ h clk (.s s.data.toList) (.string ⟨s.data.toList.toArray⟩) := .mk_s _
    simpa using this
  · exact .ro _ _ .nilp
  · exact .ro _ _ .nils
  · exact .ro _ _ .nilf
  · exact .undef _
theorem cval_ok (v : Value) : VR w κ h clk (cval v) v := by
  unfold cval
  split
  · exact .ro _ _ (.b _)
  · exact .ro _ _ (.i _ _)
  · rename_i s
    have : VR w κ h clk (.s s.data.toList) (.string ⟨s.data.toList.toArray⟩) := .mk_s _
    simpa using this
  · exact .ro _ _ .nilp
  · exact .ro _ _ .nils
  · exact .ro _ _ .nilf
  · rename_i cs
    refine .agg _ _ (by simp) fun j x hx => ?_
    simp only [List.getElem?_map, Option.map_eq_some_iff] at hx
    obtain ⟨v, hv, rfl⟩ := hx
    have : cs.getD j Go.undef = v := by
      have : cs[j]? = some v := by simpa using hv
      simp [Array.getD_eq_getD_getElem?, this]
    rw [this]
    exact cval1 v
  · exact .undef _

theorem ev_ok {g : Slots} {a : Act} (hg : ∀ t, VR w κ h clk (g t) (a.tmps.getD t Go.undef)) (x : Operand) : VR w κ h clk (ev g (cv x)) (a.eval x) := by
  cases x with
  | tmp t => exact hg t
  | const v => exact cval_ok v
  | global _ => exact .undef _
  | func f => exact .fn f [] #[] rfl (by simp)

/-- What an operation without an effect owes. -/
def Gives (P : Program) (s : Sem Value) (w : World) (κ : Cfg) (h : Heap) (clk : Nat) (x : AV) : Prop := ∃ v, s.run P w = .ok v w ∧ VR w κ h clk x v

theorem Gives.of {P : Program} {s : Sem Value} {x : AV} {v : Value} (hs : s.run P w = .ok v w) (hv : VR w κ h clk x v) : Gives P s w κ h clk x := ⟨v, hs, hv⟩

variable {P : Program}
/-! ### Numbers, texts, truths -/
theorem int_ok {op : BinOp} {k : IntKind} {x y : Int} {p : Prop} {v : AV} (hk : binI op k x y = some (p, v)) (hp : p) :
    Gives P (match op with
    | .add | .sub | .mul => Op.intArith op k x y
    | .quo | .rem => Op.intDiv op k x y
    | .and | .or | .xor | .andNot => Op.intBits op k x y
    | _ => Op.intCmp op x y) w κ h clk v := by
  cases op <;> simp only [binI, yes, Option.some.injEq, Prod.mk.injEq, reduceCtorEq] at hk <;> obtain ⟨rfl, rfl⟩ := hk <;>
    first
    | exact ⟨_, rfl, .mk_i _ _⟩
    | exact ⟨_, rfl, .mk_b _⟩
    | exact ⟨_, by simp [Op.intDiv, hp], .mk_i _ _⟩

theorem str_ok {op : BinOp} {x y : List UInt8} {p : Prop} {v : AV} (hk : binS op x y = some (p, v)) (hp : p) : Gives P (Op.stringOp op ⟨x.toArray⟩ ⟨y.toArray⟩) w κ h clk v := by
  have tl : ∀ l : List UInt8, (⟨l.toArray⟩ : ByteArray).toList = l := fun l => by rw [Lib.toList_data]
  have sz : ∀ l : List UInt8, (⟨l.toArray⟩ : ByteArray).size = l.length := fun l => by simp [ByteArray.size]
  have ap : (⟨x.toArray⟩ : ByteArray) ++ ⟨y.toArray⟩ = ⟨(x ++ y).toArray⟩ := by
    apply ByteArray.ext; simp
  cases op <;> simp only [binS, yes, Option.some.injEq, Prod.mk.injEq, reduceCtorEq] at hk <;> obtain ⟨rfl, rfl⟩ := hk
  · refine ⟨_, ?_, .mk_s _⟩
    have : ¬ ((((x.length + y.length : Nat) : Int)) > IntKind.i64.max) := by
      simp [IntKind.max, IntKind.signed, IntKind.bits] <;> omega
    simp only [Op.stringOp, sz, this, if_false, ap]; rfl
  all_goals exact ⟨_, by simp only [Op.stringOp, tl]; rfl, .mk_b _⟩

theorem eqGuard_plain {op : BinOp} {t : TypeId} {x y : Operand} {a b : Value} (ha : ∀ c, a ≠ .agg c) (hn : a ≠ .nilIface) : (eqGuard op t x y a b).run P w = .ok () w := by
  cases op <;> first | rfl | (cases a <;> first | exact absurd rfl hn | exact absurd rfl (ha _) | rfl)

theorem shl_ok {op : BinOp} {k k' : IntKind} {x y : Int} {v : AV} (h0 : 0 ≤ y)
    (hv : (op = .shl ∧ v = .i k (k.wrap (x * 2 ^ (min y.toNat k.bits)))) ∨ (op = .shr ∧ v = .i k (x.fdiv (2 ^ (min y.toNat k.bits))))) : Gives P (Op.shift op k x k' y) w κ h clk v := by
  have hn : ¬ y < 0 := by omega
  rcases hv with ⟨rfl, rfl⟩ | ⟨rfl, rfl⟩ <;> exact ⟨_, by simp only [Op.shift, hn, if_false]; rfl, .mk_i _ _⟩

theorem bin_ok {op : BinOp} {t : TypeId} {x y : Operand} {ty : TypeId} {a b : AV} {va vb : Value} {p : Prop} {v : AV} (ha : VR w κ h clk a va) (hb : VR w κ h clk b vb)
    (hk : binF op a b = some (p, v)) (hp : p) : Gives P (do eqGuard op t x y va vb; binOp op ty va vb) w κ h clk v := by
  unfold binF at hk
  split at hk
  · rename_i k m k' n
    have e1 := ha.of_i; have e2 := hb.of_i; subst e1; subst e2
    have hg := eqGuard_plain (P := P) (w := w) (op := op) (t := t) (x := x) (y := y) (a := .int k m) (b := .int k' n) (by simp) (by simp)
    suffices hs : Gives P (binOp op ty (.int k m) (.int k' n)) w κ h clk v by
      obtain ⟨u, h1, h2⟩ := hs
      exact ⟨u, by simp only [Sem.run_bind, hg, Result.andThen, h1], h2⟩
    split at hk
    · simp only [Option.some.injEq, Prod.mk.injEq] at hk; obtain ⟨rfl, rfl⟩ := hk
      exact shl_ok (k' := k') hp (.inl ⟨rfl, rfl⟩)
    · simp only [Option.some.injEq, Prod.mk.injEq] at hk; obtain ⟨rfl, rfl⟩ := hk
      exact shl_ok (k' := k') hp (.inr ⟨rfl, rfl⟩)
    · rename_i h1 h2
      split at hk
      · rename_i hkk
        subst hkk
        have := int_ok (P := P) (w := w) (κ := κ) (h := h) (clk := clk) hk hp
        cases op <;> first | exact absurd rfl h1 | exact absurd rfl h2 | (simp only [binOp, ne_eq, not_true_eq_false, if_false]; exact this)
      · cases hk
  · rename_i l m
    have e1 := ha.of_s; have e2 := hb.of_s; subst e1; subst e2
    have hg := eqGuard_plain (P := P) (w := w) (op := op) (t := t) (x := x) (y := y) (a := .string ⟨l.toArray⟩) (b := .string ⟨m.toArray⟩) (by simp) (by simp)
    obtain ⟨u, h1, h2⟩ := str_ok (P := P) (w := w) (κ := κ) (h := h) (clk := clk) hk hp
    refine ⟨u, ?_, h2⟩
    simp only [Sem.run_bind, hg, Result.andThen]
    cases op <;> first | exact h1 | cases hk
  · cases hk

theorem un_ok {op : UnOp} {a : AV} {va : Value} {p : Prop} {v : AV} (ha : VR w κ h clk a va) (hk : unF op a = some (p, v)) : Gives P (Op.unary op va) w κ h clk v := by
  unfold unF at hk
  split at hk
  · rename_i t
    have e1 := ha.of_b; subst e1
    simp only [yes, Option.some.injEq, Prod.mk.injEq] at hk; obtain ⟨_, rfl⟩ := hk
    exact ⟨_, rfl, .mk_b _⟩
  · rename_i k n
    have e1 := ha.of_i; subst e1
    simp only [yes, Option.some.injEq, Prod.mk.injEq] at hk; obtain ⟨_, rfl⟩ := hk
    exact ⟨_, rfl, .mk_i _ _⟩
  · rename_i k n
    have e1 := ha.of_i; subst e1
    simp only [yes, Option.some.injEq, Prod.mk.injEq] at hk; obtain ⟨_, rfl⟩ := hk
    exact ⟨_, rfl, .mk_i _ _⟩
  · cases hk

theorem isIntT_eq {t : TypeId} {k : IntKind} (hk : isIntT P t = some k) : P.underlying t = some (.int k) := by
  unfold isIntT at hk; split at hk
  · cases hk; assumption
  · cases hk
theorem isStrT_eq {t : TypeId} (hk : isStrT P t = true) : P.underlying t = some .string := by
  unfold isStrT at hk; split at hk
  · assumption
  · cases hk
theorem und_run {t : TypeId} {d : TypeDesc} (hd : P.underlying t = some d) : (underlying t).run P w = .ok d w := run_underlying hd w

theorem conv_int_ok {s d : TypeId} {k : IntKind} {ds : TypeDesc} {k0 : IntKind} {n : Int} (hs : P.underlying s = some ds) (hd : P.underlying d = some (.int k)) :
    Gives P (Go.convert s d (.int k0 n)) w κ h clk (.i k (k.wrap n)) := by
  refine ⟨_, ?_, .mk_i _ _⟩
  unfold Go.convert
  simp only [Sem.run_bind, und_run hs, und_run hd, Result.andThen]
  rfl
theorem conv_str_ok {s d : TypeId} {l : List UInt8} (hs : P.underlying s = some .string) (hd : P.underlying d = some .string) :
    Gives P (Go.convert s d (.string ⟨l.toArray⟩)) w κ h clk (.s l) := by
  refine ⟨_, ?_, .mk_s _⟩
  unfold Go.convert
  simp only [Sem.run_bind, und_run hs, und_run hd, Result.andThen]
  rfl
end Go.AM
