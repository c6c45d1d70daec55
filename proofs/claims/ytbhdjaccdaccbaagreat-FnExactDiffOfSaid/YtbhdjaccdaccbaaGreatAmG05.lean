/- Operations that touch nothing: the model's run gives the abstract value. No condition. -/
import Derived.Test.YtbhdjaccdaccbaaGreatAmG01
import Derived.Laws.Cells
import Derived.Laws.Sem
import Derived.ChangeKeysEq
import Derived.Laws.Entries
import Derived.Lib.Strings
set_option linter.all false
set_option linter.unusedSimpArgs false
set_option linter.unusedVariables false
set_option linter.deprecated false
/-! Op1 -/
section
namespace Go.AM
variable {w : World} {κ : Cfg} {h : Heap} {clk : Nat}

theorem VR.undef (v : Value) : VR w κ h clk .undef v := .ro _ _ (.undef v)
theorem VR.of_b {b : Bool} {v : Value} (hv : VR w κ h clk (.b b) v) : v = .bool b := by cases hv with | ro _ _ hr => cases hr; rfl
theorem VR.of_i {k : IntKind} {n : Int} {v : Value} (hv : VR w κ h clk (.i k n) v) : v = .int k n := by cases hv with | ro _ _ hr => cases hr; rfl
theorem VR.of_s {l : List UInt8} {v : Value} (hv : VR w κ h clk (.s l) v) : v = .string ⟨l.toArray⟩ := by cases hv with | ro _ _ hr => cases hr; rfl
theorem VR.of_nilp {v : Value} (hv : VR w κ h clk .nilp v) : v = .pointer none := by cases hv with | ro _ _ hr => cases hr; rfl
theorem VR.of_nils {v : Value} (hv : VR w κ h clk .nils v) : v = .slice none 0 0 := by cases hv with | ro _ _ hr => cases hr; rfl
theorem VR.of_nilf {v : Value} (hv : VR w κ h clk .nilf v) : v = .nilFunc := by cases hv with | ro _ _ hr => cases hr; rfl
theorem VR.mk_b (b : Bool) : VR w κ h clk (.b b) (.bool b) := .ro _ _ (.b b)
theorem VR.mk_i (k : IntKind) (n : Int) : VR w κ h clk (.i k n) (.int k n) := .ro _ _ (.i k n)
theorem VR.mk_s (l : List UInt8) : VR w κ h clk (.s l) (.string ⟨l.toArray⟩) := .ro _ _ (.s l)
theorem VR.of_dat {z : Nat} {es : List (List AV)} {v : Value} (hv : VR w κ h clk (.dat z es) v) : Ro w (κ.X h w) (.dat z es) v := by cases hv with | ro _ _ hr => exact hr

theorem cval1 (v : Value) : VR w κ h clk (match v with | .bool b => .b b | .int k n => .i k n | .string s => .s s.data.toList | .pointer none => .nilp | .slice none 0 0 => .nils | .nilFunc => .nilf | _ => AV.undef) v := by
  split
  · exact .ro _ _ (.b _)
  · exact .ro _ _ (.i _ _)
  · rename_i s
    have : VR w κ h clk (.s s.data.toList) (.string ⟨s.data.toList.toArray⟩) := .mk_s _
    simpa using this
  · exact .ro _ _ .nilp
  · exact .ro _ _ .nils
  · exact .ro _ _ .nilf
  · exact .undef _
theorem cval_ok (v : Value) : VR w κ h clk (cval v) v := by
  unfold cval
  split
  · exact .ro _ _ (.b _)
  · exact .ro _ _ (.i _ _)
  · rename_i s
    have : VR w κ h clk (.s s.data.toList) (.string ⟨s.data.toList.toArray⟩) := .mk_s _
    simpa using this
  · exact .ro _ _ .nilp
  · exact .ro _ _ .nils
  · exact .ro _ _ .nilf
  · rename_i cs
    refine .agg _ _ (by simp) fun j x hx => ?_
    simp only [List.getElem?_map, Option.map_eq_some_iff] at hx
    obtain ⟨v, hv, rfl⟩ := hx
    have : cs.getD j Go.undef = v := by
      have : cs[j]? = some v := by simpa using hv
      simp [Array.getD_eq_getD_getElem?, this]
    rw [this]
    exact cval1 v
  · exact .undef _

def GlobHere (w : World) (κ : Cfg) (h : Heap) (clk : Nat) : Prop := ∀ n, globs n ≠ [] → VR w κ h clk (.eptr (globs n) 0) (.pointer (some (at_ n 0)))
theorem HR.here {w0 : World} {P0 : Bs} (H : HR w0 P0 w κ h clk) : GlobHere w κ h clk := by
  intro n hn
  obtain ⟨h1, h2, h3, h4⟩ := H.glob.1 n hn
  have hs := H.old n h2 h1
  refine .eptr (globs n) 0 n 0 (fun j => (w.cell? (at_ n j)).getD Go.undef) ⟨Nat.lt_of_lt_of_le h2 H.size, h3, fun o ob ho hf => ?_⟩ (fun j x hx => ?_) (fun j x hx => ?_)
  · rcases (H.base o ob n ho hf).1 with h5 | h5
    · omega
    · exact h1 h5
  · obtain ⟨v, q1, _⟩ := h4 j x hx
    rw [Nat.zero_add, cell_same hs, q1]; rfl
  · obtain ⟨v, q1, q2⟩ := h4 j x hx
    simp only [cell_same hs, q1, Option.getD_some]
    cases x <;> first | exact q2.elim | (simp only [Gv] at q2; subst q2; exact .i _ _) | exact .undef _
theorem ev_ok {g : Slots} {a : Act} (hG : GlobHere w κ h clk) (hg : ∀ t, VR w κ h clk (g t) (a.tmps.getD t Go.undef)) (x : Operand) : VR w κ h clk (ev g (cv x)) (a.eval x) := by
  cases x with
  | tmp t => exact hg t
  | const v => exact cval_ok v
  | global n =>
    simp only [cv]
    by_cases hn : globs n = []
    · rw [if_pos hn]; exact .undef _
    · rw [if_neg hn]; exact hG n hn
  | func f => exact .fn f [] #[] rfl (by simp)

/-- What an operation without an effect owes. -/
def Gives (P : Program) (s : Sem Value) (w : World) (κ : Cfg) (h : Heap) (clk : Nat) (x : AV) : Prop := ∃ v, s.run P w = .ok v w ∧ VR w κ h clk x v

theorem Gives.of {P : Program} {s : Sem Value} {x : AV} {v : Value} (hs : s.run P w = .ok v w) (hv : VR w κ h clk x v) : Gives P s w κ h clk x := ⟨v, hs, hv⟩

variable {P : Program}
/-! ### Numbers, texts, truths -/
theorem int_ok {op : BinOp} {k : IntKind} {x y : Int} {p : Prop} {v : AV} (hk : binI op k x y = some (p, v)) (hp : p) :
    Gives P (match op with
    | .add | .sub | .mul => Op.intArith op k x y
    | .quo | .rem => Op.intDiv op k x y
    | .and | .or | .xor | .andNot => Op.intBits op k x y
    | _ => Op.intCmp op x y) w κ h clk v := by
  cases op <;> simp only [binI, yes, Option.some.injEq, Prod.mk.injEq, reduceCtorEq] at hk <;> obtain ⟨rfl, rfl⟩ := hk <;>
    first
    | exact ⟨_, rfl, .mk_i _ _⟩
    | exact ⟨_, rfl, .mk_b _⟩
    | exact ⟨_, by simp [Op.intDiv, hp], .mk_i _ _⟩

theorem str_ok {op : BinOp} {x y : List UInt8} {p : Prop} {v : AV} (hk : binS op x y = some (p, v)) (hp : p) : Gives P (Op.stringOp op ⟨x.toArray⟩ ⟨y.toArray⟩) w κ h clk v := by
  have tl : ∀ l : List UInt8, (⟨l.toArray⟩ : ByteArray).toList = l := fun l => by rw [Lib.toList_data]
  have sz : ∀ l : List UInt8, (⟨l.toArray⟩ : ByteArray).size = l.length := fun l => by simp [ByteArray.size]
  have ap : (⟨x.toArray⟩ : ByteArray) ++ ⟨y.toArray⟩ = ⟨(x ++ y).toArray⟩ := by
    apply ByteArray.ext; simp
  cases op <;> simp only [binS, yes, Option.some.injEq, Prod.mk.injEq, reduceCtorEq] at hk <;> obtain ⟨rfl, rfl⟩ := hk
  · refine ⟨_, ?_, .mk_s _⟩
    have : ¬ ((((x.length + y.length : Nat) : Int)) > IntKind.i64.max) := by
      simp [IntKind.max, IntKind.signed, IntKind.bits] <;> omega
    simp only [Op.stringOp, sz, this, if_false, ap]; rfl
  all_goals exact ⟨_, by simp only [Op.stringOp, tl]; rfl, .mk_b _⟩

theorem eqGuard_plain {op : BinOp} {t : TypeId} {x y : Operand} {a b : Value} (ha : ∀ c, a ≠ .agg c) (hn : a ≠ .nilIface) : (eqGuard op t x y a b).run P w = .ok () w := by
  cases op <;> first | rfl | (cases a <;> first | exact absurd rfl hn | exact absurd rfl (ha _) | rfl)

theorem shl_ok {op : BinOp} {k k' : IntKind} {x y : Int} {v : AV} (h0 : 0 ≤ y)
    (hv : (op = .shl ∧ v = .i k (k.wrap (x * 2 ^ (min y.toNat k.bits)))) ∨ (op = .shr ∧ v = .i k (x.fdiv (2 ^ (min y.toNat k.bits))))) : Gives P (Op.shift op k x k' y) w κ h clk v := by
  have hn : ¬ y < 0 := by omega
  rcases hv with ⟨rfl, rfl⟩ | ⟨rfl, rfl⟩ <;> exact ⟨_, by simp only [Op.shift, hn, if_false]; rfl, .mk_i _ _⟩

theorem bin_ok {op : BinOp} {t : TypeId} {x y : Operand} {ty : TypeId} {a b : AV} {va vb : Value} {p : Prop} {v : AV} (ha : VR w κ h clk a va) (hb : VR w κ h clk b vb)
    (hk : binF op a b = some (p, v)) (hp : p) : Gives P (do eqGuard op t x y va vb; binOp op ty va vb) w κ h clk v := by
  unfold binF at hk
  split at hk
  · rename_i k m k' n
    have e1 := ha.of_i; have e2 := hb.of_i; subst e1; subst e2
    have hg := eqGuard_plain (P := P) (w := w) (op := op) (t := t) (x := x) (y := y) (a := .int k m) (b := .int k' n) (by simp) (by simp)
    suffices hs : Gives P (binOp op ty (.int k m) (.int k' n)) w κ h clk v by
      obtain ⟨u, h1, h2⟩ := hs
      exact ⟨u, by simp only [Sem.run_bind, hg, Result.andThen, h1], h2⟩
    split at hk
    · simp only [Option.some.injEq, Prod.mk.injEq] at hk; obtain ⟨rfl, rfl⟩ := hk
      exact shl_ok (k' := k') hp (.inl ⟨rfl, rfl⟩)
    · simp only [Option.some.injEq, Prod.mk.injEq] at hk; obtain ⟨rfl, rfl⟩ := hk
      exact shl_ok (k' := k') hp (.inr ⟨rfl, rfl⟩)
    · rename_i h1 h2
      split at hk
      · rename_i hkk
        subst hkk
        have := int_ok (P := P) (w := w) (κ := κ) (h := h) (clk := clk) hk hp
        cases op <;> first | exact absurd rfl h1 | exact absurd rfl h2 | (simp only [binOp, ne_eq, not_true_eq_false, if_false]; exact this)
      · cases hk
  · rename_i l m
    have e1 := ha.of_s; have e2 := hb.of_s; subst e1; subst e2
    have hg := eqGuard_plain (P := P) (w := w) (op := op) (t := t) (x := x) (y := y) (a := .string ⟨l.toArray⟩) (b := .string ⟨m.toArray⟩) (by simp) (by simp)
    obtain ⟨u, h1, h2⟩ := str_ok (P := P) (w := w) (κ := κ) (h := h) (clk := clk) hk hp
    refine ⟨u, ?_, h2⟩
    simp only [Sem.run_bind, hg, Result.andThen]
    cases op <;> first | exact h1 | cases hk
  · cases hk

theorem un_ok {op : UnOp} {a : AV} {va : Value} {p : Prop} {v : AV} (ha : VR w κ h clk a va) (hk : unF op a = some (p, v)) : Gives P (Op.unary op va) w κ h clk v := by
  unfold unF at hk
  split at hk
  · rename_i t
    have e1 := ha.of_b; subst e1
    simp only [yes, Option.some.injEq, Prod.mk.injEq] at hk; obtain ⟨_, rfl⟩ := hk
    exact ⟨_, rfl, .mk_b _⟩
  · rename_i k n
    have e1 := ha.of_i; subst e1
    simp only [yes, Option.some.injEq, Prod.mk.injEq] at hk; obtain ⟨_, rfl⟩ := hk
    exact ⟨_, rfl, .mk_i _ _⟩
  · rename_i k n
    have e1 := ha.of_i; subst e1
    simp only [yes, Option.some.injEq, Prod.mk.injEq] at hk; obtain ⟨_, rfl⟩ := hk
    exact ⟨_, rfl, .mk_i _ _⟩
  · cases hk

theorem isIntT_eq {t : TypeId} {k : IntKind} (hk : isIntT P t = some k) : P.underlying t = some (.int k) := by
  unfold isIntT at hk; split at hk
  · cases hk; assumption
  · cases hk
theorem isStrT_eq {t : TypeId} (hk : isStrT P t = true) : P.underlying t = some .string := by
  unfold isStrT at hk; split at hk
  · assumption
  · cases hk
theorem und_run {t : TypeId} {d : TypeDesc} (hd : P.underlying t = some d) : (underlying t).run P w = .ok d w := run_underlying hd w

theorem conv_int_ok {s d : TypeId} {k : IntKind} {ds : TypeDesc} {k0 : IntKind} {n : Int} (hs : P.underlying s = some ds) (hd : P.underlying d = some (.int k)) :
    Gives P (Go.convert s d (.int k0 n)) w κ h clk (.i k (k.wrap n)) := by
  refine ⟨_, ?_, .mk_i _ _⟩
  unfold Go.convert
  simp only [Sem.run_bind, und_run hs, und_run hd, Result.andThen]
  rfl
theorem conv_str_ok {s d : TypeId} {l : List UInt8} (hs : P.underlying s = some .string) (hd : P.underlying d = some .string) :
    Gives P (Go.convert s d (.string ⟨l.toArray⟩)) w κ h clk (.s l) := by
  refine ⟨_, ?_, .mk_s _⟩
  unfold Go.convert
  simp only [Sem.run_bind, und_run hs, und_run hd, Result.andThen]
  rfl
end Go.AM
end
/-! Op2 -/
section
namespace Go.AM
variable {w : World} {κ : Cfg} {h : Heap} {clk : Nat} {P : Program}

theorem cur_some {o : Rid} {v : Nat} {ob : Ob} (hc : cur h o v = some ob) : h o = some ob ∧ ob.ver = v := by
  unfold cur at hc
  split at hc
  · split at hc
    · cases hc; exact ⟨by assumption, by assumption⟩
    · cases hc
  · cases hc
theorem VR.of_ptr {o : Rid} {ver e c : Nat} {v : Value} {ob : Ob} (hv : VR w κ h clk (.ptr o ver e c) v) (hc : cur h o ver = some ob) : v = .pointer (some (κ.addr o ob.esz e c)) := by
  cases hv with
  | ro _ _ hr => cases hr
  | ptr _ _ _ _ _ _ _ hp => exact hp ob hc
theorem VR.of_sl {o : Rid} {ver off len : Nat} {cap : Option Nat} {v : Value} {ob : Ob} (hv : VR w κ h clk (.sl o ver off len cap) v) (hc : cur h o ver = some ob) : SlOk w κ o ob off len cap v := by
  cases hv with
  | ro _ _ hr => cases hr
  | sl _ _ _ _ _ _ _ _ hp => exact hp ob hc
theorem VR.ptr_lt {o : Rid} {ver e c : Nat} {v : Value} (hv : VR w κ h clk (.ptr o ver e c) v) : ver < clk := by
  cases hv with
  | ro _ _ hr => cases hr
  | ptr _ _ _ _ _ _ hp _ => exact hp
theorem VR.sl_lt {o : Rid} {ver off len : Nat} {cap : Option Nat} {v : Value} (hv : VR w κ h clk (.sl o ver off len cap) v) : ver < clk := by
  cases hv with
  | ro _ _ hr => cases hr
  | sl _ _ _ _ _ _ _ hp _ => exact hp
theorem VR.of_eptr {cells : List AV} {c : Nat} {v : Value} (hv : VR w κ h clk (.eptr cells c) v) : ∃ (blk off : Nat) (val : Nat → Value), v = .pointer (some (at_ blk (off + c))) ∧ κ.X h w blk ∧
    (∀ (j : Nat) x, cells[j]? = some x → w.cell? (at_ blk (off + j)) = some (val j)) ∧ (∀ (j : Nat) x, cells[j]? = some x → Ro w (κ.X h w) x (val j)) := by
  cases hv with
  | ro _ _ hr => cases hr
  | eptr _ _ blk off val hX hc hr => exact ⟨blk, off, val, rfl, hX, hc, hr⟩
theorem VR.of_agg {cs : List AV} {v : Value} (hv : VR w κ h clk (.agg cs) v) : ∃ vs, v = .agg vs ∧ cs.length = vs.size ∧ ∀ (j : Nat) x, cs[j]? = some x → VR w κ h clk x (vs.getD j Go.undef) := by
  cases hv with
  | ro _ _ hr => cases hr
  | agg _ vs hl hr => exact ⟨vs, rfl, hl, hr⟩
theorem VR.of_tup {cs : List AV} {v : Value} (hv : VR w κ h clk (.tup cs) v) : ∃ vs, v = .tuple vs ∧ cs.length = vs.size ∧ ∀ (j : Nat) x, cs[j]? = some x → VR w κ h clk x (vs.getD j Go.undef) := by
  cases hv with
  | ro _ _ hr => cases hr
  | tup _ vs hl hr => exact ⟨vs, rfl, hl, hr⟩
theorem VR.of_fn {f : Nat} {cs : List AV} {v : Value} (hv : VR w κ h clk (.fn f cs) v) : ∃ vs, v = .func (.func f) #[] vs ∧ cs.length = vs.size ∧ ∀ (j : Nat) x, cs[j]? = some x → VR w κ h clk x (vs.getD j Go.undef) := by
  cases hv with
  | ro _ _ hr => cases hr
  | fn _ _ vs hl hr => exact ⟨vs, rfl, hl, hr⟩

theorem pick_ok {a b c : AV} {va vb vc : Value} {p : Prop} {v : AV} (ha : VR w κ h clk a va) (hb : VR w κ h clk b vb) (hc : VR w κ h clk c vc)
    (hk : pickF a b c = some (p, v)) : Gives P (do pure (if ← asBool va then vb else vc)) w κ h clk v := by
  unfold pickF at hk
  split at hk
  · rename_i t
    have e1 := ha.of_b; subst e1
    simp only [yes, Option.some.injEq, Prod.mk.injEq] at hk; obtain ⟨_, rfl⟩ := hk
    refine ⟨if t then vb else vc, rfl, ?_⟩
    cases t
    · exact hc
    · exact hb
  · cases hk

theorem ext_ok {i : Nat} {a : AV} {va : Value} {p : Prop} {v : AV} (ha : VR w κ h clk a va) (hk : extF i a = some (p, v)) : Gives P (Instr.extract va i) w κ h clk v := by
  unfold extF at hk
  split at hk
  · rename_i cs
    obtain ⟨vs, rfl, hl, hr⟩ := ha.of_tup
    cases hx : cs[i]? with
    | none => rw [hx] at hk; cases hk
    | some x =>
      rw [hx] at hk
      simp only [Option.bind_some, yes, Option.some.injEq, Prod.mk.injEq] at hk; obtain ⟨_, rfl⟩ := hk
      have hi : i < vs.size := by rw [← hl]; exact (List.getElem?_eq_some_iff.1 hx).1
      refine ⟨vs.getD i Go.undef, ?_, hr i _ hx⟩
      simp [Instr.extract, Array.getElem?_eq_getElem hi, Array.getD_eq_getD_getElem?]
  · cases hk

theorem nilck_ok {x : Operand} {ρ : Operand → Value} {p : Prop} {v : AV} {a : AV} (ha : VR w κ h clk a (ρ x)) (hk : nilckF h a = some (p, v)) (dst : Option Tmp) (ty : TypeId) (pos : String) (af : Array Edge) (gd : Option (Nat × Bool)) :
    ∃ u, (execOp ρ ⟨dst, .nilCheck x, ty, pos, af, gd⟩).run P w = .ok (.value u) w ∧ VR w κ h clk v u := by
  unfold nilckF at hk
  split at hk
  · rename_i o ver e c
    cases hc : cur h o ver with
    | none => rw [hc] at hk; cases hk
    | some ob =>
      rw [hc] at hk
      simp only [Option.bind_some, yes, Option.some.injEq, Prod.mk.injEq] at hk; obtain ⟨_, rfl⟩ := hk
      have e1 := ha.of_ptr hc
      refine ⟨_, ?_, e1 ▸ ha⟩
      simp only [execOp, e1]; rfl
  · simp only [yes, Option.some.injEq, Prod.mk.injEq] at hk; obtain ⟨_, rfl⟩ := hk
    obtain ⟨blk, off, val, e1, _⟩ := ha.of_eptr
    refine ⟨_, ?_, e1 ▸ ha⟩
    simp only [execOp, e1]; rfl
  · simp only [yes, Option.some.injEq, Prod.mk.injEq] at hk; obtain ⟨_, rfl⟩ := hk
    obtain ⟨vs, e1, _⟩ := ha.of_fn
    refine ⟨_, ?_, e1 ▸ ha⟩
    simp only [execOp, e1]; rfl
  · cases hk

/-! ### Lengths, indexes -/
theorem SlOk.slice {o : Rid} {ob : Ob} {off len : Nat} {cap : Option Nat} {v : Value} (hs : SlOk w κ o ob off len cap v) : ∃ a rc, v = .slice a len rc ∧ len ≤ rc := by
  rcases hs with ⟨rfl, ⟨a, rfl⟩, _⟩ | ⟨rc, _, rfl, _, hl, _⟩
  · exact ⟨a, 0, rfl, Nat.le_refl _⟩
  · exact ⟨_, rc, rfl, hl⟩
theorem Ro.slice {X : Bs} {z : Nat} {es : List (List AV)} {v : Value} (hr : Ro w X (.dat z es) v) : ∃ a rc, v = .slice a es.length rc := by
  cases hr with
  | dat0 _ a cap => exact ⟨a, cap, rfl⟩
  | dat _ blk off cap _ _ _ hl => exact ⟨_, cap, rfl⟩

/-- The value of a slice or a text, and how long it is. -/
theorem len_val {str : Bool} {a : AV} {va : Value} {p : Prop} {v : AV} (ha : VR w κ h clk a va) (hk : lenF h str a = some (p, v)) :
    ∃ n : Nat, v = i64 n ∧ ((str = false ∧ ∃ b c, va = .slice b n c) ∨ (str = true ∧ ∃ l : List UInt8, l.length = n ∧ va = .string ⟨l.toArray⟩)) := by
  unfold lenF at hk
  split at hk
  · rename_i l
    split at hk
    · simp only [yes, Option.some.injEq, Prod.mk.injEq] at hk; obtain ⟨_, rfl⟩ := hk
      exact ⟨_, rfl, .inr ⟨rfl, l, rfl, ha.of_s⟩⟩
    · cases hk
  · split at hk
    · cases hk
    · simp only [yes, Option.some.injEq, Prod.mk.injEq] at hk; obtain ⟨_, rfl⟩ := hk
      exact ⟨0, rfl, .inl ⟨rfl, _, _, ha.of_nils⟩⟩
  · split at hk
    · cases hk
    · simp only [yes, Option.some.injEq, Prod.mk.injEq] at hk; obtain ⟨_, rfl⟩ := hk
      obtain ⟨b, c, e⟩ := ha.of_dat.slice
      exact ⟨_, rfl, .inl ⟨rfl, b, c, e⟩⟩
  · rename_i o ver off n cap
    split at hk
    · cases hk
    · cases hc : cur h o ver with
      | none => rw [hc] at hk; cases hk
      | some ob =>
        rw [hc] at hk
        simp only [Option.bind_some, yes, Option.some.injEq, Prod.mk.injEq] at hk; obtain ⟨_, rfl⟩ := hk
        obtain ⟨b, c, e, _⟩ := (ha.of_sl hc).slice
        exact ⟨_, rfl, .inl ⟨rfl, b, c, e⟩⟩
  · cases hk

theorem cellOf_some {es : List (List AV)} {e j : Nat} {x : AV} {cells : List AV} (h1 : es[e]? = some cells) (h2 : cells[j]? = some x) : cellOf es e j = some x := by simp [cellOf, h1, h2]
theorem addr_add {b o k : Nat} : (at_ b o).add k = at_ b (o + k) := by
  unfold Addr.add
  split
  · subst_vars; rfl
  · rfl

theorem idx_ok {esz : Nat} {t e : TypeId} {a i : AV} {va vi : Value} {p : Prop} {v : AV} (ht : P.underlying t = some (.slice e)) (he : (P.info? e).isSome = true) (hz : P.cellsOf e = esz)
    (ha : VR w κ h clk a va) (hi : VR w κ h clk i vi) (hk : idxF h esz a i = some (p, v)) (hp : p) : Gives P (Instr.indexAt t va vi) w κ h clk v := by
  obtain ⟨ie, hie⟩ := Option.isSome_iff_exists.1 he
  have hsz : (sizeOf e).run P w = .ok esz w := by rw [run_sizeOf w hie, hz]
  have key : ∀ (b : Addr) (len cap : Nat) (k : IntKind) (n : Int), 0 ≤ n → n < (len : Int) → (Instr.indexAt t (.slice (some b) len cap) (.int k n)).run P w = .ok (.pointer (some (b.add (n.toNat * esz)))) w := by
    intro b len cap k n h0 h1
    simp only [Instr.indexAt, asIntOf, Sem.run_bind, Sem.run_pure, Result.andThen, und_run ht]
    simp only [h0, h1, and_self, if_true, Sem.run_bind, hsz, Result.andThen, Sem.run_pure]
  unfold idxF at hk
  split at hk
  · rename_i z es k n
    have e1 := hi.of_i; subst e1
    cases hx : es[n.toNat]? with
    | none => rw [hx] at hk; cases hk
    | some cells =>
      rw [hx] at hk
      simp only [Option.bind_some, Option.some.injEq, Prod.mk.injEq] at hk; obtain ⟨rfl, rfl⟩ := hk
      obtain ⟨h0, hcl⟩ := hp
      have hlt : n.toNat < es.length := (List.getElem?_eq_some_iff.1 hx).1
      cases ha.of_dat with
      | dat0 _ b cap => simp at hlt
      | dat _ blk off cap _ val hX hl hzz hc hr =>
        have : z = esz := by rw [← hcl]; exact (hzz cells (List.mem_of_getElem? hx)).symm
        subst this
        refine ⟨_, key _ _ _ k n h0 (by omega), ?_⟩
        rw [addr_add]
        exact .eptr cells 0 blk (off + n.toNat * z) (fun j => val n.toNat j) hX (fun j x hj => hc _ j x (cellOf_some hx hj)) (fun j x hj => hr _ j x (cellOf_some hx hj))
  · rename_i o ver off len cap k n
    have e1 := hi.of_i; subst e1
    cases hc : cur h o ver with
    | none => rw [hc] at hk; cases hk
    | some ob =>
      rw [hc] at hk
      simp only [Option.bind_some, Option.some.injEq, Prod.mk.injEq] at hk; obtain ⟨rfl, rfl⟩ := hk
      obtain ⟨hob, h0, hn⟩ := hp
      rcases ha.of_sl hc with ⟨rfl, _⟩ | ⟨rc, _, rfl, _⟩
      · omega
      · refine ⟨_, key _ _ _ k n h0 hn, .ptr _ _ _ _ _ ⟨_, rfl⟩ ha.sl_lt fun ob' hc' => ?_⟩
        rw [hc] at hc'; cases hc'
        rw [Cfg.addr, addr_add, Cfg.addr, hob]
        congr 3
        rw [Nat.add_mul]; omega
  · cases hk
theorem idxa_ok {n esz : Nat} {t e : TypeId} {a i : AV} {va vi : Value} {p : Prop} {v : AV} (ht : P.underlying t = some (.array n e)) (he : (P.info? e).isSome = true) (hz : P.cellsOf e = esz)
    (ha : VR w κ h clk a va) (hi : VR w κ h clk i vi) (hk : idxaF h n esz a i = some (p, v)) (hp : p) : Gives P (Instr.indexAt t va vi) w κ h clk v := by
  obtain ⟨ie, hie⟩ := Option.isSome_iff_exists.1 he
  have hsz : (sizeOf e).run P w = .ok esz w := by rw [run_sizeOf w hie, hz]
  have key : ∀ (b : Addr) (k : IntKind) (m : Int), 0 ≤ m → m < (n : Int) → (Instr.indexAt t (.pointer (some b)) (.int k m)).run P w = .ok (.pointer (some (b.add (m.toNat * esz)))) w := by
    intro b k m h0 h1
    simp only [Instr.indexAt, Instr.sureAddr, asIntOf, Sem.run_bind, Sem.run_pure, Result.andThen, und_run ht]
    simp only [h0, h1, and_self, if_true, Sem.run_bind, hsz, Result.andThen, Sem.run_pure]
  unfold idxaF at hk
  split at hk
  · rename_i o ver e' c k m
    have e1 := hi.of_i; subst e1
    cases hc : cur h o ver with
    | none => rw [hc] at hk; cases hk
    | some ob =>
      rw [hc] at hk
      cases hx : ob.es[e']? with
      | none => simp only [Option.bind_some, hx] at hk; cases hk
      | some cells =>
        simp only [Option.bind_some, hx, Option.some.injEq, Prod.mk.injEq] at hk; obtain ⟨rfl, rfl⟩ := hk
        obtain ⟨h0, h1, h2⟩ := hp
        have e2 := ha.of_ptr hc
        subst e2
        refine ⟨_, key _ k m h0 h1, .ptr _ _ _ _ _ ⟨_, rfl⟩ ha.ptr_lt fun ob' hc' => ?_⟩
        rw [hc] at hc'; cases hc'
        rw [Cfg.addr, addr_add, Cfg.addr]
        congr 3; omega
  · rename_i cells c k m
    have e1 := hi.of_i; subst e1
    simp only [Option.some.injEq, Prod.mk.injEq] at hk; obtain ⟨rfl, rfl⟩ := hk
    obtain ⟨h0, h1, h2⟩ := hp
    obtain ⟨blk, off, val, rfl, hX, hc, hr⟩ := ha.of_eptr
    refine ⟨_, key _ k m h0 h1, ?_⟩
    rw [addr_add, Nat.add_assoc]
    exact .eptr cells (c + m.toNat * esz) blk off val hX hc hr
  · cases hk
end Go.AM
end
/-! Op3 -/
section
namespace Go.AM
variable {w : World} {κ : Cfg} {h : Heap} {clk : Nat} {P : Program}

theorem ids_ok {t : TypeId} {a i : AV} {va vi : Value} {p : Prop} {v : AV} (ht : P.underlying t = some .string) (ha : VR w κ h clk a va) (hi : VR w κ h clk i vi) (hk : idsF a i = some (p, v)) (hp : p) :
    Gives P (Instr.index t va vi) w κ h clk v := by
  unfold idsF at hk
  split at hk
  · rename_i l k n
    have e1 := ha.of_s; subst e1
    have e2 := hi.of_i; subst e2
    cases hx : l[n.toNat]? with
    | none => rw [hx] at hk; cases hk
    | some b =>
      rw [hx] at hk
      simp only [Option.bind_some, Option.some.injEq, Prod.mk.injEq] at hk; obtain ⟨rfl, rfl⟩ := hk
      refine ⟨_, ?_, .mk_i _ _⟩
      have hb : (⟨l.toArray⟩ : ByteArray)[n.toNat]? = some b := by
        have hlt := (List.getElem?_eq_some_iff.1 hx)
        obtain ⟨hlt, hv⟩ := hlt
        rw [getElem?_pos (⟨l.toArray⟩ : ByteArray) n.toNat (by simpa [ByteArray.size] using hlt)]
        congr 1
      simp only [Instr.index, asIntOf, Sem.run_bind, Sem.run_pure, Result.andThen, und_run ht, hp, if_true, hb]
  · cases hk

theorem isAgg_run {t : TypeId} (ht : (P.underlying t).isSome = true) : (isAgg t).run P w = .ok (isAggT P t) w := by
  obtain ⟨d, hd⟩ := Option.isSome_iff_exists.1 ht
  simp only [isAgg, Sem.run_bind, und_run hd, Result.andThen]
  unfold isAggT
  rw [hd]
  cases d <;> rfl
theorem sizeOf_run {t : TypeId} (ht : (P.info? t).isSome = true) : (sizeOf t).run P w = .ok (P.cellsOf t) w := by
  obtain ⟨i, hi⟩ := Option.isSome_iff_exists.1 ht
  exact run_sizeOf w hi

/-- A variable's cells, read. -/
theorem loadVar_run {t : TypeId} {b o : Nat} {agg : Bool} {n : Nat} (f : Nat → Value) (hi : (P.info? t).isSome = true) (hu : (P.underlying t).isSome = true) (hz : isAggT P t = agg) (hn : P.cellsOf t = n)
    (hc : ∀ j, j < n → w.cell? (at_ b (o + j)) = some (f j)) (h1 : agg = false → n = 1) :
    (loadVar t (at_ b o)).run P w = .ok (if agg then .agg ((List.range n).map f).toArray else f 0) w := by
  simp only [loadVar, Sem.run_bind, isAgg_run hu, Result.andThen, hz]
  cases agg with
  | true =>
    simp only [if_true, Sem.run_bind, sizeOf_run hi, hn, Result.andThen, Sem.run_pure]
    rw [run_loadCells w (at_ b o) n f (fun j hj => by rw [addr_add]; exact hc j hj)]
  | false =>
    have hn1 := h1 rfl
    have := hc 0 (by omega)
    simp only [Bool.false_eq_true, if_false, load, Sem.run]
    rw [Nat.add_zero] at this
    rw [this]

theorem cval_cells {cs : List AV} {n c : Nat} {f : Nat → Value} (hl : c + n ≤ cs.length) (hr : ∀ (j : Nat) x, j < n → cs[c + j]? = some x → VR w κ h clk x (f j)) :
    VR w κ h clk (.agg ((cs.drop c).take n)) (.agg ((List.range n).map f).toArray) := by
  refine .agg _ _ (by simp; omega) fun j x hx => ?_
  have hj : j < n := by
    have := (List.getElem?_eq_some_iff.1 hx).1
    simp at this; omega
  have hx' : cs[c + j]? = some x := by
    rw [List.getElem?_take, if_pos hj, List.getElem?_drop] at hx
    exact hx
  have : (((List.range n).map f).toArray).getD j Go.undef = f j := by
    simp [Array.getD_eq_getD_getElem?, hj]
  rw [this]
  exact hr j x hj hx'

theorem CR.vr {own : Prop} {S : Bs} {x : AV} {v : Value} (hc : CR w κ h clk own S x v) (hd : x.isDat = true → ¬ own) : VR w κ h clk x v := by
  cases x with
  | dat z es => exact .ro _ _ (hc.2 (hd rfl))
  | agg _ => exact hc.elim
  | tup _ => exact hc.elim
  | _ => exact hc
theorem CR.vr_flat {own : Prop} {S : Bs} {x : AV} {v : Value} (hc : CR w κ h clk own S x v) (hd : own → x.isDat = false) : VR w κ h clk x v := by
  refine hc.vr fun hx ho => ?_
  rw [hd ho] at hx; cases hx

theorem load_ok {t : TypeId} {agg : Bool} {n : Nat} {a : AV} {va : Value} {p : Prop} {v : AV} (hO : ∀ o ob, h o = some ob → ObR w κ h clk o ob)
    (hi : (P.info? t).isSome = true) (hu : (P.underlying t).isSome = true) (hz : isAggT P t = agg) (hn : P.cellsOf t = n) (h1 : agg = false → n = 1)
    (ha : VR w κ h clk a va) (hk : loadF h agg n a = some (p, v)) (hp : p) : Gives P (Instr.loadAt t va) w κ h clk v := by
  unfold loadF at hk
  split at hk
  · rename_i o ver e c
    cases hc : cur h o ver with
    | none => rw [hc] at hk; cases hk
    | some ob =>
      have e1 := ha.of_ptr hc; subst e1
      obtain ⟨hob, _⟩ := cur_some hc
      have oR := hO o ob hob
      rw [hc] at hk
      simp only [Option.bind_some] at hk
      cases hx : ob.es[e]? with
      | none => rw [hx] at hk; cases hk
      | some cells =>
        rw [hx] at hk
        simp only [Option.bind_some] at hk
        have hcell : ∀ (j : Nat) x, cells[j]? = some x → ∃ u, w.cell? (κ.addr o ob.esz e j) = some u ∧ CR w κ h clk ob.own (κ.F o e j) x u := fun j x hj => oR.cells e j x (cellOf_some hx hj)
        cases agg with
        | true =>
          simp only [Option.some.injEq, Prod.mk.injEq] at hk; obtain ⟨rfl, rfl⟩ := hk
          obtain ⟨hl, hf⟩ := hp
          let f : Nat → Value := fun j => ((w.cell? (κ.addr o ob.esz e (c + j))).getD Go.undef)
          have hcs : ∀ j, j < n → w.cell? (at_ (κ.ι o).1 ((κ.ι o).2 + e * ob.esz + c + j)) = some (f j) := by
            intro j hj
            obtain ⟨u, hu', _⟩ := hcell (c + j) cells[c + j] (List.getElem?_eq_getElem (by omega))
            have : w.cell? (κ.addr o ob.esz e (c + j)) = some (f j) := by simp [f, hu']
            rw [Cfg.addr] at this
            rw [show (κ.ι o).2 + e * ob.esz + c + j = (κ.ι o).2 + e * ob.esz + (c + j) by omega]
            exact this
          refine ⟨_, ?_, cval_cells (f := f) hl fun j x hj hx' => ?_⟩
          · simp only [Instr.loadAt, Instr.sureAddr, Sem.run_bind, Sem.run_pure, Result.andThen, Cfg.addr]
            rw [loadVar_run f hi hu hz hn hcs h1]; rfl
          · obtain ⟨u, hu', hcr⟩ := hcell (c + j) x hx'
            have : f j = u := by simp [f, hu']
            rw [this]
            refine hcr.vr_flat fun ho => hf ho _ (List.mem_singleton.2 rfl) x ?_
            exact List.mem_of_getElem? (i := j) (by rw [List.getElem?_take, if_pos hj, List.getElem?_drop]; exact hx')
        | false =>
          cases hy : cells[c]? with
          | none => simp only [hy] at hk; cases hk
          | some x =>
            simp only [hy, Option.bind_some, Option.some.injEq, Prod.mk.injEq] at hk; obtain ⟨rfl, rfl⟩ := hk
            obtain ⟨u, hu', hcr⟩ := hcell c _ hy
            refine ⟨u, ?_, hcr.vr hp⟩
            have hn1 := h1 rfl
            simp only [Instr.loadAt, Instr.sureAddr, Sem.run_bind, Sem.run_pure, Result.andThen, Cfg.addr]
            rw [loadVar_run (fun _ => u) hi hu hz hn (fun j hj => by rw [show j = 0 by omega]; exact hu') h1]; rfl
  · rename_i cells c
    obtain ⟨blk, off, val, rfl, hX, hcs, hr⟩ := ha.of_eptr
    cases agg with
    | true =>
      simp only [Option.some.injEq, Prod.mk.injEq] at hk; obtain ⟨rfl, rfl⟩ := hk
      refine ⟨_, ?_, cval_cells (f := fun j => val (c + j)) hp fun j x hj hx' => .ro _ _ (hr _ x hx')⟩
      simp only [Instr.loadAt, Instr.sureAddr, Sem.run_bind, Sem.run_pure, Result.andThen]
      rw [loadVar_run (fun j => val (c + j)) hi hu hz hn (fun j hj => by
        rw [Nat.add_assoc]; exact hcs (c + j) cells[c + j] (List.getElem?_eq_getElem (by omega))) h1]; rfl
    | false =>
      cases hy : cells[c]? with
      | none => simp only [hy] at hk; cases hk
      | some x =>
        simp only [hy, Option.bind_some, yes, Option.some.injEq, Prod.mk.injEq] at hk; obtain ⟨rfl, rfl⟩ := hk
        refine ⟨val c, ?_, .ro _ _ (hr c _ hy)⟩
        have hn1 := h1 rfl
        simp only [Instr.loadAt, Instr.sureAddr, Sem.run_bind, Sem.run_pure, Result.andThen]
        rw [loadVar_run (fun _ => val c) hi hu hz hn (fun j hj => by rw [show j = 0 by omega]; exact hcs c _ hy) h1]; rfl
  · cases hk
end Go.AM
end
/-! Op4 -/
section
namespace Go.AM
variable {w : World} {κ : Cfg} {h : Heap} {clk : Nat} {P : Program}

theorem fieldT_eq {t : TypeId} {f : Nat} {fd : Field} (hf : fieldT P t f = some fd) : ∃ fs, P.underlying t = some (.struct fs) ∧ fs[f]? = some fd := by
  unfold fieldT at hf
  split at hf
  · exact ⟨_, by assumption, hf⟩
  · cases hf

theorem fld_ok {t : TypeId} {f off : Nat} {fd : Field} {a : AV} {va : Value} {p : Prop} {v : AV} (hf : fieldT P t f = some fd) (hz : P.cellsOf fd.type ≠ 0) (hi : (P.info? fd.type).isSome = true) (ho : fd.offset = off)
    (ha : VR w κ h clk a va) (hk : fldF h off a = some (p, v)) : Gives P (Instr.fieldAt t va f) w κ h clk v := by
  obtain ⟨fs, hu, hfs⟩ := fieldT_eq hf
  have key : ∀ b o, (Instr.fieldAt t (.pointer (some (at_ b o))) f).run P w = .ok (.pointer (some (at_ b (o + off)))) w := by
    intro b o
    simp only [Instr.fieldAt, Sem.run_bind, und_run hu, Result.andThen, hfs, Instr.sureAddr, Sem.run_pure, fieldPlace, sizeOf_run hi, hz, if_false, addr_add, ho]
  unfold fldF at hk
  split at hk
  · rename_i o ver e c
    cases hc : cur h o ver with
    | none => rw [hc] at hk; cases hk
    | some ob =>
      rw [hc] at hk
      simp only [Option.bind_some, yes, Option.some.injEq, Prod.mk.injEq] at hk; obtain ⟨_, rfl⟩ := hk
      have e1 := ha.of_ptr hc; subst e1
      refine ⟨_, key _ _, .ptr _ _ _ _ _ ⟨_, rfl⟩ ha.ptr_lt fun ob' hc' => ?_⟩
      rw [hc] at hc'; cases hc'
      rw [Cfg.addr, Nat.add_assoc]
  · simp only [Option.some.injEq, Prod.mk.injEq] at hk; obtain ⟨rfl, rfl⟩ := hk
    obtain ⟨blk, o, val, rfl, hX, hcs, hr⟩ := ha.of_eptr
    refine ⟨_, key _ _, ?_⟩
    rw [Nat.add_assoc]
    exact .eptr _ _ blk o val hX hcs hr
  · cases hk

theorem fldv_ok {t : TypeId} {f off n : Nat} {agg : Bool} {fd : Field} {a : AV} {va : Value} {p : Prop} {v : AV} (hf : fieldT P t f = some fd) (hi : (P.info? fd.type).isSome = true) (hu' : (P.underlying fd.type).isSome = true) (ho : fd.offset = off)
    (hz : isAggT P fd.type = agg) (hn : P.cellsOf fd.type = n) (ha : VR w κ h clk a va) (hk : fldvF agg off n a = some (p, v)) (hp : p) : Gives P (Instr.field t va f) w κ h clk v := by
  obtain ⟨fs, hu, hfs⟩ := fieldT_eq hf
  unfold fldvF at hk
  split at hk
  · rename_i cs
    obtain ⟨vs, rfl, hl, hr⟩ := ha.of_agg
    cases agg with
    | true =>
      simp only [Option.some.injEq, Prod.mk.injEq] at hk; obtain ⟨rfl, rfl⟩ := hk
      refine ⟨.agg (vs.extract off (off + n)), ?_, .agg _ _ (by simp; omega) fun j x hx => ?_⟩
      · simp only [Instr.field, Sem.run_bind, und_run hu, Result.andThen, hfs, asAgg, Sem.run_pure, part, isAgg_run hu', hz, if_true, sizeOf_run hi, hn, ho]
      · have hj : j < n := by
          have := (List.getElem?_eq_some_iff.1 hx).1
          simp at this; omega
        have hx' : cs[off + j]? = some x := by
          rw [List.getElem?_take, if_pos hj, List.getElem?_drop] at hx
          exact hx
        have : (vs.extract off (off + n)).getD j Go.undef = vs.getD (off + j) Go.undef := by
          simp only [Array.getD_eq_getD_getElem?, Array.getElem?_extract]
          rw [if_pos (by omega)]
        rw [this]
        exact hr _ x hx'
    | false =>
      cases hy : cs[off]? with
      | none => simp only [hy] at hk; cases hk
      | some x =>
        simp only [hy, Option.bind_some, yes, Option.some.injEq, Prod.mk.injEq] at hk; obtain ⟨_, rfl⟩ := hk
        have hlt : off < vs.size := by rw [← hl]; exact (List.getElem?_eq_some_iff.1 hy).1
        refine ⟨vs.getD off Go.undef, ?_, hr _ _ hy⟩
        simp only [Instr.field, Sem.run_bind, und_run hu, Result.andThen, hfs, asAgg, Sem.run_pure, part, isAgg_run hu', hz, Bool.false_eq_true, if_false, ho]
        simp [Array.getElem?_eq_getElem hlt, Array.getD_eq_getD_getElem?]
  · cases hk

/-! ### Cuts -/
theorem lo_val {a : Option Operand} {g : Slots} {ρ : Operand → Value} {l : Int} (hg : ∀ x, VR w κ h clk (ev g (cv x)) (ρ x)) (hl : loN ((a.map cv).map (ev g)) = some l) :
    (a = none ∧ l = 0) ∨ ∃ x k, a = some x ∧ ρ x = .int k l := by
  cases a with
  | none => simp [loN] at hl; exact .inl ⟨rfl, hl.symm⟩
  | some x =>
    simp only [Option.map_some, loN] at hl
    cases hx : ev g (cv x) <;> simp [hx, AV.asI] at hl
    rename_i k n
    subst hl
    have := hg x; rw [hx] at this
    exact .inr ⟨x, k, rfl, this.of_i⟩
theorem hi_val {a : Option Operand} {g : Slots} {ρ : Operand → Value} {l : Int} {len : Nat} (hg : ∀ x, VR w κ h clk (ev g (cv x)) (ρ x)) (hl : hiN len ((a.map cv).map (ev g)) = some l) :
    (a = none ∧ l = len) ∨ ∃ x k, a = some x ∧ ρ x = .int k l := by
  cases a with
  | none => simp [hiN] at hl; exact .inl ⟨rfl, hl.symm⟩
  | some x =>
    simp only [Option.map_some, hiN] at hl
    cases hx : ev g (cv x) <;> simp [hx, AV.asI] at hl
    rename_i k n
    subst hl
    have := hg x; rw [hx] at this
    exact .inr ⟨x, k, rfl, this.of_i⟩
theorem bound_run {k : IntKind} {n : Int} {y : Nat} {code : BoundsCode} (h0 : 0 ≤ n) (h1 : n ≤ y) : (Instr.sliceBound (.int k n) y code).run P w = .ok n.toNat w := by
  simp only [Instr.sliceBound, asIntOf, Sem.run_bind, Sem.run_pure, Result.andThen, h0, h1, and_self, if_true]
/-- Bounds without a maximum. -/
theorem bounds_run {isSlice : Bool} {len cap : Nat} {lo hi : Option Operand} {ρ : Operand → Value} {l hh : Int} (hl : (lo = none ∧ l = 0) ∨ ∃ x k, lo = some x ∧ ρ x = .int k l)
    (hhi : (hi = none ∧ hh = len) ∨ ∃ x k, hi = some x ∧ ρ x = .int k hh) (h0 : 0 ≤ l) (h1 : l ≤ hh) (h2 : hh ≤ cap) :
    (Instr.sliceBounds isSlice len cap (lo.map ρ) (hi.map ρ) none).run P w = .ok (l.toNat, hh.toNat, cap) w := by
  unfold Instr.sliceBounds
  rcases hhi with ⟨rfl, rfl⟩ | ⟨x, k, rfl, hx⟩ <;> rcases hl with ⟨rfl, rfl⟩ | ⟨y, k', rfl, hy⟩
  · simp [Sem.run_bind, Result.andThen]
  · simp only [Option.map_none, Option.map_some, Sem.run_bind, Sem.run_pure, Result.andThen, hy]
    rw [bound_run h0 (by omega)]; simp
  · simp only [Option.map_none, Option.map_some, Sem.run_bind, Sem.run_pure, Result.andThen, hx]
    rw [bound_run (by omega) h2]; simp
  · simp only [Option.map_none, Option.map_some, Sem.run_bind, Sem.run_pure, Result.andThen, hx, hy]
    rw [bound_run (by omega) h2]; simp only
    rw [bound_run h0 (by omega)]
theorem bounds_run3 {isSlice : Bool} {len cap : Nat} {lo hi : Option Operand} {m : Operand} {ρ : Operand → Value} {l hh mm : Int} {km : IntKind} (hl : (lo = none ∧ l = 0) ∨ ∃ x k, lo = some x ∧ ρ x = .int k l)
    (hhi : ∃ x k, hi = some x ∧ ρ x = .int k hh) (hm : ρ m = .int km mm) (h0 : 0 ≤ l) (h1 : l ≤ hh) (h2 : hh ≤ mm) (h3 : mm ≤ cap) :
    (Instr.sliceBounds isSlice len cap (lo.map ρ) (hi.map ρ) (some (ρ m))).run P w = .ok (l.toNat, hh.toNat, mm.toNat) w := by
  unfold Instr.sliceBounds
  obtain ⟨x, k, rfl, hx⟩ := hhi
  rcases hl with ⟨rfl, rfl⟩ | ⟨y, k', rfl, hy⟩
  · simp only [Option.map_none, Option.map_some, Sem.run_bind, Sem.run_pure, Result.andThen, hx, hm]
    rw [bound_run (by omega) h3]; simp only
    rw [bound_run (by omega) (by omega)]; simp
  · simp only [Option.map_some, Sem.run_bind, Sem.run_pure, Result.andThen, hx, hy, hm]
    rw [bound_run (by omega) h3]; simp only
    rw [bound_run (by omega) (by omega)]; simp only
    rw [bound_run h0 (by omega)]

theorem sls_ok {t : TypeId} {x : Operand} {lo hi : Option Operand} {g : Slots} {ρ : Operand → Value} {p : Prop} {v : AV} (ht : P.underlying t = some .string) (hg : ∀ x, VR w κ h clk (ev g (cv x)) (ρ x))
    (hk : slsF (ev g (cv x)) ((lo.map cv).map (ev g)) ((hi.map cv).map (ev g)) = some (p, v)) (hp : p) : Gives P (Instr.sliceAt t (ρ x) (lo.map ρ) (hi.map ρ) none) w κ h clk v := by
  unfold slsF at hk
  cases hx : ev g (cv x) <;> simp only [hx, AV.asS, Option.bind_none, Option.bind_some, reduceCtorEq] at hk
  rename_i s
  have e1 := hg x; rw [hx] at e1; have e2 := e1.of_s
  cases hl : loN ((lo.map cv).map (ev g)) with
  | none => simp only [hl] at hk; cases hk
  | some l =>
    cases hh : hiN s.length ((hi.map cv).map (ev g)) with
    | none => simp only [hl, hh, Option.bind_some] at hk; cases hk
    | some m =>
      simp only [hl, hh, Option.bind_some, Option.some.injEq, Prod.mk.injEq] at hk; obtain ⟨rfl, rfl⟩ := hk
      obtain ⟨h0, h1, h2⟩ := hp
      have sz : (⟨s.toArray⟩ : ByteArray).size = s.length := by simp [ByteArray.size]
      refine ⟨.string ((⟨s.toArray⟩ : ByteArray).extract l.toNat m.toNat), ?_, ?_⟩
      · simp only [Instr.sliceAt, Sem.run_bind, und_run ht, Result.andThen, Instr.slice, e2, Option.isSome_none, Bool.false_eq_true, if_false]
        rw [bounds_run (P := P) (w := w) (isSlice := false) (len := (⟨s.toArray⟩ : ByteArray).size) (cap := (⟨s.toArray⟩ : ByteArray).size) (lo_val hg hl) (by rw [sz]; exact hi_val hg hh) h0 h1 (by rw [sz]; exact h2)]
        rfl
      · have : (⟨s.toArray⟩ : ByteArray).extract l.toNat m.toNat = ⟨((s.drop l.toNat).take (m - l).toNat).toArray⟩ := by
          have h3 : ((⟨s.toArray⟩ : ByteArray).extract l.toNat m.toNat).data.toList = (s.drop l.toNat).take (m.toNat - l.toNat) := by
            rw [Lib.extract_data]
          apply ByteArray.ext
          apply Array.ext'
          rw [h3, show (m - l).toNat = m.toNat - l.toNat by omega]
        rw [this]
        exact .mk_s _
end Go.AM
end
/-! Op5 -/
section
namespace Go.AM
variable {w : World} {κ : Cfg} {h : Heap} {clk : Nat} {P : Program}

theorem OwnBlk.mono {b n m : Nat} (hb : OwnBlk w b n) (hm : m ≤ n) : OwnBlk w b m := by
  obtain ⟨c, t, f, h1, h2, h3⟩ := hb
  exact ⟨c, t, f, h1, by omega, h3⟩
theorem sub_length {es : List (List AV)} {off len : Nat} (hl : off + len ≤ es.length) : (sub es off len).length = len := by
  unfold sub; split
  · omega
  · simp; omega
theorem sub_get {es : List (List AV)} {off len e : Nat} (he : e < len) : (sub es off len)[e]? = es[off + e]? := by
  unfold sub; split
  · rename_i hh; rw [hh.1, Nat.zero_add]
  · rw [List.getElem?_take, if_pos he, List.getElem?_drop]
theorem sub_cell {es : List (List AV)} {off len e j : Nat} {x : AV} (hl : off + len ≤ es.length) (hx : cellOf (sub es off len) e j = some x) : e < len ∧ cellOf es (off + e) j = some x := by
  have he : e < len := by
    rcases Nat.lt_or_ge e len with h1 | h1
    · exact h1
    · unfold cellOf at hx
      rw [List.getElem?_eq_none (by rw [sub_length hl]; exact h1)] at hx
      cases hx
  refine ⟨he, ?_⟩
  unfold cellOf at hx ⊢
  rwa [sub_get he] at hx
theorem sub_mem {es : List (List AV)} {off len : Nat} {e : List AV} (he : e ∈ sub es off len) : e ∈ es := by
  unfold sub at he; split at he
  · exact he
  · exact List.mem_of_mem_drop (List.mem_of_mem_take he)
theorem sub_zero {es : List (List AV)} {off : Nat} (hl : off ≤ es.length) : sub es off 0 = [] := List.eq_nil_of_length_eq_zero (sub_length (by omega))

/-- A part of what is read. -/
theorem Ro.cut {X : Bs} {es : List (List AV)} {a : Option Addr} {len rc esz l hh : Nat} (hr : Ro w X (.dat esz es) (.slice a len rc)) (h1 : l ≤ hh) (h2 : hh ≤ es.length) (hm : hh ≤ rc) :
    Ro w X (.dat esz (sub es l (hh - l))) (.slice (if rc = l then a else a.map (·.add (l * esz))) (hh - l) (rc - l)) := by
  rcases Nat.eq_zero_or_pos (hh - l) with h0 | hpos
  · rw [h0, sub_zero (by omega)]; exact .dat0 _ _ _
  · generalize hv : Value.slice a len rc = v at hr
    cases hr with
    | dat0 _ b c => simp at h2; omega
    | dat _ blk off cap _ val hX hl hz hc hr =>
      cases hv
      have hne : ¬ rc = l := by omega
      have hlen : (sub es l (hh - l)).length = hh - l := sub_length (by omega)
      rw [if_neg hne]
      simp only [Option.map_some, addr_add]
      have key := Ro.dat (w := w) (X := X) (sub es l (hh - l)) blk (off + l * esz) (rc - l) esz (fun e j => val (l + e) j) hX (by omega) (fun e he => hz e (sub_mem he))
        (fun e j x hx => by
          have := hc (l + e) j x (sub_cell (by omega) hx).2
          rw [show off + l * esz + e * esz + j = off + (l + e) * esz + j by rw [Nat.add_mul]; omega]; exact this)
        (fun e j x hx => hr (l + e) j x (sub_cell (by omega) hx).2)
      rw [hlen] at key
      exact key

theorem slca_ok {t e : TypeId} {n esz : Nat} {x : Operand} {lo hi : Option Operand} {g : Slots} {ρ : Operand → Value} {p : Prop} {v : AV} (hO : ∀ o ob, h o = some ob → ObR w κ h clk o ob) (ht : P.underlying t = some (.array n e)) (he : (P.info? e).isSome = true) (hz : P.cellsOf e = esz)
    (hg : ∀ x, VR w κ h clk (ev g (cv x)) (ρ x))
    (hk : slcaF h n esz (ev g (cv x)) ((lo.map cv).map (ev g)) ((hi.map cv).map (ev g)) = some (p, v)) (hp : p) : Gives P (Instr.sliceAt t (ρ x) (lo.map ρ) (hi.map ρ) none) w κ h clk v := by
  unfold slcaF at hk
  split at hk
  · rename_i o ver hx
    have e2 := hg x; rw [hx] at e2
    cases hc : cur h o ver with
    | none => simp only [hc] at hk; cases hk
    | some ob =>
      have e3 := e2.of_ptr hc
      simp only [hc, Option.bind_some] at hk
      cases hl : loN ((lo.map cv).map (ev g)) with
      | none => simp only [hl] at hk; cases hk
      | some l =>
        cases hh : hiN n ((hi.map cv).map (ev g)) with
        | none => simp only [hl, hh, Option.bind_some] at hk; cases hk
        | some m =>
          simp only [hl, hh, Option.bind_some, Option.some.injEq, Prod.mk.injEq] at hk; obtain ⟨rfl, rfl⟩ := hk
          obtain ⟨hob, h0, h1, h2, hn, hpos⟩ := hp
          have hb := bounds_run (P := P) (w := w) (isSlice := false) (len := n) (cap := n) (lo_val hg hl) (hi_val hg hh) h0 h1 (by omega)
          have B := hO o ob (cur_some hc).1
          obtain ⟨hre, hown⟩ := B.blk (by intro h5; rw [h5] at hn; simp at hn; omega)
          refine ⟨.slice (some (if n = l.toNat then κ.addr o ob.esz 0 0 else (κ.addr o ob.esz 0 0).add (l.toNat * esz))) (m.toNat - l.toNat) (n - l.toNat), ?_, .sl _ _ _ _ _ _ ⟨_, _, _, rfl⟩ e2.ptr_lt fun ob' hc' => ?_⟩
          · simp only [Instr.sliceAt, Sem.run_bind, und_run ht, Result.andThen, e3, Instr.sureAddr, hb, sizeOf_run he, hz, Sem.run_pure]
          · rw [hc] at hc'; cases hc'
            by_cases hml : n = l.toNat
            · refine .inl ⟨by omega, ⟨_, by congr 1 <;> omega⟩, fun _ => by omega⟩
            · refine .inr ⟨n - l.toNat, hre, ?_, by omega, by omega, fun k hk' => (by cases hk'), fun _ => by omega, ?_⟩
              · rw [if_neg hml]
                simp only [Cfg.addr, addr_add, hob]
                congr 3
                · omega
                · omega
              · rw [show l.toNat + (n - l.toNat) = ob.es.length by omega]; exact hown
  · cases hk

theorem slc_ok {t e : TypeId} {esz : Nat} {x : Operand} {lo hi mx : Option Operand} {g : Slots} {ρ : Operand → Value} {p : Prop} {v : AV} (ht : P.underlying t = some (.slice e)) (he : (P.info? e).isSome = true) (hz : P.cellsOf e = esz)
    (hmh : mx.isSome = true → hi.isSome = true)
    (hg : ∀ x, VR w κ h clk (ev g (cv x)) (ρ x))
    (hk : slcF h esz (ev g (cv x)) ((lo.map cv).map (ev g)) ((hi.map cv).map (ev g)) ((mx.map cv).map (ev g)) = some (p, v)) (hp : p) : Gives P (Instr.sliceAt t (ρ x) (lo.map ρ) (hi.map ρ) (mx.map ρ)) w κ h clk v := by
  have run : ∀ (a : Option Addr) (len cap l hh m : Nat), ρ x = .slice a len cap → (Instr.sliceBounds true len cap (lo.map ρ) (hi.map ρ) (mx.map ρ)).run P w = .ok (l, hh, m) w →
      (Instr.sliceAt t (ρ x) (lo.map ρ) (hi.map ρ) (mx.map ρ)).run P w = .ok (.slice (if m = l then a else a.map (·.add (l * esz))) (hh - l) (m - l)) w := by
    intro a len cap l hh m hx hb
    simp only [Instr.sliceAt, Sem.run_bind, und_run ht, Result.andThen, Instr.slice, hx, hb, sizeOf_run he, hz, Sem.run_pure]
  unfold slcF at hk
  split at hk
  · rename_i hx
    have e2 := hg x; rw [hx] at e2; have e3 := e2.of_nils
    cases hl : loN ((lo.map cv).map (ev g)) with
    | none => simp only [hl] at hk; cases hk
    | some l =>
      cases hh : hiN 0 ((hi.map cv).map (ev g)) with
      | none => simp only [hl, hh, Option.bind_some] at hk; cases hk
      | some m =>
        simp only [hl, hh, Option.bind_some, Option.some.injEq, Prod.mk.injEq] at hk; obtain ⟨rfl, rfl⟩ := hk
        obtain ⟨h0, h1, h2, h3⟩ := hp
        have hmx : mx = none := by cases mx <;> simp_all
        subst hmx
        have hb := bounds_run (P := P) (w := w) (isSlice := true) (len := 0) (cap := 0) (lo_val hg hl) (hi_val hg hh) h0 h1 (by omega)
        have := run none 0 0 l.toNat m.toNat 0 e3 hb
        refine ⟨_, this, ?_⟩
        rw [show l.toNat = 0 by omega, show m.toNat = 0 by omega]
        exact .ro _ _ .nils
  · rename_i z es hx
    have e2 := hg x; rw [hx] at e2; have e3 := e2.of_dat
    cases hl : loN ((lo.map cv).map (ev g)) with
    | none => simp only [hl] at hk; cases hk
    | some l =>
      cases hh : hiN es.length ((hi.map cv).map (ev g)) with
      | none => simp only [hl, hh, Option.bind_some] at hk; cases hk
      | some m =>
        simp only [hl, hh, Option.bind_some, Option.some.injEq, Prod.mk.injEq] at hk; obtain ⟨rfl, rfl⟩ := hk
        obtain ⟨h0, h1, h2, h3, rfl⟩ := hp
        have hmx : mx = none := by cases mx <;> simp_all
        subst hmx
        obtain ⟨a, rc, hv, hrc⟩ : ∃ a rc, ρ x = .slice a es.length rc ∧ es.length ≤ rc := by
          cases hr : ρ x <;> (rw [hr] at e3; cases e3)
          · exact ⟨_, _, rfl, Nat.zero_le _⟩
          · exact ⟨_, _, rfl, by assumption⟩
        have hb := bounds_run (P := P) (w := w) (isSlice := true) (len := es.length) (cap := rc) (lo_val hg hl) (hi_val hg hh) h0 h1 (by omega)
        refine ⟨_, run a es.length rc l.toNat m.toNat rc hv hb, .ro _ _ ?_⟩
        rw [hv] at e3
        have := Ro.cut (l := l.toNat) (hh := m.toNat) e3 (by omega) (by omega) (by omega)
        rw [show (m - l).toNat = m.toNat - l.toNat by omega]
        exact this
  · rename_i o ver off len cap hx
    have e2 := hg x; rw [hx] at e2
    cases hc : cur h o ver with
    | none => simp only [hc] at hk; cases hk
    | some ob =>
      have e3 := e2.of_sl hc
      simp only [hc, Option.bind_some] at hk
      cases hl : loN ((lo.map cv).map (ev g)) with
      | none => simp only [hl] at hk; cases hk
      | some l =>
        cases hh : hiN len ((hi.map cv).map (ev g)) with
        | none => simp only [hl, hh, Option.bind_some] at hk; cases hk
        | some m =>
          simp only [hl, hh, Option.bind_some] at hk
          have fin : ∀ (mm : Nat) (cap' : Option Nat), (∀ (a : Option Addr) (rc : Nat), ρ x = .slice a len rc → len ≤ rc → (mx = none ∧ mm = rc ∨ mx ≠ none ∧ mm ≤ rc) ∧
              (Instr.sliceBounds true len rc (lo.map ρ) (hi.map ρ) (mx.map ρ)).run P w = .ok (l.toNat, m.toNat, if mx = none then rc else mm) w) → True := fun _ _ _ => trivial
          clear fin
          cases mx with
          | none =>
            simp only [Option.map_none, Option.some.injEq, Prod.mk.injEq] at hk; obtain ⟨rfl, rfl⟩ := hk
            obtain ⟨hob, h0, h1, h2⟩ := hp
            obtain ⟨a, rc, hv, hrc⟩ := e3.slice
            have hmr : m.toNat ≤ rc := by
              rcases h2 with h2 | ⟨q2, q3⟩
              · omega
              · rcases e3 with ⟨h5, _, hcz⟩ | ⟨rc', _, hv', _, _, hck, hcn, _⟩
                · cases hcap : cap with
                  | none => have := hcz hcap; omega
                  | some k => exact absurd h5 (q3 k hcap).1
                · rw [hv'] at hv; cases hv
                  cases hcap : cap with
                  | none => have := hcn hcap; omega
                  | some k => have := hck k hcap; have := (q3 k hcap).2; omega
            have hb := bounds_run (P := P) (w := w) (isSlice := true) (len := len) (cap := rc) (lo_val hg hl) (hi_val hg hh) h0 h1 (by omega)
            refine ⟨_, run a len rc l.toNat m.toNat rc hv hb, .sl _ _ _ _ _ _ ⟨_, _, _, rfl⟩ e2.sl_lt fun ob' hc' => ?_⟩
            rw [hc] at hc'; cases hc'
            rcases e3 with ⟨rfl, ⟨a', ha'⟩, hcap⟩ | ⟨rc', hre, hv', hoff, hle, hck, hcn, hown⟩
            · rw [ha'] at hv; cases hv
              have h2' : m ≤ (0 : Nat) := by
                rcases h2 with h2 | ⟨q2, q3⟩
                · exact h2
                · cases hcc : cap with
                  | none => have := hcap hcc; omega
                  | some k => exact absurd rfl (q3 k hcc).1
              refine .inl ⟨by omega, ⟨_, by rw [if_pos (by omega)]; congr 1 <;> omega⟩, fun hn => ?_⟩
              have := hcap (by simpa using hn); omega
            · rw [hv'] at hv; cases hv
              have hme : off + m.toNat ≤ ob.es.length := by
                rcases h2 with h2 | ⟨q2, _⟩
                · omega
                · exact q2
              by_cases hml : rc = l.toNat
              · refine .inl ⟨by omega, ⟨_, by rw [if_pos hml]; congr 1 <;> omega⟩, fun hn => ?_⟩
                have := hcn (by simpa using hn); omega
              · refine .inr ⟨rc - l.toNat, hre, ?_, by omega, by omega, fun k hk' => ?_, fun hn => ?_, ?_⟩
                · rw [if_neg hml]
                  simp only [Option.map_some, Cfg.addr, addr_add, hob]
                  congr 1
                  · congr 2
                    rw [Nat.add_mul]; omega
                  · omega
                · cases cap with
                  | none => simp at hk'
                  | some c => simp at hk'; have := hck c rfl; omega
                · have := hcn (by simpa using hn); omega
                · exact hown.mono (Nat.add_le_add_left (Nat.mul_le_mul_right _ (by omega)) _)
          | some mo =>
            simp only [Option.map_some] at hk
            cases hm : hiN len (some (ev g (cv mo))) with
            | none => simp only [hm] at hk; cases hk
            | some mm =>
              simp only [hm, Option.bind_some, Option.some.injEq, Prod.mk.injEq] at hk; obtain ⟨rfl, rfl⟩ := hk
              obtain ⟨hob, h0, h1, h2, h3, h4⟩ := hp
              obtain ⟨a, rc, hv, hrc⟩ := e3.slice
              obtain ⟨km, hkm⟩ : ∃ k, ρ mo = .int k mm := by
                rcases hi_val (a := some mo) hg hm with ⟨h5, _⟩ | ⟨y, k, h5, h6⟩
                · cases h5
                · cases h5; exact ⟨k, h6⟩
              have hhi : ∃ x k, hi = some x ∧ ρ x = .int k m := by
                rcases hi_val hg hh with ⟨h5, _⟩ | h5
                · subst h5; simp at hmh
                · exact h5
              have hb := bounds_run3 (P := P) (w := w) (isSlice := true) (len := len) (cap := rc) (lo_val hg hl) hhi hkm h0 h1 h3 (by omega)
              refine ⟨_, run a len rc l.toNat m.toNat mm.toNat hv hb, .sl _ _ _ _ _ _ ⟨_, _, _, rfl⟩ e2.sl_lt fun ob' hc' => ?_⟩
              rw [hc] at hc'; cases hc'
              rcases e3 with ⟨rfl, ⟨a', ha'⟩, hcap⟩ | ⟨rc', hre, hv', hoff, hle, hck, hcn, hown⟩
              · rw [ha'] at hv; cases hv
                refine .inl ⟨by omega, ⟨_, by rw [if_pos (by omega)]; congr 1 <;> omega⟩, fun hn => by simp at hn⟩
              · rw [hv'] at hv; cases hv
                by_cases hml : mm.toNat = l.toNat
                · exact .inl ⟨by omega, ⟨_, by rw [if_pos hml]; congr 1 <;> omega⟩, fun hn => by simp at hn⟩
                · refine .inr ⟨mm.toNat - l.toNat, hre, ?_, by omega, by omega, fun k hk' => ?_, fun hn => by simp at hn, ?_⟩
                  · rw [if_neg hml]
                    simp only [Option.map_some, Cfg.addr, addr_add, hob]
                    congr 1
                    · congr 2
                      rw [Nat.add_mul]; omega
                    · omega
                  · simp at hk'; omega
                  · exact hown.mono (Nat.add_le_add_left (Nat.mul_le_mul_right _ (by omega)) _)
  · cases hk
end Go.AM
end
/-! Op6 -/
section
namespace Go.AM
variable {w : World} {κ : Cfg} {h : Heap} {clk : Nat} {P : Program}

/-- Cells that read so. -/
def Cells (w : World) (κ : Cfg) (h : Heap) (clk : Nat) (xs : List AV) (vs : Array Value) : Prop := xs.length = vs.size ∧ ∀ (j : Nat) x, xs[j]? = some x → VR w κ h clk x (vs.getD j Go.undef)

theorem VR.cells {x : AV} {v : Value} (hv : VR w κ h clk x v) (hs : x.cells.all AV.storable = true) : Cells w κ h clk x.cells v.cells := by
  have one : ∀ (y : AV) (u : Value), VR w κ h clk y u → (∀ cs, u ≠ .agg cs) → Cells w κ h clk [y] u.cells := by
    intro y u hy hu
    have : u.cells = #[u] := by
      cases u <;> first | rfl | exact absurd rfl (hu _)
    rw [this]
    refine ⟨rfl, fun j x hx => ?_⟩
    cases j with
    | zero => simp at hx; subst hx; exact hy
    | succ j => simp at hx
  cases x with
  | agg cs =>
    obtain ⟨vs, rfl, hl, hr⟩ := hv.of_agg
    exact ⟨hl, hr⟩
  | tup cs => simp [AV.cells, AV.storable] at hs
  | undef => simp [AV.cells, AV.storable] at hs
  | b t => have e := hv.of_b; subst e; exact one _ _ hv (by simp)
  | i k n => have e := hv.of_i; subst e; exact one _ _ hv (by simp)
  | s l => have e := hv.of_s; subst e; exact one _ _ hv (by simp)
  | nilp => have e := hv.of_nilp; subst e; exact one _ _ hv (by simp)
  | nils => have e := hv.of_nils; subst e; exact one _ _ hv (by simp)
  | nilf => have e := hv.of_nilf; subst e; exact one _ _ hv (by simp)
  | ptr o ver e c =>
    cases hv with
    | ro _ _ hr => cases hr
    | ptr _ _ _ _ _ hs hl hp => obtain ⟨a, rfl⟩ := hs; exact one _ _ (.ptr _ _ _ _ _ ⟨_, rfl⟩ hl hp) (by simp)
  | sl o ver off len cap =>
    cases hv with
    | ro _ _ hr => cases hr
    | sl _ _ _ _ _ _ hs hl hp => obtain ⟨a, l, c, rfl⟩ := hs; exact one _ _ (.sl _ _ _ _ _ _ ⟨_, _, _, rfl⟩ hl hp) (by simp)
  | dat z es => obtain ⟨a, rc, e⟩ := hv.of_dat.slice; subst e; exact one _ _ hv (by simp)
  | eptr cs c => obtain ⟨blk, off, val, e, _⟩ := hv.of_eptr; subst e; exact one _ _ hv (by simp)
  | fn f cs => obtain ⟨vs, e, _⟩ := hv.of_fn; subst e; exact one _ _ hv (by simp)

theorem foldl_set (vs : List Value) : ∀ (k : Nat) (cs : Array Value) (off : Nat), off + k + vs.length ≤ cs.size →
    ((vs.zipIdx k).foldl (fun cs (c, j) => cs.setIfInBounds (off + j) c) cs).size = cs.size ∧
    ∀ i, ((vs.zipIdx k).foldl (fun cs (c, j) => cs.setIfInBounds (off + j) c) cs).getD i Go.undef = if off + k ≤ i ∧ i < off + k + vs.length then vs.getD (i - (off + k)) Go.undef else cs.getD i Go.undef := by
  induction vs with
  | nil =>
    intro k cs off hl
    refine ⟨rfl, fun i => ?_⟩
    rw [if_neg (by intro hh; simp at hh; omega)]
    rfl
  | cons v r ih =>
    intro k cs off hl
    simp only [List.length_cons] at hl
    simp only [List.zipIdx_cons, List.foldl_cons]
    obtain ⟨h1, h2⟩ := ih (k + 1) (cs.setIfInBounds (off + k) v) off (by simp; omega)
    refine ⟨by rw [h1]; simp, fun i => ?_⟩
    rw [h2 i]
    simp only [List.length_cons]
    by_cases hi : off + (k + 1) ≤ i ∧ i < off + (k + 1) + r.length
    · rw [if_pos hi, if_pos (by omega)]
      rw [show i - (off + k) = (i - (off + (k + 1))) + 1 by omega]
      simp
    · rw [if_neg hi]
      by_cases hk : i = off + k
      · subst hk
        rw [if_pos (by omega)]
        have : off + k < cs.size := by omega
        simp [Array.getD_eq_getD_getElem?, Array.getElem?_setIfInBounds, this]
      · rw [if_neg (by omega)]
        simp [Array.getD_eq_getD_getElem?, Array.getElem?_setIfInBounds, show ¬ off + k = i from fun h => hk h.symm]

theorem fill_ok (place : Nat → Option (Nat × Nat)) (ρ : Operand → Value) : ∀ (ps : List (Nat × Operand)) (z : List AV) (cs : Array Value) (gs : List (Nat × Nat × AV)) (out : List AV),
    Cells w κ h clk z cs → gs.length = ps.length → (∀ (k : Nat) (i : Nat) (x : Operand), ps[k]? = some (i, x) → ∃ off n y, gs[k]? = some (off, n, y) ∧ place i = some (off, n) ∧ VR w κ h clk y (ρ x)) →
    fillA z (gs.map fun (off, n, x) => (off, n, x.cells)) = some out →
    ∃ cs', Instr.fill place cs (ps.map fun (i, x) => (i, ρ x)) = some cs' ∧ Cells w κ h clk out cs'
  | [], z, cs, gs, out, hz, hl, _, hf => by
    have : gs = [] := List.eq_nil_of_length_eq_zero hl
    subst this
    simp [fillA] at hf; subst hf
    exact ⟨cs, rfl, hz⟩
  | (i, x) :: ps, z, cs, gs, out, hz, hl, hp, hf => by
    obtain ⟨off, n, y, hg0, hpl, hv⟩ := hp 0 i x rfl
    cases gs with
    | nil => simp at hl
    | cons g0 gs =>
      simp at hg0; subst hg0
      simp only [List.map_cons, fillA] at hf
      split at hf
      · rename_i hc
        obtain ⟨h1, h2, h3⟩ := hc
        obtain ⟨hcl, hcr⟩ := hv.cells h3
        have hsz : (ρ x).cells.size = n := by rw [← hcl, h1]
        have hzl := hz.1
        have hfs := foldl_set (ρ x).cells.toList 0 cs off (by simp; omega)
        simp only [Nat.add_zero, Array.length_toList] at hfs
        have step : Cells w κ h clk (z.take off ++ y.cells ++ z.drop (off + n)) (((ρ x).cells.toList.zipIdx 0).foldl (fun cs (c, j) => cs.setIfInBounds (off + j) c) cs) := by
          refine ⟨by simp [hfs.1, h1]; omega, fun j u hu => ?_⟩
          rw [hfs.2 j]
          rw [List.append_assoc] at hu
          by_cases hj : j < off
          · rw [if_neg (by omega)]
            rw [List.getElem?_append_left (by simp; omega), List.getElem?_take, if_pos hj] at hu
            exact hz.2 j u hu
          · by_cases hj2 : j < off + n
            · rw [if_pos (by omega)]
              rw [List.getElem?_append_right (by simp; omega), List.getElem?_append_left (by simp; omega)] at hu
              have := hcr _ u hu
              have el : (List.take off z).length = off := by simp; omega
              rw [el] at this
              have et : (ρ x).cells.toList.getD (j - off) Go.undef = (ρ x).cells.getD (j - off) Go.undef := by simp [Array.getD_eq_getD_getElem?, List.getD]
              rw [et]; exact this
            · rw [if_neg (by omega)]
              rw [List.getElem?_append_right (by simp; omega), List.getElem?_append_right (by simp; omega), List.getElem?_drop] at hu
              have hidx : off + n + (j - (z.take off).length - y.cells.length) = j := by simp; omega
              rw [hidx] at hu
              exact hz.2 j u hu
        obtain ⟨cs', hf', hc'⟩ := fill_ok place ρ ps _ _ gs out step (by simpa using hl) (fun k i' x' hk => by simpa using hp (k + 1) i' x' (by simpa using hk)) hf
        refine ⟨cs', ?_, hc'⟩
        simp only [List.map_cons, Instr.fill, hpl]
        rw [if_neg (by simp [hsz]; omega)]
        have hzip : (ρ x).cells.zipIdx.foldl (fun cs (c, j) => cs.setIfInBounds (off + j) c) cs = ((ρ x).cells.toList.zipIdx 0).foldl (fun cs (c, j) => cs.setIfInBounds (off + j) c) cs := by
          rw [← Array.foldl_toList]; simp
        rw [hzip]; exact hf'
      · cases hf
end Go.AM
end
