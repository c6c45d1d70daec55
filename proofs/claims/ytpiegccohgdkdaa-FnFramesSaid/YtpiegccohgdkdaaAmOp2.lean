/- Operations that read memory, or parts of values. No condition. -/
import Derived.Test.YtpiegccohgdkdaaAmOp1
set_option linter.all false
set_option linter.unusedSimpArgs false
set_option linter.unusedVariables false
set_option linter.deprecated false
namespace Go.AM
variable {w : World} {κ : Cfg} {h : Heap} {clk : Nat} {P : Program}

theorem cur_some {o : Rid} {v : Nat} {ob : Ob} (hc : cur h o v = some ob) : h o = some ob ∧ ob.ver = v := by
  unfold cur at hc
  split at hc
  · split at hc
    · cases hc; exact ⟨by assumption, by assumption⟩
    · cases hc
  · cases hc
theorem VR.of_ptr {o : Rid} {ver e c : Nat} {v : Value} {ob : Ob} (hv : VR w κ h clk (.ptr o ver e c) v) (hc : cur h o ver = some ob) : v = .pointer (some (κ.addr o ob.esz e c)) := by
  cases hv with
  | ro _ _ hr => cases hr
  | ptr _ _ _ _ _ _ _ hp => exact hp ob hc
theorem VR.of_sl {o : Rid} {ver off len : Nat} {cap : Option Nat} {v : Value} {ob : Ob} (hv : VR w κ h clk (.sl o ver off len cap) v) (hc : cur h o ver = some ob) : SlOk w κ o ob off len cap v := by
  cases hv with
  | ro _ _ hr => cases hr
  | sl _ _ _ _ _ _ _ _ hp => exact hp ob hc
theorem VR.ptr_lt {o : Rid} {ver e c : Nat} {v : Value} (hv : VR w κ h clk (.ptr o ver e c) v) : ver < clk := by
  cases hv with
  | ro _ _ hr => cases hr
  | ptr _ _ _ _ _ _ hp _ => exact hp
theorem VR.sl_lt {o : Rid} {ver off len : Nat} {cap : Option Nat} {v : Value} (hv : VR w κ h clk (.sl o ver off len cap) v) : ver < clk := by
  cases hv with
  | ro _ _ hr => cases hr
  | sl _ _ _ _ _ _ _ hp _ => exact hp
theorem VR.of_eptr {cells : List AV} {c : Nat} {v : Value} (hv : VR w κ h clk (.eptr cells c) v) : ∃ (blk off : Nat) (val : Nat → Value), v = .pointer (some (at_ blk (off + c))) ∧ κ.X h w blk ∧
    (∀ (j : Nat) x, cells[j]? = some x → w.cell? (at_ blk (off + j)) = some (val j)) ∧ (∀ (j : Nat) x, cells[j]? = some x → Ro w (κ.X h w) x (val j)) := by
  cases hv with
  | ro _ _ hr => cases hr
  | eptr _ _ blk off val hX hc hr => exact ⟨blk, off, val, rfl, hX, hc, hr⟩
theorem VR.of_agg {cs : List AV} {v : Value} (hv : VR w κ h clk (.agg cs) v) : ∃ vs, v = .agg vs ∧ cs.length = vs.size ∧ ∀ (j : Nat) x, cs[j]? = some x → VR w κ h clk x (vs.getD j Go.undef) := by
  cases hv with
  | ro _ _ hr => cases hr
  | agg _ vs hl hr => exact ⟨vs, rfl, hl, hr⟩
theorem VR.of_tup {cs : List AV} {v : Value} (hv : VR w κ h clk (.tup cs) v) : ∃ vs, v = .tuple vs ∧ cs.length = vs.size ∧ ∀ (j : Nat) x, cs[j]? = some x → VR w κ h clk x (vs.getD j Go.undef) := by
  cases hv with
  | ro _ _ hr => cases hr
  | tup _ vs hl hr => exact ⟨vs, rfl, hl, hr⟩
theorem VR.of_fn {f : Nat} {cs : List AV} {v : Value} (hv : VR w κ h clk (.fn f cs) v) : ∃ vs, v = .func (.func f) #[] vs ∧ cs.length = vs.size ∧ ∀ (j : Nat) x, cs[j]? = some x → VR w κ h clk x (vs.getD j Go.undef) := by
  cases hv with
  | ro _ _ hr => cases hr
  | fn _ _ vs hl hr => exact ⟨vs, rfl, hl, hr⟩

theorem pick_ok {a b c : AV} {va vb vc : Value} {p : Prop} {v : AV} (ha : VR w κ h clk a va) (hb : VR w κ h clk b vb) (hc : VR w κ h clk c vc)
    (hk : pickF a b c = some (p, v)) : Gives P (do pure (if ← asBool va then vb else vc)) w κ h clk v := by
  unfold pickF at hk
  split at hk
  · rename_i t
    have e1 := ha.of_b; subst e1
    simp only [yes, Option.some.injEq, Prod.mk.injEq] at hk; obtain ⟨_, rfl⟩ := hk
    refine ⟨if t then vb else vc, rfl, ?_⟩
    cases t
    · exact hc
    · exact hb
  · cases hk

theorem ext_ok {i : Nat} {a : AV} {va : Value} {p : Prop} {v : AV} (ha : VR w κ h clk a va) (hk : extF i a = some (p, v)) : Gives P (Instr.extract va i) w κ h clk v := by
  unfold extF at hk
  split at hk
  · rename_i cs
    obtain ⟨vs, rfl, hl, hr⟩ := ha.of_tup
    cases hx : cs[i]? with
    | none => rw [hx] at hk; cases hk
    | some x =>
      rw [hx] at hk
      simp only [Option.bind_some, yes, Option.some.injEq, Prod.mk.injEq] at hk; obtain ⟨_, rfl⟩ := hk
      have hi : i < vs.size := by rw [← hl]; exact (List.getElem?_eq_some_iff.1 hx).1
      refine ⟨vs.getD i Go.undef, ?_, hr i _ hx⟩
      simp [Instr.extract, Array.getElem?_eq_getElem hi, Array.getD_eq_getD_getElem?]
  · cases hk

theorem nilck_ok {x : Operand} {ρ : Operand → Value} {p : Prop} {v : AV} {a : AV} (ha : VR w κ h clk a (ρ x)) (hk : nilckF h a = some (p, v)) (dst : Option Tmp) (ty : TypeId) (pos : String) (af : Array Edge) (gd : Option (Nat × Bool)) :
    ∃ u, (execOp ρ ⟨dst, .nilCheck x, ty, pos, af, gd⟩).run P w = .ok (.value u) w ∧ VR w κ h clk v u := by
  unfold nilckF at hk
  split at hk
  · rename_i o ver e c
    cases hc : cur h o ver with
    | none => rw [hc] at hk; cases hk
    | some ob =>
      rw [hc] at hk
      simp only [Option.bind_some, yes, Option.some.injEq, Prod.mk.injEq] at hk; obtain ⟨_, rfl⟩ := hk
      have e1 := ha.of_ptr hc
      refine ⟨_, ?_, e1 ▸ ha⟩
      simp only [execOp, e1]; rfl
  · simp only [yes, Option.some.injEq, Prod.mk.injEq] at hk; obtain ⟨_, rfl⟩ := hk
    obtain ⟨blk, off, val, e1, _⟩ := ha.of_eptr
    refine ⟨_, ?_, e1 ▸ ha⟩
    simp only [execOp, e1]; rfl
  · simp only [yes, Option.some.injEq, Prod.mk.injEq] at hk; obtain ⟨_, rfl⟩ := hk
    obtain ⟨vs, e1, _⟩ := ha.of_fn
    refine ⟨_, ?_, e1 ▸ ha⟩
    simp only [execOp, e1]; rfl
  · cases hk

/-! ### Lengths, indexes -/
theorem SlOk.slice {o : Rid} {ob : Ob} {off len : Nat} {cap : Option Nat} {v : Value} (hs : SlOk w κ o ob off len cap v) : ∃ a rc, v = .slice a len rc ∧ len ≤ rc := by
  rcases hs with ⟨rfl, ⟨a, rfl⟩, _⟩ | ⟨rc, _, rfl, _, hl, _⟩
  · exact ⟨a, 0, rfl, Nat.le_refl _⟩
  · exact ⟨_, rc, rfl, hl⟩
theorem Ro.slice {X : Bs} {es : List (List AV)} {v : Value} (hr : Ro w X (.dat es) v) : ∃ a rc, v = .slice a es.length rc := by
  cases hr with
  | dat0 a cap => exact ⟨a, cap, rfl⟩
  | dat _ blk off cap _ _ _ hl => exact ⟨_, cap, rfl⟩

/-- The value of a slice or a text, and how long it is. -/
theorem len_val {str : Bool} {a : AV} {va : Value} {p : Prop} {v : AV} (ha : VR w κ h clk a va) (hk : lenF h str a = some (p, v)) :
    ∃ n : Nat, v = i64 n ∧ ((str = false ∧ ∃ b c, va = .slice b n c) ∨ (str = true ∧ ∃ l : List UInt8, l.length = n ∧ va = .string ⟨l.toArray⟩)) := by
  unfold lenF at hk
  split at hk
  · rename_i l
    split at hk
    · simp only [yes, Option.some.injEq, Prod.mk.injEq] at hk; obtain ⟨_, rfl⟩ := hk
      exact ⟨_, rfl, .inr ⟨rfl, l, rfl, ha.of_s⟩⟩
    · cases hk
  · split at hk
    · cases hk
    · simp only [yes, Option.some.injEq, Prod.mk.injEq] at hk; obtain ⟨_, rfl⟩ := hk
      exact ⟨0, rfl, .inl ⟨rfl, _, _, ha.of_nils⟩⟩
  · split at hk
    · cases hk
    · simp only [yes, Option.some.injEq, Prod.mk.injEq] at hk; obtain ⟨_, rfl⟩ := hk
      obtain ⟨b, c, e⟩ := ha.of_dat.slice
      exact ⟨_, rfl, .inl ⟨rfl, b, c, e⟩⟩
  · rename_i o ver off n cap
    split at hk
    · cases hk
    · cases hc : cur h o ver with
      | none => rw [hc] at hk; cases hk
      | some ob =>
        rw [hc] at hk
        simp only [Option.bind_some, yes, Option.some.injEq, Prod.mk.injEq] at hk; obtain ⟨_, rfl⟩ := hk
        obtain ⟨b, c, e, _⟩ := (ha.of_sl hc).slice
        exact ⟨_, rfl, .inl ⟨rfl, b, c, e⟩⟩
  · cases hk

theorem cellOf_some {es : List (List AV)} {e j : Nat} {x : AV} {cells : List AV} (h1 : es[e]? = some cells) (h2 : cells[j]? = some x) : cellOf es e j = some x := by simp [cellOf, h1, h2]
theorem addr_add {b o k : Nat} : (at_ b o).add k = at_ b (o + k) := by
  unfold Addr.add
  split
  · subst_vars; rfl
  · rfl

theorem idx_ok {esz : Nat} {t e : TypeId} {a i : AV} {va vi : Value} {p : Prop} {v : AV} (ht : P.underlying t = some (.slice e)) (he : (P.info? e).isSome = true) (hz : P.cellsOf e = esz)
    (ha : VR w κ h clk a va) (hi : VR w κ h clk i vi) (hk : idxF h esz a i = some (p, v)) (hp : p) : Gives P (Instr.indexAt t va vi) w κ h clk v := by
  obtain ⟨ie, hie⟩ := Option.isSome_iff_exists.1 he
  have hsz : (sizeOf e).run P w = .ok esz w := by rw [run_sizeOf w hie, hz]
  have key : ∀ (b : Addr) (len cap : Nat) (k : IntKind) (n : Int), 0 ≤ n → n < (len : Int) → (Instr.indexAt t (.slice (some b) len cap) (.int k n)).run P w = .ok (.pointer (some (b.add (n.toNat * esz)))) w := by
    intro b len cap k n h0 h1
    simp only [Instr.indexAt, asIntOf, Sem.run_bind, Sem.run_pure, Result.andThen, und_run ht]
    simp only [h0, h1, and_self, if_true, Sem.run_bind, hsz, Result.andThen, Sem.run_pure]
  unfold idxF at hk
  split at hk
  · rename_i es k n
    have e1 := hi.of_i; subst e1
    cases hx : es[n.toNat]? with
    | none => rw [hx] at hk; cases hk
    | some cells =>
      rw [hx] at hk
      simp only [Option.bind_some, Option.some.injEq, Prod.mk.injEq] at hk; obtain ⟨rfl, rfl⟩ := hk
      obtain ⟨h0, hcl⟩ := hp
      have hlt : n.toNat < es.length := (List.getElem?_eq_some_iff.1 hx).1
      cases ha.of_dat with
      | dat0 b cap => simp at hlt
      | dat _ blk off cap esz' val hX hl hzz hc hr =>
        have : esz' = esz := by rw [← hcl]; exact (hzz cells (List.mem_of_getElem? hx)).symm
        subst this
        refine ⟨_, key _ _ _ k n h0 (by omega), ?_⟩
        rw [addr_add]
        exact .eptr cells 0 blk (off + n.toNat * esz') (fun j => val n.toNat j) hX (fun j x hj => hc _ j x (cellOf_some hx hj)) (fun j x hj => hr _ j x (cellOf_some hx hj))
  · rename_i o ver off len cap k n
    have e1 := hi.of_i; subst e1
    cases hc : cur h o ver with
    | none => rw [hc] at hk; cases hk
    | some ob =>
      rw [hc] at hk
      simp only [Option.bind_some, Option.some.injEq, Prod.mk.injEq] at hk; obtain ⟨rfl, rfl⟩ := hk
      obtain ⟨hob, h0, hn⟩ := hp
      rcases ha.of_sl hc with ⟨rfl, _⟩ | ⟨rc, _, rfl, _⟩
      · omega
      · refine ⟨_, key _ _ _ k n h0 hn, .ptr _ _ _ _ _ ⟨_, rfl⟩ ha.sl_lt fun ob' hc' => ?_⟩
        rw [hc] at hc'; cases hc'
        rw [Cfg.addr, addr_add, Cfg.addr, hob]
        congr 3
        rw [Nat.add_mul]; omega
  · cases hk
end Go.AM
