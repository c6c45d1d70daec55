/- One operation's soundness. No condition. -/
import Derived.Test.YtpiegccohgdkdaaAmCode1
set_option linter.all false
set_option linter.unusedSimpArgs false
set_option linter.unusedVariables false
set_option linter.deprecated false
namespace Go.AM
variable {P : Program} {I : Ini} {g : Slots} {h : Heap} {clk : Nat} {a : Act} {w : World}

def ConOk (P : Program) (C : Con) : Prop := ∀ fid args obs own Φ, C fid args obs own Φ → Holds P fid args obs own Φ

theorem kop_ok {C : Con} (hC : ConOk P C) {o : Oper} {Q : Post} {K : Act → World → Prop} {QQ : Exit → Act → World → Prop} (R : Rel I g h clk a w) (hd : o.dst.all (· < I.n) = true)
    (hk : kop C o.dst (co P o.op) Q g h clk) (hK : Lands C I Q K) : o.wp P a w K QQ := by
  obtain ⟨κ, H, E, hg⟩ := R.st
  have hev : ∀ x, VR w κ h clk (ev g (cv x)) (a.eval x) := ev_ok hg
  have plain : (∃ p v, kv h g (co P o.op) = some (p, v) ∧ p ∧ Q (updO g o.dst v) h clk) → o.wp P a w K QQ := by
    rintro ⟨p, v, h1, h2, h3⟩
    obtain ⟨u, h4, h5⟩ := kv_ok H.ob hg h1 h2
    unfold Oper.wp
    rw [h4]
    exact hK _ _ _ _ _ h3 (R.put H E hg h5 hd)
  cases hco : co P o.op with
  | alloc cs =>
    rw [hco] at hk
    obtain ⟨t, p, v, h', c', hdt, hke, hp, hq⟩ := hk
    obtain ⟨ty, hop, hz, rfl⟩ := inv_alloc hco
    simp only [ke, allocF, Option.some.injEq, Prod.mk.injEq] at hke; obtain ⟨_, rfl, rfl, rfl⟩ := hke
    obtain ⟨z, hzr, hzc⟩ := zeroT_ok (w := w) (κ := κ) (h := h) (clk := clk) hz
    obtain ⟨u, w', κ', hr, hm⟩ := alloc_ok (P := P) (t := ty) (d := t) H hzc zeroT_cells
    have hm2 : Makes P I.w I.P0 (Instr.alloc ty true (.tuple #[])) w κ h clk _ _ _ := ⟨u, w', κ', by
      simp only [Instr.alloc, Sem.run_bind, hzr, Result.andThen]
      exact hr, hm⟩
    refine land_makes C R E hg hd hm2 ?_ (by rw [hdt]; exact hq) hK
    obtain ⟨dst, op, ty', pos, af, gd⟩ := o; simp only at hop; subst hop; rfl
  | box x =>
    rw [hco] at hk
    obtain ⟨t, p, v, h', c', hdt, hke, hp, hq⟩ := hk
    obtain ⟨ty, y, hop, rfl⟩ := inv_box hco
    simp only [ke, boxF, Option.some.injEq, Prod.mk.injEq] at hke; obtain ⟨rfl, rfl, rfl, rfl⟩ := hke
    have hm := alloc_ok (P := P) (t := ty) (d := t) H ((hev y).cells hp) (fun x hx => .inl (List.all_eq_true.1 hp x hx))
    refine land_makes (s := Instr.box ty (a.eval y)) C R E hg hd hm ?_ (by rw [hdt]; exact hq) hK
    obtain ⟨dst, op, ty', pos, af, gd⟩ := o; simp only at hop; subst hop; rfl
  | bslice esz n z ps =>
    rw [hco] at hk
    obtain ⟨t, p, v, h', c', hdt, hke, hp, hq⟩ := hk
    obtain ⟨ty, e, qs, hop, he, hz, rfl, rfl, rfl⟩ := inv_bsl hco
    have hm := bsl_ok (P := P) (t := ty) (e := e) (d := t) (n := n) (esz := P.cellsOf e) (ps := qs) (g := g) (ρ := a.eval) H (elemT_eq he).1 (elemT_eq he).2 hz rfl hev hke hp
    refine land_makes C R E hg hd hm ?_ (by rw [hdt]; exact hq) hK
    obtain ⟨dst, op, ty', pos, af, gd⟩ := o; simp only at hop; subst hop; rfl
  | mks esz bytes z l c =>
    rw [hco] at hk
    obtain ⟨t, p, v, h', c', hdt, hke, hp, hq⟩ := hk
    obtain ⟨ty, e, x, y, hop, he, hz, rfl, rfl, rfl, rfl, rfl⟩ := inv_mks hco
    have hm := mks_ok (P := P) (t := ty) (e := e) (d := t) (esz := P.cellsOf e) H (elemT_eq he).1 (elemT_eq he).2 hz rfl (hev x) (hev y) hke hp
    refine land_makes C R E hg hd hm ?_ (by rw [hdt]; exact hq) hK
    obtain ⟨dst, op, ty', pos, af, gd⟩ := o; simp only at hop; subst hop; rfl
  | store n x v =>
    rw [hco] at hk
    obtain ⟨p, h', hs, hp, hq⟩ := hk
    obtain ⟨ty, y, u, hop, hi, rfl, rfl, rfl⟩ := inv_store hco
    obtain ⟨ad, w', κ', hva, hr, H', E'⟩ := store_ok (P := P) (t := ty) H hi rfl (hev y) (hev u) hs hp
    unfold Oper.wp
    have hx : (execOp a.eval o).run P w = .ok .skip w' := by
      obtain ⟨dst, op, ty', pos, af, gd⟩ := o; simp only at hop; subst hop
      simp only [execOp, Instr.storeAt, Instr.sureAddr, Sem.run_bind, hva, Sem.run_pure, Result.andThen, hr]
    rw [hx]
    exact hK _ _ _ _ _ hq (R.put H' (E.trans E') (fun t => (hg t).ext E') (.undef _) hd)
  | app esz bytes z s x =>
    rw [hco] at hk
    obtain ⟨t, p, v, h', c', hdt, hke, hp, hq⟩ := hk
    obtain ⟨e, st, xt, y, u, ys, hop, rfl, he, hz, hzl, htx, rfl, rfl, rfl, rfl⟩ := inv_app hco
    obtain ⟨dst, op, ty', pos, af, gd⟩ := o; simp only at hop; subst hop
    have hm := app_ok (P := P) (t := st) (tx := xt) (ty := ty') (e := e) (d := t) H (elemT_eq he).1 (elemT_eq he).2 hz hzl htx rfl rfl (hev y) (hev u) hke hp
    refine land_makes C R E hg hd hm ?_ (by simp only at hdt; rw [hdt]; exact hq) hK
    rw [BigFrame.execOp_builtin, BigFrame.builtin_append]; simp
  | call f xs =>
    rw [hco] at hk
    obtain ⟨x, ys, ats, hop, rfl, rfl⟩ := inv_call hco
    obtain ⟨dst, op, ty', pos, af, gd⟩ := o; simp only at hop; subst hop
    obtain ⟨fid, vs, h1, h2⟩ := call_ok hC H hev hk dst ats ty' pos af gd
    unfold Oper.wp
    rw [h1]
    refine Calls.mono h2 fun e w' he => ?_
    cases e with
    | returned v =>
      obtain ⟨κ', h', clk', r, H', E', hv, hq⟩ := he
      exact hK _ _ _ _ _ hq (R.put H' (E.trans E') (fun t => (hg t).ext E') hv hd)
    | panicked _ => exact he.elim
    | outgrown => exact he.elim
  | call0 f xs => exact (inv_call0 hco).elim
  | callh f xs => exact (inv_callh hco).elim
  | _ => rw [hco] at hk plain; exact plain hk
end Go.AM
