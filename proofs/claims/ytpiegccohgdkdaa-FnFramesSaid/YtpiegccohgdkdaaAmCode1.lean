/- One operation. No condition. -/
import Derived.Test.YtpiegccohgdkdaaAmCall3
set_option linter.all false
set_option linter.unusedSimpArgs false
set_option linter.unusedVariables false
set_option linter.deprecated false
namespace Go.AM
variable {P : Program}

structure Ini where
  w : World
  κ : Cfg
  h : Heap
  P0 : Bs
  n : Nat

structure Rel (I : Ini) (g : Slots) (h : Heap) (clk : Nat) (a : Act) (w : World) : Prop where
  df : a.defers = []
  sz : a.tmps.size = I.n
  st : ∃ κ, HR I.w I.P0 w κ h clk ∧ Ext I.w I.κ I.h 1 w κ h clk ∧ ∀ t, VR w κ h clk (g t) (a.tmps.getD t Go.undef)

variable {I : Ini} {g : Slots} {h : Heap} {clk : Nat} {a : Act} {w : World}

theorem Rel.put {w' : World} {κ' : Cfg} {h' : Heap} {clk' : Nat} {d : Option Nat} {v : AV} {u : Value} (R : Rel I g h clk a w) (H : HR I.w I.P0 w' κ' h' clk') (E : Ext I.w I.κ I.h 1 w' κ' h' clk')
    (hg : ∀ t, VR w' κ' h' clk' (g t) (a.tmps.getD t Go.undef)) (hv : VR w' κ' h' clk' v u) (hd : d.all (· < I.n) = true) : Rel I (updO g d v) h' clk' (a.put d u) w' := by
  cases d with
  | none => exact ⟨R.df, R.sz, κ', H, E, hg⟩
  | some t =>
    have ht : t < a.tmps.size := by rw [R.sz]; simpa using hd
    refine ⟨R.df, by simp [Act.put, R.sz], κ', H, E, fun s => ?_⟩
    simp only [updO, upd]
    by_cases hs : s = t
    · subst hs
      simp only [if_true, Act.put]
      rw [Array.getD_eq_getD_getElem?, Array.getElem?_setIfInBounds_self_of_lt ht]
      exact hv
    · rw [if_neg hs]
      have := hg s
      rw [Array.getD_eq_getD_getElem?] at this ⊢
      simp only [Act.put]
      rw [Array.getElem?_setIfInBounds_ne (by omega)]
      exact this

/-- What an operation may end in. -/
def Lands (C : Con) (I : Ini) (Q : Post) (K : Act → World → Prop) : Prop := ∀ g h clk a w, Q g h clk → Rel I g h clk a w → K a w

theorem land_makes {s : Sem Value} {o : Oper} {K : Act → World → Prop} {QQ : Exit → Act → World → Prop} {Q : Post} {v : AV} {h' : Heap} {clk' : Nat} {κ : Cfg} (C : Con) (R : Rel I g h clk a w) (hE : Ext I.w I.κ I.h 1 w κ h clk) (hg : ∀ t, VR w κ h clk (g t) (a.tmps.getD t Go.undef)) (hd : o.dst.all (· < I.n) = true)
    (hm : Makes P I.w I.P0 s w κ h clk v h' clk') (he : execOp a.eval o = (do pure (.value (← s)))) (hq : Q (updO g o.dst v) h' clk') (hK : Lands C I Q K) : o.wp P a w K QQ := by
  obtain ⟨u, w', κ', hr, H', E', hv⟩ := hm
  unfold Oper.wp
  rw [he]
  simp only [Sem.run_bind, hr, Result.andThen, Sem.run_pure, Oper.upon]
  exact hK _ _ _ _ _ hq (R.put H' (hE.trans E') (fun t => (hg t).ext E') hv hd)

theorem notNone {α : Type} {x : Option α} (h : ¬ x.isNone = true) : x.isSome = true := by cases x <;> simp_all
theorem inv_alloc {op : Op} {cs : List AV} (hc : co P op = .alloc cs) : ∃ t, op = .alloc t ∧ ((P.info? t).bind (·.zero)).isSome = true ∧ cs = zeroT P t := by
  cases op <;> simp only [co, ccall, ceq] at hc
  case makeFunc f _ _ => cases f <;> simp only at hc <;> (repeat' split at hc) <;> cases hc
  case alloc t => split at hc
                  · cases hc; exact ⟨t, rfl, by assumption, rfl⟩
                  · cases hc
  all_goals (repeat' split at hc) <;> cases hc
theorem inv_box {op : Op} {x : KV} (hc : co P op = .box x) : ∃ t y, op = .box t y ∧ x = cv y := by
  cases op <;> simp only [co, ccall, ceq] at hc
  case makeFunc f _ _ => cases f <;> simp only at hc <;> (repeat' split at hc) <;> cases hc
  case box t y => cases hc; exact ⟨t, y, rfl, rfl⟩
  all_goals (repeat' split at hc) <;> cases hc
theorem inv_bsl {op : Op} {esz n : Nat} {z : List AV} {ps : List (Nat × KV)} (hc : co P op = .bslice esz n z ps) : ∃ t e qs, op = .buildSlice t n qs ∧ elemT P t = some e ∧ ((P.info? e).bind (·.zero)).isSome = true ∧ esz = P.cellsOf e ∧ z = zeroT P e ∧ ps = qs.toList.map fun (i, x) => (i, cv x) := by
  cases op <;> simp only [co, ccall, ceq] at hc
  case makeFunc f _ _ => cases f <;> simp only at hc <;> (repeat' split at hc) <;> cases hc
  case buildSlice t m qs =>
    split at hc
    · split at hc
      · cases hc
      · rename_i e he hz; cases hc
        exact ⟨t, e, qs, rfl, he, notNone hz, rfl, rfl, rfl⟩
    · cases hc
  all_goals (repeat' split at hc) <;> cases hc
theorem inv_mks {op : Op} {esz bytes : Nat} {z : List AV} {l c : KV} (hc : co P op = .mks esz bytes z l c) : ∃ t e x y, op = .makeSlice t x y ∧ elemT P t = some e ∧ ((P.info? e).bind (·.zero)).isSome = true ∧ esz = P.cellsOf e ∧ bytes = P.bytesOf e ∧ z = zeroT P e ∧ l = cv x ∧ c = cv y := by
  cases op <;> simp only [co, ccall, ceq] at hc
  case makeFunc f _ _ => cases f <;> simp only at hc <;> (repeat' split at hc) <;> cases hc
  case makeSlice t x y =>
    split at hc
    · split at hc
      · cases hc
      · rename_i e he hz; cases hc
        exact ⟨t, e, x, y, rfl, he, notNone hz, rfl, rfl, rfl, rfl, rfl⟩
    · cases hc
  all_goals (repeat' split at hc) <;> cases hc
theorem inv_store {op : Op} {n : Nat} {x v : KV} (hc : co P op = .store n x v) : ∃ t y u, op = .store t y u ∧ (P.info? t).isSome = true ∧ n = P.cellsOf t ∧ x = cv y ∧ v = cv u := by
  cases op <;> simp only [co, ccall, ceq] at hc
  case makeFunc f _ _ => cases f <;> simp only at hc <;> (repeat' split at hc) <;> cases hc
  case store t y u =>
    split at hc
    · cases hc; exact ⟨t, y, u, rfl, by assumption, rfl, rfl, rfl⟩
    · cases hc
  all_goals (repeat' split at hc) <;> cases hc
theorem inv_call {op : Op} {f : KV} {xs : List KV} (hc : co P op = .call f xs) : ∃ x ys ats, op = .call ⟨.value x, ys, ats⟩ ∧ f = cv x ∧ xs = ys.toList.map cv := by
  cases op <;> simp only [co, ceq] at hc
  case makeFunc f _ _ => cases f <;> simp only at hc <;> (repeat' split at hc) <;> cases hc
  case call c =>
    obtain ⟨cal, args, ats⟩ := c
    simp only [ccall] at hc
    cases cal <;> simp only at hc
    case value x => cases hc; exact ⟨x, args, ats, rfl, rfl, rfl⟩
    all_goals (repeat' split at hc) <;> cases hc
  all_goals (repeat' split at hc) <;> cases hc
theorem inv_call0 {op : Op} {f : KV} {xs : List KV} (hc : co P op = .call0 f xs) : False := by
  cases op <;> simp only [co, ccall, ceq] at hc
  case makeFunc f _ _ => cases f <;> simp only at hc <;> (repeat' split at hc) <;> cases hc
  all_goals (repeat' split at hc) <;> cases hc
theorem inv_callh {op : Op} {f : KV} {xs : List KV} (hc : co P op = .callh f xs) : False := by
  cases op <;> simp only [co, ccall, ceq] at hc
  case makeFunc f _ _ => cases f <;> simp only at hc <;> (repeat' split at hc) <;> cases hc
  all_goals (repeat' split at hc) <;> cases hc
theorem inv_app {op : Op} {esz bytes : Nat} {z : List AV} {s x : KV} (hc : co P op = .app esz bytes z s x) : ∃ e st xt y u ys, op = .call ⟨.builtin .append, ys, #[st, xt]⟩ ∧ ys = #[y, u] ∧ elemT P st = some e ∧ ((P.info? e).bind (·.zero)).isSome = true ∧ (zeroT P e).length = P.cellsOf e ∧
    (∃ e', P.underlying xt = some (.slice e') ∨ P.underlying xt = some .string) ∧ esz = P.cellsOf e ∧ bytes = P.bytesOf e ∧ s = cv y ∧ x = cv u := by
  cases op <;> simp only [co, ceq] at hc
  case makeFunc f _ _ => cases f <;> simp only at hc <;> (repeat' split at hc) <;> cases hc
  case call c =>
    obtain ⟨cal, args, ats⟩ := c
    simp only [ccall] at hc
    cases cal <;> simp only at hc
    case builtin b =>
      split at hc
      case h_3 s' x' st xt h1 h2 =>
        split at hc
        · rename_i e he
          split at hc
          · rename_i hz
            simp only [Bool.and_eq_true, Bool.or_eq_true, beq_iff_eq] at hz
            cases hc
            have hat : ats = #[st, xt] := by rw [← Array.toList_inj]; exact h2
            obtain ⟨y, u, hyu, hy, hu⟩ : ∃ y u, args = #[y, u] ∧ cv y = s ∧ cv u = x := by
              have hl : args.size = 2 := by have := congrArg List.length h1; simpa using this
              have e1 : args = #[args[0], args[1]] := by
                apply Array.ext <;> simp [hl]
                intro i h5
                rcases (by omega : i = 0 ∨ i = 1) with rfl | rfl <;> (intro _; rfl)
              refine ⟨args[0], args[1], e1, ?_, ?_⟩
              · rw [e1] at h1; simp at h1; exact h1.1
              · rw [e1] at h1; simp at h1; exact h1.2
            refine ⟨e, st, xt, y, u, args, by rw [hat], hyu, he, hz.1.1, hz.1.2, ?_, rfl, rfl, hy.symm, hu.symm⟩
            rcases hz.2 with h5 | h5
            · exact ⟨e, .inr (isStrT_eq h5)⟩
            · obtain ⟨e', h6⟩ := Option.isSome_iff_exists.1 h5
              exact ⟨e', .inl (elemT_eq h6).1⟩
          · cases hc
        · cases hc
      all_goals (repeat' split at hc) <;> cases hc
    all_goals (repeat' split at hc) <;> cases hc
  all_goals (repeat' split at hc) <;> cases hc
end Go.AM
