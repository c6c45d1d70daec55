/- A call. No condition. -/
import Derived.Test.YtpiegccohgdkdaaAmCall2
set_option linter.all false
set_option linter.unusedSimpArgs false
set_option linter.unusedVariables false
set_option linter.deprecated false
namespace Go.AM
variable {w : World} {κ : Cfg} {h : Heap} {clk : Nat} {P : Program}

theorem expL_get {os : List Rid} : ∀ (l : List AV) (j : Nat), (expL h os l)[j]? = (l[j]?).map (expA h os)
  | [], j => by simp [expL]
  | x :: r, 0 => by simp [expL]
  | x :: r, j + 1 => by simp [expL, expL_get r j]
theorem expL_len {os : List Rid} : ∀ (l : List AV), (expL h os l).length = l.length
  | [] => by simp [expL]
  | x :: r => by simp [expL, expL_len r]

section
variable {w0 : World} {P0 : Bs} {os : List Rid} {obs : List Ob} {own : Bool}

theorem arg_down (H : HR w0 P0 w κ h clk) (hobs : os.map (fun o => (h o).map (fun b => { b with ver := 0, fixed := true })) = obs.map some) (hnd : os.Nodup) {a : AV} {v : Value} (hv : VR w κ h clk a v) (he : ExpOk h os a) (ho : own = true ∨ a.rooted = false) : VR w (κ.down os (Ac κ h w os own)) (objs obs) 1 (expA h os a) v := by
  have one : ∀ {x : AV} {u : Value}, VR w κ h clk x u → (match x with
      | .sl o v off len _ => match os.idxOf? o, cur h o v with
        | none, some ob => Pure ob.es ∧ off + len ≤ ob.es.length
        | some _, some _ => True
        | _, none => False
      | .ptr o v _ _ => match os.idxOf? o, cur h o v with
        | some _, some _ => True
        | _, _ => False
      | c => c.pure = true) → own = true → VR w (κ.down os (Ac κ h w os own)) (objs obs) 1 (expA h os x) u := by
    intro x u hx hy hown
    refine VR_down H hobs hnd hx ?_
    cases x with
    | sl o v off len cap =>
      simp only at hy ⊢
      cases hi : os.idxOf? o <;> cases hc : cur h o v <;> rw [hi, hc] at hy <;> simp only at hy ⊢
      · exact ⟨hy.1, hy.2, hown⟩
    | ptr o v e c => exact hy
    | _ => exact hy
  have list : ∀ (cs : List AV) (vs : Array Value), own = true → (∀ c ∈ cs, match c with
      | .sl o v off len _ => match os.idxOf? o, cur h o v with
        | none, some ob => Pure ob.es ∧ off + len ≤ ob.es.length
        | some _, some _ => True
        | _, none => False
      | .ptr o v _ _ => match os.idxOf? o, cur h o v with
        | some _, some _ => True
        | _, _ => False
      | c => c.pure = true) → (∀ (j : Nat) x, cs[j]? = some x → VR w κ h clk x (vs.getD j Go.undef)) → ∀ (j : Nat) x, (expL h os cs)[j]? = some x → VR w (κ.down os (Ac κ h w os own)) (objs obs) 1 x (vs.getD j Go.undef) := by
    intro cs vs hown hc hr j x hx
    rw [expL_get] at hx
    cases hy : cs[j]? with
    | none => rw [hy] at hx; cases hx
    | some y =>
      rw [hy] at hx
      simp only [Option.map_some, Option.some.injEq] at hx; subst hx
      exact one (hr j y hy) (hc y (List.mem_of_getElem? hy)) hown
  cases a with
  | sl o v off len cap =>
    have hown : own = true := by rcases ho with h1 | h1
                                 · exact h1
                                 · simp [AV.rooted] at h1
    exact one hv he hown
  | ptr o v e c => exact VR_down H hobs hnd hv he
  | agg cs =>
    have hown : own = true := by rcases ho with h1 | h1
                                 · exact h1
                                 · simp [AV.rooted] at h1
    obtain ⟨vs, rfl, hl, hr⟩ := hv.of_agg
    rw [expA]
    exact .agg _ _ (by rw [expL_len]; exact hl) (list cs vs hown he hr)
  | tup cs =>
    have hown : own = true := by rcases ho with h1 | h1
                                 · exact h1
                                 · simp [AV.rooted] at h1
    obtain ⟨vs, rfl, hl, hr⟩ := hv.of_tup
    rw [expA]
    exact .tup _ _ (by rw [expL_len]; exact hl) (list cs vs hown he hr)
  | fn f cs =>
    have hown : own = true := by rcases ho with h1 | h1
                                 · exact h1
                                 · simp [AV.rooted] at h1
    obtain ⟨vs, rfl, hl, hr⟩ := hv.of_fn
    rw [expA]
    exact .fn _ _ _ (by rw [expL_len]; exact hl) (list cs vs hown he hr)
  | b _ => exact VR_down H hobs hnd hv he
  | i _ _ => exact VR_down H hobs hnd hv he
  | s _ => exact VR_down H hobs hnd hv he
  | nilp => exact VR_down H hobs hnd hv he
  | nils => exact VR_down H hobs hnd hv he
  | nilf => exact VR_down H hobs hnd hv he
  | undef => exact VR_down H hobs hnd hv he
  | dat _ => exact VR_down H hobs hnd hv he
  | eptr _ _ => exact VR_down H hobs hnd hv he
end

theorem execOp_callv {ρ : Operand → Value} {x : Operand} {f : FuncId} {capt : Array Value} (hx : ρ x = .func (.func f) #[] capt) (dst : Option Tmp) (xs : Array Operand) (ats : Array TypeId) (ty : TypeId) (pos : String) (after : Array Edge) (guard : Option (Nat × Bool)) :
    execOp ρ { dst, op := .call { callee := .value x, args := xs, argTypes := ats }, type := ty, pos, after, guard } = callFunc f (#[] ++ xs.map ρ ++ capt) := by
  unfold execOp resolve
  simp only [hx]
  rfl

theorem call_ok {w0 : World} {P0 : Bs} {C : Con} (hC : ∀ fid args obs own Φ, C fid args obs own Φ → Holds P fid args obs own Φ) (H : HR w0 P0 w κ h clk) {g : Slots} {ρ : Operand → Value}
    (hg : ∀ x, VR w κ h clk (ev g (cv x)) (ρ x)) {f : Operand} {xs : Array Operand} {d : Option Nat} {Q : Post} (hk : kcall C d (ev g (cv f)) ((xs.toList.map cv).map (ev g)) Q g h clk)
    (dst : Option Tmp) (ats : Array TypeId) (ty : TypeId) (pos : String) (after : Array Edge) (guard : Option (Nat × Bool)) :
    ∃ fid vs, (execOp ρ { dst, op := .call { callee := .value f, args := xs, argTypes := ats }, type := ty, pos, after, guard }).run P w = .ok (.enter fid vs) w ∧
      Calls P fid vs w (fun e w' => match e with
        | .returned v => ∃ κ' h' clk' r, HR w0 P0 w' κ' h' clk' ∧ Ext w κ h clk w' κ' h' clk' ∧ VR w' κ' h' clk' r v ∧ Q (updO g d r) h' clk'
        | _ => False) := by
  obtain ⟨fid, capt, hf, os, obs, own, Φ, hc, hobs, hnd, hexp, hp, hroot, hrest⟩ := hk
  have hfv := hg f
  rw [hf] at hfv
  obtain ⟨cvs, hfe, hcl, hcr⟩ := hfv.of_fn
  obtain ⟨hcall, hsum⟩ := hC _ _ _ _ _ hc
  refine ⟨fid, #[] ++ xs.map ρ ++ cvs, by rw [execOp_callv hfe]; exact hcall _ _, ?_⟩
  have hvr : ∀ (j : Nat) x, (((xs.toList.map cv).map (ev g)) ++ capt)[j]? = some x → VR w κ h clk x ((#[] ++ xs.map ρ ++ cvs).getD j Go.undef) := by
    intro j x hx
    have e1 : (#[] ++ xs.map ρ ++ cvs) = xs.map ρ ++ cvs := by simp
    rw [e1]
    by_cases hj : j < xs.size
    · rw [List.getElem?_append_left (by simpa using hj)] at hx
      simp only [List.getElem?_map, Array.getElem?_toList, Option.map_eq_some_iff] at hx
      obtain ⟨_, ⟨y, hy, rfl⟩, rfl⟩ := hx
      rw [Array.getD_eq_getD_getElem?, Array.getElem?_append_left (by simpa using hj)]
      simp only [Array.getElem?_map, hy, Option.map_some, Option.getD_some]
      exact hg y
    · rw [List.getElem?_append_right (by simpa using hj)] at hx
      have e2 : ((xs.toList.map cv).map (ev g)).length = xs.size := by simp
      rw [e2] at hx
      have := hcr _ _ hx
      rw [Array.getD_eq_getD_getElem?, Array.getElem?_append_right (by simpa using hj)]
      rw [Array.getD_eq_getD_getElem?] at this
      simpa using this
  have hS := hsum w (κ.down os (Ac κ h w os own)) (#[] ++ xs.map ρ ++ cvs) (P0c κ os) (HR_down H hobs hnd hp)
    (fun b => by
      constructor
      · rintro ⟨k, o, h1, h2⟩
        obtain ⟨b', h3, h4⟩ := obs_get hobs h1
        exact ⟨k, _, h4, (down_foot h1 b).2 h2⟩
      · rintro ⟨k, ob, h1, h2⟩
        obtain ⟨o, b', h3, h4, _⟩ := obs_get' hobs h1
        exact ⟨k, o, h3, (down_foot h3 b).1 h2⟩)
    (by rw [expL_len, List.length_append, hcl]; simp)
    (fun j x hx => by
      rw [expL_get] at hx
      cases hy : (((xs.toList.map cv).map (ev g)) ++ capt)[j]? with
      | none => rw [hy] at hx; cases hx
      | some y =>
        rw [hy] at hx
        simp only [Option.map_some, Option.some.injEq] at hx; subst hx
        have hm := List.mem_of_getElem? hy
        exact arg_down H hobs hnd (hvr j y hy) (hexp y hm) (hroot.imp id (fun h1 => h1 y hm)))
  refine Calls.mono hS fun e w' he => ?_
  cases e with
  | panicked _ => exact he
  | outgrown => exact he
  | returned v =>
    obtain ⟨r, obs', κ', clk', hΦ, H', E', hv0, hr⟩ := he
    obtain ⟨hlen, hp', hown, hq⟩ := hrest r obs' hΦ
    rw [obs_len hobs] at hr
    refine ⟨_, _, _, _, HR_up H hobs hnd H' E' hv0 hp' hown, Ext_up H hobs hnd H' E' hv0 hp' hown, Rs.up (fun b hb => ?_) hr, hq⟩
    cases ho : own with
    | true => exact X_up' H hobs H' hb.1 (hb.2 ho)
    | false => exact X_up2 H hobs H' E' ho hb.1
end Go.AM
