/- Calls: the caller's side. No condition. -/
import Derived.Test.YtpiegccohgdkdaaAmEff7
import Derived.BigCall
set_option linter.all false
set_option linter.unusedSimpArgs false
set_option linter.unusedVariables false
set_option linter.deprecated false
namespace Go.AM
variable {w : World} {κ : Cfg} {h : Heap} {clk : Nat} {P : Program}

theorem idx_some : ∀ {os : List Rid} {o : Rid} {k : Nat}, os.idxOf? o = some k → os[k]? = some o
  | [], o, k, hk => by simp at hk
  | x :: r, o, k, hk => by
    rw [List.idxOf?_cons] at hk
    split at hk
    · rename_i hx; cases hk; simpa using hx
    · cases h1 : r.idxOf? o with
      | none => rw [h1] at hk; cases hk
      | some j =>
        rw [h1] at hk
        simp only [Option.map_some, Option.some.injEq] at hk; subst hk
        simpa using idx_some h1
theorem idx_none {os : List Rid} {o : Rid} (hk : os.idxOf? o = none) : o ∉ os := by simpa using hk
theorem idx_nodup {os : List Rid} (hn : os.Nodup) {o : Rid} {k : Nat} (hk : os[k]? = some o) : os.idxOf? o = some k := by
  cases h1 : os.idxOf? o with
  | none => exact absurd (List.mem_of_getElem? hk) (idx_none h1)
  | some j =>
    have h2 := idx_some h1
    obtain ⟨hj, h3⟩ := List.getElem?_eq_some_iff.1 h2
    obtain ⟨hk', h4⟩ := List.getElem?_eq_some_iff.1 hk
    rw [(List.getElem_inj hn).1 (h3.trans h4.symm)]

def objs (obs : List Ob) : Heap
  | .p k => obs[k]?
  | _ => none
theorem cur_objs {obs : List Ob} {o : Rid} {ob : Ob} (ho : objs obs o = some ob) : ∃ k, o = .p k ∧ obs[k]? = some ob := by
  cases o with
  | p k => exact ⟨k, rfl, ho⟩
  | l _ => cases ho
  | r _ _ => cases ho

/-- A result; the objects behind the n-th come back with it. -/
inductive Rs (w : World) (κ : Cfg) (obs : List Ob) (n : Nat) (X : Bs) : AV → Value → Prop
  | ro (x : AV) (v : Value) (hr : Ro w X x v) : Rs w κ obs n X x v
  | sl (k off len : Nat) (cap : Option Nat) (v : Value) (ob : Ob) (hn : n ≤ k) (ho : obs[k]? = some ob) (hs : SlOk w κ (.p k) ob off len cap v) : Rs w κ obs n X (.sl (.p k) 1 off len cap) v
  | ptr (k e c : Nat) (ob : Ob) (hn : n ≤ k) (ho : obs[k]? = some ob) : Rs w κ obs n X (.ptr (.p k) 1 e c) (.pointer (some (κ.addr (.p k) ob.esz e c)))
  | agg (cs : List AV) (vs : Array Value) (hl : cs.length = vs.size) (hr : ∀ (j : Nat) x, cs[j]? = some x → Rs w κ obs n X x (vs.getD j undef)) : Rs w κ obs n X (.agg cs) (.agg vs)
  | tup (cs : List AV) (vs : Array Value) (hl : cs.length = vs.size) (hr : ∀ (j : Nat) x, cs[j]? = some x → Rs w κ obs n X x (vs.getD j undef)) : Rs w κ obs n X (.tup cs) (.tuple vs)

/-- What a function does, as a contract says. -/
def Holds (P : Program) (fid : Nat) (args : List AV) (obs : List Ob) (own : Bool) (Φ : AV → List Ob → Prop) : Prop :=
  (∀ vs w, (callFunc fid vs).run P w = .ok (.enter fid vs) w) ∧
  ∀ (w : World) (κ : Cfg) (vs : Array Value) (P0 : Bs), HR w P0 w κ (objs obs) 1 → (∀ b, P0 b ↔ ∃ k ob, obs[k]? = some ob ∧ κ.foot (.p k) b) → vs.size = args.length →
    (∀ (j : Nat) x, args[j]? = some x → VR w κ (objs obs) 1 x (vs.getD j undef)) →
    Calls P fid vs w fun e w' => match e with
      | .returned v => ∃ r obs' κ' clk', Φ r obs' ∧ HR w P0 w' κ' (objs obs') clk' ∧ Ext w κ (objs obs) 1 w' κ' (objs obs') clk' ∧ (∀ (k : Nat) ob, obs'[k]? = some ob → k < obs.length → ob.ver = 0) ∧
          Rs w' κ' obs' obs.length (fun b => κ'.X (objs obs') w' b ∧ (own = true → w.heap.size ≤ b ∨ P0 b)) r v
      | _ => False

theorem pure_ro {X : Bs} {x : AV} {v : Value} (hp : x.pure = true) (hv : VR w κ h clk x v) (hX : ∀ b, κ.X h w b → X b) : Ro w X x v := by
  cases hv with
  | ro _ _ hr => exact hr.frame hX (fun _ _ => rfl)
  | _ => simp [AV.pure] at hp

section
variable {w0 : World} {P0 : Bs} {os : List Rid} {obs : List Ob}
theorem obs_len (hobs : os.map (fun o => (h o).map (fun b => { b with ver := 0, fixed := true })) = obs.map some) : obs.length = os.length := by have := congrArg List.length hobs; simpa using this.symm
theorem obs_get (hobs : os.map (fun o => (h o).map (fun b => { b with ver := 0, fixed := true })) = obs.map some) {k : Nat} {o : Rid} (hk : os[k]? = some o) : ∃ b, h o = some b ∧ obs[k]? = some { b with ver := 0, fixed := true } := by
  have h1 := congrArg (fun l => l[k]?) hobs
  simp only [List.getElem?_map, hk, Option.map_some] at h1
  cases h2 : h o with
  | none =>
    rw [h2] at h1
    cases h3 : obs[k]? with
    | none => rw [h3] at h1; cases h1
    | some x => rw [h3] at h1; cases h1
  | some b =>
    rw [h2] at h1
    refine ⟨b, rfl, ?_⟩
    cases h3 : obs[k]? with
    | none => rw [h3] at h1; cases h1
    | some x => rw [h3] at h1; simp only [Option.map_some, Option.some.injEq] at h1; rw [h1]
theorem obs_get' (hobs : os.map (fun o => (h o).map (fun b => { b with ver := 0, fixed := true })) = obs.map some) {k : Nat} {ob : Ob} (hk : obs[k]? = some ob) : ∃ o b, os[k]? = some o ∧ h o = some b ∧ ob = { b with ver := 0, fixed := true } := by
  have hl := obs_len hobs
  have hk' : k < os.length := by rw [← hl]; exact (List.getElem?_eq_some_iff.1 hk).1
  have ho := List.getElem?_eq_getElem hk'
  obtain ⟨b, h1, h2⟩ := obs_get hobs ho
  rw [hk] at h2
  exact ⟨_, b, ho, h1, Option.some.inj h2⟩
end

/-- The callee's view. -/
def Cfg.down (κ : Cfg) (os : List Rid) (A : Bs) : Cfg :=
  { ι := fun u => match u with | .p k => (os[k]?).elim (0, 0) κ.ι | _ => (0, 0)
    re := fun u => match u with | .p k => ∃ o, os[k]? = some o ∧ κ.re o | _ => False
    F := fun u e j b => match u with | .p k => ∃ o, os[k]? = some o ∧ κ.F o e j b | _ => False
    A := A }
theorem down_foot {os : List Rid} {A : Bs} {k : Nat} {o : Rid} (hk : os[k]? = some o) (b : Nat) : (κ.down os A).foot (.p k) b ↔ κ.foot o b := by
  unfold Cfg.foot Cfg.down
  simp only [hk, Option.elim, Option.some.injEq]
  constructor
  · rintro (⟨⟨_, rfl, h1⟩, h2⟩ | ⟨e, j, _, rfl, h1⟩)
    · exact .inl ⟨h1, h2⟩
    · exact .inr ⟨e, j, h1⟩
  · rintro (⟨h1, h2⟩ | ⟨e, j, h1⟩)
    · exact .inl ⟨⟨_, rfl, h1⟩, h2⟩
    · exact .inr ⟨e, j, _, rfl, h1⟩

def P0c (κ : Cfg) (os : List Rid) : Bs := fun b => ∃ (k : Nat) (o : Rid), os[k]? = some o ∧ κ.foot o b
def Ac (κ : Cfg) (h : Heap) (w : World) (os : List Rid) (own : Bool) : Bs := fun b => own = true ∨ κ.X h w b ∨ w.heap.size ≤ b ∨ P0c κ os b

section
variable {w0 : World} {P0 : Bs} {os : List Rid} {obs : List Ob} {own : Bool}

theorem X_down (H : HR w0 P0 w κ h clk) (hobs : os.map (fun o => (h o).map (fun b => { b with ver := 0, fixed := true })) = obs.map some) (b : Nat) (hb : κ.X h w b) : (κ.down os (Ac κ h w os own)).X (objs obs) w b := by
  refine ⟨hb.1, .inr (.inl hb), fun u ou hu hf => ?_⟩
  obtain ⟨k, rfl, hk⟩ := cur_objs hu
  obtain ⟨o, b', h1, h2, _⟩ := obs_get' hobs hk
  rw [down_foot h1] at hf
  exact hb.2.2 o b' h2 hf

theorem HR_down (H : HR w0 P0 w κ h clk) (hobs : os.map (fun o => (h o).map (fun b => { b with ver := 0, fixed := true })) = obs.map some) (hnd : os.Nodup) (hpure : ∀ b ∈ obs, Pure b.es) : HR w (P0c κ os) w (κ.down os (Ac κ h w os own)) (objs obs) 1 := by
  refine ⟨fun u ou hu => ?_, fun u u' ou ou' b hu hu' hne hf hf' => ?_, fun u ou b hu hf => ?_, ⟨rfl, fun _ => rfl⟩, rfl, rfl, Nat.le_refl _, fun _ _ _ => rfl, fun b hb => .inr (.inr hb)⟩
  · obtain ⟨k, rfl, hk⟩ := cur_objs hu
    obtain ⟨o, b, h1, h2, rfl⟩ := obs_get' hobs hk
    have R := H.ob o b h2
    have eι : (κ.down os (Ac κ h w os own)).ι (.p k) = κ.ι o := by simp [Cfg.down, h1]
    refine ⟨Nat.one_pos, R.esz, fun hne => ⟨⟨o, h1, (R.blk hne).1⟩, by rw [eι]; exact (R.blk hne).2⟩, fun e j x hx => ?_, fun e j b hb => ?_, fun e j e' j' b hb hb' => ?_⟩
    · obtain ⟨v, h3, h4⟩ := R.cells e j x hx
      have ea : (κ.down os (Ac κ h w os own)).addr (.p k) b.esz e j = κ.addr o b.esz e j := by simp [Cfg.addr, eι]
      refine ⟨v, by rw [← h3]; exact congrArg _ ea, ?_⟩
      have hpx : x.pure = true := by
        have := hpure _ (List.mem_of_getElem? hk)
        unfold cellOf at hx
        cases he : b.es[e]? with
        | none => rw [he] at hx; cases hx
        | some c => rw [he] at hx; exact this c (List.mem_of_getElem? he) x (List.mem_of_getElem? hx)
      cases x with
      | dat es => exact ⟨fun ho => (h4.1 ho).frame (fun b hb => ⟨o, h1, hb⟩) (fun _ _ => rfl), fun ho => (h4.2 ho).frame (X_down H hobs) (fun _ _ => rfl)⟩
      | b _ => exact .ro _ _ (pure_ro hpx h4 (X_down H hobs))
      | i _ _ => exact .ro _ _ (pure_ro hpx h4 (X_down H hobs))
      | s _ => exact .ro _ _ (pure_ro hpx h4 (X_down H hobs))
      | nilp => exact .ro _ _ (pure_ro hpx h4 (X_down H hobs))
      | nils => exact .ro _ _ (pure_ro hpx h4 (X_down H hobs))
      | nilf => exact .ro _ _ (pure_ro hpx h4 (X_down H hobs))
      | _ => simp [AV.pure] at hpx
    · obtain ⟨o', h5, h6⟩ := hb
      rw [h1] at h5; cases h5
      rw [eι]; exact R.sep e j b h6
    · obtain ⟨o1, h5, h6⟩ := hb
      obtain ⟨o2, h7, h8⟩ := hb'
      rw [h1] at h5 h7; cases h5; cases h7
      exact R.disj e j e' j' b h6 h8
  · obtain ⟨k, rfl, hk⟩ := cur_objs hu
    obtain ⟨k', rfl, hk'⟩ := cur_objs hu'
    obtain ⟨o, b1, h1, h2, _⟩ := obs_get' hobs hk
    obtain ⟨o', b2, h3, h4, _⟩ := obs_get' hobs hk'
    rw [down_foot h1] at hf; rw [down_foot h3] at hf'
    refine H.apart o o' b1 b2 b h2 h4 (fun he => hne ?_) hf hf'
    subst he
    have := idx_nodup hnd h1; rw [idx_nodup hnd h3] at this; cases this; rfl
  · obtain ⟨k, rfl, hk⟩ := cur_objs hu
    obtain ⟨o, b1, h1, h2, _⟩ := obs_get' hobs hk
    rw [down_foot h1] at hf
    exact ⟨.inr ⟨k, o, h1, hf⟩, (H.base o b1 b h2 hf).2⟩

/-- One value handed over. -/
theorem VR_down (H : HR w0 P0 w κ h clk) (hobs : os.map (fun o => (h o).map (fun b => { b with ver := 0, fixed := true })) = obs.map some) (hnd : os.Nodup) {x : AV} {v : Value} (hv : VR w κ h clk x v) (hx : match x with
    | .sl o v off len _ => match os.idxOf? o, cur h o v with
      | none, some ob => Pure ob.es ∧ off + len ≤ ob.es.length ∧ own = true
      | some _, some _ => True
      | _, none => False
    | .ptr o v _ _ => match os.idxOf? o, cur h o v with
      | some _, some _ => True
      | _, _ => False
    | c => c.pure = true) : VR w (κ.down os (Ac κ h w os own)) (objs obs) 1 (expA h os x) v := by
  cases x with
  | ptr o ver e c =>
    simp only at hx
    cases hi : os.idxOf? o with
    | none => rw [hi] at hx; exact hx.elim
    | some k =>
      cases hc : cur h o ver with
      | none => rw [hi, hc] at hx; exact hx.elim
      | some ob =>
        have hk := idx_some hi
        have e1 : expA h os (.ptr o ver e c) = .ptr (.p k) 0 e c := by simp only [expA, hi, hc]
        rw [e1]
        have hv1 := hv.of_ptr hc
        refine .ptr _ _ _ _ _ ⟨_, hv1⟩ Nat.one_pos fun ob' hc' => ?_
        obtain ⟨b, h1, h2⟩ := obs_get hobs hk
        obtain ⟨h3, _⟩ := cur_some hc'
        have h3' : obs[k]? = some ob' := h3
        rw [h2] at h3'; cases h3'
        have h4 := (cur_some hc).1
        rw [h1] at h4; cases h4
        rw [hv1]; simp [Cfg.addr, Cfg.down, hk]
  | sl o ver off len cap =>
    simp only at hx
    cases hc : cur h o ver with
    | none => rw [hc] at hx; cases hi : os.idxOf? o <;> (rw [hi] at hx; exact hx.elim)
    | some ob =>
      have hs := hv.of_sl hc
      cases hi : os.idxOf? o with
      | some k =>
        have hk := idx_some hi
        have e1 : expA h os (.sl o ver off len cap) = .sl (.p k) 0 off len cap := by simp only [expA, hi, hc]
        rw [e1]
        obtain ⟨a, rc, hsl, _⟩ := hs.slice
        refine .sl _ _ _ _ _ _ ⟨_, _, _, hsl⟩ Nat.one_pos fun ob' hc' => ?_
        obtain ⟨b, h1, h2⟩ := obs_get hobs hk
        obtain ⟨h3, _⟩ := cur_some hc'
        have h3' : obs[k]? = some ob' := h3
        rw [h2] at h3'; cases h3'
        have h4 := (cur_some hc).1
        rw [h1] at h4; cases h4
        have eι : (κ.down os (Ac κ h w os own)).ι (.p k) = κ.ι o := by simp [Cfg.down, hk]
        rcases hs with ⟨q1, q2, q3⟩ | ⟨rc, q1, q2, q3, q4, q5, q6, q7⟩
        · exact .inl ⟨q1, q2, q3⟩
        · refine .inr ⟨rc, ⟨o, hk, q1⟩, ?_, q3, q4, q5, q6, by rw [eι]; exact q7⟩
          rw [q2]; simp [Cfg.addr, eι]
      | none =>
        rw [hi, hc] at hx
        obtain ⟨hp, hl, hown⟩ := hx
        have e1 : expA h os (.sl o ver off len cap) = .dat (sub ob.es off len) := by simp only [expA, hi, hc]
        rw [e1]
        have ho := (cur_some hc).1
        have R := H.ob o ob ho
        have hfoot : ∀ b, κ.foot o b → (κ.down os (Ac κ h w os own)).X (objs obs) w b := fun b hb => by
          refine ⟨(H.base o ob b ho hb).2, .inl hown, fun u ou hu hf => ?_⟩
          obtain ⟨k, rfl, hk⟩ := cur_objs hu
          obtain ⟨o', b1, h1, h2, _⟩ := obs_get' hobs hk
          rw [down_foot h1] at hf
          exact H.apart o o' ob b1 b ho h2 (fun he => idx_none hi (by rw [he]; exact List.mem_of_getElem? h1)) hb hf
        rcases hs with ⟨rfl, ⟨a, rfl⟩, _⟩ | ⟨rc, hre, rfl, hoff, hle, _⟩
        · rw [sub_zero (by omega)]; exact .ro _ _ (.dat0 a 0)
        · have hsl := sub_length hoff
          have key : ∀ e j x, cellOf (sub ob.es off len) e j = some x → ∃ u, w.cell? (κ.addr o ob.esz (off + e) j) = some u ∧ Ro w ((κ.down os (Ac κ h w os own)).X (objs obs) w) x u := by
            intro e j x hxc
            obtain ⟨_, h2⟩ := sub_cell hoff hxc
            obtain ⟨u, h3, h4⟩ := R.cells _ _ _ h2
            refine ⟨u, h3, ?_⟩
            have hpx : x.pure = true := by
              unfold cellOf at h2
              cases he : ob.es[off + e]? with
              | none => rw [he] at h2; cases h2
              | some c => rw [he] at h2; exact hp c (List.mem_of_getElem? he) x (List.mem_of_getElem? h2)
            cases x with
            | dat es =>
              by_cases ho' : ob.own
              · exact (h4.1 ho').ro fun b hb => hfoot b (.inr ⟨_, _, hb⟩)
              · exact (h4.2 ho').frame (X_down H hobs) (fun _ _ => rfl)
            | b _ => exact pure_ro hpx h4 (X_down H hobs)
            | i _ _ => exact pure_ro hpx h4 (X_down H hobs)
            | s _ => exact pure_ro hpx h4 (X_down H hobs)
            | nilp => exact pure_ro hpx h4 (X_down H hobs)
            | nils => exact pure_ro hpx h4 (X_down H hobs)
            | nilf => exact pure_ro hpx h4 (X_down H hobs)
            | _ => simp [AV.pure] at hpx
          have := Ro.dat (w := w) (X := (κ.down os (Ac κ h w os own)).X (objs obs) w) (sub ob.es off len) (κ.ι o).1 ((κ.ι o).2 + off * ob.esz) rc ob.esz (fun e j => (w.cell? (κ.addr o ob.esz (off + e) j)).getD Go.undef)
            (hfoot _ (.inl ⟨hre, rfl⟩)) (by rw [hsl]; exact hle) (fun e he => R.esz e (sub_mem he))
            (fun e j x hxc => by
              obtain ⟨u, h3, _⟩ := key e j x hxc
              rw [h3]
              show _ = some u
              rw [← h3, Cfg.addr]; congr 2
              rw [Nat.add_mul]; omega)
            (fun e j x hxc => by
              obtain ⟨u, h3, h4⟩ := key e j x hxc
              rw [h3]; exact h4)
          rw [hsl] at this
          refine .ro _ _ ?_
          simpa [Cfg.addr] using this
  | b _ => exact .ro _ _ (pure_ro hx hv (X_down H hobs))
  | i _ _ => exact .ro _ _ (pure_ro hx hv (X_down H hobs))
  | s _ => exact .ro _ _ (pure_ro hx hv (X_down H hobs))
  | nilp => exact .ro _ _ (pure_ro hx hv (X_down H hobs))
  | nils => exact .ro _ _ (pure_ro hx hv (X_down H hobs))
  | nilf => exact .ro _ _ (pure_ro hx hv (X_down H hobs))
  | dat _ => exact .ro _ _ (pure_ro hx hv (X_down H hobs))
  | _ => simp [AV.pure] at hx
end
end Go.AM
