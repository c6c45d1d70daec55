/- Calls: the caller's side. No condition. -/
import Derived.Test.YtbhdjaccdaccbaaGreatAmG12
import Derived.BigCall
set_option linter.all false
set_option linter.unusedSimpArgs false
set_option linter.unusedVariables false
set_option linter.deprecated false
/-! Call1 -/
section
namespace Go.AM
variable {w : World} {κ : Cfg} {h : Heap} {clk : Nat} {P : Program}

theorem idx_some : ∀ {os : List Rid} {o : Rid} {k : Nat}, os.idxOf? o = some k → os[k]? = some o
  | [], o, k, hk => by simp at hk
  | x :: r, o, k, hk => by
    rw [List.idxOf?_cons] at hk
    split at hk
    · rename_i hx; cases hk; simpa using hx
    · cases h1 : r.idxOf? o with
      | none => rw [h1] at hk; cases hk
      | some j =>
        rw [h1] at hk
        simp only [Option.map_some, Option.some.injEq] at hk; subst hk
        simpa using idx_some h1
theorem idx_none {os : List Rid} {o : Rid} (hk : os.idxOf? o = none) : o ∉ os := by simpa using hk
theorem idx_nodup {os : List Rid} (hn : os.Nodup) {o : Rid} {k : Nat} (hk : os[k]? = some o) : os.idxOf? o = some k := by
  cases h1 : os.idxOf? o with
  | none => exact absurd (List.mem_of_getElem? hk) (idx_none h1)
  | some j =>
    have h2 := idx_some h1
    obtain ⟨hj, h3⟩ := List.getElem?_eq_some_iff.1 h2
    obtain ⟨hk', h4⟩ := List.getElem?_eq_some_iff.1 hk
    rw [(List.getElem_inj hn).1 (h3.trans h4.symm)]

def objs (obs : List Ob) : Heap
  | .p k => obs[k]?
  | _ => none
theorem cur_objs {obs : List Ob} {o : Rid} {ob : Ob} (ho : objs obs o = some ob) : ∃ k, o = .p k ∧ obs[k]? = some ob := by
  cases o with
  | p k => exact ⟨k, rfl, ho⟩
  | l _ => cases ho
  | r _ _ => cases ho

/-- A result; the objects behind the n-th come back with it. -/
inductive Rs (w : World) (κ : Cfg) (obs : List Ob) (n : Nat) (X : Bs) : AV → Value → Prop
  | ro (x : AV) (v : Value) (hr : Ro w X x v) : Rs w κ obs n X x v
  | sl (k off len : Nat) (cap : Option Nat) (v : Value) (ob : Ob) (hn : n ≤ k) (ho : obs[k]? = some ob) (hs : SlOk w κ (.p k) ob off len cap v) : Rs w κ obs n X (.sl (.p k) 1 off len cap) v
  | ptr (k e c : Nat) (ob : Ob) (hn : n ≤ k) (ho : obs[k]? = some ob) : Rs w κ obs n X (.ptr (.p k) 1 e c) (.pointer (some (κ.addr (.p k) ob.esz e c)))
  | agg (cs : List AV) (vs : Array Value) (hl : cs.length = vs.size) (hr : ∀ (j : Nat) x, cs[j]? = some x → Rs w κ obs n X x (vs.getD j undef)) : Rs w κ obs n X (.agg cs) (.agg vs)
  | tup (cs : List AV) (vs : Array Value) (hl : cs.length = vs.size) (hr : ∀ (j : Nat) x, cs[j]? = some x → Rs w κ obs n X x (vs.getD j undef)) : Rs w κ obs n X (.tup cs) (.tuple vs)

/-- What a function does, as a contract says. -/
def Holds (P : Program) (fid : Nat) (args : List AV) (obs : List Ob) (own : Bool) (Φ : AV → List Ob → Prop) : Prop :=
  (∀ vs w, (callFunc fid vs).run P w = .ok (.enter fid vs) w) ∧
  ∀ (w : World) (κ : Cfg) (vs : Array Value) (P0 : Bs), HR w P0 w κ (objs obs) 1 → (∀ b, P0 b ↔ ∃ k ob, obs[k]? = some ob ∧ κ.foot (.p k) b) → vs.size = args.length →
    (∀ (j : Nat) x, args[j]? = some x → VR w κ (objs obs) 1 x (vs.getD j undef)) →
    Calls P fid vs w fun e w' => match e with
      | .returned v => ∃ r obs' κ' clk', Φ r obs' ∧ HR w P0 w' κ' (objs obs') clk' ∧ Ext w κ (objs obs) 1 w' κ' (objs obs') clk' ∧ (∀ (k : Nat) ob, obs'[k]? = some ob → k < obs.length → ob.ver = 0) ∧
          Rs w' κ' obs' obs.length (fun b => κ'.X (objs obs') w' b ∧ (own = true → w.heap.size ≤ b ∨ P0 b)) r v
      | _ => False

/-- A callee that gives back a copy of a row, in new memory. -/
def Copies (P : Program) (fid z : Nat) (es : List (List AV)) : Prop := Holds P fid [.dat z es] [] true (fun r o => r = .sl (.p 0) 1 0 es.length none ∧ o = [{ ver := 1, es := es, esz := z }])

/-- The same, of a callee that goes on in the caller's heap. -/
def HoldsX (P : Program) (fid : Nat) (args : List AV) (h : Heap) (clk : Nat) (Q : AV → Heap → Nat → Prop) : Prop :=
  ∀ (w0 : World) (P0 : Bs) (w : World) (κ : Cfg) (vs : Array Value), HR w0 P0 w κ h clk → vs.size = args.length → (∀ (j : Nat) x, args[j]? = some x → VR w κ h clk x (vs.getD j undef)) →
    ((callFunc fid vs).run P w = .ok (.enter fid vs) w ∧ Calls P fid vs w fun e w' => match e with
      | .returned v => ∃ r h' κ' clk', Q r h' clk' ∧ HR w0 P0 w' κ' h' clk' ∧ Ext w κ h clk w' κ' h' clk' ∧ VR w' κ' h' clk' r v
      | _ => False) ∨
    (∃ v w', (callFunc fid vs).run P w = .ok (.value v) w' ∧ ∃ r h' κ' clk', Q r h' clk' ∧ HR w0 P0 w' κ' h' clk' ∧ Ext w κ h clk w' κ' h' clk' ∧ VR w' κ' h' clk' r v)

theorem pure_ro {X : Bs} {x : AV} {v : Value} (hp : x.pure = true) (hv : VR w κ h clk x v) (hX : ∀ b, κ.X h w b → X b) : Ro w X x v := by
  cases hv with
  | ro _ _ hr => exact hr.frame hX (fun _ _ => rfl)
  | _ => simp [AV.pure] at hp

section
variable {w0 : World} {P0 : Bs} {os : List Rid} {obs : List Ob}
theorem obs_len (hobs : os.map (fun o => (h o).map (fun b => { b with ver := 0, fixed := true })) = obs.map some) : obs.length = os.length := by have := congrArg List.length hobs; simpa using this.symm
theorem obs_get (hobs : os.map (fun o => (h o).map (fun b => { b with ver := 0, fixed := true })) = obs.map some) {k : Nat} {o : Rid} (hk : os[k]? = some o) : ∃ b, h o = some b ∧ obs[k]? = some { b with ver := 0, fixed := true } := by
  have h1 := congrArg (fun l => l[k]?) hobs
  simp only [List.getElem?_map, hk, Option.map_some] at h1
  cases h2 : h o with
  | none =>
    rw [h2] at h1
    cases h3 : obs[k]? with
    | none => rw [h3] at h1; cases h1
    | some x => rw [h3] at h1; cases h1
  | some b =>
    rw [h2] at h1
    refine ⟨b, rfl, ?_⟩
    cases h3 : obs[k]? with
    | none => rw [h3] at h1; cases h1
    | some x => rw [h3] at h1; simp only [Option.map_some, Option.some.injEq] at h1; rw [h1]
theorem obs_get' (hobs : os.map (fun o => (h o).map (fun b => { b with ver := 0, fixed := true })) = obs.map some) {k : Nat} {ob : Ob} (hk : obs[k]? = some ob) : ∃ o b, os[k]? = some o ∧ h o = some b ∧ ob = { b with ver := 0, fixed := true } := by
  have hl := obs_len hobs
  have hk' : k < os.length := by rw [← hl]; exact (List.getElem?_eq_some_iff.1 hk).1
  have ho := List.getElem?_eq_getElem hk'
  obtain ⟨b, h1, h2⟩ := obs_get hobs ho
  rw [hk] at h2
  exact ⟨_, b, ho, h1, Option.some.inj h2⟩
end

/-- The callee's view. -/
def Cfg.down (κ : Cfg) (os : List Rid) (A : Bs) : Cfg :=
  { ι := fun u => match u with | .p k => (os[k]?).elim (0, 0) κ.ι | _ => (0, 0)
    re := fun u => match u with | .p k => ∃ o, os[k]? = some o ∧ κ.re o | _ => False
    F := fun u e j b => match u with | .p k => ∃ o, os[k]? = some o ∧ κ.F o e j b | _ => False
    A := A }
theorem down_foot {os : List Rid} {A : Bs} {k : Nat} {o : Rid} (hk : os[k]? = some o) (b : Nat) : (κ.down os A).foot (.p k) b ↔ κ.foot o b := by
  unfold Cfg.foot Cfg.down
  simp only [hk, Option.elim, Option.some.injEq]
  constructor
  · rintro (⟨⟨_, rfl, h1⟩, h2⟩ | ⟨e, j, _, rfl, h1⟩)
    · exact .inl ⟨h1, h2⟩
    · exact .inr ⟨e, j, h1⟩
  · rintro (⟨h1, h2⟩ | ⟨e, j, h1⟩)
    · exact .inl ⟨⟨_, rfl, h1⟩, h2⟩
    · exact .inr ⟨e, j, _, rfl, h1⟩

def P0c (κ : Cfg) (os : List Rid) : Bs := fun b => ∃ (k : Nat) (o : Rid), os[k]? = some o ∧ κ.foot o b
def Ac (κ : Cfg) (h : Heap) (w : World) (os : List Rid) (own : Bool) : Bs := fun b => own = true ∨ κ.X h w b ∨ w.heap.size ≤ b ∨ P0c κ os b

section
variable {w0 : World} {P0 : Bs} {os : List Rid} {obs : List Ob} {own : Bool}

theorem X_down (H : HR w0 P0 w κ h clk) (hobs : os.map (fun o => (h o).map (fun b => { b with ver := 0, fixed := true })) = obs.map some) (b : Nat) (hb : κ.X h w b) : (κ.down os (Ac κ h w os own)).X (objs obs) w b := by
  refine ⟨hb.1, .inr (.inl hb), fun u ou hu hf => ?_⟩
  obtain ⟨k, rfl, hk⟩ := cur_objs hu
  obtain ⟨o, b', h1, h2, _⟩ := obs_get' hobs hk
  rw [down_foot h1] at hf
  exact hb.2.2 o b' h2 hf

theorem HR.glob_down (H : HR w0 P0 w κ h clk) (hobs : os.map (fun o => (h o).map (fun b => { b with ver := 0, fixed := true })) = obs.map some) : GlobOk w (P0c κ os) (Ac κ h w os own) := by
  have nf : ∀ n, ¬ P0 n → n < w0.heap.size → ∀ o ob, h o = some ob → ¬ κ.foot o n := fun n h1 h2 o ob ho hf => by
    rcases (H.base o ob n ho hf).1 with h5 | h5
    · omega
    · exact h1 h5
  have np : ∀ n, ¬ P0 n → n < w0.heap.size → ¬ P0c κ os n := fun n h1 h2 ⟨k, o, q1, q2⟩ => by
    obtain ⟨b, q3, _⟩ := obs_get hobs q1
    exact nf n h1 h2 o b q3 q2
  refine ⟨fun n hn => ?_, fun x hx => ?_⟩
  rotate_left
  · obtain ⟨h1, h2, h3, h4⟩ := H.glob.2 x hx
    exact ⟨np _ h1 h2, Nat.lt_of_lt_of_le h2 H.size, .inr (.inl ⟨Nat.lt_of_lt_of_le h2 H.size, h3, nf _ h1 h2⟩), by rw [H.old _ h2 h1]; exact h4⟩
  obtain ⟨h1, h2, h3, h4⟩ := H.glob.1 n hn
  have hs := H.old n h2 h1
  refine ⟨np _ h1 h2, Nat.lt_of_lt_of_le h2 H.size, .inr (.inl ⟨Nat.lt_of_lt_of_le h2 H.size, h3, nf _ h1 h2⟩), fun j x hx => ?_⟩
  obtain ⟨v, q1, q2⟩ := h4 j x hx
  exact ⟨v, by rw [cell_same hs]; exact q1, q2⟩
theorem HR_down (H : HR w0 P0 w κ h clk) (hobs : os.map (fun o => (h o).map (fun b => { b with ver := 0, fixed := true })) = obs.map some) (hnd : os.Nodup) (hpure : ∀ b ∈ obs, Pure b.es) : HR w (P0c κ os) w (κ.down os (Ac κ h w os own)) (objs obs) 1 := by
  refine ⟨fun u ou hu => ?_, fun u u' ou ou' b hu hu' hne hf hf' => ?_, fun u ou b hu hf => ?_, ⟨rfl, fun _ _ => rfl⟩, rfl, rfl, Nat.le_refl _, fun _ _ _ => rfl, fun b hb => .inr (.inr hb), H.glob_down hobs⟩
  · obtain ⟨k, rfl, hk⟩ := cur_objs hu
    obtain ⟨o, b, h1, h2, rfl⟩ := obs_get' hobs hk
    have R := H.ob o b h2
    have eι : (κ.down os (Ac κ h w os own)).ι (.p k) = κ.ι o := by simp [Cfg.down, h1]
    refine ⟨Nat.one_pos, R.esz, fun hne => ⟨⟨o, h1, (R.blk hne).1⟩, by rw [eι]; exact (R.blk hne).2⟩, fun e j x hx => ?_, fun e j b hb => ?_, fun e j e' j' b hb hb' => ?_⟩
    · obtain ⟨v, h3, h4⟩ := R.cells e j x hx
      have ea : (κ.down os (Ac κ h w os own)).addr (.p k) b.esz e j = κ.addr o b.esz e j := by simp [Cfg.addr, eι]
      refine ⟨v, by rw [← h3]; exact congrArg _ ea, ?_⟩
      have hpx : x.pure = true := by
        have := hpure _ (List.mem_of_getElem? hk)
        unfold cellOf at hx
        cases he : b.es[e]? with
        | none => rw [he] at hx; cases hx
        | some c => rw [he] at hx; exact this c (List.mem_of_getElem? he) x (List.mem_of_getElem? hx)
      cases x with
      | dat z es => exact ⟨fun ho => (h4.1 ho).frame (fun b hb => ⟨o, h1, hb⟩) (fun _ _ => rfl), fun ho => (h4.2 ho).frame (X_down H hobs) (fun _ _ => rfl)⟩
      | b _ => exact .ro _ _ (pure_ro hpx h4 (X_down H hobs))
      | i _ _ => exact .ro _ _ (pure_ro hpx h4 (X_down H hobs))
      | s _ => exact .ro _ _ (pure_ro hpx h4 (X_down H hobs))
      | nilp => exact .ro _ _ (pure_ro hpx h4 (X_down H hobs))
      | nils => exact .ro _ _ (pure_ro hpx h4 (X_down H hobs))
      | nilf => exact .ro _ _ (pure_ro hpx h4 (X_down H hobs))
      | undef => exact .ro _ _ (pure_ro hpx h4 (X_down H hobs))
      | _ => simp [AV.pure] at hpx
    · obtain ⟨o', h5, h6⟩ := hb
      rw [h1] at h5; cases h5
      rw [eι]; exact R.sep e j b h6
    · obtain ⟨o1, h5, h6⟩ := hb
      obtain ⟨o2, h7, h8⟩ := hb'
      rw [h1] at h5 h7; cases h5; cases h7
      exact R.disj e j e' j' b h6 h8
  · obtain ⟨k, rfl, hk⟩ := cur_objs hu
    obtain ⟨k', rfl, hk'⟩ := cur_objs hu'
    obtain ⟨o, b1, h1, h2, _⟩ := obs_get' hobs hk
    obtain ⟨o', b2, h3, h4, _⟩ := obs_get' hobs hk'
    rw [down_foot h1] at hf; rw [down_foot h3] at hf'
    refine H.apart o o' b1 b2 b h2 h4 (fun he => hne ?_) hf hf'
    subst he
    have := idx_nodup hnd h1; rw [idx_nodup hnd h3] at this; cases this; rfl
  · obtain ⟨k, rfl, hk⟩ := cur_objs hu
    obtain ⟨o, b1, h1, h2, _⟩ := obs_get' hobs hk
    rw [down_foot h1] at hf
    exact ⟨.inr ⟨k, o, h1, hf⟩, (H.base o b1 b h2 hf).2⟩

/-- One value handed over. -/
theorem VR_down (H : HR w0 P0 w κ h clk) (hobs : os.map (fun o => (h o).map (fun b => { b with ver := 0, fixed := true })) = obs.map some) (hnd : os.Nodup) {x : AV} {v : Value} (hv : VR w κ h clk x v) (hx : match x with
    | .sl o v off len _ => match os.idxOf? o, cur h o v with
      | none, some ob => Pure ob.es ∧ off + len ≤ ob.es.length ∧ own = true
      | some _, some _ => True
      | _, none => False
    | .ptr o v _ _ => match os.idxOf? o, cur h o v with
      | some _, some _ => True
      | _, _ => False
    | c => c.pure = true) : VR w (κ.down os (Ac κ h w os own)) (objs obs) 1 (expA h os x) v := by
  cases x with
  | ptr o ver e c =>
    simp only at hx
    cases hi : os.idxOf? o with
    | none => rw [hi] at hx; exact hx.elim
    | some k =>
      cases hc : cur h o ver with
      | none => rw [hi, hc] at hx; exact hx.elim
      | some ob =>
        have hk := idx_some hi
        have e1 : expA h os (.ptr o ver e c) = .ptr (.p k) 0 e c := by simp only [expA, hi, hc]
        rw [e1]
        have hv1 := hv.of_ptr hc
        refine .ptr _ _ _ _ _ ⟨_, hv1⟩ Nat.one_pos fun ob' hc' => ?_
        obtain ⟨b, h1, h2⟩ := obs_get hobs hk
        obtain ⟨h3, _⟩ := cur_some hc'
        have h3' : obs[k]? = some ob' := h3
        rw [h2] at h3'; cases h3'
        have h4 := (cur_some hc).1
        rw [h1] at h4; cases h4
        rw [hv1]; simp [Cfg.addr, Cfg.down, hk]
  | sl o ver off len cap =>
    simp only at hx
    cases hc : cur h o ver with
    | none => rw [hc] at hx; cases hi : os.idxOf? o <;> (rw [hi] at hx; exact hx.elim)
    | some ob =>
      have hs := hv.of_sl hc
      cases hi : os.idxOf? o with
      | some k =>
        have hk := idx_some hi
        have e1 : expA h os (.sl o ver off len cap) = .sl (.p k) 0 off len cap := by simp only [expA, hi, hc]
        rw [e1]
        obtain ⟨a, rc, hsl, _⟩ := hs.slice
        refine .sl _ _ _ _ _ _ ⟨_, _, _, hsl⟩ Nat.one_pos fun ob' hc' => ?_
        obtain ⟨b, h1, h2⟩ := obs_get hobs hk
        obtain ⟨h3, _⟩ := cur_some hc'
        have h3' : obs[k]? = some ob' := h3
        rw [h2] at h3'; cases h3'
        have h4 := (cur_some hc).1
        rw [h1] at h4; cases h4
        have eι : (κ.down os (Ac κ h w os own)).ι (.p k) = κ.ι o := by simp [Cfg.down, hk]
        rcases hs with ⟨q1, q2, q3⟩ | ⟨rc, q1, q2, q3, q4, q5, q6, q7⟩
        · exact .inl ⟨q1, q2, q3⟩
        · refine .inr ⟨rc, ⟨o, hk, q1⟩, ?_, q3, q4, q5, q6, by rw [eι]; exact q7⟩
          rw [q2]; simp [Cfg.addr, eι]
      | none =>
        rw [hi, hc] at hx
        obtain ⟨hp, hl, hown⟩ := hx
        have e1 : expA h os (.sl o ver off len cap) = .dat ob.esz (sub ob.es off len) := by simp only [expA, hi, hc]
        rw [e1]
        have ho := (cur_some hc).1
        have R := H.ob o ob ho
        have hfoot : ∀ b, κ.foot o b → (κ.down os (Ac κ h w os own)).X (objs obs) w b := fun b hb => by
          refine ⟨(H.base o ob b ho hb).2, .inl hown, fun u ou hu hf => ?_⟩
          obtain ⟨k, rfl, hk⟩ := cur_objs hu
          obtain ⟨o', b1, h1, h2, _⟩ := obs_get' hobs hk
          rw [down_foot h1] at hf
          exact H.apart o o' ob b1 b ho h2 (fun he => idx_none hi (by rw [he]; exact List.mem_of_getElem? h1)) hb hf
        rcases hs with ⟨rfl, ⟨a, rfl⟩, _⟩ | ⟨rc, hre, rfl, hoff, hle, _⟩
        · rw [sub_zero (by omega)]; exact .ro _ _ (.dat0 _ a 0)
        · have hsl := sub_length hoff
          have key : ∀ e j x, cellOf (sub ob.es off len) e j = some x → ∃ u, w.cell? (κ.addr o ob.esz (off + e) j) = some u ∧ Ro w ((κ.down os (Ac κ h w os own)).X (objs obs) w) x u := by
            intro e j x hxc
            obtain ⟨_, h2⟩ := sub_cell hoff hxc
            obtain ⟨u, h3, h4⟩ := R.cells _ _ _ h2
            refine ⟨u, h3, ?_⟩
            have hpx : x.pure = true := by
              unfold cellOf at h2
              cases he : ob.es[off + e]? with
              | none => rw [he] at h2; cases h2
              | some c => rw [he] at h2; exact hp c (List.mem_of_getElem? he) x (List.mem_of_getElem? h2)
            cases x with
            | dat z es =>
              by_cases ho' : ob.own
              · exact (h4.1 ho').ro fun b hb => hfoot b (.inr ⟨_, _, hb⟩)
              · exact (h4.2 ho').frame (X_down H hobs) (fun _ _ => rfl)
            | b _ => exact pure_ro hpx h4 (X_down H hobs)
            | i _ _ => exact pure_ro hpx h4 (X_down H hobs)
            | s _ => exact pure_ro hpx h4 (X_down H hobs)
            | nilp => exact pure_ro hpx h4 (X_down H hobs)
            | nils => exact pure_ro hpx h4 (X_down H hobs)
            | nilf => exact pure_ro hpx h4 (X_down H hobs)
            | undef => exact pure_ro hpx h4 (X_down H hobs)
            | _ => simp [AV.pure] at hpx
          have := Ro.dat (w := w) (X := (κ.down os (Ac κ h w os own)).X (objs obs) w) (sub ob.es off len) (κ.ι o).1 ((κ.ι o).2 + off * ob.esz) rc ob.esz (fun e j => (w.cell? (κ.addr o ob.esz (off + e) j)).getD Go.undef)
            (hfoot _ (.inl ⟨hre, rfl⟩)) (by rw [hsl]; exact hle) (fun e he => R.esz e (sub_mem he))
            (fun e j x hxc => by
              obtain ⟨u, h3, _⟩ := key e j x hxc
              rw [h3]
              show _ = some u
              rw [← h3, Cfg.addr]; congr 2
              rw [Nat.add_mul]; omega)
            (fun e j x hxc => by
              obtain ⟨u, h3, h4⟩ := key e j x hxc
              rw [h3]; exact h4)
          rw [hsl] at this
          refine .ro _ _ ?_
          simpa [Cfg.addr] using this
  | b _ => exact .ro _ _ (pure_ro hx hv (X_down H hobs))
  | i _ _ => exact .ro _ _ (pure_ro hx hv (X_down H hobs))
  | s _ => exact .ro _ _ (pure_ro hx hv (X_down H hobs))
  | nilp => exact .ro _ _ (pure_ro hx hv (X_down H hobs))
  | nils => exact .ro _ _ (pure_ro hx hv (X_down H hobs))
  | nilf => exact .ro _ _ (pure_ro hx hv (X_down H hobs))
  | undef => exact .ro _ _ (pure_ro hx hv (X_down H hobs))
  | dat _ _ => exact .ro _ _ (pure_ro hx hv (X_down H hobs))
  | _ => simp [AV.pure] at hx
end
end Go.AM
end
/-! Call2 -/
section
namespace Go.AM
variable {w w' : World} {κ κ' : Cfg} {h : Heap} {clk clk' : Nat} {P : Program}

theorem tgt_none {os : List Rid} {t n : Nat} {o : Rid} (hk : tgt os t n o = none) : os.idxOf? o = none := by
  cases o with
  | r t' j =>
    unfold tgt at hk
    by_cases hc : t' = t ∧ os.length + j < n
    · simp only [hc, and_self, if_true] at hk; cases hk
    · simp only [hc, if_false] at hk; exact hk
  | p _ => exact hk
  | l _ => exact hk
theorem tgt_lt {os : List Rid} {t n : Nat} {o : Rid} {k : Nat} (hk : tgt os t n o = some k) (hl : k < os.length) : os[k]? = some o := by
  cases o with
  | r t' j =>
    unfold tgt at hk
    by_cases hc : t' = t ∧ os.length + j < n
    · simp only [hc, and_self, if_true, Option.some.injEq] at hk; omega
    · simp only [hc, if_false] at hk; exact idx_some hk
  | p _ => exact idx_some hk
  | l _ => exact idx_some hk
theorem tgt_ge {os : List Rid} {t n : Nat} {o : Rid} {k : Nat} (hk : tgt os t n o = some k) (hl : ¬ k < os.length) : o = .r t (k - os.length) ∧ k < n := by
  have no : os.idxOf? o = some k → False := fun h => hl (List.getElem?_eq_some_iff.1 (idx_some h)).1
  cases o with
  | r t' j =>
    unfold tgt at hk
    by_cases hc : t' = t ∧ os.length + j < n
    · simp only [hc, and_self, if_true, Option.some.injEq] at hk
      obtain ⟨rfl, h2⟩ := hc
      subst hk
      exact ⟨by congr 1; omega, h2⟩
    · simp only [hc, if_false] at hk; exact (no hk).elim
  | p _ => exact (no hk).elim
  | l _ => exact (no hk).elim
theorem tgt_inj {os : List Rid} {t n : Nat} {o o' : Rid} {k : Nat} (hk : tgt os t n o = some k) (hk' : tgt os t n o' = some k) : o = o' := by
  by_cases hl : k < os.length
  · have h1 := tgt_lt hk hl; rw [tgt_lt hk' hl] at h1; exact (Option.some.inj h1).symm
  · rw [(tgt_ge hk hl).1, (tgt_ge hk' hl).1]
theorem tgt_r {os : List Rid} {t n k : Nat} (h1 : os.length ≤ k) (h2 : k < n) : tgt os t n (.r t (k - os.length)) = some k := by
  unfold tgt
  have : os.length + (k - os.length) = k := by omega
  simp only [this, h2, and_self, if_true]
theorem nclk_le (c : Nat) (os : List Rid) (obs : List Ob) : c ≤ nclk c os obs := by unfold nclk; split <;> omega
theorem nclk_lt {c : Nat} {os : List Rid} {obs : List Ob} (h : os.length < obs.length) : c < nclk c os obs := by unfold nclk; rw [if_pos h]; omega

theorem impL_len {t n c : Nat} : ∀ (l : List AV), (impL t n c l).length = l.length
  | [] => by simp [impL]
  | x :: r => by simp [impL, impL_len r]
theorem impL_get {t n c : Nat} : ∀ (l : List AV) (j : Nat), (impL t n c l)[j]? = (l[j]?).map (impA t n c)
  | [], j => by simp [impL]
  | x :: r, 0 => by simp [impL]
  | x :: r, j + 1 => by simp [impL, impL_get r j]

def Cfg.up (κ κ' : Cfg) (os : List Rid) (t n : Nat) : Cfg :=
  { ι := fun o => match tgt os t n o with | some k => κ'.ι (.p k) | none => κ.ι o
    re := fun o => match tgt os t n o with | some k => κ'.re (.p k) | none => κ.re o
    F := fun o => match tgt os t n o with | some k => κ'.F (.p k) | none => κ.F o
    A := κ.A }
theorem up_foot_some {os : List Rid} {t n : Nat} {o : Rid} {k : Nat} (hk : tgt os t n o = some k) : (κ.up κ' os t n).foot o = κ'.foot (.p k) := by
  unfold Cfg.foot Cfg.up; simp only [hk]
theorem up_foot_none {os : List Rid} {t n : Nat} {o : Rid} (hk : tgt os t n o = none) : (κ.up κ' os t n).foot o = κ.foot o := by
  unfold Cfg.foot Cfg.up; simp only [hk]
theorem hcall_some {os : List Rid} {obs' : List Ob} {t c : Nat} {o : Rid} {k : Nat} {ou : Ob} (hk : tgt os t obs'.length o = some k) (hu : hcall h os obs' t c o = some ou) :
    ∃ b' vv ff, obs'[k]? = some b' ∧ ou = { b' with ver := vv, fixed := ff } ∧ ((k < os.length ∧ os[k]? = some o ∧ ∃ b, h o = some b ∧ vv = b.ver) ∨ (os.length ≤ k ∧ os.length < obs'.length ∧ vv = c)) := by
  unfold hcall at hu
  simp only [hk] at hu
  by_cases hl : k < os.length
  · rw [if_pos hl] at hu
    cases h1 : h o with
    | none => rw [h1] at hu; cases hu
    | some b =>
      rw [h1] at hu
      cases h2 : obs'[k]? with
      | none => rw [h2] at hu; cases hu
      | some b' =>
        rw [h2] at hu; simp only [Option.bind_some, Option.map_some, Option.some.injEq] at hu
        exact ⟨b', b.ver, b.fixed, rfl, hu.symm, .inl ⟨hl, tgt_lt hk hl, b, rfl, rfl⟩⟩
  · rw [if_neg hl] at hu
    cases h2 : obs'[k]? with
    | none => rw [h2] at hu; cases hu
    | some b' =>
      rw [h2] at hu; simp only [Option.map_some, Option.some.injEq] at hu
      have := (List.getElem?_eq_some_iff.1 h2).1
      exact ⟨b', c, b'.fixed, rfl, hu.symm, .inr ⟨by omega, by omega, rfl⟩⟩
theorem hcall_none {os : List Rid} {obs' : List Ob} {t c : Nat} {o : Rid} (hk : tgt os t obs'.length o = none) : hcall h os obs' t c o = h o := by
  unfold hcall; simp only [hk]

section
variable {w0 : World} {P0 : Bs} {os : List Rid} {obs obs' : List Ob} {own : Bool} {t c : Nat}

/-- A block of an object that stayed. -/
theorem stay (H : HR w0 P0 w κ h clk) (hobs : os.map (fun o => (h o).map (fun b => { b with ver := 0, fixed := true })) = obs.map some) (H' : HR w (P0c κ os) w' κ' (objs obs') clk') {o : Rid} {ob : Ob} (hi : os.idxOf? o = none) (ho : h o = some ob) {b : Nat} (hb : κ.foot o b) : b < w.heap.size ∧ ¬ P0c κ os b ∧ w'.heap[b]? = w.heap[b]? := by
  have h1 := (H.base o ob b ho hb).2
  have h2 : ¬ P0c κ os b := by
    rintro ⟨k, o', h3, h4⟩
    obtain ⟨b', h5, _⟩ := obs_get hobs h3
    exact H.apart o o' ob b' b ho h5 (fun he => idx_none hi (by rw [he]; exact List.mem_of_getElem? h3)) hb h4
  exact ⟨h1, h2, H'.old b h1 h2⟩

theorem X_up (H : HR w0 P0 w κ h clk) (hobs : os.map (fun o => (h o).map (fun b => { b with ver := 0, fixed := true })) = obs.map some) (H' : HR w (P0c κ os) w' κ' (objs obs') clk') {b : Nat} (hb : κ.X h w b) : (κ.up κ' os t obs'.length).X (hcall h os obs' t c) w' b ∧ w'.heap[b]? = w.heap[b]? := by
  have h2 : ¬ P0c κ os b := by
    rintro ⟨k, o', h3, h4⟩
    obtain ⟨b', h5, _⟩ := obs_get hobs h3
    exact hb.2.2 o' b' h5 h4
  refine ⟨⟨Nat.lt_of_lt_of_le hb.1 H'.size, hb.2.1, fun u ou hu hf => ?_⟩, H'.old b hb.1 h2⟩
  cases hi : tgt os t obs'.length u with
  | none =>
    rw [up_foot_none hi] at hf; rw [hcall_none hi] at hu
    exact hb.2.2 u ou hu hf
  | some k =>
    rw [up_foot_some hi] at hf
    obtain ⟨b2, _, _, h4, _, _⟩ := hcall_some hi hu
    rcases (H'.base (.p k) b2 b h4 hf).1 with h5 | h5
    · have := hb.1; omega
    · exact h2 h5

/-- What the callee could read, or made. -/
theorem X_up' (H : HR w0 P0 w κ h clk) (hobs : os.map (fun o => (h o).map (fun b => { b with ver := 0, fixed := true })) = obs.map some) (H' : HR w (P0c κ os) w' κ' (objs obs') clk') {b : Nat} (hb : κ'.X (objs obs') w' b) (hc : w.heap.size ≤ b ∨ P0c κ os b) : (κ.up κ' os t obs'.length).X (hcall h os obs' t c) w' b := by
  refine ⟨hb.1, H.free b ?_, fun u ou hu hf => ?_⟩
  · rcases hc with h1 | ⟨k, o, h3, h4⟩
    · exact .inl (Nat.le_trans H.size h1)
    · obtain ⟨b', h5, _⟩ := obs_get hobs h3
      exact (H.base o b' b h5 h4).1
  · cases hi : tgt os t obs'.length u with
    | none =>
      rw [up_foot_none hi] at hf; rw [hcall_none hi] at hu
      obtain ⟨h1, h2, _⟩ := stay H hobs H' (tgt_none hi) hu hf
      rcases hc with h3 | h3
      · omega
      · exact h2 h3
    | some k =>
      rw [up_foot_some hi] at hf
      obtain ⟨b2, _, _, h4, _, _⟩ := hcall_some hi hu
      exact hb.2.2 (.p k) b2 h4 hf

theorem X_up2 (H : HR w0 P0 w κ h clk) (hobs : os.map (fun o => (h o).map (fun b => { b with ver := 0, fixed := true })) = obs.map some) (H' : HR w (P0c κ os) w' κ' (objs obs') clk') (E' : Ext w (κ.down os (Ac κ h w os own)) (objs obs) 1 w' κ' (objs obs') clk') (hown : own = false) {b : Nat} (hb : κ'.X (objs obs') w' b) : (κ.up κ' os t obs'.length).X (hcall h os obs' t c) w' b := by
  have hA : κ'.A = Ac κ h w os own := E'.hA
  have := hb.2.1
  rw [hA] at this
  rcases this with h1 | h1 | h1 | h1
  · rw [hown] at h1; cases h1
  · exact (X_up H hobs H' h1).1
  · exact X_up' H hobs H' hb (.inl h1)
  · exact X_up' H hobs H' hb (.inr h1)

theorem Ext_up (H : HR w0 P0 w κ h clk) (hobs : os.map (fun o => (h o).map (fun b => { b with ver := 0, fixed := true })) = obs.map some) (hnd : os.Nodup) (H' : HR w (P0c κ os) w' κ' (objs obs') clk') (E' : Ext w (κ.down os (Ac κ h w os own)) (objs obs) 1 w' κ' (objs obs') clk') (hv0 : ∀ (k : Nat) ob, obs'[k]? = some ob → k < obs.length → ob.ver = 0) (hpure' : ∀ b ∈ obs', Pure b.es) (hown' : own = true → ∀ b ∈ obs', b.own ∨ Flat b.es) : Ext w κ h clk w' (κ.up κ' os t obs'.length) (hcall h os obs' t clk) (nclk clk os obs') := by
  refine ⟨nclk_le _ _ _, fun o v ob' hv hc => ?_, fun b hb => X_up H hobs H' hb, rfl⟩
  obtain ⟨h1, h2⟩ := cur_some hc
  cases hi : tgt os t obs'.length o with
  | none =>
    rw [hcall_none hi] at h1
    refine ⟨ob', by unfold cur; rw [h1]; simp [h2], by simp [Cfg.up, hi], rfl, rfl, fun hh => by simp [Cfg.up, hi, hh], fun hh n hn => ?_⟩
    exact hn.same (stay H hobs H' (tgt_none hi) h1 (.inl ⟨hh, rfl⟩)).2.2
  | some k =>
    obtain ⟨b', vv, ff, h4, rfl, ⟨hl, hk, b, h3, rfl⟩ | ⟨_, _, rfl⟩⟩ := hcall_some hi h1
    · have hcur : cur (objs obs') (.p k) 0 = some b' := by
        unfold cur; show (match obs'[k]? with | some b => if b.ver = 0 then some b else none | none => none) = _
        rw [h4]; simp [hv0 k b' h4 (by rw [obs_len hobs]; exact hl)]
      obtain ⟨ob1, h5, h6, h7, h8, h9, h10⟩ := E'.hcur (.p k) 0 b' Nat.one_pos hcur
      obtain ⟨b1, h11, h12⟩ := obs_get hobs hk
      rw [h3] at h11; cases h11
      have h13 := (cur_some h5).1
      have h13' : obs[k]? = some ob1 := h13
      rw [h12] at h13'; cases h13'
      have eι : (κ.down os (Ac κ h w os own)).ι (.p k) = κ.ι o := by simp [Cfg.down, hk]
      refine ⟨b, by unfold cur; rw [h3]; simp at h2; simp [h2], by simp only [Cfg.up, hi]; rw [h6, eι], h7, h8, fun hh => by simp only [Cfg.up, hi]; exact h9 ⟨o, hk, hh⟩, fun hh n hn => ?_⟩
      have := h10 ⟨o, hk, hh⟩ n
      rw [eι] at this
      exact this hn
    · simp only at h2; omega

theorem HR_up (H : HR w0 P0 w κ h clk) (hobs : os.map (fun o => (h o).map (fun b => { b with ver := 0, fixed := true })) = obs.map some) (hnd : os.Nodup) (H' : HR w (P0c κ os) w' κ' (objs obs') clk') (E' : Ext w (κ.down os (Ac κ h w os own)) (objs obs) 1 w' κ' (objs obs') clk') (hv0 : ∀ (k : Nat) ob, obs'[k]? = some ob → k < obs.length → ob.ver = 0) (hpure' : ∀ b ∈ obs', Pure b.es) (hown' : own = true → ∀ b ∈ obs', b.own ∨ Flat b.es) : HR w0 P0 w' (κ.up κ' os t obs'.length) (hcall h os obs' t clk) (nclk clk os obs') := by
  have E := Ext_up (t := t) (clk := clk) H hobs hnd H' E' hv0 hpure' hown'
  refine ⟨fun u ou hu => ?_, fun u u' ou ou' b hu hu' hne hf hf' => ?_, fun u ou b hu hf => ?_, ⟨H'.os.1.trans H.os.1, fun a ha => (H'.os.2 a (Nat.lt_of_lt_of_le ha H.size)).trans (H.os.2 a ha)⟩, by rw [H'.tape, H.tape], by rw [H'.output, H.output], Nat.le_trans H.size H'.size, fun b hb hP => ?_, H.free, H.glob⟩
  · cases hi : tgt os t obs'.length u with
    | none =>
      rw [hcall_none hi] at hu
      have R := H.ob u ou hu
      have eι : (κ.up κ' os t obs'.length).ι u = κ.ι u := by simp [Cfg.up, hi]
      have eF : (κ.up κ' os t obs'.length).F u = κ.F u := by simp [Cfg.up, hi]
      have er : (κ.up κ' os t obs'.length).re u = κ.re u := by simp [Cfg.up, hi]
      have hst := fun b hb => (stay H hobs H' (o := u) (b := b) (tgt_none hi) hu hb).2.2
      refine ⟨Nat.lt_of_lt_of_le R.ver (nclk_le _ _ _), R.esz, fun hne => ⟨by rw [er]; exact (R.blk hne).1, by rw [eι]; exact (R.blk hne).2.same (hst _ (.inl ⟨(R.blk hne).1, rfl⟩))⟩, fun e j x hx => ?_, fun e j b hb => ?_, fun e j e' j' b hb hb' => ?_⟩
      · obtain ⟨v, h1, h2⟩ := R.cells e j x hx
        have hne : ou.es ≠ [] := by intro h0; rw [h0] at hx; simp [cellOf] at hx
        refine ⟨v, ?_, h2.ext E (fun _ b hb => by rw [eF]; exact hb) (fun b hb => hst b (.inr ⟨e, j, hb⟩)) (fun k => k) (fun h3 h4 => (h3 h4).elim)⟩
        rw [Cfg.addr, eι, cell_same (hst _ (.inl ⟨(R.blk hne).1, rfl⟩))]; exact h1
      · rw [eF] at hb; rw [eι]; exact R.sep e j b hb
      · rw [eF] at hb hb'; exact R.disj e j e' j' b hb hb'
    | some k =>
      obtain ⟨b', vv, ff, h4, rfl, hcase⟩ := hcall_some hi hu
      have R := H'.ob (.p k) b' h4
      have eι : (κ.up κ' os t obs'.length).ι u = κ'.ι (.p k) := by simp [Cfg.up, hi]
      have eF : (κ.up κ' os t obs'.length).F u = κ'.F (.p k) := by simp [Cfg.up, hi]
      have er : (κ.up κ' os t obs'.length).re u = κ'.re (.p k) := by simp [Cfg.up, hi]
      have hver : vv < nclk clk os obs' := by
        rcases hcase with ⟨_, _, b, h3, rfl⟩ | ⟨_, h5, rfl⟩
        · exact Nat.lt_of_lt_of_le (H.ob u b h3).ver (nclk_le _ _ _)
        · exact nclk_lt h5
      refine ⟨hver, R.esz, fun hne => ⟨by rw [er]; exact (R.blk hne).1, by rw [eι]; exact (R.blk hne).2⟩, fun e j x hx => ?_, fun e j b hb => ?_, fun e j e' j' b hb hb' => ?_⟩
      · obtain ⟨v, h1, h2⟩ := R.cells e j x hx
        refine ⟨v, by rw [Cfg.addr, eι]; exact h1, ?_⟩
        have hmem : ∃ c ∈ b'.es, x ∈ c := by
          unfold cellOf at hx
          cases he : b'.es[e]? with
          | none => rw [he] at hx; cases hx
          | some c => rw [he] at hx; exact ⟨c, List.mem_of_getElem? he, List.mem_of_getElem? hx⟩
        obtain ⟨c, hc1, hc2⟩ := hmem
        have hpx := hpure' b' (List.mem_of_getElem? h4) c hc1 x hc2
        have plain : x.isDat = false → x.pure = true → VR w' κ' (objs obs') clk' x v → VR w' (κ.up κ' os t obs'.length) (hcall h os obs' t clk) (nclk clk os obs') x v := by
          intro hd hp hv
          cases hv with
          | ro _ _ hr => cases hr <;> first | exact .ro _ _ (.b _) | exact .ro _ _ (.i _ _) | exact .ro _ _ (.s _) | exact .ro _ _ .nilp | exact .ro _ _ .nils | exact .ro _ _ .nilf | exact .ro _ _ (.undef _) | simp [AV.isDat] at hd | simp [AV.pure] at hp
          | _ => simp [AV.pure] at hp
        cases x with
        | dat z es =>
          refine ⟨fun ho => by rw [eF]; exact h2.1 ho, fun ho => ?_⟩
          cases hb : own with
          | true =>
            rcases hown' hb b' (List.mem_of_getElem? h4) with h5 | h5
            · exact absurd h5 ho
            · have := h5 c hc1 _ hc2; simp [AV.isDat] at this
          | false => exact (h2.2 ho).frame (fun b hb' => X_up2 H hobs H' E' hb hb') (fun _ _ => rfl)
        | b _ => exact plain rfl rfl h2
        | i _ _ => exact plain rfl rfl h2
        | s _ => exact plain rfl rfl h2
        | nilp => exact plain rfl rfl h2
        | nils => exact plain rfl rfl h2
        | nilf => exact plain rfl rfl h2
        | undef => exact plain rfl rfl h2
        | _ => simp [AV.pure] at hpx
      · rw [eF] at hb; rw [eι]; exact R.sep e j b hb
      · rw [eF] at hb hb'; exact R.disj e j e' j' b hb hb'
  · cases hi : tgt os t obs'.length u with
    | none =>
      rw [up_foot_none hi] at hf; rw [hcall_none hi] at hu
      obtain ⟨h1, h2, _⟩ := stay H hobs H' (tgt_none hi) hu hf
      cases hi' : tgt os t obs'.length u' with
      | none =>
        rw [up_foot_none hi'] at hf'; rw [hcall_none hi'] at hu'
        exact H.apart u u' ou ou' b hu hu' hne hf hf'
      | some k' =>
        rw [up_foot_some hi'] at hf'
        obtain ⟨b2, _, _, h4, _, _⟩ := hcall_some hi' hu'
        rcases (H'.base (.p k') b2 b h4 hf').1 with h5 | h5
        · omega
        · exact h2 h5
    | some k =>
      rw [up_foot_some hi] at hf
      obtain ⟨b1, _, _, h3, _, _⟩ := hcall_some hi hu
      cases hi' : tgt os t obs'.length u' with
      | none =>
        rw [up_foot_none hi'] at hf'; rw [hcall_none hi'] at hu'
        obtain ⟨h1, h2, _⟩ := stay H hobs H' (tgt_none hi') hu' hf'
        rcases (H'.base (.p k) b1 b h3 hf).1 with h5 | h5
        · omega
        · exact h2 h5
      | some k' =>
        rw [up_foot_some hi'] at hf'
        obtain ⟨b2, _, _, h4, _, _⟩ := hcall_some hi' hu'
        refine H'.apart (.p k) (.p k') b1 b2 b h3 h4 (fun he => hne ?_) hf hf'
        cases he
        exact tgt_inj hi hi'
  · cases hi : tgt os t obs'.length u with
    | none =>
      rw [up_foot_none hi] at hf; rw [hcall_none hi] at hu
      exact ⟨(H.base u ou b hu hf).1, Nat.lt_of_lt_of_le (H.base u ou b hu hf).2 H'.size⟩
    | some k =>
      rw [up_foot_some hi] at hf
      obtain ⟨b2, _, _, h4, _, _⟩ := hcall_some hi hu
      obtain ⟨h5, h6⟩ := H'.base (.p k) b2 b h4 hf
      refine ⟨?_, h6⟩
      rcases h5 with h5 | ⟨k', o, h7, h8⟩
      · exact .inl (Nat.le_trans H.size h5)
      · obtain ⟨b', h9, _⟩ := obs_get hobs h7
        exact (H.base o b' b h9 h8).1
  · rw [H'.old b (Nat.lt_of_lt_of_le hb H.size) ?_, H.old b hb hP]
    rintro ⟨k', o, h7, h8⟩
    obtain ⟨b', h9, _⟩ := obs_get hobs h7
    rcases (H.base o b' b h9 h8).1 with h10 | h10
    · omega
    · exact hP h10

/-- What comes back. -/
theorem Rs.up {X : Bs} (hX : ∀ b, X b → (κ.up κ' os t obs'.length).X (hcall h os obs' t clk) w' b) {r : AV} {v : Value} (hr : Rs w' κ' obs' os.length X r v) :
    VR w' (κ.up κ' os t obs'.length) (hcall h os obs' t clk) (nclk clk os obs') (impA t os.length clk r) v := by
  have hit : ∀ {k : Nat} {ob ob' : Ob}, os.length ≤ k → obs'[k]? = some ob → cur (hcall h os obs' t clk) (.r t (k - os.length)) clk = some ob' →
      ob' = { ob with ver := clk } ∧ (κ.up κ' os t obs'.length).ι (.r t (k - os.length)) = κ'.ι (.p k) ∧ (κ.up κ' os t obs'.length).re (.r t (k - os.length)) = κ'.re (.p k) := by
    intro k ob ob' hn ho hc
    have hi := tgt_r (os := os) (t := t) hn (List.getElem?_eq_some_iff.1 ho).1
    have h1 := (cur_some hc).1
    unfold hcall at h1
    simp only [hi] at h1
    rw [if_neg (by omega), ho] at h1
    simp only [Option.map_some, Option.some.injEq] at h1
    exact ⟨h1.symm, by simp [Cfg.up, hi], by simp [Cfg.up, hi]⟩
  have lt : ∀ {k : Nat} {ob : Ob}, os.length ≤ k → obs'[k]? = some ob → clk < nclk clk os obs' := fun hn ho => nclk_lt (Nat.lt_of_le_of_lt hn (List.getElem?_eq_some_iff.1 ho).1)
  induction hr with
  | ro x v hr =>
    have : impA t os.length clk x = x := by cases hr <;> simp [impA]
    rw [this]
    exact .ro _ _ (hr.frame hX (fun _ _ => rfl))
  | sl k off len cap v ob hn ho hs =>
    rw [impA]
    obtain ⟨a, rc, hsl, _⟩ := hs.slice
    refine .sl _ _ _ _ _ _ ⟨_, _, _, hsl⟩ (lt hn ho) fun ob' hc => ?_
    obtain ⟨rfl, hι, hre⟩ := hit hn ho hc
    rcases hs with ⟨q1, q2, q3⟩ | ⟨rc, q1, q2, q3, q4, q5, q6, q7⟩
    · exact .inl ⟨q1, q2, q3⟩
    · refine .inr ⟨rc, by rw [hre]; exact q1, ?_, q3, q4, q5, q6, by rw [hι]; exact q7⟩
      rw [q2]; simp [Cfg.addr, hι]
  | ptr k e c ob hn ho =>
    rw [impA]
    refine .ptr _ _ _ _ _ ⟨_, rfl⟩ (lt hn ho) fun ob' hc => ?_
    obtain ⟨rfl, hι, hre⟩ := hit hn ho hc
    simp [Cfg.addr, hι]
  | agg cs vs hl _ ih =>
    rw [impA]
    refine .agg _ _ (by rw [impL_len]; exact hl) fun j x hx => ?_
    rw [impL_get] at hx
    cases hy : cs[j]? with
    | none => rw [hy] at hx; cases hx
    | some y => rw [hy] at hx; simp only [Option.map_some, Option.some.injEq] at hx; subst hx; exact ih j y hy
  | tup cs vs hl _ ih =>
    rw [impA]
    refine .tup _ _ (by rw [impL_len]; exact hl) fun j x hx => ?_
    rw [impL_get] at hx
    cases hy : cs[j]? with
    | none => rw [hy] at hx; cases hx
    | some y => rw [hy] at hx; simp only [Option.map_some, Option.some.injEq] at hx; subst hx; exact ih j y hy
end
end Go.AM
end
/-! Call3 -/
section
namespace Go.AM
variable {w : World} {κ : Cfg} {h : Heap} {clk : Nat} {P : Program}

theorem expL_get {os : List Rid} : ∀ (l : List AV) (j : Nat), (expL h os l)[j]? = (l[j]?).map (expA h os)
  | [], j => by simp [expL]
  | x :: r, 0 => by simp [expL]
  | x :: r, j + 1 => by simp [expL, expL_get r j]
theorem expL_len {os : List Rid} : ∀ (l : List AV), (expL h os l).length = l.length
  | [] => by simp [expL]
  | x :: r => by simp [expL, expL_len r]

section
variable {w0 : World} {P0 : Bs} {os : List Rid} {obs : List Ob} {own : Bool}

theorem arg_down (H : HR w0 P0 w κ h clk) (hobs : os.map (fun o => (h o).map (fun b => { b with ver := 0, fixed := true })) = obs.map some) (hnd : os.Nodup) {a : AV} {v : Value} (hv : VR w κ h clk a v) (he : ExpOk h os a) (ho : own = true ∨ a.rootedX os = false) : VR w (κ.down os (Ac κ h w os own)) (objs obs) 1 (expA h os a) v := by
  have one : ∀ {x : AV} {u : Value}, VR w κ h clk x u → (match x with
      | .sl o v off len _ => match os.idxOf? o, cur h o v with
        | none, some ob => Pure ob.es ∧ off + len ≤ ob.es.length
        | some _, some _ => True
        | _, none => False
      | .ptr o v _ _ => match os.idxOf? o, cur h o v with
        | some _, some _ => True
        | _, _ => False
      | c => c.pure = true) → (own = true ∨ x.ref1X os = false) → VR w (κ.down os (Ac κ h w os own)) (objs obs) 1 (expA h os x) u := by
    intro x u hx hy hown
    refine VR_down H hobs hnd hx ?_
    cases x with
    | sl o v off len cap =>
      simp only at hy ⊢
      cases hi : os.idxOf? o <;> cases hc : cur h o v <;> rw [hi, hc] at hy <;> simp only at hy ⊢
      · exact ⟨hy.1, hy.2, hown.resolve_right (by simp only [AV.ref1X, Bool.not_eq_false']; intro hcon; have := List.idxOf?_eq_none_iff.1 hi; simp at hcon; exact this hcon)⟩
    | ptr o v e c => exact hy
    | _ => exact hy
  have list : ∀ (cs : List AV) (vs : Array Value), (own = true ∨ cs.any (AV.ref1X os) = false) → (∀ c ∈ cs, match c with
      | .sl o v off len _ => match os.idxOf? o, cur h o v with
        | none, some ob => Pure ob.es ∧ off + len ≤ ob.es.length
        | some _, some _ => True
        | _, none => False
      | .ptr o v _ _ => match os.idxOf? o, cur h o v with
        | some _, some _ => True
        | _, _ => False
      | c => c.pure = true) → (∀ (j : Nat) x, cs[j]? = some x → VR w κ h clk x (vs.getD j Go.undef)) → ∀ (j : Nat) x, (expL h os cs)[j]? = some x → VR w (κ.down os (Ac κ h w os own)) (objs obs) 1 x (vs.getD j Go.undef) := by
    intro cs vs hown hc hr j x hx
    rw [expL_get] at hx
    cases hy : cs[j]? with
    | none => rw [hy] at hx; cases hx
    | some y =>
      rw [hy] at hx
      simp only [Option.map_some, Option.some.injEq] at hx; subst hx
      exact one (hr j y hy) (hc y (List.mem_of_getElem? hy)) (hown.imp_right fun k => by have := List.any_eq_false.1 k y (List.mem_of_getElem? hy); simpa using this)
  cases a with
  | sl o v off len cap => exact one hv he ho
  | ptr o v e c => exact VR_down H hobs hnd hv he
  | agg cs =>
    have hown : own = true ∨ cs.any (AV.ref1X os) = false := ho
    obtain ⟨vs, rfl, hl, hr⟩ := hv.of_agg
    rw [expA]
    exact .agg _ _ (by rw [expL_len]; exact hl) (list cs vs hown he hr)
  | tup cs =>
    have hown : own = true ∨ cs.any (AV.ref1X os) = false := ho
    obtain ⟨vs, rfl, hl, hr⟩ := hv.of_tup
    rw [expA]
    exact .tup _ _ (by rw [expL_len]; exact hl) (list cs vs hown he hr)
  | fn f cs =>
    have hown : own = true ∨ cs.any (AV.ref1X os) = false := ho
    obtain ⟨vs, rfl, hl, hr⟩ := hv.of_fn
    rw [expA]
    exact .fn _ _ _ (by rw [expL_len]; exact hl) (list cs vs hown he hr)
  | b _ => exact VR_down H hobs hnd hv he
  | i _ _ => exact VR_down H hobs hnd hv he
  | s _ => exact VR_down H hobs hnd hv he
  | nilp => exact VR_down H hobs hnd hv he
  | nils => exact VR_down H hobs hnd hv he
  | nilf => exact VR_down H hobs hnd hv he
  | undef => exact VR_down H hobs hnd hv he
  | dat _ _ => exact VR_down H hobs hnd hv he
  | eptr _ _ => exact VR_down H hobs hnd hv he
end

theorem execOp_callv {ρ : Operand → Value} {x : Operand} {f : FuncId} {capt : Array Value} (hx : ρ x = .func (.func f) #[] capt) (dst : Option Tmp) (xs : Array Operand) (ats : Array TypeId) (ty : TypeId) (pos : String) (after : Array Edge) (guard : Option (Nat × Bool)) :
    execOp ρ { dst, op := .call { callee := .value x, args := xs, argTypes := ats }, type := ty, pos, after, guard } = callFunc f (#[] ++ xs.map ρ ++ capt) := by
  unfold execOp resolve
  simp only [hx]
  rfl

theorem call_ok {w0 : World} {P0 : Bs} {C : Con} (hC : ∀ fid args obs own Φ, C.c fid args obs own Φ → Holds P fid args obs own Φ) (H : HR w0 P0 w κ h clk) {g : Slots} {ρ : Operand → Value}
    (hg : ∀ x, VR w κ h clk (ev g (cv x)) (ρ x)) {f : Operand} {xs : Array Operand} {d : Option Nat} {Q : Post} (hk : kcall C d (ev g (cv f)) ((xs.toList.map cv).map (ev g)) Q g h clk)
    (dst : Option Tmp) (ats : Array TypeId) (ty : TypeId) (pos : String) (after : Array Edge) (guard : Option (Nat × Bool)) :
    ∃ fid vs, (execOp ρ { dst, op := .call { callee := .value f, args := xs, argTypes := ats }, type := ty, pos, after, guard }).run P w = .ok (.enter fid vs) w ∧
      Calls P fid vs w (fun e w' => match e with
        | .returned v => ∃ κ' h' clk' r, HR w0 P0 w' κ' h' clk' ∧ Ext w κ h clk w' κ' h' clk' ∧ VR w' κ' h' clk' r v ∧ Q (updO g d r) h' clk'
        | _ => False) := by
  obtain ⟨fid, capt, hf, os, obs, own, Φ, hc, hobs, hnd, hexp, hp, hroot, hrest⟩ := hk
  have hfv := hg f
  rw [hf] at hfv
  obtain ⟨cvs, hfe, hcl, hcr⟩ := hfv.of_fn
  obtain ⟨hcall, hsum⟩ := hC _ _ _ _ _ hc
  refine ⟨fid, #[] ++ xs.map ρ ++ cvs, by rw [execOp_callv hfe]; exact hcall _ _, ?_⟩
  have hvr : ∀ (j : Nat) x, (((xs.toList.map cv).map (ev g)) ++ capt)[j]? = some x → VR w κ h clk x ((#[] ++ xs.map ρ ++ cvs).getD j Go.undef) := by
    intro j x hx
    have e1 : (#[] ++ xs.map ρ ++ cvs) = xs.map ρ ++ cvs := by simp
    rw [e1]
    by_cases hj : j < xs.size
    · rw [List.getElem?_append_left (by simpa using hj)] at hx
      simp only [List.getElem?_map, Array.getElem?_toList, Option.map_eq_some_iff] at hx
      obtain ⟨_, ⟨y, hy, rfl⟩, rfl⟩ := hx
      rw [Array.getD_eq_getD_getElem?, Array.getElem?_append_left (by simpa using hj)]
      simp only [Array.getElem?_map, hy, Option.map_some, Option.getD_some]
      exact hg y
    · rw [List.getElem?_append_right (by simpa using hj)] at hx
      have e2 : ((xs.toList.map cv).map (ev g)).length = xs.size := by simp
      rw [e2] at hx
      have := hcr _ _ hx
      rw [Array.getD_eq_getD_getElem?, Array.getElem?_append_right (by simpa using hj)]
      rw [Array.getD_eq_getD_getElem?] at this
      simpa using this
  have hS := hsum w (κ.down os (Ac κ h w os own)) (#[] ++ xs.map ρ ++ cvs) (P0c κ os) (HR_down H hobs hnd hp)
    (fun b => by
      constructor
      · rintro ⟨k, o, h1, h2⟩
        obtain ⟨b', h3, h4⟩ := obs_get hobs h1
        exact ⟨k, _, h4, (down_foot h1 b).2 h2⟩
      · rintro ⟨k, ob, h1, h2⟩
        obtain ⟨o, b', h3, h4, _⟩ := obs_get' hobs h1
        exact ⟨k, o, h3, (down_foot h3 b).1 h2⟩)
    (by rw [expL_len, List.length_append, hcl]; simp)
    (fun j x hx => by
      rw [expL_get] at hx
      cases hy : (((xs.toList.map cv).map (ev g)) ++ capt)[j]? with
      | none => rw [hy] at hx; cases hx
      | some y =>
        rw [hy] at hx
        simp only [Option.map_some, Option.some.injEq] at hx; subst hx
        have hm := List.mem_of_getElem? hy
        exact arg_down H hobs hnd (hvr j y hy) (hexp y hm) (hroot.imp id (fun h1 => h1 y hm)))
  refine Calls.mono hS fun e w' he => ?_
  cases e with
  | panicked _ => exact he
  | outgrown => exact he
  | returned v =>
    obtain ⟨r, obs', κ', clk', hΦ, H', E', hv0, hr⟩ := he
    obtain ⟨hlen, hp', hown, hq⟩ := hrest r obs' hΦ
    rw [obs_len hobs] at hr
    refine ⟨_, _, _, _, HR_up H hobs hnd H' E' hv0 hp' hown, Ext_up H hobs hnd H' E' hv0 hp' hown, Rs.up (fun b hb => ?_) hr, hq⟩
    cases ho : own with
    | true => exact X_up' H hobs H' hb.1 (hb.2 ho)
    | false => exact X_up2 H hobs H' E' ho hb.1
theorem callx_ok {w0 : World} {P0 : Bs} {C : Con} (hC : ∀ fid args h clk Q, C.x fid args h clk Q → HoldsX P fid args h clk Q) (H : HR w0 P0 w κ h clk) {g : Slots} {ρ : Operand → Value}
    (hg : ∀ x, VR w κ h clk (ev g (cv x)) (ρ x)) {f : Operand} {xs : Array Operand} {d : Option Nat} {Q : Post} (hk : kcallx C d (ev g (cv f)) ((xs.toList.map cv).map (ev g)) Q g h clk)
    (dst : Option Tmp) (ats : Array TypeId) (ty : TypeId) (pos : String) (after : Array Edge) (guard : Option (Nat × Bool)) :
    (∃ fid vs, (execOp ρ { dst, op := .call { callee := .value f, args := xs, argTypes := ats }, type := ty, pos, after, guard }).run P w = .ok (.enter fid vs) w ∧
      Calls P fid vs w (fun e w' => match e with
        | .returned v => ∃ κ' h' clk' r, HR w0 P0 w' κ' h' clk' ∧ Ext w κ h clk w' κ' h' clk' ∧ VR w' κ' h' clk' r v ∧ Q (updO g d r) h' clk'
        | _ => False)) ∨
    (∃ v w', (execOp ρ { dst, op := .call { callee := .value f, args := xs, argTypes := ats }, type := ty, pos, after, guard }).run P w = .ok (.value v) w' ∧
      ∃ κ' h' clk' r, HR w0 P0 w' κ' h' clk' ∧ Ext w κ h clk w' κ' h' clk' ∧ VR w' κ' h' clk' r v ∧ Q (updO g d r) h' clk') := by
  obtain ⟨fid, capt, hf, hx⟩ := hk
  have hfv := hg f
  rw [hf] at hfv
  obtain ⟨cvs, hfe, hcl, hcr⟩ := hfv.of_fn
  have hvr : ∀ (j : Nat) x, (((xs.toList.map cv).map (ev g)) ++ capt)[j]? = some x → VR w κ h clk x ((#[] ++ xs.map ρ ++ cvs).getD j Go.undef) := by
    intro j x hx
    have e1 : (#[] ++ xs.map ρ ++ cvs) = xs.map ρ ++ cvs := by simp
    rw [e1]
    by_cases hj : j < xs.size
    · rw [List.getElem?_append_left (by simpa using hj)] at hx
      simp only [List.getElem?_map, Array.getElem?_toList, Option.map_eq_some_iff] at hx
      obtain ⟨_, ⟨y, hy, rfl⟩, rfl⟩ := hx
      rw [Array.getD_eq_getD_getElem?, Array.getElem?_append_left (by simpa using hj)]
      simp only [Array.getElem?_map, hy, Option.map_some, Option.getD_some]
      exact hg y
    · rw [List.getElem?_append_right (by simpa using hj)] at hx
      have e2 : ((xs.toList.map cv).map (ev g)).length = xs.size := by simp
      rw [e2] at hx
      have := hcr _ _ hx
      rw [Array.getD_eq_getD_getElem?, Array.getElem?_append_right (by simpa using hj)]
      rw [Array.getD_eq_getD_getElem?] at this
      simpa using this
  rcases hC _ _ _ _ _ hx w0 P0 w κ (#[] ++ xs.map ρ ++ cvs) H (by rw [List.length_append, hcl]; simp) hvr with ⟨h1, h2⟩ | ⟨v, w', h1, r, h', κ', clk', h2, h3, h4, h5⟩
  · refine .inl ⟨fid, _, by rw [execOp_callv hfe]; exact h1, h2.mono fun e w' he => ?_⟩
    cases e with
    | returned v => obtain ⟨r, h', κ', clk', q1, q2, q3, q4⟩ := he; exact ⟨κ', h', clk', r, q2, q3, q4, q1⟩
    | panicked _ => exact he
    | outgrown => exact he
  · exact .inr ⟨v, w', by rw [execOp_callv hfe]; exact h1, κ', h', clk', r, h3, h4, h5, h2⟩
end Go.AM
end
/-! Code1 -/
section
namespace Go.AM
variable {P : Program}

structure Ini where
  w0 : World
  P0 : Bs
  w : World
  κ : Cfg
  h : Heap
  clk : Nat
  n : Nat
  ds : List Deferred

structure Rel (I : Ini) (g : Slots) (h : Heap) (clk : Nat) (a : Act) (w : World) : Prop where
  df : a.defers = I.ds
  sz : a.tmps.size = I.n
  st : ∃ κ, HR I.w0 I.P0 w κ h clk ∧ Ext I.w I.κ I.h I.clk w κ h clk ∧ ∀ t, VR w κ h clk (g t) (a.tmps.getD t Go.undef)

variable {I : Ini} {g : Slots} {h : Heap} {clk : Nat} {a : Act} {w : World}

theorem Rel.put {w' : World} {κ' : Cfg} {h' : Heap} {clk' : Nat} {d : Option Nat} {v : AV} {u : Value} (R : Rel I g h clk a w) (H : HR I.w0 I.P0 w' κ' h' clk') (E : Ext I.w I.κ I.h I.clk w' κ' h' clk')
    (hg : ∀ t, VR w' κ' h' clk' (g t) (a.tmps.getD t Go.undef)) (hv : VR w' κ' h' clk' v u) (hd : d.all (· < I.n) = true) : Rel I (updO g d v) h' clk' (a.put d u) w' := by
  cases d with
  | none => exact ⟨R.df, R.sz, κ', H, E, hg⟩
  | some t =>
    have ht : t < a.tmps.size := by rw [R.sz]; simpa using hd
    refine ⟨R.df, by simp [Act.put, R.sz], κ', H, E, fun s => ?_⟩
    simp only [updO, upd]
    by_cases hs : s = t
    · subst hs
      simp only [if_true, Act.put]
      rw [Array.getD_eq_getD_getElem?, Array.getElem?_setIfInBounds_self_of_lt ht]
      exact hv
    · rw [if_neg hs]
      have := hg s
      rw [Array.getD_eq_getD_getElem?] at this ⊢
      simp only [Act.put]
      rw [Array.getElem?_setIfInBounds_ne (by omega)]
      exact this

/-- What an operation may end in. -/
def Lands (C : Con) (I : Ini) (Q : Post) (K : Act → World → Prop) : Prop := ∀ g h clk a w, Q g h clk → Rel I g h clk a w → K a w

theorem land_makes {s : Sem Value} {o : Oper} {K : Act → World → Prop} {QQ : Exit → Act → World → Prop} {Q : Post} {v : AV} {h' : Heap} {clk' : Nat} {κ : Cfg} (C : Con) (R : Rel I g h clk a w) (hE : Ext I.w I.κ I.h I.clk w κ h clk) (hg : ∀ t, VR w κ h clk (g t) (a.tmps.getD t Go.undef)) (hd : o.dst.all (· < I.n) = true)
    (hm : Makes P I.w0 I.P0 s w κ h clk v h' clk') (he : execOp a.eval o = (do pure (.value (← s)))) (hq : Q (updO g o.dst v) h' clk') (hK : Lands C I Q K) : o.wp P a w K QQ := by
  obtain ⟨u, w', κ', hr, H', E', hv⟩ := hm
  unfold Oper.wp
  rw [he]
  simp only [Sem.run_bind, hr, Result.andThen, Sem.run_pure, Oper.upon]
  exact hK _ _ _ _ _ hq (R.put H' (hE.trans E') (fun t => (hg t).ext E') hv hd)

theorem notNone {α : Type} {x : Option α} (h : ¬ x.isNone = true) : x.isSome = true := by cases x <;> simp_all
theorem inv_alloc {op : Op} {cs : List AV} (hc : co P op = .alloc cs) : ∃ t, op = .alloc t ∧ ((P.info? t).bind (·.zero)).isSome = true ∧ cs = zeroT P t := by
  cases op <;> simp only [co, ccall, ceq] at hc
  case makeFunc f _ _ => cases f <;> simp only at hc <;> (repeat' split at hc) <;> cases hc
  case alloc t => split at hc
                  · cases hc; exact ⟨t, rfl, by assumption, rfl⟩
                  · cases hc
  all_goals (repeat' split at hc) <;> cases hc
theorem inv_box {op : Op} {x : KV} (hc : co P op = .box x) : ∃ t y, op = .box t y ∧ x = cv y := by
  cases op <;> simp only [co, ccall, ceq] at hc
  case makeFunc f _ _ => cases f <;> simp only at hc <;> (repeat' split at hc) <;> cases hc
  case box t y => cases hc; exact ⟨t, y, rfl, rfl⟩
  all_goals (repeat' split at hc) <;> cases hc
theorem inv_bsl {op : Op} {esz n : Nat} {z : List AV} {ps : List (Nat × KV)} (hc : co P op = .bslice esz n z ps) : ∃ t e qs, op = .buildSlice t n qs ∧ elemT P t = some e ∧ ((P.info? e).bind (·.zero)).isSome = true ∧ esz = P.cellsOf e ∧ z = zeroT P e ∧ ps = qs.toList.map fun (i, x) => (i, cv x) := by
  cases op <;> simp only [co, ccall, ceq] at hc
  case makeFunc f _ _ => cases f <;> simp only at hc <;> (repeat' split at hc) <;> cases hc
  case buildSlice t m qs =>
    split at hc
    · split at hc
      · cases hc
      · rename_i e he hz; cases hc
        exact ⟨t, e, qs, rfl, he, notNone hz, rfl, rfl, rfl⟩
    · cases hc
  all_goals (repeat' split at hc) <;> cases hc
theorem inv_mks {op : Op} {esz bytes : Nat} {z : List AV} {l c : KV} (hc : co P op = .mks esz bytes z l c) : ∃ t e x y, op = .makeSlice t x y ∧ elemT P t = some e ∧ ((P.info? e).bind (·.zero)).isSome = true ∧ esz = P.cellsOf e ∧ bytes = P.bytesOf e ∧ z = zeroT P e ∧ l = cv x ∧ c = cv y := by
  cases op <;> simp only [co, ccall, ceq] at hc
  case makeFunc f _ _ => cases f <;> simp only at hc <;> (repeat' split at hc) <;> cases hc
  case makeSlice t x y =>
    split at hc
    · split at hc
      · cases hc
      · rename_i e he hz; cases hc
        exact ⟨t, e, x, y, rfl, he, notNone hz, rfl, rfl, rfl, rfl, rfl⟩
    · cases hc
  all_goals (repeat' split at hc) <;> cases hc
theorem inv_store {op : Op} {n : Nat} {x v : KV} (hc : co P op = .store n x v) : ∃ t y u, op = .store t y u ∧ (P.info? t).isSome = true ∧ n = P.cellsOf t ∧ x = cv y ∧ v = cv u := by
  cases op <;> simp only [co, ccall, ceq] at hc
  case makeFunc f _ _ => cases f <;> simp only at hc <;> (repeat' split at hc) <;> cases hc
  case store t y u =>
    split at hc
    · cases hc; exact ⟨t, y, u, rfl, by assumption, rfl, rfl, rfl⟩
    · cases hc
  all_goals (repeat' split at hc) <;> cases hc
theorem inv_call {op : Op} {f : KV} {xs : List KV} (hc : co P op = .call f xs) : ∃ x ys ats, op = .call ⟨.value x, ys, ats⟩ ∧ f = cv x ∧ xs = ys.toList.map cv := by
  cases op <;> simp only [co, ceq] at hc
  case makeFunc f _ _ => cases f <;> simp only at hc <;> (repeat' split at hc) <;> cases hc
  case call c =>
    obtain ⟨cal, args, ats⟩ := c
    simp only [ccall] at hc
    cases cal <;> simp only at hc
    case value x => cases hc; exact ⟨x, args, ats, rfl, rfl, rfl⟩
    all_goals (repeat' split at hc) <;> cases hc
  all_goals (repeat' split at hc) <;> cases hc
theorem inv_eqn {op : Op} {neg : Bool} {x y : KV} (hc : co P op = .eqn neg x y) : ∃ t x' y' ty' e, op = .binOp (if neg then .neq else .eql) t x' y' ty' ∧ P.underlying t = some (.slice e) ∧ x = cv x' ∧ y = cv y' := by
  cases op <;> simp only [co, ccall] at hc
  case makeFunc f _ _ => cases f <;> simp only at hc <;> (repeat' split at hc) <;> cases hc
  case binOp op t x' y' ty' =>
    have key : ∀ n, ceq P n t (cv x') (cv y') = .eqn neg x y → n = neg ∧ ∃ e, P.underlying t = some (.slice e) ∧ x = cv x' ∧ y = cv y' := by
      intro n hc
      unfold ceq at hc
      split at hc <;> (try (cases hc; done))
      · cases hc; rename_i e he; exact ⟨rfl, e, he, rfl, rfl⟩
      · (repeat' split at hc) <;> cases hc
    cases op <;> simp only at hc <;> (try (cases hc; done))
    · obtain ⟨rfl, e, h1, h2, h3⟩ := key _ hc; exact ⟨t, x', y', ty', e, rfl, h1, h2, h3⟩
    · obtain ⟨rfl, e, h1, h2, h3⟩ := key _ hc; exact ⟨t, x', y', ty', e, rfl, h1, h2, h3⟩
  all_goals (repeat' split at hc) <;> cases hc
theorem inv_call0 {op : Op} {f : KV} {xs : List KV} (hc : co P op = .call0 f xs) : False := by
  cases op <;> simp only [co, ccall, ceq] at hc
  case makeFunc f _ _ => cases f <;> simp only at hc <;> (repeat' split at hc) <;> cases hc
  all_goals (repeat' split at hc) <;> cases hc
theorem inv_gh {op : Op} (hc : co P op = .gh) : False := by
  cases op <;> simp only [co, ccall, ceq] at hc
  case makeFunc f _ _ => cases f <;> simp only at hc <;> (repeat' split at hc) <;> cases hc
  all_goals (repeat' split at hc) <;> cases hc
theorem inv_callv {op : Op} {f : KV} {xs : List KV} (hc : co P op = .callv f xs) : False := by
  cases op <;> simp only [co, ccall, ceq] at hc
  case makeFunc f _ _ => cases f <;> simp only at hc <;> (repeat' split at hc) <;> cases hc
  all_goals (repeat' split at hc) <;> cases hc
theorem inv_calln {op : Op} {f : KV} {xs : List KV} (hc : co P op = .calln f xs) : False := by
  cases op <;> simp only [co, ccall, ceq] at hc
  case makeFunc f _ _ => cases f <;> simp only at hc <;> (repeat' split at hc) <;> cases hc
  all_goals (repeat' split at hc) <;> cases hc
theorem inv_mk4 {op : Op} {o : KO} (hc : co P op = .mk4 o) : False := by
  cases op <;> simp only [co, ccall, ceq] at hc
  case makeFunc f _ _ => cases f <;> simp only at hc <;> (repeat' split at hc) <;> cases hc
  all_goals (repeat' split at hc) <;> cases hc
theorem inv_callc {op : Op} {f : Nat} {xs : List KV} (hc : co P op = .callc f xs) : False := by
  cases op <;> simp only [co, ccall, ceq] at hc
  case makeFunc f _ _ => cases f <;> simp only at hc <;> (repeat' split at hc) <;> cases hc
  all_goals (repeat' split at hc) <;> cases hc
theorem inv_stl {op : Op} {m n : Nat} {x v : KV} (hc : co P op = .stl m n x v) : False := by
  cases op <;> simp only [co, ccall, ceq] at hc
  case makeFunc f _ _ => cases f <;> simp only at hc <;> (repeat' split at hc) <;> cases hc
  all_goals (repeat' split at hc) <;> cases hc
theorem inv_callh {op : Op} {f : KV} {xs : List KV} (hc : co P op = .callh f xs) : False := by
  cases op <;> simp only [co, ccall, ceq] at hc
  case makeFunc f _ _ => cases f <;> simp only at hc <;> (repeat' split at hc) <;> cases hc
  all_goals (repeat' split at hc) <;> cases hc
theorem inv_callg {op : Op} {f : KV} {xs : List KV} (hc : co P op = .callg f xs) : False := by
  cases op <;> simp only [co, ccall, ceq] at hc
  case makeFunc f _ _ => cases f <;> simp only at hc <;> (repeat' split at hc) <;> cases hc
  all_goals (repeat' split at hc) <;> cases hc
theorem inv_cpy {op : Op} {esz : Nat} {s x : KV} (hc : co P op = .cpy esz s x) : ∃ e st xt y u ys, op = .call ⟨.builtin .copy, ys, #[st, xt]⟩ ∧ ys = #[y, u] ∧ elemT P st = some e ∧
    (∃ e', P.underlying xt = some (.slice e') ∨ P.underlying xt = some .string) ∧ esz = P.cellsOf e ∧ s = cv y ∧ x = cv u := by
  cases op <;> simp only [co, ceq] at hc
  case makeFunc f _ _ => cases f <;> simp only at hc <;> (repeat' split at hc) <;> cases hc
  case call c =>
    obtain ⟨cal, args, ats⟩ := c
    simp only [ccall] at hc
    cases cal <;> simp only at hc
    case builtin b =>
      split at hc
      case h_4 s' x' st xt h1 h2 =>
        split at hc
        · rename_i e he
          split at hc
          · rename_i hz
            simp only [Bool.or_eq_true] at hz
            cases hc
            have hat : ats = #[st, xt] := by rw [← Array.toList_inj]; exact h2
            obtain ⟨y, u, hyu, hy, hu⟩ : ∃ y u, args = #[y, u] ∧ cv y = s ∧ cv u = x := by
              have hl : args.size = 2 := by have := congrArg List.length h1; simpa using this
              have e1 : args = #[args[0], args[1]] := by
                apply Array.ext <;> simp [hl]
                intro i h5
                rcases (by omega : i = 0 ∨ i = 1) with rfl | rfl <;> (intro _; rfl)
              refine ⟨args[0], args[1], e1, ?_, ?_⟩
              · rw [e1] at h1; simp at h1; exact h1.1
              · rw [e1] at h1; simp at h1; exact h1.2
            refine ⟨e, st, xt, y, u, args, by rw [hat], hyu, he, ?_, rfl, hy.symm, hu.symm⟩
            rcases hz with h5 | h5
            · exact ⟨e, .inr (isStrT_eq h5)⟩
            · obtain ⟨e', h6⟩ := Option.isSome_iff_exists.1 h5
              exact ⟨e', .inl (elemT_eq h6).1⟩
          · cases hc
        · cases hc
      all_goals (repeat' split at hc) <;> cases hc
    all_goals (repeat' split at hc) <;> cases hc
  all_goals (repeat' split at hc) <;> cases hc
theorem inv_clr {op : Op} {esz : Nat} {z : List AV} {x : KV} (hc : co P op = .clr esz z x) : ∃ e t y ys, op = .call ⟨.builtin .clear, ys, #[t]⟩ ∧ ys = #[y] ∧ elemT P t = some e ∧ ((P.info? e).bind (·.zero)).isSome = true ∧
    esz = P.cellsOf e ∧ z = zeroT P e ∧ x = cv y := by
  cases op <;> simp only [co, ceq] at hc
  case makeFunc f _ _ => cases f <;> simp only at hc <;> (repeat' split at hc) <;> cases hc
  case call c =>
    obtain ⟨cal, args, ats⟩ := c
    simp only [ccall] at hc
    cases cal <;> simp only at hc
    case builtin b =>
      split at hc
      case h_5 x' t h1 h2 =>
        split at hc
        · rename_i e he
          split at hc
          · rename_i hz
            simp only [Bool.and_eq_true, beq_iff_eq] at hz
            cases hc
            have hat : ats = #[t] := by rw [← Array.toList_inj]; exact h2
            obtain ⟨y, hyu, hy⟩ : ∃ y, args = #[y] ∧ cv y = x := by
              have hl : args.size = 1 := by have := congrArg List.length h1; simpa using this
              have e1 : args = #[args[0]] := by
                apply Array.ext <;> simp [hl]
                intro i h5
                have : i = 0 := by omega
                subst this; rfl
              refine ⟨args[0], e1, ?_⟩
              rw [e1] at h1; simp at h1; exact h1
            exact ⟨e, t, y, args, by rw [hat], hyu, he, hz.1, rfl, rfl, hy.symm⟩
          · cases hc
        · cases hc
      all_goals (repeat' split at hc) <;> cases hc
    all_goals (repeat' split at hc) <;> cases hc
  all_goals (repeat' split at hc) <;> cases hc
theorem inv_app {op : Op} {esz bytes : Nat} {z : List AV} {s x : KV} (hc : co P op = .app esz bytes z s x) : ∃ e st xt y u ys, op = .call ⟨.builtin .append, ys, #[st, xt]⟩ ∧ ys = #[y, u] ∧ elemT P st = some e ∧ ((P.info? e).bind (·.zero)).isSome = true ∧ (zeroT P e).length = P.cellsOf e ∧
    (∃ e', P.underlying xt = some (.slice e') ∨ P.underlying xt = some .string) ∧ esz = P.cellsOf e ∧ bytes = P.bytesOf e ∧ s = cv y ∧ x = cv u := by
  cases op <;> simp only [co, ceq] at hc
  case makeFunc f _ _ => cases f <;> simp only at hc <;> (repeat' split at hc) <;> cases hc
  case call c =>
    obtain ⟨cal, args, ats⟩ := c
    simp only [ccall] at hc
    cases cal <;> simp only at hc
    case builtin b =>
      split at hc
      case h_3 s' x' st xt h1 h2 =>
        split at hc
        · rename_i e he
          split at hc
          · rename_i hz
            simp only [Bool.and_eq_true, Bool.or_eq_true, beq_iff_eq] at hz
            cases hc
            have hat : ats = #[st, xt] := by rw [← Array.toList_inj]; exact h2
            obtain ⟨y, u, hyu, hy, hu⟩ : ∃ y u, args = #[y, u] ∧ cv y = s ∧ cv u = x := by
              have hl : args.size = 2 := by have := congrArg List.length h1; simpa using this
              have e1 : args = #[args[0], args[1]] := by
                apply Array.ext <;> simp [hl]
                intro i h5
                rcases (by omega : i = 0 ∨ i = 1) with rfl | rfl <;> (intro _; rfl)
              refine ⟨args[0], args[1], e1, ?_, ?_⟩
              · rw [e1] at h1; simp at h1; exact h1.1
              · rw [e1] at h1; simp at h1; exact h1.2
            refine ⟨e, st, xt, y, u, args, by rw [hat], hyu, he, hz.1.1, hz.1.2, ?_, rfl, rfl, hy.symm, hu.symm⟩
            rcases hz.2 with h5 | h5
            · exact ⟨e, .inr (isStrT_eq h5)⟩
            · obtain ⟨e', h6⟩ := Option.isSome_iff_exists.1 h5
              exact ⟨e', .inl (elemT_eq h6).1⟩
          · split at hc <;> cases hc
        · cases hc
      all_goals (repeat' split at hc) <;> cases hc
    all_goals (repeat' split at hc) <;> cases hc
  all_goals (repeat' split at hc) <;> cases hc
theorem inv_appz {op : Op} {esz bytes : Nat} {z : List AV} {s x : KV} (hc : co P op = .appz esz bytes z s x) : ∃ e st xt y u ys k, op = .call ⟨.builtin .append, ys, #[st, xt]⟩ ∧ ys = #[y, u] ∧ elemT P st = some e ∧ ((P.info? e).bind (·.zero)).isSome = true ∧
    P.underlying xt = some (.int k) ∧ esz = P.cellsOf e ∧ bytes = P.bytesOf e ∧ z = zeroT P e ∧ s = cv y ∧ x = cv u := by
  cases op <;> simp only [co, ceq] at hc
  case makeFunc f _ _ => cases f <;> simp only at hc <;> (repeat' split at hc) <;> cases hc
  case call c =>
    obtain ⟨cal, args, ats⟩ := c
    simp only [ccall] at hc
    cases cal <;> simp only at hc
    case builtin b =>
      split at hc
      case h_3 s' x' st xt h1 h2 =>
        split at hc
        · rename_i e he
          split at hc
          · cases hc
          · split at hc
            · rename_i hz
              simp only [Bool.and_eq_true, beq_iff_eq] at hz
              cases hc
              have hat : ats = #[st, xt] := by rw [← Array.toList_inj]; exact h2
              obtain ⟨y, u, hyu, hy, hu⟩ : ∃ y u, args = #[y, u] ∧ cv y = s ∧ cv u = x := by
                have hl : args.size = 2 := by have := congrArg List.length h1; simpa using this
                have e1 : args = #[args[0], args[1]] := by
                  apply Array.ext <;> simp [hl]
                  intro i h5
                  rcases (by omega : i = 0 ∨ i = 1) with rfl | rfl <;> (intro _; rfl)
                refine ⟨args[0], args[1], e1, ?_, ?_⟩
                · rw [e1] at h1; simp at h1; exact h1.1
                · rw [e1] at h1; simp at h1; exact h1.2
              obtain ⟨k, h6⟩ := Option.isSome_iff_exists.1 hz.2
              have h7 : P.underlying xt = some (.int k) := by
                unfold isIntT at h6
                split at h6
                · cases h6; assumption
                · cases h6
              exact ⟨e, st, xt, y, u, args, k, by rw [hat], hyu, he, hz.1.1, h7, rfl, rfl, rfl, hy.symm, hu.symm⟩
            · cases hc
        · cases hc
      all_goals (repeat' split at hc) <;> cases hc
    all_goals (repeat' split at hc) <;> cases hc
  all_goals (repeat' split at hc) <;> cases hc
end Go.AM
end
/-! Code2 -/
section
namespace Go.AM
variable {P : Program} {I : Ini} {g : Slots} {h : Heap} {clk : Nat} {a : Act} {w : World}

def ConOk (P : Program) (C : Con) : Prop := (∀ fid args obs own Φ, C.c fid args obs own Φ → Holds P fid args obs own Φ) ∧ (∀ fid args h clk Q, C.x fid args h clk Q → HoldsX P fid args h clk Q) ∧ ∀ fid z es, C.cp fid z es → C.c fid [.dat z es] [] true (fun r o => r = .sl (.p 0) 1 0 es.length none ∧ o = [{ ver := 1, es := es, esz := z }])

theorem kop_ok {C : Con} (hC : ConOk P C) {o : Oper} {Q : Post} {K : Act → World → Prop} {QQ : Exit → Act → World → Prop} (R : Rel I g h clk a w) (hd : o.dst.all (· < I.n) = true)
    (hk : kop C o.dst (co P o.op) Q g h clk) (hK : Lands C I Q K) : o.wp P a w K QQ := by
  obtain ⟨κ, H, E, hg⟩ := R.st
  have hev : ∀ x, VR w κ h clk (ev g (cv x)) (a.eval x) := ev_ok H.here hg
  have plain : (∃ p v, kv h g (co P o.op) = some (p, v) ∧ p ∧ Q (updO g o.dst v) h clk) → o.wp P a w K QQ := by
    rintro ⟨p, v, h1, h2, h3⟩
    obtain ⟨u, h4, h5⟩ := kv_ok H.here H.ob hg h1 h2
    unfold Oper.wp
    rw [h4]
    exact hK _ _ _ _ _ h3 (R.put H E hg h5 hd)
  cases hco : co P o.op with
  | alloc cs =>
    rw [hco] at hk
    obtain ⟨t, p, v, h', c', hdt, hke, hp, hq⟩ := hk
    obtain ⟨ty, hop, hz, rfl⟩ := inv_alloc hco
    simp only [ke, allocF, Option.some.injEq, Prod.mk.injEq] at hke; obtain ⟨_, rfl, rfl, rfl⟩ := hke
    obtain ⟨z, hzr, hzc⟩ := zeroT_ok (w := w) (κ := κ) (h := h) (clk := clk) hz
    obtain ⟨u, w', κ', hr, hm⟩ := alloc_ok (P := P) (t := ty) (d := t) H hzc zeroT_cells
    have hm2 : Makes P I.w0 I.P0 (Instr.alloc ty true (.tuple #[])) w κ h clk _ _ _ := ⟨u, w', κ', by
      simp only [Instr.alloc, Sem.run_bind, hzr, Result.andThen]
      exact hr, hm⟩
    refine land_makes C R E hg hd hm2 ?_ (by rw [hdt]; exact hq) hK
    obtain ⟨dst, op, ty', pos, af, gd⟩ := o; simp only at hop; subst hop; rfl
  | box x =>
    rw [hco] at hk
    obtain ⟨t, p, v, h', c', hdt, hke, hp, hq⟩ := hk
    obtain ⟨ty, y, hop, rfl⟩ := inv_box hco
    simp only [ke, boxF, Option.some.injEq, Prod.mk.injEq] at hke; obtain ⟨rfl, rfl, rfl, rfl⟩ := hke
    have hm := alloc_ok (P := P) (t := ty) (d := t) H ((hev y).cells hp) (fun x hx => .inl (List.all_eq_true.1 hp x hx))
    refine land_makes (s := Instr.box ty (a.eval y)) C R E hg hd hm ?_ (by rw [hdt]; exact hq) hK
    obtain ⟨dst, op, ty', pos, af, gd⟩ := o; simp only at hop; subst hop; rfl
  | bslice esz n z ps =>
    rw [hco] at hk
    obtain ⟨t, p, v, h', c', hdt, hke, hp, hq⟩ := hk
    obtain ⟨ty, e, qs, hop, he, hz, rfl, rfl, rfl⟩ := inv_bsl hco
    have hm := bsl_ok (P := P) (t := ty) (e := e) (d := t) (n := n) (esz := P.cellsOf e) (ps := qs) (g := g) (ρ := a.eval) H (elemT_eq he).1 (elemT_eq he).2 hz rfl hev hke hp
    refine land_makes C R E hg hd hm ?_ (by rw [hdt]; exact hq) hK
    obtain ⟨dst, op, ty', pos, af, gd⟩ := o; simp only at hop; subst hop; rfl
  | mks esz bytes z l c =>
    rw [hco] at hk
    obtain ⟨t, p, v, h', c', hdt, hke, hp, hq⟩ := hk
    obtain ⟨ty, e, x, y, hop, he, hz, rfl, rfl, rfl, rfl, rfl⟩ := inv_mks hco
    have hm := mks_ok (P := P) (t := ty) (e := e) (d := t) (esz := P.cellsOf e) H (elemT_eq he).1 (elemT_eq he).2 hz rfl (hev x) (hev y) hke hp
    refine land_makes C R E hg hd hm ?_ (by rw [hdt]; exact hq) hK
    obtain ⟨dst, op, ty', pos, af, gd⟩ := o; simp only at hop; subst hop; rfl
  | store n x v =>
    rw [hco] at hk
    obtain ⟨p, h', hs, hp, hq⟩ := hk
    obtain ⟨ty, y, u, hop, hi, rfl, rfl, rfl⟩ := inv_store hco
    obtain ⟨ad, w', κ', hva, hr, H', E'⟩ := store_ok (P := P) (t := ty) H hi rfl (hev y) (hev u) hs hp
    unfold Oper.wp
    have hx : (execOp a.eval o).run P w = .ok .skip w' := by
      obtain ⟨dst, op, ty', pos, af, gd⟩ := o; simp only at hop; subst hop
      simp only [execOp, Instr.storeAt, Instr.sureAddr, Sem.run_bind, hva, Sem.run_pure, Result.andThen, hr]
    rw [hx]
    exact hK _ _ _ _ _ hq (R.put H' (E.trans E') (fun t => (hg t).ext E') (.undef _) hd)
  | app esz bytes z s x =>
    rw [hco] at hk
    obtain ⟨t, p, v, h', c', hdt, hke, hp, hq⟩ := hk
    obtain ⟨e, st, xt, y, u, ys, hop, rfl, he, hz, hzl, htx, rfl, rfl, rfl, rfl⟩ := inv_app hco
    obtain ⟨dst, op, ty', pos, af, gd⟩ := o; simp only at hop; subst hop
    have hm := app_ok (P := P) (t := st) (tx := xt) (ty := ty') (e := e) (d := t) H (elemT_eq he).1 (elemT_eq he).2 hz hzl htx rfl rfl (hev y) (hev u) hke hp
    refine land_makes C R E hg hd hm ?_ (by simp only at hdt; rw [hdt]; exact hq) hK
    rw [BigFrame.execOp_builtin, BigFrame.builtin_append]; simp
  | appz esz bytes z s x =>
    rw [hco] at hk
    obtain ⟨t, p, v, h', c', hdt, hke, hp, hq⟩ := hk
    obtain ⟨e, st, xt, y, u, ys, k, hop, rfl, he, hz, hxt, rfl, rfl, rfl, rfl, rfl⟩ := inv_appz hco
    obtain ⟨dst, op, ty', pos, af, gd⟩ := o; simp only at hop; subst hop
    have hm := appz_ok (P := P) (t := st) (tn := xt) (ty := ty') (e := e) (d := t) H (elemT_eq he).1 hxt (elemT_eq he).2 hz rfl rfl (hev y) (hev u) hke hp
    refine land_makes C R E hg hd hm ?_ (by simp only at hdt; rw [hdt]; exact hq) hK
    rw [BigFrame.execOp_builtin, BigFrame.builtin_append]; simp
  | cpy esz s x =>
    rw [hco] at hk
    obtain ⟨p, r, h', hke, hp, hq⟩ := hk
    obtain ⟨e, st, xt, y, u, ys, hop, rfl, he, htx, rfl, rfl, rfl⟩ := inv_cpy hco
    obtain ⟨dst, op, ty', pos, af, gd⟩ := o; simp only at hop; subst hop
    have hm := cpy_ok (P := P) (t := st) (tx := xt) (ty := ty') (e := e) H (elemT_eq he).1 (elemT_eq he).2 rfl htx (hev y) (hev u) hke hp
    refine land_makes C R E hg hd hm ?_ hq hK
    rw [BigFrame.execOp_builtin, BigFrame.builtin_copy]; simp
  | clr esz z x =>
    rw [hco] at hk
    obtain ⟨p, h', hke, hp, hq⟩ := hk
    obtain ⟨e, t, y, ys, hop, rfl, he, hz, rfl, rfl, rfl⟩ := inv_clr hco
    obtain ⟨dst, op, ty', pos, af, gd⟩ := o; simp only at hop; subst hop
    have hm := clr_ok (P := P) (t := t) (ty := ty') (e := e) H (elemT_eq he).1 hz rfl (hev y) hke hp
    refine land_makes C R E hg hd hm ?_ hq hK
    rw [BigFrame.execOp_builtin, BigFrame.builtin_clear]; simp
  | call f xs =>
    rw [hco] at hk
    obtain ⟨x, ys, ats, hop, rfl, rfl⟩ := inv_call hco
    obtain ⟨dst, op, ty', pos, af, gd⟩ := o; simp only at hop; subst hop
    rcases hk with hk | hk
    · obtain ⟨fid, vs, h1, h2⟩ := call_ok hC.1 H hev hk dst ats ty' pos af gd
      unfold Oper.wp
      rw [h1]
      refine Calls.mono h2 fun e w' he => ?_
      cases e with
      | returned v =>
        obtain ⟨κ', h', clk', r, H', E', hv, hq⟩ := he
        exact hK _ _ _ _ _ hq (R.put H' (E.trans E') (fun t => (hg t).ext E') hv hd)
      | panicked _ => exact he.elim
      | outgrown => exact he.elim
    · rcases callx_ok hC.2.1 H hev hk dst ats ty' pos af gd with ⟨fid, vs, h1, h2⟩ | ⟨v, w', h1, κ', h', clk', r, H', E', hv, hq⟩
      · unfold Oper.wp
        rw [h1]
        refine Calls.mono h2 fun e w' he => ?_
        cases e with
        | returned v =>
          obtain ⟨κ', h', clk', r, H', E', hv, hq⟩ := he
          exact hK _ _ _ _ _ hq (R.put H' (E.trans E') (fun t => (hg t).ext E') hv hd)
        | panicked _ => exact he.elim
        | outgrown => exact he.elim
      · unfold Oper.wp
        rw [h1]
        exact hK _ _ _ _ _ hq (R.put H' (E.trans E') (fun t => (hg t).ext E') hv hd)
  | eqn neg x y =>
    rw [hco] at hk plain
    rcases hk with hk | ⟨hx, hy, hq⟩
    · exact plain hk
    · obtain ⟨t, x', y', ty', e, hop, hu, rfl, rfl⟩ := inv_eqn hco
      obtain ⟨b, u, hr, hv⟩ := eqn_ok (P := P) (neg := neg) (t := t) (e := e) (x := x') (y := y') hu (hev x') (hev y') hx hy
      unfold Oper.wp
      have h4 : (execOp a.eval o).run P w = .ok (.value u) w := by
        obtain ⟨dst, op, ty, pos, af, gd⟩ := o; simp only at hop; subst hop
        simp only [execOp, Sem.run_bind, Sem.run_pure, Result.andThen, hr]
        first | rfl | skip
      rw [h4]
      exact hK _ _ _ _ _ (hq b) (R.put H E hg hv hd)
  | call0 f xs => exact (inv_call0 hco).elim
  | callh f xs => exact (inv_callh hco).elim
  | callg f xs => exact (inv_callg hco).elim
  | gh => exact (inv_gh hco).elim
  | mk4 o => exact (inv_mk4 hco).elim
  | stl m n x v => exact (inv_stl hco).elim
  | calln f xs => exact (inv_calln hco).elim
  | callv f xs => exact (inv_callv hco).elim
  | callc f xs => exact (inv_callc hco).elim
  | _ => rw [hco] at hk plain; exact plain hk
end Go.AM
end
