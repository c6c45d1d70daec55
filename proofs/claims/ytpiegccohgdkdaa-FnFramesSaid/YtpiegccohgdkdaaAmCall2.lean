/- Calls: behind the call. No condition. -/
import Derived.Test.YtpiegccohgdkdaaAmCall1
set_option linter.all false
set_option linter.unusedSimpArgs false
set_option linter.unusedVariables false
set_option linter.deprecated false
namespace Go.AM
variable {w w' : World} {κ κ' : Cfg} {h : Heap} {clk clk' : Nat} {P : Program}

theorem tgt_none {os : List Rid} {t n : Nat} {o : Rid} (hk : tgt os t n o = none) : os.idxOf? o = none := by
  cases o with
  | r t' j =>
    unfold tgt at hk
    by_cases hc : t' = t ∧ os.length + j < n
    · simp only [hc, and_self, if_true] at hk; cases hk
    · simp only [hc, if_false] at hk; exact hk
  | p _ => exact hk
  | l _ => exact hk
theorem tgt_lt {os : List Rid} {t n : Nat} {o : Rid} {k : Nat} (hk : tgt os t n o = some k) (hl : k < os.length) : os[k]? = some o := by
  cases o with
  | r t' j =>
    unfold tgt at hk
    by_cases hc : t' = t ∧ os.length + j < n
    · simp only [hc, and_self, if_true, Option.some.injEq] at hk; omega
    · simp only [hc, if_false] at hk; exact idx_some hk
  | p _ => exact idx_some hk
  | l _ => exact idx_some hk
theorem tgt_ge {os : List Rid} {t n : Nat} {o : Rid} {k : Nat} (hk : tgt os t n o = some k) (hl : ¬ k < os.length) : o = .r t (k - os.length) ∧ k < n := by
  have no : os.idxOf? o = some k → False := fun h => hl (List.getElem?_eq_some_iff.1 (idx_some h)).1
  cases o with
  | r t' j =>
    unfold tgt at hk
    by_cases hc : t' = t ∧ os.length + j < n
    · simp only [hc, and_self, if_true, Option.some.injEq] at hk
      obtain ⟨rfl, h2⟩ := hc
      subst hk
      exact ⟨by congr 1; omega, h2⟩
    · simp only [hc, if_false] at hk; exact (no hk).elim
  | p _ => exact (no hk).elim
  | l _ => exact (no hk).elim
theorem tgt_inj {os : List Rid} {t n : Nat} {o o' : Rid} {k : Nat} (hk : tgt os t n o = some k) (hk' : tgt os t n o' = some k) : o = o' := by
  by_cases hl : k < os.length
  · have h1 := tgt_lt hk hl; rw [tgt_lt hk' hl] at h1; exact (Option.some.inj h1).symm
  · rw [(tgt_ge hk hl).1, (tgt_ge hk' hl).1]
theorem tgt_r {os : List Rid} {t n k : Nat} (h1 : os.length ≤ k) (h2 : k < n) : tgt os t n (.r t (k - os.length)) = some k := by
  unfold tgt
  have : os.length + (k - os.length) = k := by omega
  simp only [this, h2, and_self, if_true]
theorem nclk_le (c : Nat) (os : List Rid) (obs : List Ob) : c ≤ nclk c os obs := by unfold nclk; split <;> omega
theorem nclk_lt {c : Nat} {os : List Rid} {obs : List Ob} (h : os.length < obs.length) : c < nclk c os obs := by unfold nclk; rw [if_pos h]; omega

theorem impL_len {t n c : Nat} : ∀ (l : List AV), (impL t n c l).length = l.length
  | [] => by simp [impL]
  | x :: r => by simp [impL, impL_len r]
theorem impL_get {t n c : Nat} : ∀ (l : List AV) (j : Nat), (impL t n c l)[j]? = (l[j]?).map (impA t n c)
  | [], j => by simp [impL]
  | x :: r, 0 => by simp [impL]
  | x :: r, j + 1 => by simp [impL, impL_get r j]

def Cfg.up (κ κ' : Cfg) (os : List Rid) (t n : Nat) : Cfg :=
  { ι := fun o => match tgt os t n o with | some k => κ'.ι (.p k) | none => κ.ι o
    re := fun o => match tgt os t n o with | some k => κ'.re (.p k) | none => κ.re o
    F := fun o => match tgt os t n o with | some k => κ'.F (.p k) | none => κ.F o
    A := κ.A }
theorem up_foot_some {os : List Rid} {t n : Nat} {o : Rid} {k : Nat} (hk : tgt os t n o = some k) : (κ.up κ' os t n).foot o = κ'.foot (.p k) := by
  unfold Cfg.foot Cfg.up; simp only [hk]
theorem up_foot_none {os : List Rid} {t n : Nat} {o : Rid} (hk : tgt os t n o = none) : (κ.up κ' os t n).foot o = κ.foot o := by
  unfold Cfg.foot Cfg.up; simp only [hk]
theorem hcall_some {os : List Rid} {obs' : List Ob} {t c : Nat} {o : Rid} {k : Nat} {ou : Ob} (hk : tgt os t obs'.length o = some k) (hu : hcall h os obs' t c o = some ou) :
    ∃ b' vv ff, obs'[k]? = some b' ∧ ou = { b' with ver := vv, fixed := ff } ∧ ((k < os.length ∧ os[k]? = some o ∧ ∃ b, h o = some b ∧ vv = b.ver) ∨ (os.length ≤ k ∧ os.length < obs'.length ∧ vv = c)) := by
  unfold hcall at hu
  simp only [hk] at hu
  by_cases hl : k < os.length
  · rw [if_pos hl] at hu
    cases h1 : h o with
    | none => rw [h1] at hu; cases hu
    | some b =>
      rw [h1] at hu
      cases h2 : obs'[k]? with
      | none => rw [h2] at hu; cases hu
      | some b' =>
        rw [h2] at hu; simp only [Option.bind_some, Option.map_some, Option.some.injEq] at hu
        exact ⟨b', b.ver, b.fixed, rfl, hu.symm, .inl ⟨hl, tgt_lt hk hl, b, rfl, rfl⟩⟩
  · rw [if_neg hl] at hu
    cases h2 : obs'[k]? with
    | none => rw [h2] at hu; cases hu
    | some b' =>
      rw [h2] at hu; simp only [Option.map_some, Option.some.injEq] at hu
      have := (List.getElem?_eq_some_iff.1 h2).1
      exact ⟨b', c, b'.fixed, rfl, hu.symm, .inr ⟨by omega, by omega, rfl⟩⟩
theorem hcall_none {os : List Rid} {obs' : List Ob} {t c : Nat} {o : Rid} (hk : tgt os t obs'.length o = none) : hcall h os obs' t c o = h o := by
  unfold hcall; simp only [hk]

section
variable {w0 : World} {P0 : Bs} {os : List Rid} {obs obs' : List Ob} {own : Bool} {t c : Nat}

/-- A block of an object that stayed. -/
theorem stay (H : HR w0 P0 w κ h clk) (hobs : os.map (fun o => (h o).map (fun b => { b with ver := 0, fixed := true })) = obs.map some) (H' : HR w (P0c κ os) w' κ' (objs obs') clk') {o : Rid} {ob : Ob} (hi : os.idxOf? o = none) (ho : h o = some ob) {b : Nat} (hb : κ.foot o b) : b < w.heap.size ∧ ¬ P0c κ os b ∧ w'.heap[b]? = w.heap[b]? := by
  have h1 := (H.base o ob b ho hb).2
  have h2 : ¬ P0c κ os b := by
    rintro ⟨k, o', h3, h4⟩
    obtain ⟨b', h5, _⟩ := obs_get hobs h3
    exact H.apart o o' ob b' b ho h5 (fun he => idx_none hi (by rw [he]; exact List.mem_of_getElem? h3)) hb h4
  exact ⟨h1, h2, H'.old b h1 h2⟩

theorem X_up (H : HR w0 P0 w κ h clk) (hobs : os.map (fun o => (h o).map (fun b => { b with ver := 0, fixed := true })) = obs.map some) (H' : HR w (P0c κ os) w' κ' (objs obs') clk') {b : Nat} (hb : κ.X h w b) : (κ.up κ' os t obs'.length).X (hcall h os obs' t c) w' b ∧ w'.heap[b]? = w.heap[b]? := by
  have h2 : ¬ P0c κ os b := by
    rintro ⟨k, o', h3, h4⟩
    obtain ⟨b', h5, _⟩ := obs_get hobs h3
    exact hb.2.2 o' b' h5 h4
  refine ⟨⟨Nat.lt_of_lt_of_le hb.1 H'.size, hb.2.1, fun u ou hu hf => ?_⟩, H'.old b hb.1 h2⟩
  cases hi : tgt os t obs'.length u with
  | none =>
    rw [up_foot_none hi] at hf; rw [hcall_none hi] at hu
    exact hb.2.2 u ou hu hf
  | some k =>
    rw [up_foot_some hi] at hf
    obtain ⟨b2, _, _, h4, _, _⟩ := hcall_some hi hu
    rcases (H'.base (.p k) b2 b h4 hf).1 with h5 | h5
    · have := hb.1; omega
    · exact h2 h5

/-- What the callee could read, or made. -/
theorem X_up' (H : HR w0 P0 w κ h clk) (hobs : os.map (fun o => (h o).map (fun b => { b with ver := 0, fixed := true })) = obs.map some) (H' : HR w (P0c κ os) w' κ' (objs obs') clk') {b : Nat} (hb : κ'.X (objs obs') w' b) (hc : w.heap.size ≤ b ∨ P0c κ os b) : (κ.up κ' os t obs'.length).X (hcall h os obs' t c) w' b := by
  refine ⟨hb.1, H.free b ?_, fun u ou hu hf => ?_⟩
  · rcases hc with h1 | ⟨k, o, h3, h4⟩
    · exact .inl (Nat.le_trans H.size h1)
    · obtain ⟨b', h5, _⟩ := obs_get hobs h3
      exact (H.base o b' b h5 h4).1
  · cases hi : tgt os t obs'.length u with
    | none =>
      rw [up_foot_none hi] at hf; rw [hcall_none hi] at hu
      obtain ⟨h1, h2, _⟩ := stay H hobs H' (tgt_none hi) hu hf
      rcases hc with h3 | h3
      · omega
      · exact h2 h3
    | some k =>
      rw [up_foot_some hi] at hf
      obtain ⟨b2, _, _, h4, _, _⟩ := hcall_some hi hu
      exact hb.2.2 (.p k) b2 h4 hf

theorem X_up2 (H : HR w0 P0 w κ h clk) (hobs : os.map (fun o => (h o).map (fun b => { b with ver := 0, fixed := true })) = obs.map some) (H' : HR w (P0c κ os) w' κ' (objs obs') clk') (E' : Ext w (κ.down os (Ac κ h w os own)) (objs obs) 1 w' κ' (objs obs') clk') (hown : own = false) {b : Nat} (hb : κ'.X (objs obs') w' b) : (κ.up κ' os t obs'.length).X (hcall h os obs' t c) w' b := by
  have hA : κ'.A = Ac κ h w os own := E'.hA
  have := hb.2.1
  rw [hA] at this
  rcases this with h1 | h1 | h1 | h1
  · rw [hown] at h1; cases h1
  · exact (X_up H hobs H' h1).1
  · exact X_up' H hobs H' hb (.inl h1)
  · exact X_up' H hobs H' hb (.inr h1)

theorem Ext_up (H : HR w0 P0 w κ h clk) (hobs : os.map (fun o => (h o).map (fun b => { b with ver := 0, fixed := true })) = obs.map some) (hnd : os.Nodup) (H' : HR w (P0c κ os) w' κ' (objs obs') clk') (E' : Ext w (κ.down os (Ac κ h w os own)) (objs obs) 1 w' κ' (objs obs') clk') (hv0 : ∀ (k : Nat) ob, obs'[k]? = some ob → k < obs.length → ob.ver = 0) (hpure' : ∀ b ∈ obs', Pure b.es) (hown' : own = true → ∀ b ∈ obs', b.own ∨ Flat b.es) : Ext w κ h clk w' (κ.up κ' os t obs'.length) (hcall h os obs' t clk) (nclk clk os obs') := by
  refine ⟨nclk_le _ _ _, fun o v ob' hv hc => ?_, fun b hb => X_up H hobs H' hb, rfl⟩
  obtain ⟨h1, h2⟩ := cur_some hc
  cases hi : tgt os t obs'.length o with
  | none =>
    rw [hcall_none hi] at h1
    refine ⟨ob', by unfold cur; rw [h1]; simp [h2], by simp [Cfg.up, hi], rfl, rfl, fun hh => by simp [Cfg.up, hi, hh], fun hh n hn => ?_⟩
    exact hn.same (stay H hobs H' (tgt_none hi) h1 (.inl ⟨hh, rfl⟩)).2.2
  | some k =>
    obtain ⟨b', vv, ff, h4, rfl, ⟨hl, hk, b, h3, rfl⟩ | ⟨_, _, rfl⟩⟩ := hcall_some hi h1
    · have hcur : cur (objs obs') (.p k) 0 = some b' := by
        unfold cur; show (match obs'[k]? with | some b => if b.ver = 0 then some b else none | none => none) = _
        rw [h4]; simp [hv0 k b' h4 (by rw [obs_len hobs]; exact hl)]
      obtain ⟨ob1, h5, h6, h7, h8, h9, h10⟩ := E'.hcur (.p k) 0 b' Nat.one_pos hcur
      obtain ⟨b1, h11, h12⟩ := obs_get hobs hk
      rw [h3] at h11; cases h11
      have h13 := (cur_some h5).1
      have h13' : obs[k]? = some ob1 := h13
      rw [h12] at h13'; cases h13'
      have eι : (κ.down os (Ac κ h w os own)).ι (.p k) = κ.ι o := by simp [Cfg.down, hk]
      refine ⟨b, by unfold cur; rw [h3]; simp at h2; simp [h2], by simp only [Cfg.up, hi]; rw [h6, eι], h7, h8, fun hh => by simp only [Cfg.up, hi]; exact h9 ⟨o, hk, hh⟩, fun hh n hn => ?_⟩
      have := h10 ⟨o, hk, hh⟩ n
      rw [eι] at this
      exact this hn
    · simp only at h2; omega

theorem HR_up (H : HR w0 P0 w κ h clk) (hobs : os.map (fun o => (h o).map (fun b => { b with ver := 0, fixed := true })) = obs.map some) (hnd : os.Nodup) (H' : HR w (P0c κ os) w' κ' (objs obs') clk') (E' : Ext w (κ.down os (Ac κ h w os own)) (objs obs) 1 w' κ' (objs obs') clk') (hv0 : ∀ (k : Nat) ob, obs'[k]? = some ob → k < obs.length → ob.ver = 0) (hpure' : ∀ b ∈ obs', Pure b.es) (hown' : own = true → ∀ b ∈ obs', b.own ∨ Flat b.es) : HR w0 P0 w' (κ.up κ' os t obs'.length) (hcall h os obs' t clk) (nclk clk os obs') := by
  have E := Ext_up (t := t) (clk := clk) H hobs hnd H' E' hv0 hpure' hown'
  refine ⟨fun u ou hu => ?_, fun u u' ou ou' b hu hu' hne hf hf' => ?_, fun u ou b hu hf => ?_, ⟨H'.os.1.trans H.os.1, fun a => (H'.os.2 a).trans (H.os.2 a)⟩, by rw [H'.tape, H.tape], by rw [H'.output, H.output], Nat.le_trans H.size H'.size, fun b hb hP => ?_, H.free⟩
  · cases hi : tgt os t obs'.length u with
    | none =>
      rw [hcall_none hi] at hu
      have R := H.ob u ou hu
      have eι : (κ.up κ' os t obs'.length).ι u = κ.ι u := by simp [Cfg.up, hi]
      have eF : (κ.up κ' os t obs'.length).F u = κ.F u := by simp [Cfg.up, hi]
      have er : (κ.up κ' os t obs'.length).re u = κ.re u := by simp [Cfg.up, hi]
      have hst := fun b hb => (stay H hobs H' (o := u) (b := b) (tgt_none hi) hu hb).2.2
      refine ⟨Nat.lt_of_lt_of_le R.ver (nclk_le _ _ _), R.esz, fun hne => ⟨by rw [er]; exact (R.blk hne).1, by rw [eι]; exact (R.blk hne).2.same (hst _ (.inl ⟨(R.blk hne).1, rfl⟩))⟩, fun e j x hx => ?_, fun e j b hb => ?_, fun e j e' j' b hb hb' => ?_⟩
      · obtain ⟨v, h1, h2⟩ := R.cells e j x hx
        have hne : ou.es ≠ [] := by intro h0; rw [h0] at hx; simp [cellOf] at hx
        refine ⟨v, ?_, h2.ext E (fun _ b hb => by rw [eF]; exact hb) (fun b hb => hst b (.inr ⟨e, j, hb⟩)) (fun k => k) (fun h3 h4 => (h3 h4).elim)⟩
        rw [Cfg.addr, eι, cell_same (hst _ (.inl ⟨(R.blk hne).1, rfl⟩))]; exact h1
      · rw [eF] at hb; rw [eι]; exact R.sep e j b hb
      · rw [eF] at hb hb'; exact R.disj e j e' j' b hb hb'
    | some k =>
      obtain ⟨b', vv, ff, h4, rfl, hcase⟩ := hcall_some hi hu
      have R := H'.ob (.p k) b' h4
      have eι : (κ.up κ' os t obs'.length).ι u = κ'.ι (.p k) := by simp [Cfg.up, hi]
      have eF : (κ.up κ' os t obs'.length).F u = κ'.F (.p k) := by simp [Cfg.up, hi]
      have er : (κ.up κ' os t obs'.length).re u = κ'.re (.p k) := by simp [Cfg.up, hi]
      have hver : vv < nclk clk os obs' := by
        rcases hcase with ⟨_, _, b, h3, rfl⟩ | ⟨_, h5, rfl⟩
        · exact Nat.lt_of_lt_of_le (H.ob u b h3).ver (nclk_le _ _ _)
        · exact nclk_lt h5
      refine ⟨hver, R.esz, fun hne => ⟨by rw [er]; exact (R.blk hne).1, by rw [eι]; exact (R.blk hne).2⟩, fun e j x hx => ?_, fun e j b hb => ?_, fun e j e' j' b hb hb' => ?_⟩
      · obtain ⟨v, h1, h2⟩ := R.cells e j x hx
        refine ⟨v, by rw [Cfg.addr, eι]; exact h1, ?_⟩
        have hmem : ∃ c ∈ b'.es, x ∈ c := by
          unfold cellOf at hx
          cases he : b'.es[e]? with
          | none => rw [he] at hx; cases hx
          | some c => rw [he] at hx; exact ⟨c, List.mem_of_getElem? he, List.mem_of_getElem? hx⟩
        obtain ⟨c, hc1, hc2⟩ := hmem
        have hpx := hpure' b' (List.mem_of_getElem? h4) c hc1 x hc2
        have plain : x.isDat = false → x.pure = true → VR w' κ' (objs obs') clk' x v → VR w' (κ.up κ' os t obs'.length) (hcall h os obs' t clk) (nclk clk os obs') x v := by
          intro hd hp hv
          cases hv with
          | ro _ _ hr => cases hr <;> first | exact .ro _ _ (.b _) | exact .ro _ _ (.i _ _) | exact .ro _ _ (.s _) | exact .ro _ _ .nilp | exact .ro _ _ .nils | exact .ro _ _ .nilf | exact .ro _ _ (.undef _) | simp [AV.isDat] at hd | simp [AV.pure] at hp
          | _ => simp [AV.pure] at hp
        cases x with
        | dat es =>
          refine ⟨fun ho => by rw [eF]; exact h2.1 ho, fun ho => ?_⟩
          cases hb : own with
          | true =>
            rcases hown' hb b' (List.mem_of_getElem? h4) with h5 | h5
            · exact absurd h5 ho
            · have := h5 c hc1 _ hc2; simp [AV.isDat] at this
          | false => exact (h2.2 ho).frame (fun b hb' => X_up2 H hobs H' E' hb hb') (fun _ _ => rfl)
        | b _ => exact plain rfl rfl h2
        | i _ _ => exact plain rfl rfl h2
        | s _ => exact plain rfl rfl h2
        | nilp => exact plain rfl rfl h2
        | nils => exact plain rfl rfl h2
        | nilf => exact plain rfl rfl h2
        | _ => simp [AV.pure] at hpx
      · rw [eF] at hb; rw [eι]; exact R.sep e j b hb
      · rw [eF] at hb hb'; exact R.disj e j e' j' b hb hb'
  · cases hi : tgt os t obs'.length u with
    | none =>
      rw [up_foot_none hi] at hf; rw [hcall_none hi] at hu
      obtain ⟨h1, h2, _⟩ := stay H hobs H' (tgt_none hi) hu hf
      cases hi' : tgt os t obs'.length u' with
      | none =>
        rw [up_foot_none hi'] at hf'; rw [hcall_none hi'] at hu'
        exact H.apart u u' ou ou' b hu hu' hne hf hf'
      | some k' =>
        rw [up_foot_some hi'] at hf'
        obtain ⟨b2, _, _, h4, _, _⟩ := hcall_some hi' hu'
        rcases (H'.base (.p k') b2 b h4 hf').1 with h5 | h5
        · omega
        · exact h2 h5
    | some k =>
      rw [up_foot_some hi] at hf
      obtain ⟨b1, _, _, h3, _, _⟩ := hcall_some hi hu
      cases hi' : tgt os t obs'.length u' with
      | none =>
        rw [up_foot_none hi'] at hf'; rw [hcall_none hi'] at hu'
        obtain ⟨h1, h2, _⟩ := stay H hobs H' (tgt_none hi') hu' hf'
        rcases (H'.base (.p k) b1 b h3 hf).1 with h5 | h5
        · omega
        · exact h2 h5
      | some k' =>
        rw [up_foot_some hi'] at hf'
        obtain ⟨b2, _, _, h4, _, _⟩ := hcall_some hi' hu'
        refine H'.apart (.p k) (.p k') b1 b2 b h3 h4 (fun he => hne ?_) hf hf'
        cases he
        exact tgt_inj hi hi'
  · cases hi : tgt os t obs'.length u with
    | none =>
      rw [up_foot_none hi] at hf; rw [hcall_none hi] at hu
      exact ⟨(H.base u ou b hu hf).1, Nat.lt_of_lt_of_le (H.base u ou b hu hf).2 H'.size⟩
    | some k =>
      rw [up_foot_some hi] at hf
      obtain ⟨b2, _, _, h4, _, _⟩ := hcall_some hi hu
      obtain ⟨h5, h6⟩ := H'.base (.p k) b2 b h4 hf
      refine ⟨?_, h6⟩
      rcases h5 with h5 | ⟨k', o, h7, h8⟩
      · exact .inl (Nat.le_trans H.size h5)
      · obtain ⟨b', h9, _⟩ := obs_get hobs h7
        exact (H.base o b' b h9 h8).1
  · rw [H'.old b (Nat.lt_of_lt_of_le hb H.size) ?_, H.old b hb hP]
    rintro ⟨k', o, h7, h8⟩
    obtain ⟨b', h9, _⟩ := obs_get hobs h7
    rcases (H.base o b' b h9 h8).1 with h10 | h10
    · omega
    · exact hP h10

/-- What comes back. -/
theorem Rs.up {X : Bs} (hX : ∀ b, X b → (κ.up κ' os t obs'.length).X (hcall h os obs' t clk) w' b) {r : AV} {v : Value} (hr : Rs w' κ' obs' os.length X r v) :
    VR w' (κ.up κ' os t obs'.length) (hcall h os obs' t clk) (nclk clk os obs') (impA t os.length clk r) v := by
  have hit : ∀ {k : Nat} {ob ob' : Ob}, os.length ≤ k → obs'[k]? = some ob → cur (hcall h os obs' t clk) (.r t (k - os.length)) clk = some ob' →
      ob' = { ob with ver := clk } ∧ (κ.up κ' os t obs'.length).ι (.r t (k - os.length)) = κ'.ι (.p k) ∧ (κ.up κ' os t obs'.length).re (.r t (k - os.length)) = κ'.re (.p k) := by
    intro k ob ob' hn ho hc
    have hi := tgt_r (os := os) (t := t) hn (List.getElem?_eq_some_iff.1 ho).1
    have h1 := (cur_some hc).1
    unfold hcall at h1
    simp only [hi] at h1
    rw [if_neg (by omega), ho] at h1
    simp only [Option.map_some, Option.some.injEq] at h1
    exact ⟨h1.symm, by simp [Cfg.up, hi], by simp [Cfg.up, hi]⟩
  have lt : ∀ {k : Nat} {ob : Ob}, os.length ≤ k → obs'[k]? = some ob → clk < nclk clk os obs' := fun hn ho => nclk_lt (Nat.lt_of_le_of_lt hn (List.getElem?_eq_some_iff.1 ho).1)
  induction hr with
  | ro x v hr =>
    have : impA t os.length clk x = x := by cases hr <;> simp [impA]
    rw [this]
    exact .ro _ _ (hr.frame hX (fun _ _ => rfl))
  | sl k off len cap v ob hn ho hs =>
    rw [impA]
    obtain ⟨a, rc, hsl, _⟩ := hs.slice
    refine .sl _ _ _ _ _ _ ⟨_, _, _, hsl⟩ (lt hn ho) fun ob' hc => ?_
    obtain ⟨rfl, hι, hre⟩ := hit hn ho hc
    rcases hs with ⟨q1, q2, q3⟩ | ⟨rc, q1, q2, q3, q4, q5, q6, q7⟩
    · exact .inl ⟨q1, q2, q3⟩
    · refine .inr ⟨rc, by rw [hre]; exact q1, ?_, q3, q4, q5, q6, by rw [hι]; exact q7⟩
      rw [q2]; simp [Cfg.addr, hι]
  | ptr k e c ob hn ho =>
    rw [impA]
    refine .ptr _ _ _ _ _ ⟨_, rfl⟩ (lt hn ho) fun ob' hc => ?_
    obtain ⟨rfl, hι, hre⟩ := hit hn ho hc
    simp [Cfg.addr, hι]
  | agg cs vs hl _ ih =>
    rw [impA]
    refine .agg _ _ (by rw [impL_len]; exact hl) fun j x hx => ?_
    rw [impL_get] at hx
    cases hy : cs[j]? with
    | none => rw [hy] at hx; cases hx
    | some y => rw [hy] at hx; simp only [Option.map_some, Option.some.injEq] at hx; subst hx; exact ih j y hy
  | tup cs vs hl _ ih =>
    rw [impA]
    refine .tup _ _ (by rw [impL_len]; exact hl) fun j x hx => ?_
    rw [impL_get] at hx
    cases hy : cs[j]? with
    | none => rw [hy] at hx; cases hx
    | some y => rw [hy] at hx; simp only [Option.map_some, Option.some.injEq] at hx; subst hx; exact ih j y hy
end
end Go.AM
