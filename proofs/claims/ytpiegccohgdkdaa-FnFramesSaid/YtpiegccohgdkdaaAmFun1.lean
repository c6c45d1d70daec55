/- A function. No condition. -/
import Derived.Test.YtpiegccohgdkdaaAmCode4
import Derived.Test.YtpiegccohgdkdaaAmSx
set_option linter.all false
set_option linter.unusedSimpArgs false
set_option linter.unusedVariables false
set_option linter.deprecated false
namespace Go.AM
variable {P : Program}

def Rid.isP : Rid → Bool | .p _ => true | _ => false
mutual
/-- A result, as the contract names it: 'ren' are the objects that come back. -/
def retA (h : Heap) (ren : List Rid) (n : Nat) : AV → AV
  | .ptr o v e c => match ren.idxOf? o, cur h o v with
    | some k, some _ => .ptr (.p (n + k)) 1 e c
    | _, _ => .undef
  | .sl o v off len cap => match ren.idxOf? o, cur h o v with
    | some k, some _ => .sl (.p (n + k)) 1 off len cap
    | none, some ob => .dat (sub ob.es off len)
    | _, _ => .undef
  | .agg cs => .agg (retL h ren n cs)
  | .tup cs => .tup (retL h ren n cs)
  | .fn f cs => .fn f (retL h ren n cs)
  | v => v
def retL (h : Heap) (ren : List Rid) (n : Nat) : List AV → List AV
  | [] => []
  | v :: r => retA h ren n v :: retL h ren n r
end
mutual
/-- A result that lives on: what is left of it is new, or may be read. -/
def ResOk (h : Heap) (ren : List Rid) (own : Bool) : AV → Prop
  | .agg cs => ResL h ren own cs
  | .tup cs => ResL h ren own cs
  | .sl o v off len _ => ∃ ob, cur h o v = some ob ∧ (o ∈ ren ∨ (o.isP = false ∧ o ∉ ren ∧ Pure ob.es ∧ off + len ≤ ob.es.length ∧ (own = true → ob.own ∨ Flat ob.es)))
  | .ptr o v _ _ => o ∈ ren ∧ ∃ ob, cur h o v = some ob
  | .dat es => own = true → es = []
  | .b _ | .i _ _ | .s _ | .nilp | .nils | .nilf | .undef => True
  | _ => False
def ResL (h : Heap) (ren : List Rid) (own : Bool) : List AV → Prop
  | [] => True
  | x :: r => ResOk h ren own x ∧ ResL h ren own r
end
theorem ResL_get {h : Heap} {ren : List Rid} {own : Bool} : ∀ {cs : List AV} {j : Nat} {x : AV}, ResL h ren own cs → cs[j]? = some x → ResOk h ren own x
  | [], j, x, _, hx => by simp at hx
  | c :: r, 0, x, hr, hx => by simp at hx; rw [ResL] at hr; exact hx ▸ hr.1
  | c :: r, j + 1, x, hr, hx => by rw [ResL] at hr; exact ResL_get hr.2 (by simpa using hx)
theorem retL_get {h : Heap} {ren : List Rid} {n : Nat} : ∀ (l : List AV) (j : Nat), (retL h ren n l)[j]? = (l[j]?).map (retA h ren n)
  | [], j => by simp [retL]
  | x :: r, 0 => by simp [retL]
  | x :: r, j + 1 => by simp [retL, retL_get r j]
theorem retL_len {h : Heap} {ren : List Rid} {n : Nat} : ∀ (l : List AV), (retL h ren n l).length = l.length
  | [] => by simp [retL]
  | x :: r => by simp [retL, retL_len r]

/-- The objects at the end: those that were handed over, then those that come back. -/
def srcs (n : Nat) (ren : List Rid) : List Rid := (List.range n).map .p ++ ren
structure FinR (obs : List Ob) (ren : List Rid) (obs' : List Ob) (h : Heap) : Prop where
  nd : ren.Nodup
  np : ∀ o ∈ ren, o.isP = false
  len : obs'.length = obs.length + ren.length
  at_ : ∀ (k : Nat) ob, obs'[k]? = some ob → Pure ob.es ∧ ∃ b q, ((q ↔ b.own) ∨ Flat b.es) ∧
    ((k < obs.length ∧ h (.p k) = some b ∧ b.ver = 0 ∧ ob = { b with own := q }) ∨ (obs.length ≤ k ∧ ∃ o, ren[k - obs.length]? = some o ∧ h o = some b ∧ ob = { b with ver := 1, own := q }))

theorem srcs_lt {n k : Nat} {ren : List Rid} (h : k < n) : (srcs n ren)[k]? = some (.p k) := by
  unfold srcs; rw [List.getElem?_append_left (by simpa using h)]; simp [h]
theorem srcs_ge {n k : Nat} {ren : List Rid} (h : n ≤ k) : (srcs n ren)[k]? = ren[k - n]? := by
  unfold srcs; rw [List.getElem?_append_right (by simpa using h)]; simp

section
variable {w0 w : World} {κ κ0 : Cfg} {h h0 : Heap} {clk : Nat} {P0 : Bs} {obs obs' : List Ob} {ren : List Rid}

theorem FinR.src (F : FinR obs ren obs' h) {k : Nat} {ob : Ob} (hk : obs'[k]? = some ob) :
    ∃ o b, (srcs obs.length ren)[k]? = some o ∧ h o = some b ∧ ob.es = b.es ∧ ob.esz = b.esz ∧ ((ob.own ↔ b.own) ∨ Flat b.es) ∧ ob.ver < 2 := by
  obtain ⟨_, b, q, hq, ⟨h1, h2, h3, rfl⟩ | ⟨h1, o, h2, h3, rfl⟩⟩ := F.at_ k ob hk
  · exact ⟨_, b, srcs_lt h1, h2, rfl, rfl, hq, by simp [h3]⟩
  · exact ⟨o, b, by rw [srcs_ge h1]; exact h2, h3, rfl, rfl, hq, by simp⟩
theorem FinR.inj (F : FinR obs ren obs' h) {k k' : Nat} {o : Rid} (hk : (srcs obs.length ren)[k]? = some o) (hk' : (srcs obs.length ren)[k']? = some o) : k = k' := by
  have no : ∀ {k k' : Nat}, k < obs.length → obs.length ≤ k' → (srcs obs.length ren)[k]? = some o → (srcs obs.length ren)[k']? = some o → False := by
    intro k k' h1 h2 h3 h4
    rw [srcs_lt h1] at h3; rw [srcs_ge h2] at h4
    cases h3
    have := F.np _ (List.mem_of_getElem? h4)
    simp [Rid.isP] at this
  by_cases h1 : k < obs.length <;> by_cases h2 : k' < obs.length
  · rw [srcs_lt h1] at hk; rw [srcs_lt h2] at hk'; cases hk; cases hk'; rfl
  · exact (no h1 (by omega) hk hk').elim
  · exact (no h2 (by omega) hk' hk).elim
  · rw [srcs_ge (by omega)] at hk hk'
    have e1 := idx_nodup F.nd hk; rw [idx_nodup F.nd hk'] at e1
    have := Option.some.inj e1; omega

theorem X_ret (F : FinR obs ren obs' h) (b : Nat) (hb : κ.X h w b) : (κ.down (srcs obs.length ren) κ.A).X (objs obs') w b := by
  refine ⟨hb.1, hb.2.1, fun u ou hu hf => ?_⟩
  obtain ⟨k, rfl, hk⟩ := cur_objs hu
  obtain ⟨o, b', h1, h2, _⟩ := F.src hk
  rw [down_foot h1] at hf
  exact hb.2.2 o b' h2 hf

theorem HR_ret (H : HR w0 P0 w κ h clk) (F : FinR obs ren obs' h) : HR w0 P0 w (κ.down (srcs obs.length ren) κ.A) (objs obs') 2 := by
  refine ⟨fun u ou hu => ?_, fun u u' ou ou' b hu hu' hne hf hf' => ?_, fun u ou b hu hf => ?_, H.os, H.tape, H.output, H.size, H.old, H.free⟩
  · obtain ⟨k, rfl, hk⟩ := cur_objs hu
    obtain ⟨o, b, h1, h2, e1, e2, e3, hv⟩ := F.src hk
    have R := H.ob o b h2
    have eι : (κ.down (srcs obs.length ren) κ.A).ι (.p k) = κ.ι o := by simp [Cfg.down, h1]
    refine ⟨hv, by rw [e1, e2]; exact R.esz, fun hne => ⟨⟨o, h1, (R.blk (by rw [← e1]; exact hne)).1⟩, by rw [eι, e1, e2]; exact (R.blk (by rw [← e1]; exact hne)).2⟩, fun e j x hx => ?_, fun e j b hb => ?_, fun e j e' j' b hb hb' => ?_⟩
    · rw [e1] at hx
      obtain ⟨v, h3, h4⟩ := R.cells e j x hx
      have ea : (κ.down (srcs obs.length ren) κ.A).addr (.p k) ou.esz e j = κ.addr o b.esz e j := by simp [Cfg.addr, eι, e2]
      refine ⟨v, by rw [← h3]; exact congrArg _ ea, ?_⟩
      obtain ⟨c, hc1, hc2⟩ : ∃ c ∈ b.es, x ∈ c := by
        unfold cellOf at hx
        cases he : b.es[e]? with
        | none => rw [he] at hx; cases hx
        | some c => rw [he] at hx; exact ⟨c, List.mem_of_getElem? he, List.mem_of_getElem? hx⟩
      have hpx : x.pure = true := by
        have := (F.at_ k ou hk).1
        rw [e1] at this
        exact this c hc1 x hc2
      cases x with
      | dat es =>
        rcases e3 with e3 | e3
        · exact ⟨fun ho => (h4.1 (e3.1 ho)).frame (fun b hb => ⟨o, h1, hb⟩) (fun _ _ => rfl), fun ho => (h4.2 (fun k => ho (e3.2 k))).frame (X_ret F) (fun _ _ => rfl)⟩
        · have := e3 c hc1 _ hc2; simp [AV.isDat] at this
      | b _ => exact .ro _ _ (pure_ro hpx h4 (X_ret F))
      | i _ _ => exact .ro _ _ (pure_ro hpx h4 (X_ret F))
      | s _ => exact .ro _ _ (pure_ro hpx h4 (X_ret F))
      | nilp => exact .ro _ _ (pure_ro hpx h4 (X_ret F))
      | nils => exact .ro _ _ (pure_ro hpx h4 (X_ret F))
      | nilf => exact .ro _ _ (pure_ro hpx h4 (X_ret F))
      | _ => simp [AV.pure] at hpx
    · obtain ⟨o', h5, h6⟩ := hb
      rw [h1] at h5; cases h5
      rw [eι]; exact R.sep e j b h6
    · obtain ⟨o1, h5, h6⟩ := hb
      obtain ⟨o2, h7, h8⟩ := hb'
      rw [h1] at h5 h7; cases h5; cases h7
      exact R.disj e j e' j' b h6 h8
  · obtain ⟨k, rfl, hk⟩ := cur_objs hu
    obtain ⟨k', rfl, hk'⟩ := cur_objs hu'
    obtain ⟨o, b1, h1, h2, _⟩ := F.src hk
    obtain ⟨o', b2, h3, h4, _⟩ := F.src hk'
    rw [down_foot h1] at hf; rw [down_foot h3] at hf'
    refine H.apart o o' b1 b2 b h2 h4 (fun he => hne ?_) hf hf'
    subst he
    rw [F.inj h1 h3]
  · obtain ⟨k, rfl, hk⟩ := cur_objs hu
    obtain ⟨o, b1, h1, h2, _⟩ := F.src hk
    rw [down_foot h1] at hf
    exact H.base o b1 b h2 hf

theorem Ext_ret (E : Ext w0 κ0 (objs obs) 1 w κ h clk) (F : FinR obs ren obs' h) : Ext w0 κ0 (objs obs) 1 w (κ.down (srcs obs.length ren) κ.A) (objs obs') 2 := by
  refine ⟨by omega, fun o v ob' hv hc => ?_, fun b hb => ⟨X_ret F b (E.hX b hb).1, (E.hX b hb).2⟩, E.hA⟩
  obtain ⟨h1, h2⟩ := cur_some hc
  obtain ⟨k, rfl, hk⟩ := cur_objs h1
  obtain ⟨_, b, q, _, ⟨q1, q2, q3, rfl⟩ | ⟨_, o, _, _, rfl⟩⟩ := F.at_ k ob' hk
  · have hcur : cur h (.p k) v = some b := by unfold cur; rw [q2]; simp at h2; simp [h2]
    obtain ⟨ob, a1, a2, a3, a4, a5, a6⟩ := E.hcur (.p k) v b hv hcur
    have eι : (κ.down (srcs obs.length ren) κ.A).ι (.p k) = κ.ι (.p k) := by simp [Cfg.down, srcs_lt q1]
    exact ⟨ob, a1, by rw [eι]; exact a2, a3, a4, fun hr => ⟨_, srcs_lt q1, a5 hr⟩, a6⟩
  · simp only at h2; omega

theorem res_ok {own : Bool} (H : HR w0 P0 w κ h clk) (F : FinR obs ren obs' h) :
    ∀ {x : AV} {v : Value}, VR w κ h clk x v → ResOk h ren own x → Rs w (κ.down (srcs obs.length ren) κ.A) obs' obs.length (fun b => (κ.down (srcs obs.length ren) κ.A).X (objs obs') w b ∧ (own = true → w0.heap.size ≤ b ∨ P0 b)) (retA h ren obs.length x) v := by
  intro x v hv
  have frame : ∀ {y : AV} {u : Value}, VR w κ h clk y u → y.pure = true → y.isDat = false → ∀ {X : Bs}, Ro w X y u := by
    intro y u hy h1 h2 X
    cases hy with
    | ro _ _ hr => cases hr <;> first | exact .b _ | exact .i _ _ | exact .s _ | exact .nilp | exact .nils | exact .nilf | exact .undef _ | simp [AV.isDat] at h2 | simp [AV.pure] at h1
    | _ => simp [AV.pure] at h1
  have back : ∀ {o : Rid} {k : Nat} {ob : Ob}, ren.idxOf? o = some k → h o = some ob → (∃ q, obs'[obs.length + k]? = some { ob with ver := 1, own := q }) ∧ (κ.down (srcs obs.length ren) κ.A).ι (.p (obs.length + k)) = κ.ι o ∧ (κ.re o → (κ.down (srcs obs.length ren) κ.A).re (.p (obs.length + k))) := by
    intro o k ob hi ho
    have hk := idx_some hi
    have hlt : obs.length + k < obs'.length := by rw [F.len]; have := (List.getElem?_eq_some_iff.1 hk).1; omega
    have h1 := List.getElem?_eq_getElem hlt
    obtain ⟨_, b, q, _, ⟨q1, _⟩ | ⟨_, o', h2, h3, h4⟩⟩ := F.at_ _ _ h1
    · omega
    · have e1 : obs.length + k - obs.length = k := by omega
      rw [e1, hk] at h2; cases h2
      rw [ho] at h3; cases h3
      have hs : (srcs obs.length ren)[obs.length + k]? = some o := by rw [srcs_ge (by omega), e1]; exact hk
      exact ⟨⟨q, by rw [h1, h4]⟩, by simp [Cfg.down, hs], fun hr => ⟨o, hs, hr⟩⟩
  induction hv with
  | agg cs vs hl hr ih =>
    intro hk
    rw [retA]; rw [ResOk] at hk
    refine .agg _ _ (by rw [retL_len]; exact hl) fun j y hy => ?_
    rw [retL_get] at hy
    cases hc : cs[j]? with
    | none => rw [hc] at hy; cases hy
    | some c => rw [hc] at hy; simp only [Option.map_some, Option.some.injEq] at hy; subst hy; exact ih j c hc (ResL_get hk hc)
  | tup cs vs hl hr ih =>
    intro hk
    rw [retA]; rw [ResOk] at hk
    refine .tup _ _ (by rw [retL_len]; exact hl) fun j y hy => ?_
    rw [retL_get] at hy
    cases hc : cs[j]? with
    | none => rw [hc] at hy; cases hy
    | some c => rw [hc] at hy; simp only [Option.map_some, Option.some.injEq] at hy; subst hy; exact ih j c hc (ResL_get hk hc)
  | fn _ _ _ _ _ => intro hk; simp [ResOk] at hk
  | eptr _ _ _ _ _ _ _ _ => intro hk; simp [ResOk] at hk
  | ptr o ver e c v hs hlt hpp =>
    intro hk
    rw [ResOk] at hk
    obtain ⟨hm, ob, hc⟩ := hk
    cases hi : ren.idxOf? o with
    | none => exact absurd hm (idx_none hi)
    | some k =>
      have e1 : retA h ren obs.length (.ptr o ver e c) = .ptr (.p (obs.length + k)) 1 e c := by simp only [retA, hi, hc]
      rw [e1]
      obtain ⟨⟨q, h1⟩, h2, h3⟩ := back hi (cur_some hc).1
      have e2 : v = .pointer (some ((κ.down (srcs obs.length ren) κ.A).addr (.p (obs.length + k)) ob.esz e c)) := by
        rw [hpp ob hc]; simp [Cfg.addr, h2]
      rw [e2]
      exact .ptr _ _ _ { ob with ver := 1, own := q } (by omega) h1
  | ro x v hr =>
    intro hk
    have hx : retA h ren obs.length x = x := by cases hr <;> simp [retA]
    rw [hx]
    cases hr with
    | b x => exact .ro _ _ (.b x)
    | i k n => exact .ro _ _ (.i k n)
    | s l => exact .ro _ _ (.s l)
    | nilp => exact .ro _ _ .nilp
    | nils => exact .ro _ _ .nils
    | nilf => exact .ro _ _ .nilf
    | undef v => exact .ro _ _ (.undef v)
    | dat0 a c => exact .ro _ _ (.dat0 a c)
    | dat es blk off cap esz val hX hl hz hc hr =>
      rw [ResOk] at hk
      cases ho : own with
      | true =>
        have he := hk ho
        subst he
        exact .ro _ _ (.dat0 _ _)
      | false =>
        refine .ro _ _ ?_
        have hr2 : Ro w (κ.X h w) (.dat es) (.slice (some (Go.AM.at_ blk off)) es.length cap) := .dat es blk off cap esz val hX hl hz hc hr
        exact hr2.frame (fun b hb => ⟨X_ret F b hb, fun q => by cases q⟩) (fun _ _ => rfl)
  | sl o ver off len cap v hsl hlt hpp =>
    intro hk
    rw [ResOk] at hk
    obtain ⟨ob, hc, hk⟩ := hk
    have ho := (cur_some hc).1
    cases hi : ren.idxOf? o with
    | some k =>
      have e1 : retA h ren obs.length (.sl o ver off len cap) = .sl (.p (obs.length + k)) 1 off len cap := by simp only [retA, hi, hc]
      rw [e1]
      obtain ⟨⟨q, h1⟩, h2, h3⟩ := back hi ho
      refine .sl _ _ _ _ _ _ (by omega) h1 ?_
      rcases hpp ob hc with ⟨q1, q2, q3⟩ | ⟨rc, q1, q2, q3, q4, q5, q6, q7⟩
      · exact .inl ⟨q1, q2, q3⟩
      · refine .inr ⟨rc, h3 q1, ?_, q3, q4, q5, q6, by rw [h2]; exact q7⟩
        rw [q2]; simp [Cfg.addr, h2]
    | none =>
      obtain ⟨hisP, hnr, hpure, hle, hown⟩ : o.isP = false ∧ o ∉ ren ∧ Pure ob.es ∧ off + len ≤ ob.es.length ∧ (own = true → ob.own ∨ Flat ob.es) := by
        rcases hk with q | q
        · exact absurd q (idx_none hi)
        · exact q
      have e1 : retA h ren obs.length (.sl o ver off len cap) = .dat (sub ob.es off len) := by simp only [retA, hi, hc]
      rw [e1]
      have R := H.ob o ob ho
      have hfoot : ∀ b, κ.foot o b → (κ.down (srcs obs.length ren) κ.A).X (objs obs') w b ∧ (own = true → w0.heap.size ≤ b ∨ P0 b) := fun b hb => by
        obtain ⟨h3, h4⟩ := H.base o ob b ho hb
        refine ⟨⟨h4, H.free b h3, fun u ou hu hf => ?_⟩, fun _ => h3⟩
        obtain ⟨k, rfl, hk⟩ := cur_objs hu
        obtain ⟨o', b1, h1, h2, _⟩ := F.src hk
        rw [down_foot h1] at hf
        have hne : o ≠ o' := by
          intro he; subst he
          by_cases hl : k < obs.length
          · rw [srcs_lt hl] at h1; cases h1; simp [Rid.isP] at hisP
          · rw [srcs_ge (by omega)] at h1; exact hnr (List.mem_of_getElem? h1)
        exact H.apart o o' ob b1 b ho h2 hne hb hf
      rcases hpp ob hc with ⟨rfl, ⟨a, rfl⟩, _⟩ | ⟨rc, hre, rfl, hoff, hlr, _⟩
      · rw [sub_zero (by omega)]; exact .ro _ _ (.dat0 a 0)
      · have hslen := sub_length hoff
        have key : ∀ e j x, cellOf (sub ob.es off len) e j = some x → ∃ u, w.cell? (κ.addr o ob.esz (off + e) j) = some u ∧ Ro w (fun b => (κ.down (srcs obs.length ren) κ.A).X (objs obs') w b ∧ (own = true → w0.heap.size ≤ b ∨ P0 b)) x u := by
          intro e j x hxc
          obtain ⟨_, hx2⟩ := sub_cell hoff hxc
          obtain ⟨u, h3, h4⟩ := R.cells _ _ _ hx2
          refine ⟨u, h3, ?_⟩
          obtain ⟨c, hc1, hc2⟩ : ∃ c ∈ ob.es, x ∈ c := by
            unfold cellOf at hx2
            cases he : ob.es[off + e]? with
            | none => rw [he] at hx2; cases hx2
            | some c => rw [he] at hx2; exact ⟨c, List.mem_of_getElem? he, List.mem_of_getElem? hx2⟩
          have hpx := hpure c hc1 x hc2
          cases x with
          | dat es =>
            by_cases ho' : ob.own
            · exact (h4.1 ho').ro fun b hb => hfoot b (.inr ⟨_, _, hb⟩)
            · refine (h4.2 ho').frame (fun b hb => ⟨X_ret F b hb, fun q => ?_⟩) (fun _ _ => rfl)
              rcases hown q with q1 | q1
              · exact absurd q1 ho'
              · have := q1 c hc1 _ hc2; simp [AV.isDat] at this
          | b _ => exact frame h4 rfl rfl
          | i _ _ => exact frame h4 rfl rfl
          | s _ => exact frame h4 rfl rfl
          | nilp => exact frame h4 rfl rfl
          | nils => exact frame h4 rfl rfl
          | nilf => exact frame h4 rfl rfl
          | _ => simp [AV.pure] at hpx
        have := Ro.dat (w := w) (X := fun b => (κ.down (srcs obs.length ren) κ.A).X (objs obs') w b ∧ (own = true → w0.heap.size ≤ b ∨ P0 b)) (sub ob.es off len) (κ.ι o).1 ((κ.ι o).2 + off * ob.esz) rc ob.esz (fun e j => (w.cell? (κ.addr o ob.esz (off + e) j)).getD Go.undef)
          (hfoot _ (.inl ⟨hre, rfl⟩)) (by rw [hslen]; exact hlr) (fun e he => R.esz e (sub_mem he))
          (fun e j x hxc => by
            obtain ⟨u, h3, _⟩ := key e j x hxc
            rw [h3]
            show _ = some u
            rw [← h3, Cfg.addr]; congr 2
            rw [Nat.add_mul]; omega)
          (fun e j x hxc => by
            obtain ⟨u, h3, h4⟩ := key e j x hxc
            rw [h3]; exact h4)
        rw [hslen] at this
        refine .ro _ _ ?_
        simpa [Cfg.addr] using this
end

/-- Where a function leaves its results. -/
def resT (fn : Func) : Option (List Nat) := fn.results.toList.mapM fun | .tmp t => some t | _ => none
def resV (g : Slots) : List Nat → AV
  | [t] => g t
  | ts => .tup (ts.map g)

/-- What a walk has to end in. -/
def FinA (ts : List Nat) (obs : List Ob) (r : AV) (own : Bool) (obs' : List Ob) (g : Slots) (h : Heap) : Prop :=
  ∃ ren, FinR obs ren obs' h ∧ retA h ren obs.length (resV g ts) = r ∧ ResOk h ren own (resV g ts)
/-- A result that comes back as one object. -/
theorem FinA_one {ts : List Nat} {obs : List Ob} {r : AV} {own : Bool} {g : Slots} {h : Heap} (o : Rid) (b ob : Ob) (ho : o.isP = false) (hb : h o = some b) (hob : ob = { b with ver := 1, own := ob.own }) (hf : (ob.own ↔ b.own) ∨ Flat b.es) (hp : Pure b.es)
    (hps : ∀ (k : Nat) x, obs[k]? = some x → Pure x.es ∧ h (.p k) = some x ∧ x.ver = 0) (h1 : retA h [o] obs.length (resV g ts) = r) (h2 : ResOk h [o] own (resV g ts)) : FinA ts obs r own (obs ++ [ob]) g h := by
  refine ⟨[o], ⟨by simp, fun u hu => by simp at hu; subst hu; exact ho, by simp, fun k x hk => ?_⟩, h1, h2⟩
  by_cases hl : k < obs.length
  · rw [List.getElem?_append_left hl] at hk
    obtain ⟨a1, a2, a3⟩ := hps k x hk
    exact ⟨a1, x, x.own, .inl Iff.rfl, .inl ⟨hl, a2, a3, rfl⟩⟩
  · rw [List.getElem?_append_right (by omega)] at hk
    have hk0 : k - obs.length = 0 := by
      have := (List.getElem?_eq_some_iff.1 hk).1; simp at this; omega
    rw [hk0] at hk
    simp only [List.getElem?_cons_zero, Option.some.injEq] at hk
    subst hk
    exact ⟨by rw [hob]; exact hp, b, ob.own, hf, .inr ⟨by omega, o, by rw [hk0]; rfl, hb, hob⟩⟩
def FinQ (ts : List Nat) (obs : List Ob) (own : Bool) (Φ : AV → List Ob → Prop) (g : Slots) (h : Heap) : Prop := ∃ r obs', Φ r obs' ∧ FinA ts obs r own obs' g h
def FinP (ts : List Nat) (obs : List Ob) (own : Bool) (Φ : AV → List Ob → Prop) : Ex → Post
  | .normal | .ret => fun g h _ => FinQ ts obs own Φ g h
  | .exit _ => fun _ _ _ => False
def FinB (ts : List Nat) (obs : List Ob) (r : AV) (own : Bool) (obs' : List Ob) (g : Slots) (h : Heap) : Prop := FinQ ts obs own (fun r' o' => r' = r ∧ o' = obs') g h
def Fin (ts : List Nat) (obs : List Ob) (r : AV) (own : Bool) (obs' : List Ob) : Ex → Post := FinP ts obs own (fun r' o' => r' = r ∧ o' = obs')
theorem FinA.b {ts : List Nat} {obs : List Ob} {r : AV} {own : Bool} {obs' : List Ob} {g : Slots} {h : Heap} (k : FinA ts obs r own obs' g h) : FinB ts obs r own obs' g h := ⟨r, obs', ⟨rfl, rfl⟩, k⟩
theorem FinA.q {ts : List Nat} {obs : List Ob} {r : AV} {own : Bool} {obs' : List Ob} {g : Slots} {h : Heap} {Φ : AV → List Ob → Prop} (k : FinA ts obs r own obs' g h) (hΦ : Φ r obs') : FinQ ts obs own Φ g h := ⟨r, obs', hΦ, k⟩
theorem FinA_obs {ts : List Nat} {obs : List Ob} {r : AV} {own : Bool} {obs' : List Ob} {g : Slots} {h : Heap} (h1 : retA h [] obs.length (resV g ts) = r) (h2 : ResOk h [] own (resV g ts)) (h3 : obs'.length = obs.length)
    (h4 : ∀ (k : Nat) ob, obs'[k]? = some ob → Pure ob.es ∧ ∃ q, (Flat ob.es ∨ (q ↔ ob.own)) ∧ h (.p k) = some { ob with own := q } ∧ ob.ver = 0) : FinA ts obs r own obs' g h :=
  ⟨[], ⟨.nil, (fun o ho => by cases ho), (by simpa using h3), fun k ob hk => by
    obtain ⟨a1, q, a2, a3, a4⟩ := h4 k ob hk
    exact ⟨a1, { ob with own := q }, ob.own, a2.symm.imp (fun e => e.symm) id, .inl ⟨by rw [← h3]; exact (List.getElem?_eq_some_iff.1 hk).1, a3, a4, rfl⟩⟩⟩, h1, h2⟩
theorem FinA_val {ts : List Nat} {r : AV} {own : Bool} {g : Slots} {h : Heap} (h1 : retA h [] 0 (resV g ts) = r) (h2 : ResOk h [] own (resV g ts)) : FinA ts [] r own [] g h :=
  FinA_obs h1 h2 rfl (fun k ob hk => by simp at hk)

theorem Fin_obs {ts : List Nat} {obs : List Ob} {r : AV} {own : Bool} {obs' : List Ob} {g : Slots} {h : Heap} (h1 : retA h [] obs.length (resV g ts) = r) (h2 : ResOk h [] own (resV g ts)) (h3 : obs'.length = obs.length)
    (h4 : ∀ (k : Nat) ob, obs'[k]? = some ob → Pure ob.es ∧ ∃ q, (Flat ob.es ∨ (q ↔ ob.own)) ∧ h (.p k) = some { ob with own := q } ∧ ob.ver = 0) : FinB ts obs r own obs' g h := (FinA_obs h1 h2 h3 h4).b
theorem Fin_val {ts : List Nat} {r : AV} {own : Bool} {g : Slots} {h : Heap} (h1 : retA h [] 0 (resV g ts) = r) (h2 : ResOk h [] own (resV g ts)) : FinB ts [] r own [] g h := (FinA_val h1 h2).b
theorem Fin_one {ts : List Nat} {obs : List Ob} {r : AV} {own : Bool} {g : Slots} {h : Heap} (o : Rid) (b ob : Ob) (ho : o.isP = false) (hb : h o = some b) (hob : ob = { b with ver := 1, own := ob.own }) (hf : (ob.own ↔ b.own) ∨ Flat b.es) (hp : Pure b.es)
    (hps : ∀ (k : Nat) x, obs[k]? = some x → Pure x.es ∧ h (.p k) = some x ∧ x.ver = 0) (h1 : retA h [o] obs.length (resV g ts) = r) (h2 : ResOk h [o] own (resV g ts)) : FinB ts obs r own (obs ++ [ob]) g h := (FinA_one o b ob ho hb hob hf hp hps h1 h2).b
def resVal (tm : Array Value) : List Nat → Value
  | [t] => tm.getD t Go.undef
  | ts => .tuple (ts.map (fun t => tm.getD t Go.undef)).toArray
theorem results_run {fn : Func} {ts : List Nat} (hr : resT fn = some ts) (tm : Array Value) (w : World) : (results fn tm).run P w = .ok (resVal tm ts) w := by
  have key : ∀ (l : List ResultVar) (ts : List Nat), (l.mapM fun | .tmp t => some t | _ => none) = some ts → l = ts.map .tmp := by
    intro l
    induction l with
    | nil => intro ts h; simp at h; subst h; rfl
    | cons x r ih =>
      intro ts h
      rw [List.mapM_cons] at h
      cases x with
      | tmp t =>
        simp only [Option.bind_eq_bind, Option.bind_some] at h
        cases hr : (r.mapM fun | .tmp t => some t | _ => none : Option (List Nat)) with
        | none => rw [hr] at h; cases h
        | some q => rw [hr] at h; simp at h; subst h; rw [ih q hr]; rfl
      | cell _ _ => simp at h
  have e1 : fn.results = (ts.map ResultVar.tmp).toArray := by
    have := key _ _ hr
    rw [← this]
  have run : ∀ (ts : List Nat), ((ts.map ResultVar.tmp).mapM (fun r : ResultVar => (match r with
    | .tmp t => pure (tm.getD t Go.undef)
    | .cell a t => do loadVar t (← asAddr (tm.getD a Go.undef)) : Sem Value))).run P w = .ok (ts.map fun t => tm.getD t Go.undef) w := by
    intro ts
    induction ts with
    | nil => rfl
    | cons t r ih => simp only [List.map_cons, List.mapM_cons, Sem.run_bind, Sem.run_pure, Result.andThen, ih]
  unfold results
  rw [e1, List.mapM_toArray]
  simp only [Sem.run_bind, bind_map_left]
  have h2 := run ts
  erw [h2]
  simp only [Result.andThen, Sem.run_pure]
  match ts with
  | [] => rfl
  | [t] => rfl
  | t :: u :: r => simp [resVal]

theorem resV_ok {w : World} {κ : Cfg} {h : Heap} {clk : Nat} {g : Slots} {tm : Array Value} (hg : ∀ t, VR w κ h clk (g t) (tm.getD t Go.undef)) : ∀ ts, VR w κ h clk (resV g ts) (resVal tm ts)
  | [] => .tup _ _ (by simp) (fun j x hx => by simp at hx)
  | [t] => hg t
  | t :: u :: r => .tup _ _ (by simp) (fun j x hx => by
    simp only [List.getElem?_map, Option.map_eq_some_iff] at hx
    obtain ⟨s, hs, rfl⟩ := hx
    have : (((t :: u :: r).map (fun t => tm.getD t Go.undef)).toArray).getD j Go.undef = tm.getD s Go.undef := by
      rw [Array.getD_eq_getD_getElem?]; simp only [List.getElem?_toArray, List.getElem?_map, hs, Option.map_some, Option.getD_some]
    rw [this]; exact hg s)

/-- The slots at the beginning. -/
def slots0 (args : List AV) : Slots := fun t => (args[t]?).getD .undef

theorem callFunc_run {fid : Nat} {fn : Func} (hf : P.funcs[fid]? = some fn) (hn : (fn.name == "runtime.NumGoroutine") = false) (hb : fn.body.isSome = true) (vs : Array Value) (w : World) : (callFunc fid vs).run P w = .ok (.enter fid vs) w := by
  have hb2 : fn.body.isNone = false := by cases h : fn.body <;> simp_all
  have hp : (program : Sem Program).run P w = .ok P w := rfl
  unfold callFunc
  simp only [Sem.run_bind, hp, Result.andThen, hf, hn, hb2, Bool.false_eq_true, if_false, Sem.run_pure]

/-- From a walk to a contract. -/
theorem holds_of {C : Con} (hC : ConOk P C) (hmix : P.follows .mixedOrders = true) {fid : Nat} {fn : Func} {c : Code} {k : K} {ts : List Nat} {args : List AV} {obs : List Ob} {own : Bool} {Φ : AV → List Ob → Prop} (hint : Nat → Bool)
    (hf : P.funcs[fid]? = some fn) (hn : (fn.name == "runtime.NumGoroutine") = false) (hb : fn.body = some c) (hr : resT fn = some ts) (hcomp : comp P fn.ntmps hint c = k) (hdr : drawsOk k = true) (hl : args.length ≤ fn.ntmps)
    (hk : RunK C k (.done (FinP ts obs own Φ)) (slots0 args) (objs obs) 1) : Holds P fid args obs own Φ := by
  refine ⟨callFunc_run hf hn (by rw [hb]; rfl), fun w κ vs P0 H hP hlen hv => calls_of_wp hf hb ?_⟩
  have E0 : Ext w κ (objs obs) 1 w κ (objs obs) 1 := Ext.same rfl
  let I : Ini := ⟨w, κ, objs obs, P0, fn.ntmps⟩
  have R : Rel I (slots0 args) (objs obs) 1 { tmps := vs ++ Array.replicate (fn.ntmps - vs.size) Go.undef, defers := [] } w := by
    refine ⟨rfl, by simp [I]; omega, κ, H, E0, fun t => ?_⟩
    unfold slots0
    by_cases ht : t < args.length
    · rw [List.getElem?_eq_getElem ht, Option.getD_some]
      have := hv t _ (List.getElem?_eq_getElem ht)
      rw [Array.getD_eq_getD_getElem?] at this ⊢
      rw [Array.getElem?_append_left (by omega)]; exact this
    · rw [List.getElem?_eq_none (by omega), Option.getD_none]; exact .undef _
  have fin : Lands C I (FinP ts obs own Φ .normal) (fun a w' => a.defers = [] ∧ ∃ v, (results fn a.tmps).run P w' = .ok v w' ∧
      ∃ r obs' κ' clk', Φ r obs' ∧ HR w P0 w' κ' (objs obs') clk' ∧ Ext w κ (objs obs) 1 w' κ' (objs obs') clk' ∧ (∀ (k : Nat) ob, obs'[k]? = some ob → k < obs.length → ob.ver = 0) ∧ Rs w' κ' obs' obs.length (fun b => κ'.X (objs obs') w' b ∧ (own = true → w.heap.size ≤ b ∨ P0 b)) r v) := by
    rintro g h clk a w' ⟨r, obs', hΦ, ren, F, h1, h2⟩ R
    obtain ⟨κ', H', E', hg⟩ := R.st
    refine ⟨R.df, _, results_run hr _ _, r, obs', _, 2, hΦ, HR_ret H' F, Ext_ret E' F, fun k ob hk hl => ?_, ?_⟩
    · obtain ⟨_, b, q, _, ⟨_, _, h5, rfl⟩ | ⟨h5, _⟩⟩ := F.at_ k ob hk
      · exact h5
      · omega
    · rw [← h1]
      exact res_ok H' F (resV_ok hg ts) h2
  refine kwp_ok (I := I) hC hmix hint c (by rw [show I.n = fn.ntmps from rfl, hcomp]; exact hdr) (Q := FinP ts obs own Φ) ⟨?_, fun id => fun _ _ _ _ _ hq _ => hq.elim, ?_⟩ R (by rw [show I.n = fn.ntmps from rfl, hcomp]; exact hk)
  · intro g h clk a w' hq R
    obtain ⟨h1, v, h2, h3⟩ := fin g h clk a w' hq R
    exact ⟨h1, v, h2, h3⟩
  · intro g h clk a w' hq R
    obtain ⟨h1, v, h2, h3⟩ := fin g h clk a w' hq R
    exact ⟨h1, v, h2, h3⟩
end Go.AM
