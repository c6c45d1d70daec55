/- A function. No condition. -/
import Derived.Test.YtdlaklminigoaaaDoorAmDraws
import Derived.Test.YtdlaklminigoaaaDoorProg
import Derived.StillTailTactics
import Derived.WalkKit
import Derived.ProofKit
import Derived.OpenShut
import Derived.WideKeyArgs
set_option linter.all false
set_option linter.unusedSimpArgs false
set_option linter.unusedVariables false
set_option linter.deprecated false
/-! Fun1 -/
namespace Go.AM
variable {P : Program}

mutual
/-- A result, as the contract names it: 'ren' are the objects that come back. -/
def retA (h : Heap) (ren : List Rid) (n : Nat) : AV → AV
  | .ptr o v e c => match ren.idxOf? o, cur h o v with
    | some k, some _ => .ptr (.p (n + k)) 1 e c
    | _, _ => .undef
  | .sl o v off len cap => match ren.idxOf? o, cur h o v with
    | some k, some _ => .sl (.p (n + k)) 1 off len cap
    | none, some ob => .dat ob.esz (sub ob.es off len)
    | _, _ => .undef
  | .agg cs => .agg (retL h ren n cs)
  | .tup cs => .tup (retL h ren n cs)
  | .fn f cs => .fn f (retL h ren n cs)
  | v => v
def retL (h : Heap) (ren : List Rid) (n : Nat) : List AV → List AV
  | [] => []
  | v :: r => retA h ren n v :: retL h ren n r
end
mutual
/-- A result that lives on: what is left of it is new, or may be read. -/
def ResOk (h : Heap) (ren : List Rid) (own : Bool) : AV → Prop
  | .agg cs => ResL h ren own cs
  | .tup cs => ResL h ren own cs
  | .sl o v off len _ => ∃ ob, cur h o v = some ob ∧ (o ∈ ren ∨ (o.isP = false ∧ o ∉ ren ∧ Pure ob.es ∧ off + len ≤ ob.es.length ∧ (own = true → ob.own ∨ Flat ob.es)))
  | .ptr o v _ _ => o ∈ ren ∧ ∃ ob, cur h o v = some ob
  | .dat _ es => own = true → es = []
  | .b _ | .i _ _ | .s _ | .nilp | .nils | .nilf | .undef => True
  | _ => False
def ResL (h : Heap) (ren : List Rid) (own : Bool) : List AV → Prop
  | [] => True
  | x :: r => ResOk h ren own x ∧ ResL h ren own r
end
theorem ResL_get {h : Heap} {ren : List Rid} {own : Bool} : ∀ {cs : List AV} {j : Nat} {x : AV}, ResL h ren own cs → cs[j]? = some x → ResOk h ren own x
  | [], j, x, _, hx => by simp at hx
  | c :: r, 0, x, hr, hx => by simp at hx; rw [ResL] at hr; exact hx ▸ hr.1
  | c :: r, j + 1, x, hr, hx => by rw [ResL] at hr; exact ResL_get hr.2 (by simpa using hx)
theorem retL_get {h : Heap} {ren : List Rid} {n : Nat} : ∀ (l : List AV) (j : Nat), (retL h ren n l)[j]? = (l[j]?).map (retA h ren n)
  | [], j => by simp [retL]
  | x :: r, 0 => by simp [retL]
  | x :: r, j + 1 => by simp [retL, retL_get r j]
theorem retL_len {h : Heap} {ren : List Rid} {n : Nat} : ∀ (l : List AV), (retL h ren n l).length = l.length
  | [] => by simp [retL]
  | x :: r => by simp [retL, retL_len r]

/-- The objects at the end: those that were handed over, then those that come back. -/
def srcs (n : Nat) (ren : List Rid) : List Rid := (List.range n).map .p ++ ren
structure FinR (obs : List Ob) (ren : List Rid) (obs' : List Ob) (h : Heap) : Prop where
  nd : ren.Nodup
  np : ∀ o ∈ ren, o.isP = false
  len : obs'.length = obs.length + ren.length
  at_ : ∀ (k : Nat) ob, obs'[k]? = some ob → Pure ob.es ∧ ∃ b q, ((q ↔ b.own) ∨ Flat b.es) ∧
    ((k < obs.length ∧ h (.p k) = some b ∧ b.ver = 0 ∧ ob = { b with own := q }) ∨ (obs.length ≤ k ∧ ∃ o, ren[k - obs.length]? = some o ∧ h o = some b ∧ ob = { b with ver := 1, own := q }))

theorem srcs_lt {n k : Nat} {ren : List Rid} (h : k < n) : (srcs n ren)[k]? = some (.p k) := by
  unfold srcs; rw [List.getElem?_append_left (by simpa using h)]; simp [h]
theorem srcs_ge {n k : Nat} {ren : List Rid} (h : n ≤ k) : (srcs n ren)[k]? = ren[k - n]? := by
  unfold srcs; rw [List.getElem?_append_right (by simpa using h)]; simp

section
variable {w0 w : World} {κ κ0 : Cfg} {h h0 : Heap} {clk : Nat} {P0 : Bs} {obs obs' : List Ob} {ren : List Rid}

theorem FinR.src (F : FinR obs ren obs' h) {k : Nat} {ob : Ob} (hk : obs'[k]? = some ob) :
    ∃ o b, (srcs obs.length ren)[k]? = some o ∧ h o = some b ∧ ob.es = b.es ∧ ob.esz = b.esz ∧ ((ob.own ↔ b.own) ∨ Flat b.es) ∧ ob.ver < 2 := by
  obtain ⟨_, b, q, hq, ⟨h1, h2, h3, rfl⟩ | ⟨h1, o, h2, h3, rfl⟩⟩ := F.at_ k ob hk
  · exact ⟨_, b, srcs_lt h1, h2, rfl, rfl, hq, by simp [h3]⟩
  · exact ⟨o, b, by rw [srcs_ge h1]; exact h2, h3, rfl, rfl, hq, by simp⟩
theorem FinR.inj (F : FinR obs ren obs' h) {k k' : Nat} {o : Rid} (hk : (srcs obs.length ren)[k]? = some o) (hk' : (srcs obs.length ren)[k']? = some o) : k = k' := by
  have no : ∀ {k k' : Nat}, k < obs.length → obs.length ≤ k' → (srcs obs.length ren)[k]? = some o → (srcs obs.length ren)[k']? = some o → False := by
    intro k k' h1 h2 h3 h4
    rw [srcs_lt h1] at h3; rw [srcs_ge h2] at h4
    cases h3
    have := F.np _ (List.mem_of_getElem? h4)
    simp [Rid.isP] at this
  by_cases h1 : k < obs.length <;> by_cases h2 : k' < obs.length
  · rw [srcs_lt h1] at hk; rw [srcs_lt h2] at hk'; cases hk; cases hk'; rfl
  · exact (no h1 (by omega) hk hk').elim
  · exact (no h2 (by omega) hk' hk).elim
  · rw [srcs_ge (by omega)] at hk hk'
    have e1 := idx_nodup F.nd hk; rw [idx_nodup F.nd hk'] at e1
    have := Option.some.inj e1; omega

theorem X_ret (F : FinR obs ren obs' h) (b : Nat) (hb : κ.X h w b) : (κ.down (srcs obs.length ren) κ.A).X (objs obs') w b := by
  refine ⟨hb.1, hb.2.1, fun u ou hu hf => ?_⟩
  obtain ⟨k, rfl, hk⟩ := cur_objs hu
  obtain ⟨o, b', h1, h2, _⟩ := F.src hk
  rw [down_foot h1] at hf
  exact hb.2.2 o b' h2 hf

theorem HR_ret (H : HR w0 P0 w κ h clk) (F : FinR obs ren obs' h) : HR w0 P0 w (κ.down (srcs obs.length ren) κ.A) (objs obs') 2 := by
  refine ⟨fun u ou hu => ?_, fun u u' ou ou' b hu hu' hne hf hf' => ?_, fun u ou b hu hf => ?_, H.os, H.tape, H.output, H.size, H.old, H.free, H.glob⟩
  · obtain ⟨k, rfl, hk⟩ := cur_objs hu
    obtain ⟨o, b, h1, h2, e1, e2, e3, hv⟩ := F.src hk
    have R := H.ob o b h2
    have eι : (κ.down (srcs obs.length ren) κ.A).ι (.p k) = κ.ι o := by simp [Cfg.down, h1]
    refine ⟨hv, by rw [e1, e2]; exact R.esz, fun hne => ⟨⟨o, h1, (R.blk (by rw [← e1]; exact hne)).1⟩, by rw [eι, e1, e2]; exact (R.blk (by rw [← e1]; exact hne)).2⟩, fun e j x hx => ?_, fun e j b hb => ?_, fun e j e' j' b hb hb' => ?_⟩
    · rw [e1] at hx
      obtain ⟨v, h3, h4⟩ := R.cells e j x hx
      have ea : (κ.down (srcs obs.length ren) κ.A).addr (.p k) ou.esz e j = κ.addr o b.esz e j := by simp [Cfg.addr, eι, e2]
      refine ⟨v, by rw [← h3]; exact congrArg _ ea, ?_⟩
      obtain ⟨c, hc1, hc2⟩ : ∃ c ∈ b.es, x ∈ c := by
        unfold cellOf at hx
        cases he : b.es[e]? with
        | none => rw [he] at hx; cases hx
        | some c => rw [he] at hx; exact ⟨c, List.mem_of_getElem? he, List.mem_of_getElem? hx⟩
      have hpx : x.pure = true := by
        have := (F.at_ k ou hk).1
        rw [e1] at this
        exact this c hc1 x hc2
      cases x with
      | dat z es =>
        rcases e3 with e3 | e3
        · exact ⟨fun ho => (h4.1 (e3.1 ho)).frame (fun b hb => ⟨o, h1, hb⟩) (fun _ _ => rfl), fun ho => (h4.2 (fun k => ho (e3.2 k))).frame (X_ret F) (fun _ _ => rfl)⟩
        · have := e3 c hc1 _ hc2; simp [AV.isDat] at this
      | b _ => exact .ro _ _ (pure_ro hpx h4 (X_ret F))
      | i _ _ => exact .ro _ _ (pure_ro hpx h4 (X_ret F))
      | s _ => exact .ro _ _ (pure_ro hpx h4 (X_ret F))
      | nilp => exact .ro _ _ (pure_ro hpx h4 (X_ret F))
      | nils => exact .ro _ _ (pure_ro hpx h4 (X_ret F))
      | nilf => exact .ro _ _ (pure_ro hpx h4 (X_ret F))
      | _ => simp [AV.pure] at hpx
    · obtain ⟨o', h5, h6⟩ := hb
      rw [h1] at h5; cases h5
      rw [eι]; exact R.sep e j b h6
    · obtain ⟨o1, h5, h6⟩ := hb
      obtain ⟨o2, h7, h8⟩ := hb'
      rw [h1] at h5 h7; cases h5; cases h7
      exact R.disj e j e' j' b h6 h8
  · obtain ⟨k, rfl, hk⟩ := cur_objs hu
    obtain ⟨k', rfl, hk'⟩ := cur_objs hu'
    obtain ⟨o, b1, h1, h2, _⟩ := F.src hk
    obtain ⟨o', b2, h3, h4, _⟩ := F.src hk'
    rw [down_foot h1] at hf; rw [down_foot h3] at hf'
    refine H.apart o o' b1 b2 b h2 h4 (fun he => hne ?_) hf hf'
    subst he
    rw [F.inj h1 h3]
  · obtain ⟨k, rfl, hk⟩ := cur_objs hu
    obtain ⟨o, b1, h1, h2, _⟩ := F.src hk
    rw [down_foot h1] at hf
    exact H.base o b1 b h2 hf

theorem Ext_ret (E : Ext w0 κ0 (objs obs) 1 w κ h clk) (F : FinR obs ren obs' h) : Ext w0 κ0 (objs obs) 1 w (κ.down (srcs obs.length ren) κ.A) (objs obs') 2 := by
  refine ⟨by omega, fun o v ob' hv hc => ?_, fun b hb => ⟨X_ret F b (E.hX b hb).1, (E.hX b hb).2⟩, E.hA⟩
  obtain ⟨h1, h2⟩ := cur_some hc
  obtain ⟨k, rfl, hk⟩ := cur_objs h1
  obtain ⟨_, b, q, _, ⟨q1, q2, q3, rfl⟩ | ⟨_, o, _, _, rfl⟩⟩ := F.at_ k ob' hk
  · have hcur : cur h (.p k) v = some b := by unfold cur; rw [q2]; simp at h2; simp [h2]
    obtain ⟨ob, a1, a2, a3, a4, a5, a6⟩ := E.hcur (.p k) v b hv hcur
    have eι : (κ.down (srcs obs.length ren) κ.A).ι (.p k) = κ.ι (.p k) := by simp [Cfg.down, srcs_lt q1]
    exact ⟨ob, a1, by rw [eι]; exact a2, a3, a4, fun hr => ⟨_, srcs_lt q1, a5 hr⟩, a6⟩
  · simp only at h2; omega

theorem res_ok {own : Bool} (H : HR w0 P0 w κ h clk) (F : FinR obs ren obs' h) :
    ∀ {x : AV} {v : Value}, VR w κ h clk x v → ResOk h ren own x → Rs w (κ.down (srcs obs.length ren) κ.A) obs' obs.length (fun b => (κ.down (srcs obs.length ren) κ.A).X (objs obs') w b ∧ (own = true → w0.heap.size ≤ b ∨ P0 b)) (retA h ren obs.length x) v := by
  intro x v hv
  have frame : ∀ {y : AV} {u : Value}, VR w κ h clk y u → y.pure = true → y.isDat = false → ∀ {X : Bs}, Ro w X y u := by
    intro y u hy h1 h2 X
    cases hy with
    | ro _ _ hr => cases hr <;> first | exact .b _ | exact .i _ _ | exact .s _ | exact .nilp | exact .nils | exact .nilf | exact .undef _ | simp [AV.isDat] at h2 | simp [AV.pure] at h1
    | _ => simp [AV.pure] at h1
  have back : ∀ {o : Rid} {k : Nat} {ob : Ob}, ren.idxOf? o = some k → h o = some ob → (∃ q, obs'[obs.length + k]? = some { ob with ver := 1, own := q }) ∧ (κ.down (srcs obs.length ren) κ.A).ι (.p (obs.length + k)) = κ.ι o ∧ (κ.re o → (κ.down (srcs obs.length ren) κ.A).re (.p (obs.length + k))) := by
    intro o k ob hi ho
    have hk := idx_some hi
    have hlt : obs.length + k < obs'.length := by rw [F.len]; have := (List.getElem?_eq_some_iff.1 hk).1; omega
    have h1 := List.getElem?_eq_getElem hlt
    obtain ⟨_, b, q, _, ⟨q1, _⟩ | ⟨_, o', h2, h3, h4⟩⟩ := F.at_ _ _ h1
    · omega
    · have e1 : obs.length + k - obs.length = k := by omega
      rw [e1, hk] at h2; cases h2
      rw [ho] at h3; cases h3
      have hs : (srcs obs.length ren)[obs.length + k]? = some o := by rw [srcs_ge (by omega), e1]; exact hk
      exact ⟨⟨q, by rw [h1, h4]⟩, by simp [Cfg.down, hs], fun hr => ⟨o, hs, hr⟩⟩
  induction hv with
  | agg cs vs hl hr ih =>
    intro hk
    rw [retA]; rw [ResOk] at hk
    refine .agg _ _ (by rw [retL_len]; exact hl) fun j y hy => ?_
    rw [retL_get] at hy
    cases hc : cs[j]? with
    | none => rw [hc] at hy; cases hy
    | some c => rw [hc] at hy; simp only [Option.map_some, Option.some.injEq] at hy; subst hy; exact ih j c hc (ResL_get hk hc)
  | tup cs vs hl hr ih =>
    intro hk
    rw [retA]; rw [ResOk] at hk
    refine .tup _ _ (by rw [retL_len]; exact hl) fun j y hy => ?_
    rw [retL_get] at hy
    cases hc : cs[j]? with
    | none => rw [hc] at hy; cases hy
    | some c => rw [hc] at hy; simp only [Option.map_some, Option.some.injEq] at hy; subst hy; exact ih j c hc (ResL_get hk hc)
  | fn _ _ _ _ _ => intro hk; simp [ResOk] at hk
  | eptr _ _ _ _ _ _ _ _ => intro hk; simp [ResOk] at hk
  | ptr o ver e c v hs hlt hpp =>
    intro hk
    rw [ResOk] at hk
    obtain ⟨hm, ob, hc⟩ := hk
    cases hi : ren.idxOf? o with
    | none => exact absurd hm (idx_none hi)
    | some k =>
      have e1 : retA h ren obs.length (.ptr o ver e c) = .ptr (.p (obs.length + k)) 1 e c := by simp only [retA, hi, hc]
      rw [e1]
      obtain ⟨⟨q, h1⟩, h2, h3⟩ := back hi (cur_some hc).1
      have e2 : v = .pointer (some ((κ.down (srcs obs.length ren) κ.A).addr (.p (obs.length + k)) ob.esz e c)) := by
        rw [hpp ob hc]; simp [Cfg.addr, h2]
      rw [e2]
      exact .ptr _ _ _ { ob with ver := 1, own := q } (by omega) h1
  | ro x v hr =>
    intro hk
    have hx : retA h ren obs.length x = x := by cases hr <;> simp [retA]
    rw [hx]
    cases hr with
    | b x => exact .ro _ _ (.b x)
    | i k n => exact .ro _ _ (.i k n)
    | s l => exact .ro _ _ (.s l)
    | nilp => exact .ro _ _ .nilp
    | nils => exact .ro _ _ .nils
    | nilf => exact .ro _ _ .nilf
    | undef v => exact .ro _ _ (.undef v)
    | dat0 z a c => exact .ro _ _ (.dat0 z a c)
    | dat es blk off cap esz val hX hl hz hc hr =>
      rw [ResOk] at hk
      cases ho : own with
      | true =>
        have he := hk ho
        subst he
        exact .ro _ _ (.dat0 _ _ _)
      | false =>
        refine .ro _ _ ?_
        have hr2 : Ro w (κ.X h w) (.dat esz es) (.slice (some (Go.AM.at_ blk off)) es.length cap) := .dat es blk off cap esz val hX hl hz hc hr
        exact hr2.frame (fun b hb => ⟨X_ret F b hb, fun q => by cases q⟩) (fun _ _ => rfl)
  | sl o ver off len cap v hsl hlt hpp =>
    intro hk
    rw [ResOk] at hk
    obtain ⟨ob, hc, hk⟩ := hk
    have ho := (cur_some hc).1
    cases hi : ren.idxOf? o with
    | some k =>
      have e1 : retA h ren obs.length (.sl o ver off len cap) = .sl (.p (obs.length + k)) 1 off len cap := by simp only [retA, hi, hc]
      rw [e1]
      obtain ⟨⟨q, h1⟩, h2, h3⟩ := back hi ho
      refine .sl _ _ _ _ _ _ (by omega) h1 ?_
      rcases hpp ob hc with ⟨q1, q2, q3⟩ | ⟨rc, q1, q2, q3, q4, q5, q6, q7⟩
      · exact .inl ⟨q1, q2, q3⟩
      · refine .inr ⟨rc, h3 q1, ?_, q3, q4, q5, q6, by rw [h2]; exact q7⟩
        rw [q2]; simp [Cfg.addr, h2]
    | none =>
      obtain ⟨hisP, hnr, hpure, hle, hown⟩ : o.isP = false ∧ o ∉ ren ∧ Pure ob.es ∧ off + len ≤ ob.es.length ∧ (own = true → ob.own ∨ Flat ob.es) := by
        rcases hk with q | q
        · exact absurd q (idx_none hi)
        · exact q
      have e1 : retA h ren obs.length (.sl o ver off len cap) = .dat ob.esz (sub ob.es off len) := by simp only [retA, hi, hc]
      rw [e1]
      have R := H.ob o ob ho
      have hfoot : ∀ b, κ.foot o b → (κ.down (srcs obs.length ren) κ.A).X (objs obs') w b ∧ (own = true → w0.heap.size ≤ b ∨ P0 b) := fun b hb => by
        obtain ⟨h3, h4⟩ := H.base o ob b ho hb
        refine ⟨⟨h4, H.free b h3, fun u ou hu hf => ?_⟩, fun _ => h3⟩
        obtain ⟨k, rfl, hk⟩ := cur_objs hu
        obtain ⟨o', b1, h1, h2, _⟩ := F.src hk
        rw [down_foot h1] at hf
        have hne : o ≠ o' := by
          intro he; subst he
          by_cases hl : k < obs.length
          · rw [srcs_lt hl] at h1; cases h1; simp [Rid.isP] at hisP
          · rw [srcs_ge (by omega)] at h1; exact hnr (List.mem_of_getElem? h1)
        exact H.apart o o' ob b1 b ho h2 hne hb hf
      rcases hpp ob hc with ⟨rfl, ⟨a, rfl⟩, _⟩ | ⟨rc, hre, rfl, hoff, hlr, _⟩
      · rw [sub_zero (by omega)]; exact .ro _ _ (.dat0 _ a 0)
      · have hslen := sub_length hoff
        have key : ∀ e j x, cellOf (sub ob.es off len) e j = some x → ∃ u, w.cell? (κ.addr o ob.esz (off + e) j) = some u ∧ Ro w (fun b => (κ.down (srcs obs.length ren) κ.A).X (objs obs') w b ∧ (own = true → w0.heap.size ≤ b ∨ P0 b)) x u := by
          intro e j x hxc
          obtain ⟨_, hx2⟩ := sub_cell hoff hxc
          obtain ⟨u, h3, h4⟩ := R.cells _ _ _ hx2
          refine ⟨u, h3, ?_⟩
          obtain ⟨c, hc1, hc2⟩ : ∃ c ∈ ob.es, x ∈ c := by
            unfold cellOf at hx2
            cases he : ob.es[off + e]? with
            | none => rw [he] at hx2; cases hx2
            | some c => rw [he] at hx2; exact ⟨c, List.mem_of_getElem? he, List.mem_of_getElem? hx2⟩
          have hpx := hpure c hc1 x hc2
          cases x with
          | dat z es =>
            by_cases ho' : ob.own
            · exact (h4.1 ho').ro fun b hb => hfoot b (.inr ⟨_, _, hb⟩)
            · refine (h4.2 ho').frame (fun b hb => ⟨X_ret F b hb, fun q => ?_⟩) (fun _ _ => rfl)
              rcases hown q with q1 | q1
              · exact absurd q1 ho'
              · have := q1 c hc1 _ hc2; simp [AV.isDat] at this
          | b _ => exact frame h4 rfl rfl
          | i _ _ => exact frame h4 rfl rfl
          | s _ => exact frame h4 rfl rfl
          | nilp => exact frame h4 rfl rfl
          | nils => exact frame h4 rfl rfl
          | nilf => exact frame h4 rfl rfl
          | _ => simp [AV.pure] at hpx
        have := Ro.dat (w := w) (X := fun b => (κ.down (srcs obs.length ren) κ.A).X (objs obs') w b ∧ (own = true → w0.heap.size ≤ b ∨ P0 b)) (sub ob.es off len) (κ.ι o).1 ((κ.ι o).2 + off * ob.esz) rc ob.esz (fun e j => (w.cell? (κ.addr o ob.esz (off + e) j)).getD Go.undef)
          (hfoot _ (.inl ⟨hre, rfl⟩)) (by rw [hslen]; exact hlr) (fun e he => R.esz e (sub_mem he))
          (fun e j x hxc => by
            obtain ⟨u, h3, _⟩ := key e j x hxc
            rw [h3]
            show _ = some u
            rw [← h3, Cfg.addr]; congr 2
            rw [Nat.add_mul]; omega)
          (fun e j x hxc => by
            obtain ⟨u, h3, h4⟩ := key e j x hxc
            rw [h3]; exact h4)
        rw [hslen] at this
        refine .ro _ _ ?_
        simpa [Cfg.addr] using this
end

/-- Where a function leaves its results. -/
def resT (fn : Func) : Option (List Nat) := fn.results.toList.mapM fun | .tmp t => some t | _ => none
def resV (g : Slots) : List Nat → AV
  | [t] => g t
  | ts => .tup (ts.map g)

/-- What a walk has to end in. -/
def FinA (ts : List Nat) (obs : List Ob) (r : AV) (own : Bool) (obs' : List Ob) (g : Slots) (h : Heap) : Prop :=
  ∃ ren, FinR obs ren obs' h ∧ retA h ren obs.length (resV g ts) = r ∧ ResOk h ren own (resV g ts)
/-- A result that comes back as one object. -/
theorem FinA_one {ts : List Nat} {obs : List Ob} {r : AV} {own : Bool} {g : Slots} {h : Heap} (o : Rid) (b ob : Ob) (ho : o.isP = false) (hb : h o = some b) (hob : ob = { b with ver := 1, own := ob.own }) (hf : (ob.own ↔ b.own) ∨ Flat b.es) (hp : Pure b.es)
    (hps : ∀ (k : Nat) x, obs[k]? = some x → Pure x.es ∧ h (.p k) = some x ∧ x.ver = 0) (h1 : retA h [o] obs.length (resV g ts) = r) (h2 : ResOk h [o] own (resV g ts)) : FinA ts obs r own (obs ++ [ob]) g h := by
  refine ⟨[o], ⟨by simp, fun u hu => by simp at hu; subst hu; exact ho, by simp, fun k x hk => ?_⟩, h1, h2⟩
  by_cases hl : k < obs.length
  · rw [List.getElem?_append_left hl] at hk
    obtain ⟨a1, a2, a3⟩ := hps k x hk
    exact ⟨a1, x, x.own, .inl Iff.rfl, .inl ⟨hl, a2, a3, rfl⟩⟩
  · rw [List.getElem?_append_right (by omega)] at hk
    have hk0 : k - obs.length = 0 := by
      have := (List.getElem?_eq_some_iff.1 hk).1; simp at this; omega
    rw [hk0] at hk
    simp only [List.getElem?_cons_zero, Option.some.injEq] at hk
    subst hk
    exact ⟨by rw [hob]; exact hp, b, ob.own, hf, .inr ⟨by omega, o, by rw [hk0]; rfl, hb, hob⟩⟩
def FinQ (ts : List Nat) (obs : List Ob) (own : Bool) (Φ : AV → List Ob → Prop) (g : Slots) (h : Heap) : Prop := ∃ r obs', Φ r obs' ∧ FinA ts obs r own obs' g h
def FinP (ts : List Nat) (obs : List Ob) (own : Bool) (Φ : AV → List Ob → Prop) : Ex → Post
  | .normal | .ret => fun g h _ => FinQ ts obs own Φ g h
  | .exit _ => fun _ _ _ => False
def FinB (ts : List Nat) (obs : List Ob) (r : AV) (own : Bool) (obs' : List Ob) (g : Slots) (h : Heap) : Prop := FinQ ts obs own (fun r' o' => r' = r ∧ o' = obs') g h
def Fin (ts : List Nat) (obs : List Ob) (r : AV) (own : Bool) (obs' : List Ob) : Ex → Post := FinP ts obs own (fun r' o' => r' = r ∧ o' = obs')
theorem FinA.b {ts : List Nat} {obs : List Ob} {r : AV} {own : Bool} {obs' : List Ob} {g : Slots} {h : Heap} (k : FinA ts obs r own obs' g h) : FinB ts obs r own obs' g h := ⟨r, obs', ⟨rfl, rfl⟩, k⟩
theorem FinA.q {ts : List Nat} {obs : List Ob} {r : AV} {own : Bool} {obs' : List Ob} {g : Slots} {h : Heap} {Φ : AV → List Ob → Prop} (k : FinA ts obs r own obs' g h) (hΦ : Φ r obs') : FinQ ts obs own Φ g h := ⟨r, obs', hΦ, k⟩
theorem FinA_obs {ts : List Nat} {obs : List Ob} {r : AV} {own : Bool} {obs' : List Ob} {g : Slots} {h : Heap} (h1 : retA h [] obs.length (resV g ts) = r) (h2 : ResOk h [] own (resV g ts)) (h3 : obs'.length = obs.length)
    (h4 : ∀ (k : Nat) ob, obs'[k]? = some ob → Pure ob.es ∧ ∃ q, (Flat ob.es ∨ (q ↔ ob.own)) ∧ h (.p k) = some { ob with own := q } ∧ ob.ver = 0) : FinA ts obs r own obs' g h :=
  ⟨[], ⟨.nil, (fun o ho => by cases ho), (by simpa using h3), fun k ob hk => by
    obtain ⟨a1, q, a2, a3, a4⟩ := h4 k ob hk
    exact ⟨a1, { ob with own := q }, ob.own, a2.symm.imp (fun e => e.symm) id, .inl ⟨by rw [← h3]; exact (List.getElem?_eq_some_iff.1 hk).1, a3, a4, rfl⟩⟩⟩, h1, h2⟩
theorem FinA_val {ts : List Nat} {r : AV} {own : Bool} {g : Slots} {h : Heap} (h1 : retA h [] 0 (resV g ts) = r) (h2 : ResOk h [] own (resV g ts)) : FinA ts [] r own [] g h :=
  FinA_obs h1 h2 rfl (fun k ob hk => by simp at hk)

theorem Fin_obs {ts : List Nat} {obs : List Ob} {r : AV} {own : Bool} {obs' : List Ob} {g : Slots} {h : Heap} (h1 : retA h [] obs.length (resV g ts) = r) (h2 : ResOk h [] own (resV g ts)) (h3 : obs'.length = obs.length)
    (h4 : ∀ (k : Nat) ob, obs'[k]? = some ob → Pure ob.es ∧ ∃ q, (Flat ob.es ∨ (q ↔ ob.own)) ∧ h (.p k) = some { ob with own := q } ∧ ob.ver = 0) : FinB ts obs r own obs' g h := (FinA_obs h1 h2 h3 h4).b
theorem Fin_val {ts : List Nat} {r : AV} {own : Bool} {g : Slots} {h : Heap} (h1 : retA h [] 0 (resV g ts) = r) (h2 : ResOk h [] own (resV g ts)) : FinB ts [] r own [] g h := (FinA_val h1 h2).b
theorem Fin_one {ts : List Nat} {obs : List Ob} {r : AV} {own : Bool} {g : Slots} {h : Heap} (o : Rid) (b ob : Ob) (ho : o.isP = false) (hb : h o = some b) (hob : ob = { b with ver := 1, own := ob.own }) (hf : (ob.own ↔ b.own) ∨ Flat b.es) (hp : Pure b.es)
    (hps : ∀ (k : Nat) x, obs[k]? = some x → Pure x.es ∧ h (.p k) = some x ∧ x.ver = 0) (h1 : retA h [o] obs.length (resV g ts) = r) (h2 : ResOk h [o] own (resV g ts)) : FinB ts obs r own (obs ++ [ob]) g h := (FinA_one o b ob ho hb hob hf hp hps h1 h2).b
def resVal (tm : Array Value) : List Nat → Value
  | [t] => tm.getD t Go.undef
  | ts => .tuple (ts.map (fun t => tm.getD t Go.undef)).toArray
theorem results_run {fn : Func} {ts : List Nat} (hr : resT fn = some ts) (tm : Array Value) (w : World) : (results fn tm).run P w = .ok (resVal tm ts) w := by
  have key : ∀ (l : List ResultVar) (ts : List Nat), (l.mapM fun | .tmp t => some t | _ => none) = some ts → l = ts.map .tmp := by
    intro l
    induction l with
    | nil => intro ts h; simp at h; subst h; rfl
    | cons x r ih =>
      intro ts h
      rw [List.mapM_cons] at h
      cases x with
      | tmp t =>
        simp only [Option.bind_eq_bind, Option.bind_some] at h
        cases hr : (r.mapM fun | .tmp t => some t | _ => none : Option (List Nat)) with
        | none => rw [hr] at h; cases h
        | some q => rw [hr] at h; simp at h; subst h; rw [ih q hr]; rfl
      | cell _ _ => simp at h
  have e1 : fn.results = (ts.map ResultVar.tmp).toArray := by
    have := key _ _ hr
    rw [← this]
  have run : ∀ (ts : List Nat), ((ts.map ResultVar.tmp).mapM (fun r : ResultVar => (match r with
    | .tmp t => pure (tm.getD t Go.undef)
    | .cell a t => do loadVar t (← asAddr (tm.getD a Go.undef)) : Sem Value))).run P w = .ok (ts.map fun t => tm.getD t Go.undef) w := by
    intro ts
    induction ts with
    | nil => rfl
    | cons t r ih => simp only [List.map_cons, List.mapM_cons, Sem.run_bind, Sem.run_pure, Result.andThen, ih]
  unfold results
  rw [e1, List.mapM_toArray]
  simp only [Sem.run_bind, bind_map_left]
  have h2 := run ts
  erw [h2]
  simp only [Result.andThen, Sem.run_pure]
  match ts with
  | [] => rfl
  | [t] => rfl
  | t :: u :: r => simp [resVal]

theorem resV_ok {w : World} {κ : Cfg} {h : Heap} {clk : Nat} {g : Slots} {tm : Array Value} (hg : ∀ t, VR w κ h clk (g t) (tm.getD t Go.undef)) : ∀ ts, VR w κ h clk (resV g ts) (resVal tm ts)
  | [] => .tup _ _ (by simp) (fun j x hx => by simp at hx)
  | [t] => hg t
  | t :: u :: r => .tup _ _ (by simp) (fun j x hx => by
    simp only [List.getElem?_map, Option.map_eq_some_iff] at hx
    obtain ⟨s, hs, rfl⟩ := hx
    have : (((t :: u :: r).map (fun t => tm.getD t Go.undef)).toArray).getD j Go.undef = tm.getD s Go.undef := by
      rw [Array.getD_eq_getD_getElem?]; simp only [List.getElem?_toArray, List.getElem?_map, hs, Option.map_some, Option.getD_some]
    rw [this]; exact hg s)

/-- The slots at the beginning. -/
def slots0 (args : List AV) : Slots := fun t => (args[t]?).getD .undef

theorem callFunc_run {fid : Nat} {fn : Func} (hf : P.funcs[fid]? = some fn) (hn : (fn.name == "runtime.NumGoroutine") = false) (hb : fn.body.isSome = true) (vs : Array Value) (w : World) : (callFunc fid vs).run P w = .ok (.enter fid vs) w := by
  have hb2 : fn.body.isNone = false := by cases h : fn.body <;> simp_all
  have hp : (program : Sem Program).run P w = .ok P w := rfl
  unfold callFunc
  simp only [Sem.run_bind, hp, Result.andThen, hf, hn, hb2, Bool.false_eq_true, if_false, Sem.run_pure]

/-- From a walk to a contract. -/
theorem holds_of {C : Con} (hC : ConOk P C) (hmix : P.follows .mixedOrders = true) {fid : Nat} {fn : Func} {c : Code} {k : K} {ts : List Nat} {args : List AV} {obs : List Ob} {own : Bool} {Φ : AV → List Ob → Prop} (hint : Nat → Nat)
    (hf : P.funcs[fid]? = some fn) (hn : (fn.name == "runtime.NumGoroutine") = false) (hb : fn.body = some c) (hr : resT fn = some ts) (hcomp : comp P fn.ntmps hint c = k.strip) (hdr : drawsOk k.strip = true) (hl : args.length ≤ fn.ntmps)
    (hk : RunK C k (.done (FinP ts obs own Φ)) (slots0 args) (objs obs) 1) : Holds P fid args obs own Φ := by
  refine ⟨callFunc_run hf hn (by rw [hb]; rfl), fun w κ vs P0 H hP hlen hv => calls_of_wp hf hb ?_⟩
  have E0 : Ext w κ (objs obs) 1 w κ (objs obs) 1 := Ext.same rfl
  let I : Ini := ⟨w, P0, w, κ, objs obs, 1, fn.ntmps, []⟩
  have R : Rel I (slots0 args) (objs obs) 1 { tmps := vs ++ Array.replicate (fn.ntmps - vs.size) Go.undef, defers := [] } w := by
    refine ⟨rfl, by simp [I]; omega, κ, H, E0, fun t => ?_⟩
    unfold slots0
    by_cases ht : t < args.length
    · rw [List.getElem?_eq_getElem ht, Option.getD_some]
      have := hv t _ (List.getElem?_eq_getElem ht)
      rw [Array.getD_eq_getD_getElem?] at this ⊢
      rw [Array.getElem?_append_left (by omega)]; exact this
    · rw [List.getElem?_eq_none (by omega), Option.getD_none]; exact .undef _
  have fin : Lands C I (FinP ts obs own Φ .normal) (fun a w' => a.defers = [] ∧ ∃ v, (results fn a.tmps).run P w' = .ok v w' ∧
      ∃ r obs' κ' clk', Φ r obs' ∧ HR w P0 w' κ' (objs obs') clk' ∧ Ext w κ (objs obs) 1 w' κ' (objs obs') clk' ∧ (∀ (k : Nat) ob, obs'[k]? = some ob → k < obs.length → ob.ver = 0) ∧ Rs w' κ' obs' obs.length (fun b => κ'.X (objs obs') w' b ∧ (own = true → w.heap.size ≤ b ∨ P0 b)) r v) := by
    rintro g h clk a w' ⟨r, obs', hΦ, ren, F, h1, h2⟩ R
    obtain ⟨κ', H', E', hg⟩ := R.st
    refine ⟨R.df, _, results_run hr _ _, r, obs', _, 2, hΦ, HR_ret H' F, Ext_ret E' F, fun k ob hk hl => ?_, ?_⟩
    · obtain ⟨_, b, q, _, ⟨_, _, h5, rfl⟩ | ⟨h5, _⟩⟩ := F.at_ k ob hk
      · exact h5
      · omega
    · rw [← h1]
      exact res_ok H' F (resV_ok hg ts) h2
  refine (wpIn_wide (n := 0)).1 (kwp_ok (I := I) (rd := none) hC hmix hint c k hcomp (by rw [show I.n = fn.ntmps from rfl, hcomp]; exact hdr) (Q := FinP ts obs own Φ) ⟨?_, fun id => fun _ _ _ _ _ hq _ => hq.elim, ?_⟩ R hk)
  · intro g h clk a w' hq R
    obtain ⟨h1, v, h2, h3⟩ := fin g h clk a w' hq R
    exact ⟨h1, v, h2, h3⟩
  · intro g h clk a w' hq R
    obtain ⟨h1, v, h2, h3⟩ := fin g h clk a w' hq R
    exact ⟨h1, v, h2, h3⟩

/-- What a walk has to end in, where it went on in the caller's heap. -/
def FinX (ts : List Nat) (Q : AV → Heap → Nat → Prop) : Ex → Post
  | .normal | .ret => fun g h c => Q (resV g ts) h c
  | .exit _ => fun _ _ _ => False
/-- From a walk in the caller's heap to a contract. -/
theorem holdsx_of {C : Con} (hC : ConOk P C) (hmix : P.follows .mixedOrders = true) {fid : Nat} {fn : Func} {c : Code} {k : K} {ts : List Nat} {args : List AV} {h0 : Heap} {clk0 : Nat} {Q : AV → Heap → Nat → Prop} (hint : Nat → Nat)
    (hf : P.funcs[fid]? = some fn) (hn : (fn.name == "runtime.NumGoroutine") = false) (hb : fn.body = some c) (hr : resT fn = some ts) (hcomp : comp P fn.ntmps hint c = k.strip) (hdr : drawsOk k.strip = true) (hl : args.length ≤ fn.ntmps)
    (hk : RunK C k (.done (FinX ts Q)) (slots0 args) h0 clk0) : HoldsX P fid args h0 clk0 Q := by
  intro w0 P0 w κ vs H hlen hv
  refine .inl ⟨callFunc_run hf hn (by rw [hb]; rfl) _ _, calls_of_wp hf hb ?_⟩
  have E0 : Ext w κ h0 clk0 w κ h0 clk0 := Ext.same rfl
  let I : Ini := ⟨w0, P0, w, κ, h0, clk0, fn.ntmps, []⟩
  have R : Rel I (slots0 args) h0 clk0 { tmps := vs ++ Array.replicate (fn.ntmps - vs.size) Go.undef, defers := [] } w := by
    refine ⟨rfl, by simp [I]; omega, κ, H, E0, fun t => ?_⟩
    unfold slots0
    by_cases ht : t < args.length
    · rw [List.getElem?_eq_getElem ht, Option.getD_some]
      have := hv t _ (List.getElem?_eq_getElem ht)
      rw [Array.getD_eq_getD_getElem?] at this ⊢
      rw [Array.getElem?_append_left (by omega)]; exact this
    · rw [List.getElem?_eq_none (by omega), Option.getD_none]; exact .undef _
  have fin : Lands C I (FinX ts Q .normal) (fun a w' => a.defers = [] ∧ ∃ v, (results fn a.tmps).run P w' = .ok v w' ∧
      ∃ r h' κ' clk', Q r h' clk' ∧ HR w0 P0 w' κ' h' clk' ∧ Ext w κ h0 clk0 w' κ' h' clk' ∧ VR w' κ' h' clk' r v) := by
    rintro g h clk a w' hq R
    obtain ⟨κ', H', E', hg⟩ := R.st
    exact ⟨R.df, _, results_run hr _ _, _, h, κ', clk, hq, H', E', resV_ok hg ts⟩
  refine (wpIn_wide (n := 0)).1 (kwp_ok (I := I) (rd := none) hC hmix hint c k hcomp (by rw [show I.n = fn.ntmps from rfl, hcomp]; exact hdr) (Q := FinX ts Q) ⟨?_, fun id => fun _ _ _ _ _ hq _ => hq.elim, ?_⟩ R hk)
  · intro g h clk a w' hq R
    obtain ⟨h1, v, h2, h3⟩ := fin g h clk a w' hq R
    exact ⟨h1, v, h2, h3⟩
  · intro g h clk a w' hq R
    obtain ⟨h1, v, h2, h3⟩ := fin g h clk a w' hq R
    exact ⟨h1, v, h2, h3⟩
end Go.AM

/-! Fun2 -/
namespace Go.AM
variable {P : Program}
/-- The room behind a row comes to light: its cells hold whatever they hold. -/
theorem room_x {fid : Nat} {rest : List AV} {o : Rid} {v n : Nat} {ob : Ob} {h : Heap} {clk : Nat} {Q : AV → Heap → Nat → Prop} (ho : cur h o v = some ob) (hn : ob.es.length = n) (hn0 : n ≠ 0)
    (hk : ∀ rc, n ≤ rc → HoldsX P fid (.sl o clk 0 n (some rc) :: rest) (hup h o { ob with ver := clk, es := ob.es ++ List.replicate (rc - n) (List.replicate ob.esz .undef) }) (clk + 1) Q) : HoldsX P fid (.sl o v 0 n none :: rest) h clk Q := by
  intro w0 P0 w κ vs H hl hv
  have h0 := hv 0 _ rfl
  obtain ⟨hoo, _⟩ := cur_some ho
  rcases h0.of_sl ho with ⟨h1, _⟩ | ⟨rc, hre, hv0, hoff, hle, _, _, hown⟩
  · exact absurd h1 hn0
  rw [Nat.zero_add] at hown
  have OB := H.ob o ob hoo
  obtain ⟨es', hes⟩ : ∃ es', es' = ob.es ++ List.replicate (rc - n) (List.replicate ob.esz AV.undef) := ⟨_, rfl⟩
  have hel : es'.length = rc := by rw [hes]; simp; omega
  have hz : ∀ e ∈ es', e.length = ob.esz := fun e he => by
    rw [hes] at he
    rcases List.mem_append.1 he with he | he
    · exact OB.esz e he
    · rw [(List.mem_replicate.1 he).2]; simp
  obtain ⟨κ', k1, k2, E, k⟩ := H.write (w' := w) (clk' := clk + 1) (es' := es') (own' := ob.own) (ver' := clk) (blk := (κ.ι o).1) (off := (κ.ι o).2) hoo (Nat.le_succ _) (Nat.lt_succ_self _) (.inl (Nat.le_refl _)) hz
    (fun _ _ => rfl) (Nat.le_refl _) ⟨rfl, fun _ => rfl⟩ rfl rfl (.inr ⟨hre, rfl⟩) (fun _ k => k) (fun _ => by rw [hel]; exact hown) (fun hh => hh)
    (fun e' j' x hx => by
      obtain ⟨hb1, hb2, hb3⟩ := cellOf_lt hz hx
      rw [hes] at hx
      rcases cellOf_app hx with ⟨h1, h2⟩ | ⟨h1, h2⟩
      · exact .inl ⟨h2, fun u hu => by simpa [Cfg.addr] using hu⟩
      · have hxu : x = .undef := by
          unfold cellOf at h2
          rw [List.getElem?_replicate] at h2
          split at h2
          · simp only [Option.bind_some, List.getElem?_replicate] at h2
            split at h2
            · exact (Option.some.inj h2).symm
            · first | (cases h2; done) | (cases h2; rfl)
          · cases h2
        subst hxu
        rw [hel] at hb3
        obtain ⟨u, hu⟩ := Option.isSome_iff_exists.1 (hown.cell (o := (κ.ι o).2 + e' * ob.esz + j') (by omega)).1
        exact .inr ⟨u, hu, .ro _ _ (.undef _), .inr rfl, fun _ => rfl⟩)
  have hv2 : ∀ (j : Nat) x, (AV.sl o clk 0 n (some rc) :: rest)[j]? = some x → VR w κ' (hup h o { ob with ver := clk, es := es' }) (clk + 1) x (vs.getD j Go.undef) := by
    intro j x hx
    cases j with
    | zero =>
      simp only [List.getElem?_cons_zero, Option.some.injEq] at hx; subst hx
      rw [hv0]
      refine .sl _ _ _ _ _ _ ⟨_, _, _, rfl⟩ (Nat.lt_succ_self _) fun ob' hc => ?_
      obtain ⟨h1, _⟩ := cur_some hc
      rw [hup_at, if_pos rfl] at h1; cases h1
      refine .inr ⟨rc, k2, by simp [Cfg.addr, k1], by simp only [Nat.zero_add, hel]; exact hle, hle, fun k hk => Option.some.inj hk, fun hh => (by cases hh), ?_⟩
      rw [k1, Nat.zero_add]; exact hown
    | succ j => exact (hv (j + 1) x hx).ext E
  have hk2 := hk rc hle
  rw [← hes] at hk2
  rcases hk2 w0 P0 w κ' vs k (by simpa using hl) hv2 with ⟨h1, h2⟩ | ⟨u, w', h1, r, h', κ2, clk', q1, q2, q3, q4⟩
  · refine .inl ⟨h1, h2.mono fun e w' he => ?_⟩
    cases e with
    | returned u => obtain ⟨r, h', κ2, clk', q1, q2, q3, q4⟩ := he; exact ⟨r, h', κ2, clk', q1, q2, E.trans q3, q4⟩
    | panicked _ => exact he
    | outgrown => exact he
  · exact .inr ⟨u, w', h1, r, h', κ2, clk', q1, q2, E.trans q3, q4⟩

theorem trim_st {w0 : World} {P0 : Bs} {w : World} {κ : Cfg} {o : Rid} {m c : Nat} {cap : Option Nat} {ob : Ob} {h : Heap} {clk : Nat} {u : Value} (H : HR w0 P0 w κ h clk) (hv : VR w κ h clk (.sl o c 0 m cap) u) (hc : cur h o c = some ob) (hm : m ≤ ob.es.length) :
    ∃ κ', HR w0 P0 w κ' (hup h o { ob with ver := clk, es := ob.es.take m }) (clk + 1) ∧ Ext w κ h clk w κ' (hup h o { ob with ver := clk, es := ob.es.take m }) (clk + 1) ∧ VR w κ' (hup h o { ob with ver := clk, es := ob.es.take m }) (clk + 1) (.sl o clk 0 m none) u := by
  obtain ⟨ho, _⟩ := cur_some hc
  have OB := H.ob o ob ho
  have hz : ∀ e ∈ ob.es.take m, e.length = ob.esz := fun e he => OB.esz e (List.mem_of_mem_take he)
  have hlt : (ob.es.take m).length = m := by simp; omega
  by_cases hne : ob.es = []
  · -- nothing there
    have hm0 : m = 0 := by rw [hne] at hm; simpa using hm
    subst hm0
    have E : Ext w κ h clk w κ (hup h o { ob with ver := clk, es := ob.es.take 0 }) (clk + 1) := by
      refine ⟨Nat.le_succ _, fun u vv ou hvl hcu => ?_, fun b hb => ⟨⟨hb.1, hb.2.1, fun u ou hu hf => ?_⟩, rfl⟩, rfl⟩
      · obtain ⟨h1, h2⟩ := cur_some hcu
        by_cases hu : u = o
        · subst hu; rw [hup_at, if_pos rfl] at h1; cases h1; simp at h2; omega
        · rw [hup_at, if_neg hu] at h1
          exact ⟨ou, by unfold cur; rw [h1]; simp [h2], rfl, rfl, rfl, fun k => k, fun _ _ k => k⟩
      · by_cases huo : u = o
        · subst huo; exact hb.2.2 u ob ho hf
        · rw [hup_at, if_neg huo] at hu; exact hb.2.2 u ou hu hf
    have old : ∀ {u : Rid} {ou : Ob}, hup h o { ob with ver := clk, es := ob.es.take 0 } u = some ou → ∃ ou2, h u = some ou2 := by
      intro u ou hu
      by_cases huo : u = o
      · subst huo; exact ⟨ob, ho⟩
      · rw [hup_at, if_neg huo] at hu; exact ⟨ou, hu⟩
    refine ⟨κ, ⟨fun u ou hu => ?_, fun u u' ou ou' b hu hu' hne hf hf' => ?_, fun u ou b hu hf => ?_, H.os, H.tape, H.output, H.size, H.old, H.free, H.glob⟩, E, ?_⟩
    · by_cases huo : u = o
      · subst huo; rw [hup_at, if_pos rfl] at hu; cases hu
        exact ⟨Nat.lt_succ_self _, fun l hl => by simp at hl, fun hne => absurd (by simp) hne, fun e' j' x hx => by simp [cellOf] at hx, OB.sep, OB.disj⟩
      · rw [hup_at, if_neg huo] at hu
        have O2 := H.ob u ou hu
        refine ⟨Nat.lt_succ_of_lt O2.ver, O2.esz, O2.blk, fun e' j' x hx => ?_, O2.sep, O2.disj⟩
        obtain ⟨q, h1, h2⟩ := O2.cells e' j' x hx
        exact ⟨q, h1, h2.ext E (fun _ _ hb => hb) (fun _ _ => rfl) (fun k => k) (fun h3 h4 => (h3 h4).elim)⟩
    · obtain ⟨ou2, hu2⟩ := old hu
      obtain ⟨ou3, hu3⟩ := old hu'
      exact H.apart u u' ou2 ou3 b hu2 hu3 hne hf hf'
    · obtain ⟨ou2, hu2⟩ := old hu
      exact H.base u ou2 b hu2 hf
    · obtain ⟨a, rc, hsl, _⟩ := (hv.of_sl hc).slice
      refine .sl _ _ _ _ _ _ ⟨_, _, _, hsl⟩ (Nat.lt_succ_self _) fun ob' hc' => ?_
      obtain ⟨h1, _⟩ := cur_some hc'
      rw [hup_at, if_pos rfl] at h1; cases h1
      rcases hv.of_sl hc with ⟨q1, q2, q3⟩ | ⟨rc, q1, q2, q3, q4, q5, q6, q7⟩
      · exact .inl ⟨q1, q2, fun _ => by simp⟩
      · exact .inr ⟨rc, q1, q2, by simp, q4, fun k hh => (by cases hh), fun _ => by simp, q7⟩
  · obtain ⟨hre, hblk⟩ := OB.blk hne
    obtain ⟨κ', k1, k2, E, k⟩ := H.write (w' := w) (clk' := clk + 1) (es' := ob.es.take m) (own' := ob.own) (ver' := clk) (blk := (κ.ι o).1) (off := (κ.ι o).2) ho (Nat.le_succ _) (Nat.lt_succ_self _) (.inl (Nat.le_refl _)) hz
      (fun _ _ => rfl) (Nat.le_refl _) ⟨rfl, fun _ => rfl⟩ rfl rfl (.inr ⟨hre, rfl⟩) (fun _ k => k) (fun _ => hblk.mono (by rw [hlt]; have := Nat.mul_le_mul_right ob.esz hm; omega)) (fun hh => hh)
      (fun e' j' x hx => by
        refine .inl ⟨?_, fun u hu => by simpa [Cfg.addr] using hu⟩
        unfold cellOf at hx ⊢
        cases he : (ob.es.take m)[e']? with
        | none => rw [he] at hx; cases hx
        | some cs =>
          have hlt2 : e' < m := by have := (List.getElem?_eq_some_iff.1 he).1; rw [hlt] at this; exact this
          rw [List.getElem?_take_of_lt hlt2] at he
          rw [List.getElem?_take_of_lt hlt2, he] at hx
          rw [he]; exact hx)
    refine ⟨κ', k, E, ?_⟩
    obtain ⟨a, rc, hsl, _⟩ := (hv.of_sl hc).slice
    refine .sl _ _ _ _ _ _ ⟨_, _, _, hsl⟩ (Nat.lt_succ_self _) fun ob' hc' => ?_
    obtain ⟨h1, _⟩ := cur_some hc'
    rw [hup_at, if_pos rfl] at h1; cases h1
    rcases hv.of_sl hc with ⟨q1, q2, q3⟩ | ⟨rc, q1, q2, q3, q4, q5, q6, q7⟩
    · exact .inl ⟨q1, q2, fun _ => by simp [q1]⟩
    · refine .inr ⟨rc, k2, by rw [q2]; simp [Cfg.addr, k1], by rw [Nat.zero_add, hlt]; exact Nat.le_refl _, q4, fun k hh => (by cases hh), fun _ => by rw [hlt]; omega, by rw [k1]; exact q7⟩
/-- What lies behind a result is forgotten. -/
theorem trim_x {fid : Nat} {args : List AV} {h : Heap} {clk : Nat} {Q : AV → Heap → Nat → Prop}
    (hk : HoldsX P fid args h clk (fun r h' c' => ∃ o c m cap ob, r = .sl o c 0 m cap ∧ cur h' o c = some ob ∧ m ≤ ob.es.length ∧ Q (.sl o c' 0 m none) (hup h' o { ob with ver := c', es := ob.es.take m }) (c' + 1))) : HoldsX P fid args h clk Q := by
  intro w0 P0 w κ vs H hl hv
  have fin : ∀ (u : Value) (w' : World), (∃ r h' κ' clk', (∃ o c m cap ob, r = AV.sl o c 0 m cap ∧ cur h' o c = some ob ∧ m ≤ ob.es.length ∧ Q (.sl o clk' 0 m none) (hup h' o { ob with ver := clk', es := ob.es.take m }) (clk' + 1)) ∧ HR w0 P0 w' κ' h' clk' ∧ Ext w κ h clk w' κ' h' clk' ∧ VR w' κ' h' clk' r u) →
      ∃ r h' κ' clk', Q r h' clk' ∧ HR w0 P0 w' κ' h' clk' ∧ Ext w κ h clk w' κ' h' clk' ∧ VR w' κ' h' clk' r u := by
    rintro u w' ⟨r, h', κ', clk', ⟨o, c, m, cap, ob, rfl, q1, q2, q3⟩, q4, q5, q6⟩
    obtain ⟨κ2, k1, k2, k3⟩ := trim_st q4 q6 q1 q2
    exact ⟨_, _, κ2, _, q3, k1, q5.trans k2, k3⟩
  rcases hk w0 P0 w κ vs H hl hv with ⟨h1, h2⟩ | ⟨u, w', h1, h2⟩
  · refine .inl ⟨h1, h2.mono fun e w' he => ?_⟩
    cases e with
    | returned u => exact fin u w' he
    | panicked _ => exact he
    | outgrown => exact he
  · exact .inr ⟨u, w', h1, fin u w' h2⟩
end Go.AM

/-! Fun3 -/
namespace Go.AM
variable {P : Program}
/-- Where a result lies: in a temporary, or in the cell that a temporary points to. -/
abbrev RS := Nat × Option (Bool × Nat)
def resC (P : Program) (fn : Func) : Option (List RS) := fn.results.toList.mapM fun
  | .tmp t => some (t, none)
  | .cell a t => if (P.info? t).isSome && (P.underlying t).isSome && (isAggT P t || P.cellsOf t == 1) then some (a, some (isAggT P t, P.cellsOf t)) else none
def resE (h : Heap) (g : Slots) : RS → PV
  | (t, none) => yes (g t)
  | (a, some (agg, n)) => loadF h agg n (g a)
def resM (h : Heap) (g : Slots) : List RS → Option (Prop × List AV)
  | [] => some (True, [])
  | x :: r => (resE h g x).bind fun (p, v) => (resM h g r).bind fun (q, l) => some (p ∧ q, v :: l)
def resOne : List AV → AV
  | [v] => v
  | l => .tup l
def valOne : List Value → Value
  | [v] => v
  | l => .tuple l.toArray
/-- What a walk has to end in. -/
def FinC (cs : List RS) (obs : List Ob) (own : Bool) (Φ : AV → List Ob → Prop) : Ex → Post
  | .normal | .ret => fun g h _ => ∃ p l, resM h g cs = some (p, l) ∧ p ∧ ∃ r obs', Φ r obs' ∧ ∃ ren, FinR obs ren obs' h ∧ retA h ren obs.length (resOne l) = r ∧ ResOk h ren own (resOne l)
  | .exit _ => fun _ _ _ => False
theorem finC_val {cs : List RS} {own : Bool} {r : AV} {g : Slots} {h : Heap} {p : Prop} {l : List AV} (h0 : resM h g cs = some (p, l)) (hp : p) (h1 : retA h [] 0 (resOne l) = r) (h2 : ResOk h [] own (resOne l)) : ∃ p l, resM h g cs = some (p, l) ∧ p ∧ ∃ r' obs', (r' = r ∧ obs' = []) ∧ ∃ ren, FinR [] ren obs' h ∧ retA h ren 0 (resOne l) = r' ∧ ResOk h ren own (resOne l) :=
  ⟨p, l, h0, hp, r, [], ⟨rfl, rfl⟩, [], ⟨.nil, (by simp), rfl, (fun k ob hk => by simp at hk)⟩, h1, h2⟩
section
variable {w : World} {κ : Cfg} {h : Heap} {clk : Nat}
theorem cellR_ok {t : TypeId} {agg : Bool} {n : Nat} {a : AV} {va : Value} {p : Prop} {v : AV} (hO : ∀ o ob, h o = some ob → ObR w κ h clk o ob)
    (hi : (P.info? t).isSome = true) (hu : (P.underlying t).isSome = true) (hz : isAggT P t = agg) (hn : P.cellsOf t = n) (h1 : agg = false → n = 1)
    (ha : VR w κ h clk a va) (hk : loadF h agg n a = some (p, v)) (hp : p) : ∃ u, (do loadVar t (← asAddr va) : Sem Value).run P w = .ok u w ∧ VR w κ h clk v u := by
  obtain ⟨u, hr, hv⟩ := load_ok (P := P) hO hi hu hz hn h1 ha hk hp
  refine ⟨u, ?_, hv⟩
  have : ∃ ad, va = .pointer (some ad) := by
    unfold loadF at hk
    split at hk
    · rename_i o ver e c
      cases hc : cur h o ver with
      | none => rw [hc] at hk; cases hk
      | some ob => exact ⟨_, ha.of_ptr hc⟩
    · obtain ⟨blk, off, val, e2, _⟩ := ha.of_eptr
      exact ⟨_, e2⟩
    · cases hk
  obtain ⟨ad, rfl⟩ := this
  simp only [Instr.loadAt, Instr.sureAddr, Sem.run_bind, Sem.run_pure, Result.andThen] at hr
  simp only [asAddr, Sem.run_bind, Sem.run_pure, Result.andThen]
  exact hr
theorem resM_run {fn : Func} {cs : List RS} (hr : resC P fn = some cs) {g : Slots} {tm : Array Value} (hO : ∀ o ob, h o = some ob → ObR w κ h clk o ob) (hg : ∀ t, VR w κ h clk (g t) (tm.getD t Go.undef)) {p : Prop} {l : List AV} (hm : resM h g cs = some (p, l)) (hp : p) :
    ∃ us : List Value, (results fn tm).run P w = .ok (valOne us) w ∧ l.length = us.length ∧ ∀ (j : Nat) x, l[j]? = some x → VR w κ h clk x (us[j]?.getD Go.undef) := by
  have key : ∀ (rs : List ResultVar) (cs : List RS) (p : Prop) (l : List AV), (rs.mapM fun
      | .tmp t => some (t, none)
      | .cell a t => if (P.info? t).isSome && (P.underlying t).isSome && (isAggT P t || P.cellsOf t == 1) then some (a, some (isAggT P t, P.cellsOf t)) else none) = some cs → resM h g cs = some (p, l) → p →
      ∃ us : List Value, (rs.mapM (fun r : ResultVar => (match r with
        | .tmp t => pure (tm.getD t Go.undef)
        | .cell a t => do loadVar t (← asAddr (tm.getD a Go.undef)) : Sem Value))).run P w = .ok us w ∧ l.length = us.length ∧ ∀ (j : Nat) x, l[j]? = some x → VR w κ h clk x (us[j]?.getD Go.undef) := by
    intro rs
    induction rs with
    | nil =>
      intro cs p l h1 h2 h3
      simp at h1; subst h1
      simp only [resM, Option.some.injEq, Prod.mk.injEq] at h2
      obtain ⟨rfl, rfl⟩ := h2
      exact ⟨[], rfl, rfl, fun j x hx => by simp at hx⟩
    | cons r rs ih =>
      intro cs p l h1 h2 h3
      rw [List.mapM_cons] at h1
      simp only [Option.bind_eq_bind, Option.bind_eq_some_iff] at h1
      obtain ⟨c, hc, cs', hcs, hcc⟩ := h1
      simp only [Option.pure_def, Option.some.injEq] at hcc
      subst hcc
      simp only [resM, Option.bind_eq_some_iff, Prod.exists] at h2
      obtain ⟨p1, v, hv, q, l', hl', hpl⟩ := h2
      simp only [Option.some.injEq, Prod.mk.injEq] at hpl
      obtain ⟨rfl, rfl⟩ := hpl
      obtain ⟨us, hu1, hu2, hu3⟩ := ih cs' q l' hcs hl' h3.2
      have head : ∃ u, (match r with
        | .tmp t => pure (tm.getD t Go.undef)
        | .cell a t => do loadVar t (← asAddr (tm.getD a Go.undef)) : Sem Value).run P w = .ok u w ∧ VR w κ h clk v u := by
        cases r with
        | tmp t =>
          simp only [Option.some.injEq] at hc; subst hc
          simp only [resE, yes, Option.some.injEq, Prod.mk.injEq] at hv
          obtain ⟨_, rfl⟩ := hv
          exact ⟨_, rfl, hg t⟩
        | cell a t =>
          simp only at hc
          split at hc
          · rename_i hcond
            simp only [Bool.and_eq_true, Bool.or_eq_true, beq_iff_eq] at hcond
            simp only [Option.some.injEq] at hc; subst hc
            exact cellR_ok hO hcond.1.1 hcond.1.2 rfl rfl (fun hh => by rcases hcond.2 with h5 | h5 <;> simp_all) (hg a) hv h3.1
          · cases hc
      obtain ⟨u, hu4, hu5⟩ := head
      refine ⟨u :: us, ?_, by simp [hu2], fun j x hx => ?_⟩
      · rw [List.mapM_cons]
        simp only [Sem.run_bind]
        erw [hu4]
        simp only [Result.andThen]
        erw [hu1]
        rfl
      · cases j with
        | zero => simp at hx; subst hx; exact hu5
        | succ j => simpa using hu3 j x (by simpa using hx)
  obtain ⟨us, h1, h2, h3⟩ := key fn.results.toList cs p l hr hm hp
  refine ⟨us, ?_, h2, h3⟩
  have e1 : fn.results = fn.results.toList.toArray := by simp
  unfold results
  rw [e1, List.mapM_toArray]
  simp only [Sem.run_bind, bind_map_left]
  erw [h1]
  simp only [Result.andThen, Sem.run_pure]
  match us with
  | [] => rfl
  | [u] => rfl
  | u :: u2 :: r => simp [valOne]
theorem resOne_ok {l : List AV} {us : List Value} (hl : l.length = us.length) (hr : ∀ (j : Nat) x, l[j]? = some x → VR w κ h clk x (us[j]?.getD Go.undef)) : VR w κ h clk (resOne l) (valOne us) := by
  match l, us, hl, hr with
  | [], [], _, _ => exact .tup _ _ rfl (fun j x hx => by simp at hx)
  | [x], [u], _, hr => exact hr 0 x rfl
  | x :: y :: r, u :: u2 :: s, hl, hr =>
    refine .tup _ _ (by simpa using hl) (fun j z hz => ?_)
    have := hr j z hz
    rw [Array.getD_eq_getD_getElem?]
    simpa using this
end
/-- From a walk to a contract, where results lie in cells. -/
theorem holdsc_of {C : Con} (hC : ConOk P C) (hmix : P.follows .mixedOrders = true) {fid : Nat} {fn : Func} {c : Code} {k : K} {cs : List RS} {args : List AV} {obs : List Ob} {own : Bool} {Φ : AV → List Ob → Prop} (hint : Nat → Nat)
    (hf : P.funcs[fid]? = some fn) (hn : (fn.name == "runtime.NumGoroutine") = false) (hb : fn.body = some c) (hr : resC P fn = some cs) (hcomp : comp P fn.ntmps hint c = k.strip) (hdr : drawsOk k.strip = true) (hl : args.length ≤ fn.ntmps)
    (hk : RunK C k (.done (FinC cs obs own Φ)) (slots0 args) (objs obs) 1) : Holds P fid args obs own Φ := by
  refine ⟨callFunc_run hf hn (by rw [hb]; rfl), fun w κ vs P0 H hP hlen hv => calls_of_wp hf hb ?_⟩
  have E0 : Ext w κ (objs obs) 1 w κ (objs obs) 1 := Ext.same rfl
  let I : Ini := ⟨w, P0, w, κ, objs obs, 1, fn.ntmps, []⟩
  have R : Rel I (slots0 args) (objs obs) 1 { tmps := vs ++ Array.replicate (fn.ntmps - vs.size) Go.undef, defers := [] } w := by
    refine ⟨rfl, by simp [I]; omega, κ, H, E0, fun t => ?_⟩
    unfold slots0
    by_cases ht : t < args.length
    · rw [List.getElem?_eq_getElem ht, Option.getD_some]
      have := hv t _ (List.getElem?_eq_getElem ht)
      rw [Array.getD_eq_getD_getElem?] at this ⊢
      rw [Array.getElem?_append_left (by omega)]; exact this
    · rw [List.getElem?_eq_none (by omega), Option.getD_none]; exact .undef _
  have fin : Lands C I (FinC cs obs own Φ .normal) (fun a w' => a.defers = [] ∧ ∃ v, (results fn a.tmps).run P w' = .ok v w' ∧
      ∃ r obs' κ' clk', Φ r obs' ∧ HR w P0 w' κ' (objs obs') clk' ∧ Ext w κ (objs obs) 1 w' κ' (objs obs') clk' ∧ (∀ (k : Nat) ob, obs'[k]? = some ob → k < obs.length → ob.ver = 0) ∧ Rs w' κ' obs' obs.length (fun b => κ'.X (objs obs') w' b ∧ (own = true → w.heap.size ≤ b ∨ P0 b)) r v) := by
    rintro g h clk a w' ⟨p, l, hm, hp, r, obs', hΦ, ren, F, h1, h2⟩ R
    obtain ⟨κ', H', E', hg⟩ := R.st
    obtain ⟨us, e1, e2, e3⟩ := resM_run hr H'.ob hg hm hp
    refine ⟨R.df, _, e1, r, obs', _, 2, hΦ, HR_ret H' F, Ext_ret E' F, fun k ob hk hl => ?_, ?_⟩
    · obtain ⟨_, b, q, _, ⟨_, _, h5, rfl⟩ | ⟨h5, _⟩⟩ := F.at_ k ob hk
      · exact h5
      · omega
    · rw [← h1]
      exact res_ok H' F (resOne_ok e2 e3) h2
  refine (wpIn_wide (n := 0)).1 (kwp_ok (I := I) (rd := none) hC hmix hint c k hcomp (by rw [show I.n = fn.ntmps from rfl, hcomp]; exact hdr) (Q := FinC cs obs own Φ) ⟨?_, fun id => fun _ _ _ _ _ hq _ => hq.elim, ?_⟩ R hk)
  · intro g h clk a w' hq R
    obtain ⟨h1, v, h2, h3⟩ := fin g h clk a w' hq R
    exact ⟨h1, v, h2, h3⟩
  · intro g h clk a w' hq R
    obtain ⟨h1, v, h2, h3⟩ := fin g h clk a w' hq R
    exact ⟨h1, v, h2, h3⟩
end Go.AM

/-! Fun4 -/
namespace Go.AM
variable {P : Program}
/-- What may be told of a result instead: of nil, that it is empty. -/
inductive Le : AV → AV → Prop
  | refl (x : AV) : Le x x
  | nils (z : Nat) : Le .nils (.dat z [])
  | agg (cs ds : List AV) (hl : cs.length = ds.length) (h : ∀ (j : Nat) x y, cs[j]? = some x → ds[j]? = some y → Le x y) : Le (.agg cs) (.agg ds)
  | tup (cs ds : List AV) (hl : cs.length = ds.length) (h : ∀ (j : Nat) x y, cs[j]? = some x → ds[j]? = some y → Le x y) : Le (.tup cs) (.tup ds)
theorem Rs.le {w : World} {κ : Cfg} {obs : List Ob} {n : Nat} {X : Bs} {x y : AV} (hle : Le x y) : ∀ {v : Value}, Rs w κ obs n X x v → Rs w κ obs n X y v := by
  induction hle with
  | refl x => exact fun h => h
  | nils z =>
    intro v h
    cases h with
    | ro _ _ hr => cases hr; exact .ro _ _ (.dat0 _ _ _)
  | agg cs ds hl h ih =>
    intro v hv
    cases hv with
    | ro _ _ hr => cases hr
    | agg _ vs hl2 hr =>
      refine .agg _ _ (by rw [← hl]; exact hl2) fun j y hy => ?_
      have hj : j < cs.length := by rw [hl]; exact (List.getElem?_eq_some_iff.1 hy).1
      exact ih j _ y (List.getElem?_eq_getElem hj) hy (hr j _ (List.getElem?_eq_getElem hj))
  | tup cs ds hl h ih =>
    intro v hv
    cases hv with
    | ro _ _ hr => cases hr
    | tup _ vs hl2 hr =>
      refine .tup _ _ (by rw [← hl]; exact hl2) fun j y hy => ?_
      have hj : j < cs.length := by rw [hl]; exact (List.getElem?_eq_some_iff.1 hy).1
      exact ih j _ y (List.getElem?_eq_getElem hj) hy (hr j _ (List.getElem?_eq_getElem hj))
theorem Holds.weak {fid : Nat} {args : List AV} {obs : List Ob} {own : Bool} {Φ Φ2 : AV → List Ob → Prop} (h : Holds P fid args obs own Φ) (hw : ∀ r o', Φ r o' → ∃ r2, Le r r2 ∧ Φ2 r2 o') : Holds P fid args obs own Φ2 := by
  refine ⟨h.1, fun w κ vs P0 H hP hl hv => (h.2 w κ vs P0 H hP hl hv).mono fun e w' he => ?_⟩
  cases e with
  | returned v =>
    obtain ⟨r, obs', κ', clk', h1, h2, h3, h4, h5⟩ := he
    obtain ⟨r2, hle, h6⟩ := hw r obs' h1
    exact ⟨r2, obs', κ', clk', h6, h2, h3, h4, h5.le hle⟩
  | panicked _ => exact he
  | outgrown => exact he
/-- Of a result that is a row, its content alone. -/
theorem Holds.own_any {fid : Nat} {args : List AV} {obs : List Ob} {Φ : AV → List Ob → Prop} (h : Holds P fid args obs true Φ) : Holds P fid args obs false Φ := by
  refine ⟨h.1, fun w κ vs P0 H hP hl hv => (h.2 w κ vs P0 H hP hl hv).mono fun e w' he => ?_⟩
  cases e with
  | returned v =>
    obtain ⟨r, obs', κ', clk', h1, h2, h3, h4, h5⟩ := he
    refine ⟨r, obs', κ', clk', h1, h2, h3, h4, ?_⟩
    have mono : ∀ {X Y : Bs}, (∀ b, X b → Y b) → ∀ {x : AV} {u : Value}, Rs w' κ' obs' obs.length X x u → Rs w' κ' obs' obs.length Y x u := by
      intro X Y hXY x u hr
      induction hr with
      | ro x v hr => exact .ro _ _ (hr.frame hXY (fun _ _ => rfl))
      | sl k off len cap v ob hn ho hs => exact .sl _ _ _ _ _ _ hn ho hs
      | ptr k e c ob hn ho => exact .ptr _ _ _ _ hn ho
      | agg cs vs hl hr ih => exact .agg _ _ hl ih
      | tup cs vs hl hr ih => exact .tup _ _ hl ih
    exact mono (fun b hb => ⟨hb.1, fun hf => by cases hf⟩) h5
  | panicked _ => exact he
  | outgrown => exact he
end Go.AM

/-! Hint -/
namespace Go.AM
def hintT : Nat → Nat := fun n => if [13, 14, 15, 23, 26, 27, 108].contains n then 1 else 0
namespace L
abbrev KF (f : Func) := { k : K // comp Go.Proofs.Tryd.prog f.ntmps hintT (f.body.getD .skip) = k.strip }
abbrev R (l : List KOp) : K := .reg l
abbrev D (l : List KOp) (w : List (List Nat)) : K := .dreg l w
abbrev m (d s : Nat) : KOp := ⟨some d, none, .mv (.t s)⟩
abbrev o (d : Nat) (k : KO) : KOp := ⟨some d, none, k⟩
abbrev x (k : KO) : KOp := ⟨none, none, k⟩
abbrev q (d t : Nat) (w : Bool) (k : KO) : KOp := ⟨some d, some (t, w), k⟩
abbrev G : KOp := ⟨none, none, .gh⟩
abbrev n (k : Int) : KV := .c (.i .i64 k)
end L
end Go.AM

/-! Fun5 -/
namespace Go.AM
section
variable {C : Con} {s : Stk} {g : Slots} {h : Heap} {c : Nat}
/-- A loop that counts up to n. -/
theorem K_for {k : K} (n : Nat) (I : Nat → Post) (h0 : I 0 g h c)
    (hs : ∀ (i : Nat) (A : Post), i < n → (∀ g h c, I (i + 1) g h c → A g h c) → ∀ g h c, I i g h c → RunK C k (.post A s) g h c)
    (he : ∀ (A : Post) g h c, I n g h c → RunK C k (.post A s) g h c) : RunK C (.loop k) s g h c := by
  let p : Slots → Heap → Nat → Nat → Prop := fun g h c d => d ≤ n ∧ I (n - d) g h c
  have hp : ∀ g h c, (∃ d, p g h c d) → ∃ d, p g h c d ∧ ∀ m, p g h c m → d ≤ m := fun g h c ⟨d, hd⟩ => least_ex _ d hd
  let μ : Slots → Heap → Nat → Nat := fun g h c => open Classical in if hh : ∃ d, p g h c d then Classical.choose (hp g h c hh) else 0
  have hμ : ∀ g h c, (∃ d, p g h c d) → p g h c (μ g h c) ∧ ∀ m, p g h c m → μ g h c ≤ m := fun g h c hh => by
    have : μ g h c = Classical.choose (hp g h c hh) := by simp only [μ]; rw [dif_pos hh]
    rw [this]; exact Classical.choose_spec (hp g h c hh)
  refine K_loop (fun g h c => ∃ d, p g h c d) μ ⟨n, Nat.le_refl _, by rw [Nat.sub_self]; exact h0⟩ fun A m hA g h c hI hm => ?_
  obtain ⟨⟨h1, h2⟩, h3⟩ := hμ g h c hI
  by_cases hz : μ g h c = 0
  · rw [hz, Nat.sub_zero] at h2
    exact he A g h c h2
  · have hlt : n - μ g h c < n := by omega
    refine hs (n - μ g h c) A hlt (fun g' h' c' hI' => ?_) g h c h2
    have hq : p g' h' c' (μ g h c - 1) := ⟨by omega, by rw [show n - (μ g h c - 1) = n - μ g h c + 1 by omega]; exact hI'⟩
    refine hA g' h' c' ⟨_, hq⟩ ?_
    have := (hμ g' h' c' ⟨_, hq⟩).2 _ hq
    omega
end
end Go.AM

/-! Fun6 -/
namespace Go.AM
/-- The objects that come back. -/
def Outs (h : Heap) : List Rid → List Ob → Prop
  | [], [] => True
  | o :: r, b :: s => (Pure b.es ∧ b.ver = 1 ∧ ∃ v q, h o = some { b with ver := v, own := q } ∧ ((b.own ↔ q) ∨ Flat b.es)) ∧ Outs h r s
  | _, _ => False
theorem Outs.spec {h : Heap} : ∀ {ren : List Rid} {obs' : List Ob}, Outs h ren obs' → obs'.length = ren.length ∧ ∀ (k : Nat) ob, obs'[k]? = some ob → ∃ o v q, ren[k]? = some o ∧ Pure ob.es ∧ ob.ver = 1 ∧ h o = some { ob with ver := v, own := q } ∧ ((ob.own ↔ q) ∨ Flat ob.es)
  | [], [], _ => ⟨rfl, fun k ob hk => by simp at hk⟩
  | [], _ :: _, hk => hk.elim
  | _ :: _, [], hk => hk.elim
  | o :: r, b :: s, ⟨⟨h1, h2, v, q, h3, h4⟩, hr⟩ => by
    obtain ⟨e1, e2⟩ := Outs.spec hr
    refine ⟨by simp [e1], fun k ob hk => ?_⟩
    cases k with
    | zero => simp at hk; subst hk; exact ⟨o, v, q, rfl, h1, h2, h3, h4⟩
    | succ k => simpa using e2 k ob (by simpa using hk)
theorem finR_outs {h : Heap} {ren : List Rid} {obs' : List Ob} (nd : ren.Nodup) (np : ∀ o ∈ ren, o.isP = false) (ho : Outs h ren obs') : FinR [] ren obs' h := by
  obtain ⟨e1, e2⟩ := ho.spec
  refine ⟨nd, np, by simpa using e1, fun k ob hk => ?_⟩
  obtain ⟨o, v, q, h1, h2, h3, h4, h5⟩ := e2 k ob hk
  refine ⟨h2, { ob with ver := v, own := q }, ob.own, h5, .inr ⟨Nat.zero_le _, o, by simpa using h1, h4, ?_⟩⟩
  cases ob; simp only at h3; subst h3; rfl
theorem Fin_outs {ts : List Nat} {r : AV} {own : Bool} {obs' : List Ob} {g : Slots} {h : Heap} (ren : List Rid) (nd : ren.Nodup) (np : ∀ o ∈ ren, o.isP = false) (ho : Outs h ren obs') (h1 : retA h ren 0 (resV g ts) = r) (h2 : ResOk h ren own (resV g ts)) : FinB ts [] r own obs' g h :=
  (show FinA ts [] r own obs' g h from ⟨ren, finR_outs nd np ho, h1, h2⟩).b
theorem finC_outs {cs : List RS} {own : Bool} {r : AV} {obs' : List Ob} {g : Slots} {h : Heap} {p : Prop} {l : List AV} (ren : List Rid) (h0 : resM h g cs = some (p, l)) (hp : p) (nd : ren.Nodup) (np : ∀ o ∈ ren, o.isP = false) (ho : Outs h ren obs') (h1 : retA h ren 0 (resOne l) = r) (h2 : ResOk h ren own (resOne l)) :
    ∃ p l, resM h g cs = some (p, l) ∧ p ∧ ∃ r' o', (r' = r ∧ o' = obs') ∧ ∃ ren, FinR [] ren o' h ∧ retA h ren 0 (resOne l) = r' ∧ ResOk h ren own (resOne l) :=
  ⟨p, l, h0, hp, r, obs', ⟨rfl, rfl⟩, ren, finR_outs nd np ho, h1, h2⟩
/-- Objects that were handed over, and come back with other contents. -/
theorem finC_obs {cs : List RS} {obs : List Ob} {own : Bool} {r : AV} {obs' : List Ob} {g : Slots} {h : Heap} {p : Prop} {l : List AV} (h0 : resM h g cs = some (p, l)) (hp : p) (h3 : obs'.length = obs.length)
    (h4 : ∀ (k : Nat) ob, obs'[k]? = some ob → Pure ob.es ∧ ∃ q, (Flat ob.es ∨ (q ↔ ob.own)) ∧ h (.p k) = some { ob with own := q } ∧ ob.ver = 0) (h1 : retA h [] obs.length (resOne l) = r) (h2 : ResOk h [] own (resOne l)) :
    ∃ p l, resM h g cs = some (p, l) ∧ p ∧ ∃ r' o', (r' = r ∧ o' = obs') ∧ ∃ ren, FinR obs ren o' h ∧ retA h ren obs.length (resOne l) = r' ∧ ResOk h ren own (resOne l) :=
  ⟨p, l, h0, hp, r, obs', ⟨rfl, rfl⟩, [], ⟨.nil, (fun o ho => by cases ho), (by simpa using h3), fun k ob hk => by
    obtain ⟨a1, q, a2, a3, a4⟩ := h4 k ob hk
    exact ⟨a1, { ob with own := q }, ob.own, a2.symm.imp (fun e => e.symm) id, .inl ⟨by rw [← h3]; exact (List.getElem?_eq_some_iff.1 hk).1, a3, a4, rfl⟩⟩⟩, h1, h2⟩
theorem Outs.flat {h : Heap} {o : Rid} {r : List Rid} {s : List Ob} {es : List (List AV)} {z v : Nat} {q : Prop} (hh : h o = some { ver := v, es := es, esz := z, own := q }) (hf : Flat es) (hp : Pure es) (hr : Outs h r s) : Outs h (o :: r) ({ ver := 1, es := es, esz := z } :: s) :=
  ⟨⟨hp, rfl, v, q, hh, .inr hf⟩, hr⟩
section
variable {C : Con} {s : Stk} {g : Slots} {h : Heap} {c : Nat} {r m : List KOp} {d : Option Nat}
/-- A call that gives back new objects. -/
theorem Call_news {f : Nat} {capt args : List AV} {v : AV} {own : Bool} {b : Ob} {obs' : List Ob} (hc : C.det f (expL h [] (args ++ capt)) [] v own (b :: obs')) (he : ∀ a ∈ args ++ capt, ExpOk h [] a) (hp : ∀ x ∈ b :: obs', Pure x.es) (hr : own = true ∨ ∀ a ∈ args ++ capt, a.rooted = false)
    (hw : own = true → ∀ x ∈ b :: obs', x.own ∨ Flat x.es) (hq : RunD C r m s (updO g d (impA (d.getD 0) 0 c v)) (newObs (d.getD 0) c 0 (b :: obs') h) (c + 1)) : CallK C (.fn f capt) args d r m s g h c :=
  Call_obs [] [] v own (b :: obs') hc rfl .nil (by simp) he (fun _ hb => by cases hb) hp hr hw (by rw [hcall_news]; exact hq)
end
/-- The heap behind a call that was handed objects. -/
def updObs : List Rid → List Ob → List Ob → Heap → Heap
  | o :: os, b :: bs, b' :: obs', h => updObs os bs obs' (hup h o { b' with ver := b.ver, fixed := b.fixed })
  | _, _, _, h => h
theorem updObs_ne : ∀ {os : List Rid} {bs obs' : List Ob} {h : Heap} {u : Rid}, u ∉ os → updObs os bs obs' h u = h u
  | [], _, _, _, _, _ => by simp [updObs]
  | o :: os, [], _, _, _, _ => by simp [updObs]
  | o :: os, b :: bs, [], _, _, _ => by simp [updObs]
  | o :: os, b :: bs, b' :: obs', h, u, hu => by
    simp only [List.mem_cons, not_or] at hu
    rw [updObs, updObs_ne hu.2, hup_at, if_neg hu.1]
theorem updObs_at : ∀ {os : List Rid} {bs obs' : List Ob} {h : Heap} (k : Nat) {o : Rid} {b b' : Ob}, os.Nodup → os[k]? = some o → bs[k]? = some b → obs'[k]? = some b' → updObs os bs obs' h o = some { b' with ver := b.ver, fixed := b.fixed }
  | [], _, _, _, k, _, _, _, _, h1, _, _ => by simp at h1
  | o :: os, [], _, _, k, _, _, _, _, _, h2, _ => by simp at h2
  | o :: os, b :: bs, [], _, k, _, _, _, _, _, _, h3 => by simp at h3
  | o :: os, b :: bs, b' :: obs', h, 0, _, _, _, hn, h1, h2, h3 => by
    simp at h1 h2 h3
    subst h1; subst h2; subst h3
    rw [updObs, updObs_ne (List.nodup_cons.1 hn).1, hup_at, if_pos rfl]
  | o :: os, b :: bs, b' :: obs', h, k + 1, _, _, _, hn, h1, h2, h3 => by
    rw [updObs]
    exact updObs_at k (List.nodup_cons.1 hn).2 (by simpa using h1) (by simpa using h2) (by simpa using h3)
theorem hcall_upds {h : Heap} {os : List Rid} {bs obs' : List Ob} (ho : os.map h = bs.map some) (hn : os.Nodup) (hl : obs'.length = bs.length) (t c : Nat) : hcall h os obs' t c = updObs os bs obs' h := by
  have hlen : os.length = bs.length := by have := congrArg List.length ho; simpa using this
  funext u
  have e : tgt os t obs'.length u = os.idxOf? u := by
    cases u with
    | r t' j => rw [tgt_r_eq, if_neg (by omega)]
    | p _ => rfl
    | l _ => rfl
  unfold hcall
  rw [e]
  cases hk : os.idxOf? u with
  | none => exact (updObs_ne (by simpa using hk)).symm
  | some k =>
    have h1 : os[k]? = some u := idx_some hk
    have hlt : k < os.length := (List.getElem?_eq_some_iff.1 h1).1
    have h2 : bs[k]? = some bs[k] := List.getElem?_eq_getElem (by omega)
    have h3 : obs'[k]? = some obs'[k] := List.getElem?_eq_getElem (by omega)
    rw [updObs_at k hn h1 h2 h3]
    have h4 : h u = some bs[k] := by
      have := congrArg (·[k]?) ho
      simp only [List.getElem?_map, h1, h2, Option.map_some, Option.some.injEq] at this
      exact this
    simp only [hlt, if_true, h4, Option.bind_some, h3, Option.map_some]
section
variable {C : Con} {s : Stk} {g : Slots} {h : Heap} {c : Nat} {r m : List KOp} {d : Option Nat}
/-- A call that is handed objects. -/
theorem Call_many {f : Nat} {capt args : List AV} {v : AV} {own : Bool} (os : List Rid) (bs obs' : List Ob) (ho : os.map h = bs.map some) (hnd : os.Nodup) (hc : C.det f (expL h os (args ++ capt)) (bs.map fun b => { b with ver := 0, fixed := true }) v own obs') (hl : obs'.length = bs.length)
    (he : ∀ a ∈ args ++ capt, ExpOk h os a) (hp : ∀ b ∈ bs, Pure b.es) (hp' : ∀ b ∈ obs', Pure b.es) (hr : own = true ∨ ∀ a ∈ args ++ capt, a.rooted = false) (hw : own = true → ∀ b ∈ obs', b.own ∨ Flat b.es)
    (hq : RunD C r m s (updO g d v) (updObs os bs obs' h) c)
    (hi : ∀ t n c, impA t n c v = v := by intros; first | rfl | (simp [impA, impL]; done)) : CallK C (.fn f capt) args d r m s g h c := by
  have hlen : os.length = bs.length := by have := congrArg List.length ho; simpa using this
  refine Call_obs os _ v own obs' hc ?_ hnd (by simp; omega) he (fun b hb => ?_) hp' hr hw ?_
  · have := congrArg (List.map (Option.map fun b : Ob => { b with ver := 0, fixed := true })) ho
    simpa [List.map_map, Function.comp_def] using this
  · obtain ⟨b', hb', rfl⟩ := List.mem_map.1 hb
    exact hp b' hb'
  · rw [hcall_upds ho hnd hl, hi]
    have : nclk c os obs' = c := by unfold nclk; rw [if_neg (by omega)]
    rw [this]; exact hq
end
theorem objs_l (obs : List Ob) (t : Nat) : objs obs (.l t) = none := rfl
theorem objs_r (obs : List Ob) (t j : Nat) : objs obs (.r t j) = none := rfl
theorem objs_p (obs : List Ob) (k : Nat) : objs obs (.p k) = obs[k]? := rfl
attribute [go_sem] newObs updObs objs_l objs_r objs_p
end Go.AM

/-! Row1 -/
namespace Go.AM
/-- What a walk without handed-over objects leaves of the world. -/
def GrownLow (W w' : World) : Prop := W.keptBut w' (fun _ => False) ∧ (∀ a, a.block < W.heap.size → w'.frozen? a = W.frozen? a) ∧ W.heap.size ≤ w'.heap.size
theorem GrownLow.frame {W w' : World} (h : GrownLow W w') (may : MemPlace → Prop) : W.keptBut w' may := World.keptBut_mono (fun _ f => f.elim) h.1
theorem HR.grown {w0 w : World} {κ : Cfg} {h : Heap} {clk : Nat} (H : HR w0 (fun _ => False) w κ h clk) : GrownLow w0 w := by
  refine ⟨⟨H.os.1, H.output, fun i hi => ?_⟩, H.os.2, H.size⟩
  have e := H.old i hi (fun h => h)
  rw [e]
  split
  · rename_i c t fr c' t' fr' h1 h2
    rw [h1] at h2; cases h2
    exact ⟨rfl, rfl, rfl, fun _ _ => rfl⟩
  · rename_i h1 h2
    rw [h1] at h2; cases h2
    exact .inr ⟨rfl, rfl⟩
  · rfl
def κ0 : Cfg := { ι := fun _ => (0, 0), re := fun _ => False, F := fun _ _ _ _ => False, A := fun _ => True }
theorem HR.start (w : World) (hG : GlobOk w (fun _ => False) (fun _ => True)) : HR w (fun _ => False) w κ0 (objs []) 1 := by
  have no : ∀ (o : Rid) (ob : Ob), objs [] o = some ob → False := fun o ob ho => by
    obtain ⟨k, _, hk⟩ := cur_objs ho; simp at hk
  exact ⟨fun o ob ho => (no o ob ho).elim, fun o _ ob _ _ ho => (no o ob ho).elim, fun o ob _ ho => (no o ob ho).elim, ⟨rfl, fun _ _ => rfl⟩, rfl, rfl, Nat.le_refl _, fun _ _ _ => rfl, fun _ _ => trivial, hG⟩
/-- What a law's walk shows of the world. -/
theorem law_row {P : Program} {fid : Nat} {args : List AV} (h : Holds P fid args [] true (fun r o' => r = .b true ∧ o' = [])) (w : World) (hG : GlobOk w (fun _ => False) (fun _ => True)) (vs : Array Value) (hl : vs.size = args.length)
    (hv : ∀ (j : Nat) x, args[j]? = some x → VR w κ0 (objs []) 1 x (vs.getD j Go.undef)) :
    Calls P fid vs w fun e w' => e = .returned (.bool true) ∧ GrownLow w w' ∧ ∀ b, b < w.heap.size → w'.heap[b]? = w.heap[b]? := by
  refine (h.2 w κ0 vs (fun _ => False) (HR.start w hG) (fun b => ⟨fun hf => hf.elim, fun ⟨k, ob, hk, _⟩ => by simp at hk⟩) hl hv).mono fun e w' he => ?_
  cases e with
  | returned v =>
    obtain ⟨r, obs', κ', clk', ⟨hr1, hr2⟩, H', _, _, hr⟩ := he
    subst hr1; subst hr2
    refine ⟨?_, H'.grown, fun b hb => H'.old b hb (fun h => h)⟩
    cases hr with
    | ro _ _ hr => cases hr; rfl
  | panicked _ => exact he.elim
  | outgrown => exact he.elim
theorem sameAt_of {W W' : World} (ho : ∀ b, b < W.heap.size → W'.heap[b]? = W.heap[b]?) (p : MemPlace) (hp : p.block < W.heap.size) : W.sameAt W' p := by
  cases p with
  | cell b off => exact cell_same (ho b hp) off
  | map b => exact ho b hp
theorem X0 (w : World) (b : Nat) : κ0.X (objs []) w b ↔ b < w.heap.size := by
  refine ⟨fun h => h.1, fun h => ⟨h, trivial, fun o ob ho => ?_⟩⟩
  obtain ⟨k, _, hk⟩ := cur_objs ho; simp at hk
/-- What a call owes that leaves all as it was but for what is new (new memory may be frozen). -/
theorem post_low {H : Type} {enc : TypeId × Value → H} {P : Program} {f : Func} {s : ChangeSpec} {apart fresh handsOn again : Bool} {W W' : World} {args : Array Value} {v : Value} {ds gs : List (DataW H)} {before pa pv : List MemPlace}
    (hW : DataW.Whole enc P f.params.toList s.vars apart W args.toList ds gs before)
    (hres : ∀ (b : Nat) (sp : Nat → Bool) (hd : Bool), DataW.TrodAll enc P W' b sp hd f.resultTypes.toList (v.resultList f.resultTypes.size) (s.fn H (ds ++ gs)).results [])
    (hargs : ∀ sp : Nat → Bool, (∀ p ∈ before, sp p.block = true) → DataW.TrodAll enc P W' 0 sp true f.params.toList args.toList (s.fn H (ds ++ gs)).args pa)
    (hvars : ∀ sp : Nat → Bool, (∀ p ∈ before, sp p.block = true) → DataW.TrodVars enc P W' sp s.vars (s.fn H (ds ++ gs)).vars pv)
    (hps : before = pa ++ pv) (hk : W.keptBut W' (· ∈ before)) (hfz : ∀ a, a.block < W.heap.size → W'.frozen? a = W.frozen? a)
    (hok : ∀ (j : Nat) (t : TypeId) (r : Value), f.resultTypes[j]? = some t → (v.resultList f.resultTypes.size)[j]? = some r → Value.okWide P W' .any 0 t r) :
    s.post enc P f apart fresh handsOn again W args v W' := by
  have low : ∀ p ∈ before, p.block < W.heap.size := fun p hp => hW.lt p hp
  have old : ∀ p ∈ before, (fun b => decide (b < W.heap.size)) p.block = true := fun p hp => by simpa using low p hp
  refine ⟨ds, gs, before, [], pa, pv, hW, hres _ _ _, hargs _ old, hvars _ old, World.keptBut_mono (fun p hp => ⟨hp, ?_⟩) hk, fun _ => ?_⟩
  · rw [hps, List.mem_append] at hp; exact Or.inr hp
  obtain ⟨_, _, _, _, _, hz, hn⟩ := hW
  refine ⟨hok, _, _, ([] ++ pa) ++ pv, ⟨[] ++ pa, pv, ChangeShapes.trodAll_append (hargs _ (fun _ _ => rfl)) (hres _ _ _), hvars _ (fun _ _ => rfl), rfl, fun b off hp => ?_, fun ha => ?_⟩, fun p hp _ => ?_⟩
  · have hb : MemPlace.cell b off ∈ before := by rw [hps]; simpa using hp
    rw [hfz _ (low _ hb)]
    exact hz b off hb
  · have := hn ha; rw [hps] at this; simpa using this
  · rw [hps]; simpa using hp
/-- A row of bytes, as it came in. -/
theorem read_bytes {H : Type} {enc : TypeId × Value → H} {P : Program} {W : World} {base : Nat} {sp : Nat → Bool} {t e : TypeId} {v : Value} {d : DataW H} {ps : List MemPlace} (ht : P.underlying t = some (.slice e)) (he : P.underlying e = some (.int .u8)) (hc : P.cellsOf e = 1)
    (hval : Value.okWide P W .any base t v) (h : DataW.Trod enc P W 0 sp true t v d ps) : ∃ l : List UInt8, Ro W (fun b => b < W.heap.size) (.dat 1 (l.map fun b => [.i .u8 b.toNat])) v := by
  obtain ⟨a1, len, cap, rfl⟩ := WideShapes.okWide_slice ht hval
  obtain ⟨fuel, hf⟩ := h
  rcases ChangeShapes.open_ints ht he hc hf with ⟨hcs, hx⟩ | ⟨a, len', cap', zs, hcs, _, hl, hm, hz, hx, hcell, hwz⟩
  · simp [Value.cells] at hcs
    obtain ⟨rfl, rfl, rfl⟩ := hcs
    exact ⟨[], .dat0 _ _ _⟩
  · simp [Value.cells] at hcs
    obtain ⟨rfl, rfl, rfl⟩ := hcs
    have hlz : len ≤ zs.length := by rw [hz]; split <;> omega
    refine ⟨(zs.take len).map fun n => UInt8.ofNat n.toNat, ?_⟩
    have hll : (((zs.take len).map fun n => UInt8.ofNat n.toNat).map fun b => [AV.i .u8 b.toNat]).length = len := by simp; omega
    by_cases h0 : len = 0
    · subst h0
      simp only [List.take_zero, List.map_nil]
      exact .dat0 _ _ _
    · obtain ⟨ab, ao, spot⟩ := a
      have hspot : spot = none := by simpa [Addr.add] using World.cell?_spot (hcell 0 (by omega))
      subst hspot
      have := Ro.dat (w := W) (X := fun b => b < W.heap.size) (((zs.take len).map fun n => UInt8.ofNat n.toNat).map fun b => [AV.i .u8 b.toNat]) ab ao cap 1 (fun e _ => .int .u8 (zs.getD e 0))
        (World.block_lt_of_cell? W ⟨ab, ao + 0, none⟩ (by have := hcell 0 (by omega); rw [Addr.add_lit] at this; exact this)) (by rw [hll]; exact hl)
        (fun e he => by rw [List.mem_map] at he; obtain ⟨_, _, rfl⟩ := he; rfl)
        (fun e j x hx => by
          unfold cellOf at hx
          simp only [List.map_map, List.getElem?_map] at hx
          cases hz2 : (zs.take len)[e]? with
          | none => rw [hz2] at hx; cases hx
          | some n =>
            rw [hz2] at hx
            simp only [Option.map_some, Option.bind_some] at hx
            have he2 : e < (zs.take len).length := (List.getElem?_eq_some_iff.1 hz2).1
            have hj : j = 0 := by
              cases j with
              | zero => rfl
              | succ j => simp at hx
            subst hj
            have := hcell e (by simp at he2; omega)
            rw [Addr.add_lit] at this
            simpa using this)
        (fun e j x hx => by
          unfold cellOf at hx
          simp only [List.map_map, List.getElem?_map] at hx
          cases hz2 : (zs.take len)[e]? with
          | none => rw [hz2] at hx; cases hx
          | some n =>
            rw [hz2] at hx
            simp only [Option.map_some, Option.bind_some] at hx
            have he2 : e < len := by have := (List.getElem?_eq_some_iff.1 hz2).1; simp at this; omega
            cases j with
            | succ j => simp at hx
            | zero =>
              simp only [Function.comp, List.getElem?_cons_zero, Option.some.injEq] at hx
              subst hx
              rw [List.getElem?_take_of_lt he2] at hz2
              have hn := range_u8 hwz e
              rw [hz2] at hn
              simp only [Option.getD_some] at hn
              have e1 : zs.getD e 0 = n := by rw [List.getD_eq_getElem?_getD, hz2]; rfl
              rw [e1]
              have e2 : (((UInt8.ofNat n.toNat).toNat : Nat) : Int) = n := by simp only [UInt8.toNat_ofNat']; omega
              rw [e2]
              exact .i _ _)
      rw [hll] at this
      exact this
end Go.AM

