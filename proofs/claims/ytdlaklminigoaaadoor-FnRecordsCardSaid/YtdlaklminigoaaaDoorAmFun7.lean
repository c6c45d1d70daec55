/- New objects that come back, told by value. No condition. -/
import Derived.Test.YtdlaklminigoaaaDoorAmFuns
set_option linter.all false
set_option linter.unusedSimpArgs false
set_option linter.unusedVariables false
set_option linter.deprecated false
/-! Fun7 -/
namespace Go.AM
variable {P : Program}
mutual
/-- A result, its new objects by value. -/
def byA (obs : List Ob) (n : Nat) : AV → AV
  | .sl (.p k) v off len cap => if n ≤ k then (match obs[k]? with | some ob => .dat ob.esz (sub ob.es off len) | none => .undef) else .sl (.p k) v off len cap
  | .ptr (.p k) v e c => if n ≤ k then .undef else .ptr (.p k) v e c
  | .agg cs => .agg (byL obs n cs)
  | .tup cs => .tup (byL obs n cs)
  | v => v
def byL (obs : List Ob) (n : Nat) : List AV → List AV
  | [] => []
  | v :: r => byA obs n v :: byL obs n r
end
theorem byL_len {obs : List Ob} {n : Nat} : ∀ (l : List AV), (byL obs n l).length = l.length
  | [] => by simp [byL]
  | x :: r => by simp [byL, byL_len r]
theorem byL_get {obs : List Ob} {n : Nat} : ∀ (l : List AV) (j : Nat), (byL obs n l)[j]? = (l[j]?).map (byA obs n)
  | [], j => by simp [byL]
  | x :: r, 0 => by simp [byL]
  | x :: r, j + 1 => by simp [byL, byL_get r j]
theorem srcs_nil {n k : Nat} {o : Rid} (h : (srcs n [])[k]? = some o) : k < n ∧ o = .p k := by
  unfold srcs at h
  rw [List.append_nil] at h
  have h1 := (List.getElem?_eq_some_iff.1 h).1
  simp at h1
  refine ⟨h1, ?_⟩
  simp [h1] at h
  exact h.symm
section
variable {w0 w : World} {κ κ0 : Cfg} {h0 : Heap} {clk : Nat} {P0 : Bs} {obs obs' : List Ob}
theorem finR_take (hl : obs.length ≤ obs'.length) (hp : ∀ b ∈ obs', Pure b.es) (hv : ∀ (k : Nat) ob, obs'[k]? = some ob → k < obs.length → ob.ver = 0) : FinR obs [] (obs'.take obs.length) (objs obs') := by
  refine ⟨.nil, (fun o ho => by cases ho), by simp; omega, fun k ob hk => ?_⟩
  have hlt : k < obs.length := by
    have := (List.getElem?_eq_some_iff.1 hk).1
    simp at this; omega
  rw [List.getElem?_take_of_lt hlt] at hk
  exact ⟨hp ob (List.mem_of_getElem? hk), ob, ob.own, .inl Iff.rfl, .inl ⟨hlt, hk, hv k ob hk hlt, rfl⟩⟩
theorem by_ok (H : HR w0 P0 w κ (objs obs') clk) (hl : obs.length ≤ obs'.length) (hp : ∀ b ∈ obs', Pure b.es) (F : FinR obs [] (obs'.take obs.length) (objs obs')) {Y : Bs} (hY : ∀ b, Y b → κ.X (objs obs') w b) :
    ∀ {x : AV} {v : Value}, Rs w κ obs' obs.length Y x v → Rs w (κ.down (srcs obs.length []) κ.A) (obs'.take obs.length) obs.length (fun b => (κ.down (srcs obs.length []) κ.A).X (objs (obs'.take obs.length)) w b ∧ (false = true → w0.heap.size ≤ b ∨ P0 b)) (byA obs' obs.length x) v := by
  intro x v hv
  induction hv with
  | ro x v hr =>
    have hx : byA obs' obs.length x = x := by cases hr <;> simp [byA]
    rw [hx]
    exact .ro _ _ (hr.frame (fun b hb => ⟨X_ret F b (hY b hb), fun q => by cases q⟩) (fun _ _ => rfl))
  | agg cs vs hl hr ih =>
    rw [byA]
    refine .agg _ _ (by rw [byL_len]; exact hl) fun j y hy => ?_
    rw [byL_get] at hy
    cases hc : cs[j]? with
    | none => rw [hc] at hy; cases hy
    | some c => rw [hc] at hy; simp only [Option.map_some, Option.some.injEq] at hy; subst hy; exact ih j c hc
  | tup cs vs hl hr ih =>
    rw [byA]
    refine .tup _ _ (by rw [byL_len]; exact hl) fun j y hy => ?_
    rw [byL_get] at hy
    cases hc : cs[j]? with
    | none => rw [hc] at hy; cases hy
    | some c => rw [hc] at hy; simp only [Option.map_some, Option.some.injEq] at hy; subst hy; exact ih j c hc
  | ptr k e c ob hn ho =>
    rw [byA, if_pos hn]; exact .ro _ _ (.undef _)
  | sl k off len cap v ob hn ho hs =>
    rw [byA, if_pos hn, ho]
    simp only
    have R := H.ob (.p k) ob ho
    have hpure := hp ob (List.mem_of_getElem? ho)
    have hfoot : ∀ b, κ.foot (.p k) b → (κ.down (srcs obs.length []) κ.A).X (objs (obs'.take obs.length)) w b ∧ (false = true → w0.heap.size ≤ b ∨ P0 b) := fun b hb => by
      obtain ⟨h3, h4⟩ := H.base (.p k) ob b ho hb
      refine ⟨⟨h4, H.free b h3, fun u ou hu hf => ?_⟩, fun q => by cases q⟩
      obtain ⟨k', rfl, hk'⟩ := cur_objs hu
      obtain ⟨o', b1, h1, h2, _⟩ := F.src hk'
      rw [down_foot h1] at hf
      obtain ⟨h5, h6⟩ := srcs_nil h1
      subst h6
      exact H.apart (.p k) (.p k') ob b1 b ho h2 (by intro he; cases he; omega) hb hf
    rcases hs with ⟨rfl, ⟨a, rfl⟩, _⟩ | ⟨rc, hre, rfl, hoff, hlr, _⟩
    · have : sub ob.es off 0 = [] := by
        unfold sub; split
        · rename_i hh; exact List.length_eq_zero_iff.1 hh.2.symm
        · simp
      rw [this]; exact .ro _ _ (.dat0 _ a 0)
    · have hslen := sub_length hoff
      have key : ∀ e j x, cellOf (sub ob.es off len) e j = some x → ∃ u, w.cell? (κ.addr (.p k) ob.esz (off + e) j) = some u ∧ Ro w (fun b => (κ.down (srcs obs.length []) κ.A).X (objs (obs'.take obs.length)) w b ∧ (false = true → w0.heap.size ≤ b ∨ P0 b)) x u := by
        intro e j x hxc
        obtain ⟨_, hx2⟩ := sub_cell hoff hxc
        obtain ⟨u, h3, h4⟩ := R.cells _ _ _ hx2
        refine ⟨u, h3, ?_⟩
        obtain ⟨c, hc1, hc2⟩ : ∃ c ∈ ob.es, x ∈ c := by
          unfold cellOf at hx2
          cases he : ob.es[off + e]? with
          | none => rw [he] at hx2; cases hx2
          | some c => rw [he] at hx2; exact ⟨c, List.mem_of_getElem? he, List.mem_of_getElem? hx2⟩
        have hpx := hpure c hc1 x hc2
        cases x with
        | dat z es =>
          by_cases ho' : ob.own
          · exact (h4.1 ho').ro fun b hb => hfoot b (.inr ⟨_, _, hb⟩)
          · exact (h4.2 ho').frame (fun b hb => ⟨X_ret F b hb, fun q => by cases q⟩) (fun _ _ => rfl)
        | b _ => exact pure_ro hpx h4 (fun b hb => ⟨X_ret F b hb, fun q => by cases q⟩)
        | i _ _ => exact pure_ro hpx h4 (fun b hb => ⟨X_ret F b hb, fun q => by cases q⟩)
        | s _ => exact pure_ro hpx h4 (fun b hb => ⟨X_ret F b hb, fun q => by cases q⟩)
        | nilp => exact pure_ro hpx h4 (fun b hb => ⟨X_ret F b hb, fun q => by cases q⟩)
        | nils => exact pure_ro hpx h4 (fun b hb => ⟨X_ret F b hb, fun q => by cases q⟩)
        | nilf => exact pure_ro hpx h4 (fun b hb => ⟨X_ret F b hb, fun q => by cases q⟩)
        | _ => simp [AV.pure] at hpx
      have := Ro.dat (w := w) (X := fun b => (κ.down (srcs obs.length []) κ.A).X (objs (obs'.take obs.length)) w b ∧ (false = true → w0.heap.size ≤ b ∨ P0 b)) (sub ob.es off len) (κ.ι (.p k)).1 ((κ.ι (.p k)).2 + off * ob.esz) rc ob.esz (fun e j => (w.cell? (κ.addr (.p k) ob.esz (off + e) j)).getD Go.undef)
        (hfoot _ (.inl ⟨hre, rfl⟩)) (by rw [hslen]; exact hlr) (fun e he => R.esz e (sub_mem he))
        (fun e j x hxc => by
          obtain ⟨u, h3, _⟩ := key e j x hxc
          rw [h3]
          show _ = some u
          rw [← h3, Cfg.addr]; congr 2
          rw [Nat.add_mul]; omega)
        (fun e j x hxc => by
          obtain ⟨u, h3, h4⟩ := key e j x hxc
          rw [h3]; exact h4)
      rw [hslen] at this
      refine .ro _ _ ?_
      simpa [Cfg.addr] using this
end
/-- A contract that gives back new objects, as one that gives back values. -/
theorem Holds.byval {fid : Nat} {args : List AV} {obs : List Ob} {own : Bool} {Φ Φ2 : AV → List Ob → Prop} (h : Holds P fid args obs own Φ)
    (hΦ : ∀ r o', Φ r o' → obs.length ≤ o'.length ∧ (∀ b ∈ o', Pure b.es) ∧ Φ2 (byA o' obs.length r) (o'.take obs.length)) : Holds P fid args obs false Φ2 := by
  refine ⟨h.1, fun w κ vs P0 H hP hl hv => (h.2 w κ vs P0 H hP hl hv).mono fun e w' he => ?_⟩
  cases e with
  | returned v =>
    obtain ⟨r, obs', κ', clk', h1, h2, h3, h4, h5⟩ := he
    obtain ⟨q1, q2, q3⟩ := hΦ r obs' h1
    have F := finR_take q1 q2 h4
    refine ⟨_, _, _, 2, q3, HR_ret h2 F, Ext_ret h3 F, fun k ob hk hlt => ?_, by_ok h2 q1 q2 F (fun b hb => hb.1) h5⟩
    rw [List.getElem?_take_of_lt hlt] at hk
    exact h4 k ob hk hlt
  | panicked _ => exact he
  | outgrown => exact he
end Go.AM

