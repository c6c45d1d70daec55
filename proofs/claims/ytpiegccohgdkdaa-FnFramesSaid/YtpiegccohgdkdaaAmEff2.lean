/- Operations that make memory. No condition. -/
import Derived.Test.YtpiegccohgdkdaaAmEff1
import Derived.RowKit3
import Derived.Laws.IdiomCopy
set_option linter.all false
set_option linter.unusedSimpArgs false
set_option linter.unusedVariables false
set_option linter.deprecated false
namespace Go.AM
variable {w : World} {κ : Cfg} {h : Heap} {clk : Nat} {P : Program}

/-- What an operation that makes memory owes. -/
def Makes (P : Program) (w0 : World) (P0 : Bs) (s : Sem Value) (w : World) (κ : Cfg) (h : Heap) (clk : Nat) (x : AV) (h' : Heap) (clk' : Nat) : Prop :=
  ∃ v w' κ', s.run P w = .ok v w' ∧ HR w0 P0 w' κ' h' clk' ∧ Ext w κ h clk w' κ' h' clk' ∧ VR w' κ' h' clk' x v

theorem ownBlk_alloc (w : World) (cs : Array Value) (t : TypeId) : OwnBlk (w.alloc (.cells cs t)) w.heap.size cs.size :=
  ⟨cs, t, (0, 0), by simp [-World.alloc_eq, World.alloc], Nat.le_refl _, fun o _ => by simp [-World.alloc_eq, World.frozen?, World.alloc]⟩
theorem alloc_same (w : World) (ob : Obj) (b : Nat) (hb : b ≠ w.heap.size) : (w.alloc ob).heap[b]? = w.heap[b]? := by
  simp only [World.alloc, Array.getElem?_push]
  rw [if_neg hb]
theorem alloc_cell (w : World) (cs : Array Value) (t : TypeId) (j : Nat) : (w.alloc (.cells cs t)).cell? (at_ w.heap.size j) = cs[j]? := by
  simp [-World.alloc_eq, World.cell?, World.alloc]

/-- A new row of cells, as a new object. -/
theorem HR.new {w0 : World} {P0 : Bs} {o : Rid} {ob' : Ob} {cs : Array Value} {t : TypeId} (H : HR w0 P0 w κ h clk) (hv : ob'.ver = clk) (hz : ∀ e ∈ ob'.es, e.length = ob'.esz) (hl : ob'.es.length * ob'.esz ≤ cs.size)
    (hc : ∀ e j x, cellOf ob'.es e j = some x → ∃ v, cs[e * ob'.esz + j]? = some v ∧ VR w κ h clk x v) (hd : ob'.own → Flat ob'.es) (hs : ∀ e j x, cellOf ob'.es e j = some x → x.storable = true ∨ x = .undef) :
    Ext w κ h clk (w.alloc (.cells cs t)) (κ.put o w.heap.size 0 fun _ _ _ => False) (hup h o ob') (clk + 1) ∧
    HR w0 P0 (w.alloc (.cells cs t)) (κ.put o w.heap.size 0 fun _ _ _ => False) (hup h o ob') (clk + 1) := by
  obtain ⟨E, k⟩ := H.put (clk' := clk + 1) (w' := w.alloc (.cells cs t)) (o := o) (ob' := ob') (blk := w.heap.size) (off := 0) (F := fun _ _ _ => False) (Nat.le_succ _) (.inl (by omega))
    (fun b hb => alloc_same w _ b hb) (by simp [-World.alloc_eq, World.alloc]) ⟨rfl, RowKit.frozen?_alloc_cells _ _ _⟩ rfl rfl (.inl ⟨Nat.le_refl _, by simp [-World.alloc_eq, World.alloc]⟩)
    (fun n ⟨c, t', f, h1, _⟩ => by simp at h1) (fun _ _ _ hf => hf.elim)
  refine ⟨E, k ⟨by omega, hz, fun _ => ⟨by simp [Cfg.put], ?_⟩, fun e j x hx => ?_, fun _ _ _ hf => ?_, fun _ _ _ _ _ hf => ?_⟩⟩
  · have := ownBlk_alloc w cs t
    have e1 : (κ.put o w.heap.size 0 fun _ _ _ => False).ι o = (w.heap.size, 0) := by simp [Cfg.put]
    rw [e1, Nat.zero_add]
    exact this.mono hl
  · obtain ⟨v, h1, h2⟩ := hc e j x hx
    refine ⟨v, ?_, ?_⟩
    · have e1 : (κ.put o w.heap.size 0 fun _ _ _ => False).addr o ob'.esz e j = at_ w.heap.size (e * ob'.esz + j) := by simp [Cfg.addr, Cfg.put]
      rw [e1, alloc_cell]; exact h1
    · have hv2 := h2.ext E
      have hmem : ob'.own → x.isDat = false := fun ho => by
        unfold cellOf at hx
        cases he : ob'.es[e]? with
        | none => rw [he] at hx; cases hx
        | some cells =>
          rw [he] at hx
          exact hd ho cells (List.mem_of_getElem? he) x (List.mem_of_getElem? hx)
      cases x with
      | dat es => exact ⟨fun ho => by have := hmem ho; simp [AV.isDat] at this, fun _ => hv2.of_dat⟩
      | agg _ => rcases hs e j _ hx with h5 | h5 <;> simp [AV.storable] at h5
      | tup _ => rcases hs e j _ hx with h5 | h5 <;> simp [AV.storable] at h5
      | _ => exact hv2
  · have e1 : (κ.put o w.heap.size 0 fun _ _ _ => False).F o = fun _ _ _ => False := by simp [Cfg.put]
    rw [e1] at hf; exact hf.elim
  · have e1 : (κ.put o w.heap.size 0 fun _ _ _ => False).F o = fun _ _ _ => False := by simp [Cfg.put]
    rw [e1] at hf; exact hf.elim

theorem cellOf_one {cs : List AV} {e j : Nat} {x : AV} (hx : cellOf [cs] e j = some x) : e = 0 ∧ cs[j]? = some x := by
  unfold cellOf at hx
  cases e with
  | zero => exact ⟨rfl, by simpa using hx⟩
  | succ e => simp at hx

/-- A variable of its own. -/
theorem alloc_ok {w0 : World} {P0 : Bs} {t : TypeId} {d : Nat} {cs : List AV} {v : Value} (H : HR w0 P0 w κ h clk) (hc : Cells w κ h clk cs v.cells) (hs : ∀ x ∈ cs, x.storable = true ∨ x = .undef) :
    Makes P w0 P0 (do pure (.pointer (some (← newVar t v)))) w κ h clk (.ptr (.l d) clk 0 0) (hup h (.l d) { ver := clk, es := [cs], esz := cs.length, fixed := true, own := False }) (clk + 1) := by
  have N := H.new (o := .l d) (ob' := { ver := clk, es := [cs], esz := cs.length, fixed := true, own := False }) (cs := v.cells) (t := t) rfl (by simp) (by simp [hc.1])
    (fun e j x hx => by
      obtain ⟨rfl, hx⟩ := cellOf_one hx
      have hj : j < v.cells.size := by rw [← hc.1]; exact (List.getElem?_eq_some_iff.1 hx).1
      refine ⟨v.cells.getD j Go.undef, ?_, hc.2 j x hx⟩
      simp [Array.getElem?_eq_getElem hj, Array.getD_eq_getD_getElem?]) (fun hf => hf.elim)
    (fun e j x hx => hs x (List.mem_of_getElem? (cellOf_one hx).2))
  refine ⟨.pointer (some (at_ w.heap.size 0)), w.alloc (.cells v.cells t), _, ?_, N.2, N.1, ?_⟩
  · simp [-World.alloc_eq, newVar, newRow, newObj, Sem.run, Result.andThen, World.alloc]
  · refine .ptr _ _ _ _ _ ⟨_, rfl⟩ (Nat.lt_succ_self _) fun ob hc' => ?_
    obtain ⟨h1, _⟩ := cur_some hc'
    rw [hup_at, if_pos rfl] at h1; cases h1
    simp [Cfg.addr, Cfg.put]
end Go.AM
