/- How the relation lives on behind a change of memory. No condition. -/
import Derived.Test.YtdlaklminigoaaaDoorAmOps
import Derived.RowKit3
import Derived.Laws.IdiomCopy
import Derived.Laws.MakeOwn
import Derived.Deep.Upon
import Derived.Deep.AppendSrc
import Derived.Lib.AppendZerosOnto
set_option linter.all false
set_option linter.unusedSimpArgs false
set_option linter.unusedVariables false
set_option linter.deprecated false
/-! Eff1 -/
namespace Go.AM

structure Ext (w : World) (κ : Cfg) (h : Heap) (clk : Nat) (w' : World) (κ' : Cfg) (h' : Heap) (clk' : Nat) : Prop where
  hclk : clk ≤ clk'
  hcur : ∀ o v ob', v < clk → cur h' o v = some ob' → ∃ ob, cur h o v = some ob ∧ κ'.ι o = κ.ι o ∧ ob'.esz = ob.esz ∧ ob'.es.length = ob.es.length ∧ (κ.re o → κ'.re o) ∧
    (κ.re o → ∀ n, OwnBlk w (κ.ι o).1 n → OwnBlk w' (κ.ι o).1 n)
  hX : ∀ b, κ.X h w b → κ'.X h' w' b ∧ w'.heap[b]? = w.heap[b]?
  hA : κ'.A = κ.A

variable {w w' : World} {κ κ' : Cfg} {h h' : Heap} {clk clk' : Nat}

theorem Ext.ro (E : Ext w κ h clk w' κ' h' clk') {x : AV} {v : Value} (hr : Ro w (κ.X h w) x v) : Ro w' (κ'.X h' w') x v := hr.frame (fun b hb => (E.hX b hb).1) (fun b hb => (E.hX b hb).2)

theorem SlOk.ext {o : Rid} {ob ob' : Ob} {off len : Nat} {cap : Option Nat} {v : Value} (hι : κ'.ι o = κ.ι o) (hz : ob'.esz = ob.esz) (hl : ob'.es.length = ob.es.length) (hre : κ.re o → κ'.re o)
    (hb : κ.re o → ∀ n, OwnBlk w (κ.ι o).1 n → OwnBlk w' (κ.ι o).1 n) (hs : SlOk w κ o ob off len cap v) : SlOk w' κ' o ob' off len cap v := by
  rcases hs with ⟨h0, ha, hc⟩ | ⟨rc, h1, h2, h3, h4, h5, h6, h7⟩
  · exact .inl ⟨h0, ha, fun hn => by rw [hl]; exact hc hn⟩
  · refine .inr ⟨rc, hre h1, ?_, by rw [hl]; exact h3, h4, h5, fun hn => by rw [hl]; exact h6 hn, ?_⟩
    · rw [h2, Cfg.addr, Cfg.addr, hι, hz]
    · rw [hι, hz]; exact hb h1 _ h7

theorem VR.ext (E : Ext w κ h clk w' κ' h' clk') {x : AV} {v : Value} (hv : VR w κ h clk x v) : VR w' κ' h' clk' x v := by
  induction hv with
  | ro x v hr => exact .ro _ _ (E.ro hr)
  | ptr o ver e c v hs hl hp =>
    refine .ptr _ _ _ _ _ hs (Nat.lt_of_lt_of_le hl E.hclk) fun ob' hc => ?_
    obtain ⟨ob, h1, h2, h3, _⟩ := E.hcur o ver ob' hl hc
    rw [hp ob h1, Cfg.addr, Cfg.addr, h2, h3]
  | sl o ver off len cap v hs hl hp =>
    refine .sl _ _ _ _ _ _ hs (Nat.lt_of_lt_of_le hl E.hclk) fun ob' hc => ?_
    obtain ⟨ob, h1, h2, h3, h4, h5, h6⟩ := E.hcur o ver ob' hl hc
    exact (hp ob h1).ext h2 h3 h4 h5 h6
  | eptr cells c blk off val hX hc hr =>
    exact .eptr _ _ blk off val (E.hX _ hX).1 (fun j x hx => by rw [cell_same (E.hX _ hX).2]; exact hc j x hx) (fun j x hx => E.ro (hr j x hx))
  | agg cs vs hl hr ih => exact .agg _ _ hl ih
  | tup cs vs hl hr ih => exact .tup _ _ hl ih
  | fn f cs vs hl hr ih => exact .fn _ _ _ hl ih

theorem CR.ext (E : Ext w κ h clk w' κ' h' clk') {own own' : Prop} {S S' : Bs} {x : AV} {v : Value} (hc : CR w κ h clk own S x v) (hS : own' → ∀ b, S b → S' b) (hw : ∀ b, S b → w'.heap[b]? = w.heap[b]?)
    (ho : own' → own) (hX : ¬ own' → own → ∀ b, S b → κ'.X h' w' b) : CR w' κ' h' clk' own' S' x v := by
  cases x with
  | dat z es =>
    refine ⟨fun h1 => (hc.1 (ho h1)).frame (hS h1) hw, fun h1 => ?_⟩
    by_cases h2 : own
    · exact ((hc.1 h2).frame (S' := S) (fun _ hb => hb) hw).ro (hX h1 h2)
    · exact E.ro (hc.2 h2)
  | agg _ => exact hc.elim
  | tup _ => exact hc.elim
  | b _ => exact VR.ext E hc
  | i _ _ => exact VR.ext E hc
  | s _ => exact VR.ext E hc
  | nilp => exact VR.ext E hc
  | nils => exact VR.ext E hc
  | nilf => exact VR.ext E hc
  | undef => exact VR.ext E hc
  | ptr _ _ _ _ => exact VR.ext E hc
  | sl _ _ _ _ _ => exact VR.ext E hc
  | eptr _ _ => exact VR.ext E hc
  | fn _ _ => exact VR.ext E hc

/-- One object anew. -/
def Cfg.put (κ : Cfg) (o : Rid) (blk off : Nat) (F : Nat → Nat → Bs) : Cfg :=
  { ι := fun u => if u = o then (blk, off) else κ.ι u, re := fun u => if u = o then True else κ.re u, F := fun u => if u = o then F else κ.F u, A := κ.A }
theorem put_foot_ne {o u : Rid} {blk off : Nat} {F : Nat → Nat → Bs} (hu : u ≠ o) : (κ.put o blk off F).foot u = κ.foot u := by
  unfold Cfg.foot Cfg.put; simp [hu]
theorem put_foot {o : Rid} {blk off : Nat} {F : Nat → Nat → Bs} {b : Nat} : (κ.put o blk off F).foot o b ↔ b = blk ∨ ∃ e j, F e j b := by
  unfold Cfg.foot Cfg.put; simp

theorem HR.put {w0 : World} {P0 : Bs} {o : Rid} {ob' : Ob} {blk off : Nat} {F : Nat → Nat → Bs} (H : HR w0 P0 w κ h clk) (hclk : clk ≤ clk')
    (hv : clk ≤ ob'.ver ∨ ∃ ob, h o = some ob ∧ ob'.ver = ob.ver ∧ ob'.esz = ob.esz ∧ ob'.es.length = ob.es.length ∧ (blk, off) = κ.ι o)
    (hw : ∀ b, b ≠ blk → w'.heap[b]? = w.heap[b]?) (hsz : w.heap.size ≤ w'.heap.size) (hos : w'.os = w.os ∧ ∀ a, w'.frozen? a = w.frozen? a) (htp : w'.tape = w.tape) (hou : w'.output = w.output)
    (hblk : (w.heap.size ≤ blk ∧ blk < w'.heap.size) ∨ (∃ ob, h o = some ob ∧ κ.re o ∧ (κ.ι o).1 = blk))
    (hob : ∀ n, OwnBlk w blk n → OwnBlk w' blk n)
    (hF : ∀ e j b, F e j b → ∃ ob, h o = some ob ∧ κ.F o e j b) :
    Ext w κ h clk w' (κ.put o blk off F) (hup h o ob') clk' ∧
    (ObR w' (κ.put o blk off F) (hup h o ob') clk' o ob' → HR w0 P0 w' (κ.put o blk off F) (hup h o ob') clk') := by
  have nblk : ∀ b, κ.X h w b → b ≠ blk := by
    rintro b ⟨h1, _, h2⟩ rfl
    rcases hblk with ⟨h3, _⟩ | ⟨ob, h3, h4, h5⟩
    · omega
    · exact h2 o ob h3 (.inl ⟨h4, h5.symm⟩)
  have Fold : ∀ e j b, F e j b → ∃ ob, h o = some ob ∧ κ.foot o b := fun e j b hb => by
    obtain ⟨ob, h1, h2⟩ := hF e j b hb
    exact ⟨ob, h1, .inr ⟨e, j, h2⟩⟩
  have E : Ext w κ h clk w' (κ.put o blk off F) (hup h o ob') clk' := by
    refine ⟨hclk, fun u v ou hvl hc => ?_, fun b hb => ⟨⟨Nat.lt_of_lt_of_le hb.1 hsz, hb.2.1, fun u ou hu hf => ?_⟩, hw b (nblk b hb)⟩, rfl⟩
    · obtain ⟨h1, h2⟩ := cur_some hc
      by_cases hu : u = o
      · subst hu
        rw [hup_at, if_pos rfl] at h1; cases h1
        rcases hv with hv | ⟨ob, h3, h4, h5, h6, h7⟩
        · omega
        · refine ⟨ob, by unfold cur; rw [h3]; simp only; rw [if_pos (by omega)], by simp [Cfg.put, h7], h5, h6, fun _ => by simp [Cfg.put], fun _ n hn => ?_⟩
          rw [← h7] at hn ⊢
          exact hob n hn
      · rw [hup_at, if_neg hu] at h1
        refine ⟨ou, by unfold cur; rw [h1]; simp only; rw [if_pos h2], by simp [Cfg.put, hu], rfl, rfl, fun hh => by simp [Cfg.put, hu, hh], fun hh n hn => ?_⟩
        have : (κ.ι u).1 ≠ blk := by
          intro he
          rcases hblk with ⟨h3, _⟩ | ⟨ob, h3, h4, h5⟩
          · have := (H.base u ou _ h1 (.inl ⟨hh, rfl⟩)).2; omega
          · exact H.apart u o ou ob blk h1 h3 hu (.inl ⟨hh, he.symm⟩) (.inl ⟨h4, h5.symm⟩)
        exact hn.same (hw _ this)
    · by_cases hu' : u = o
      · subst hu'
        rcases put_foot.1 hf with h1 | ⟨e, j, h1⟩
        · exact nblk b hb h1
        · obtain ⟨ob, h2, h3⟩ := Fold e j b h1
          exact hb.2.2 u ob h2 h3
      · rw [put_foot_ne hu'] at hf
        rw [hup_at, if_neg hu'] at hu
        exact hb.2.2 u ou hu hf
  refine ⟨E, fun hO => ⟨fun u ou hu => ?_, fun u u' ou ou' b hu hu' hne hf hf' => ?_, fun u ou b hu hf => ?_, ⟨hos.1.trans H.os.1, fun a ha => (hos.2 a).trans (H.os.2 a ha)⟩, by rw [htp, H.tape], by rw [hou, H.output], Nat.le_trans H.size hsz, fun b hb hP => ?_, H.free, H.glob⟩⟩
  · by_cases huo : u = o
    · subst huo
      rw [hup_at, if_pos rfl] at hu; cases hu
      exact hO
    · rw [hup_at, if_neg huo] at hu
      have R := H.ob u ou hu
      have hblk' : κ.re u → (κ.ι u).1 ≠ blk := by
        intro hh he
        rcases hblk with ⟨h3, _⟩ | ⟨ob, h3, h4, h5⟩
        · have := (H.base u ou _ hu (.inl ⟨hh, rfl⟩)).2; omega
        · exact H.apart u o ou ob blk hu h3 huo (.inl ⟨hh, he.symm⟩) (.inl ⟨h4, h5.symm⟩)
      have hFb : ∀ e j b, κ.F u e j b → b ≠ blk := by
        rintro e j b hb rfl
        rcases hblk with ⟨h3, _⟩ | ⟨ob, h3, h4, h5⟩
        · have := (H.base u ou _ hu (.inr ⟨e, j, hb⟩)).2; omega
        · exact H.apart u o ou ob _ hu h3 huo (.inr ⟨e, j, hb⟩) (.inl ⟨h4, h5.symm⟩)
      refine ⟨Nat.lt_of_lt_of_le R.ver hclk, R.esz, fun hne => ?_, fun e j x hx => ?_, ?_, ?_⟩
      · obtain ⟨h1, h2⟩ := R.blk hne
        refine ⟨by simp [Cfg.put, huo, h1], ?_⟩
        have : (κ.put o blk off F).ι u = κ.ι u := by simp [Cfg.put, huo]
        rw [this]
        exact h2.same (hw _ (hblk' h1))
      · obtain ⟨v, h1, h2⟩ := R.cells e j x hx
        have ha : (κ.put o blk off F).addr u ou.esz e j = κ.addr u ou.esz e j := by simp [Cfg.addr, Cfg.put, huo]
        have hF' : (κ.put o blk off F).F u e j = κ.F u e j := by simp [Cfg.put, huo]
        have hne : ou.es ≠ [] := by
          intro he; unfold cellOf at hx; rw [he] at hx; simp at hx
        refine ⟨v, ?_, ?_⟩
        · rw [ha, Cfg.addr, cell_same (hw _ (hblk' (R.blk hne).1))]; exact h1
        · rw [hF']
          exact h2.ext E (fun _ _ hb => hb) (fun b hb => hw b (hFb e j b hb)) id (fun hn ho => absurd ho hn)
      · intro e j b hb
        have hF' : (κ.put o blk off F).F u e j = κ.F u e j := by simp [Cfg.put, huo]
        have : (κ.put o blk off F).ι u = κ.ι u := by simp [Cfg.put, huo]
        rw [hF'] at hb; rw [this]
        exact R.sep e j b hb
      · intro e j e' j' b hb hb'
        have hF' : ∀ e j, (κ.put o blk off F).F u e j = κ.F u e j := fun e j => by simp [Cfg.put, huo]
        rw [hF'] at hb hb'
        exact R.disj e j e' j' b hb hb'
  · have key : ∀ (u : Rid) (ou : Ob), hup h o ob' u = some ou → u ≠ o → κ.foot u b → (κ.put o blk off F).foot o b → False := by
      intro u ou hu huo gf gf'
      rw [hup_at, if_neg huo] at hu
      rcases put_foot.1 gf' with h1 | ⟨e, j, h1⟩
      · subst h1
        rcases hblk with ⟨h3, _⟩ | ⟨ob, h3, h4, h5⟩
        · have := (H.base u ou b hu gf).2; omega
        · exact H.apart u o ou ob b hu h3 huo gf (.inl ⟨h4, h5.symm⟩)
      · obtain ⟨ob, h2, h3⟩ := Fold e j b h1
        exact H.apart u o ou ob b hu h2 huo gf h3
    by_cases h1 : u = o
    · subst h1
      have h2 : u' ≠ u := fun hh => hne hh.symm
      rw [put_foot_ne h2] at hf'
      exact key u' ou' hu' h2 hf' hf
    · rw [put_foot_ne h1] at hf
      by_cases h2 : u' = o
      · subst h2; exact key u ou hu h1 hf hf'
      · rw [put_foot_ne h2] at hf'
        rw [hup_at, if_neg h1] at hu
        rw [hup_at, if_neg h2] at hu'
        exact H.apart u u' ou ou' b hu hu' hne hf hf'
  · by_cases h1 : u = o
    · subst h1
      rcases put_foot.1 hf with h2 | ⟨e, j, h2⟩
      · subst h2
        rcases hblk with ⟨h3, h4⟩ | ⟨ob, h3, h4, h5⟩
        · exact ⟨.inl (Nat.le_trans H.size h3), h4⟩
        · have := H.base u ob b h3 (.inl ⟨h4, h5.symm⟩)
          exact ⟨this.1, Nat.lt_of_lt_of_le this.2 hsz⟩
      · obtain ⟨ob, h3, h4⟩ := Fold e j b h2
        have := H.base u ob b h3 h4
        exact ⟨this.1, Nat.lt_of_lt_of_le this.2 hsz⟩
    · rw [put_foot_ne h1] at hf
      rw [hup_at, if_neg h1] at hu
      have := H.base u ou b hu hf
      exact ⟨this.1, Nat.lt_of_lt_of_le this.2 hsz⟩
  · have : b ≠ blk := by
      rintro rfl
      rcases hblk with ⟨h3, h4⟩ | ⟨ob, h3, h4, h5⟩
      · have := H.size; omega
      · rcases (H.base o ob b h3 (.inl ⟨h4, h5.symm⟩)).1 with h6 | h6
        · omega
        · exact hP h6
    rw [hw b this]
    exact H.old b hb hP
end Go.AM

/-! Eff2 -/
namespace Go.AM
variable {w : World} {κ : Cfg} {h : Heap} {clk : Nat} {P : Program}

/-- What an operation that makes memory owes. -/
def Makes (P : Program) (w0 : World) (P0 : Bs) (s : Sem Value) (w : World) (κ : Cfg) (h : Heap) (clk : Nat) (x : AV) (h' : Heap) (clk' : Nat) : Prop :=
  ∃ v w' κ', s.run P w = .ok v w' ∧ HR w0 P0 w' κ' h' clk' ∧ Ext w κ h clk w' κ' h' clk' ∧ VR w' κ' h' clk' x v

theorem ownBlk_alloc (w : World) (cs : Array Value) (t : TypeId) : OwnBlk (w.alloc (.cells cs t)) w.heap.size cs.size :=
  ⟨cs, t, (0, 0), by simp [-World.alloc_eq, World.alloc], Nat.le_refl _, fun o => by simp [-World.alloc_eq, World.frozen?, World.alloc]⟩
theorem alloc_same (w : World) (ob : Obj) (b : Nat) (hb : b ≠ w.heap.size) : (w.alloc ob).heap[b]? = w.heap[b]? := by
  simp only [World.alloc, Array.getElem?_push]
  rw [if_neg hb]
theorem alloc_cell (w : World) (cs : Array Value) (t : TypeId) (j : Nat) : (w.alloc (.cells cs t)).cell? (at_ w.heap.size j) = cs[j]? := by
  simp [-World.alloc_eq, World.cell?, World.alloc]

/-- A new row of cells, as a new object. -/
theorem HR.new {w0 : World} {P0 : Bs} {o : Rid} {ob' : Ob} {cs : Array Value} {t : TypeId} (H : HR w0 P0 w κ h clk) (hv : ob'.ver = clk) (hz : ∀ e ∈ ob'.es, e.length = ob'.esz) (hl : ob'.es.length * ob'.esz ≤ cs.size)
    (hc : ∀ e j x, cellOf ob'.es e j = some x → ∃ v, cs[e * ob'.esz + j]? = some v ∧ VR w κ h clk x v) (hd : ob'.own → Flat ob'.es) (hs : ∀ e j x, cellOf ob'.es e j = some x → x.storable = true ∨ x = .undef) :
    Ext w κ h clk (w.alloc (.cells cs t)) (κ.put o w.heap.size 0 fun _ _ _ => False) (hup h o ob') (clk + 1) ∧
    HR w0 P0 (w.alloc (.cells cs t)) (κ.put o w.heap.size 0 fun _ _ _ => False) (hup h o ob') (clk + 1) := by
  obtain ⟨E, k⟩ := H.put (clk' := clk + 1) (w' := w.alloc (.cells cs t)) (o := o) (ob' := ob') (blk := w.heap.size) (off := 0) (F := fun _ _ _ => False) (Nat.le_succ _) (.inl (by omega))
    (fun b hb => alloc_same w _ b hb) (by simp [-World.alloc_eq, World.alloc]) ⟨rfl, RowKit.frozen?_alloc_cells _ _ _⟩ rfl rfl (.inl ⟨Nat.le_refl _, by simp [-World.alloc_eq, World.alloc]⟩)
    (fun n ⟨c, t', f, h1, _⟩ => by simp at h1) (fun _ _ _ hf => hf.elim)
  refine ⟨E, k ⟨by omega, hz, fun _ => ⟨by simp [Cfg.put], ?_⟩, fun e j x hx => ?_, fun _ _ _ hf => ?_, fun _ _ _ _ _ hf => ?_⟩⟩
  · have := ownBlk_alloc w cs t
    have e1 : (κ.put o w.heap.size 0 fun _ _ _ => False).ι o = (w.heap.size, 0) := by simp [Cfg.put]
    rw [e1, Nat.zero_add]
    exact this.mono hl
  · obtain ⟨v, h1, h2⟩ := hc e j x hx
    refine ⟨v, ?_, ?_⟩
    · have e1 : (κ.put o w.heap.size 0 fun _ _ _ => False).addr o ob'.esz e j = at_ w.heap.size (e * ob'.esz + j) := by simp [Cfg.addr, Cfg.put]
      rw [e1, alloc_cell]; exact h1
    · have hv2 := h2.ext E
      have hmem : ob'.own → x.isDat = false := fun ho => by
        unfold cellOf at hx
        cases he : ob'.es[e]? with
        | none => rw [he] at hx; cases hx
        | some cells =>
          rw [he] at hx
          exact hd ho cells (List.mem_of_getElem? he) x (List.mem_of_getElem? hx)
      cases x with
      | dat z es => exact ⟨fun ho => by have := hmem ho; simp [AV.isDat] at this, fun _ => hv2.of_dat⟩
      | agg _ => rcases hs e j _ hx with h5 | h5 <;> simp [AV.storable] at h5
      | tup _ => rcases hs e j _ hx with h5 | h5 <;> simp [AV.storable] at h5
      | _ => exact hv2
  · have e1 : (κ.put o w.heap.size 0 fun _ _ _ => False).F o = fun _ _ _ => False := by simp [Cfg.put]
    rw [e1] at hf; exact hf.elim
  · have e1 : (κ.put o w.heap.size 0 fun _ _ _ => False).F o = fun _ _ _ => False := by simp [Cfg.put]
    rw [e1] at hf; exact hf.elim

theorem cellOf_one {cs : List AV} {e j : Nat} {x : AV} (hx : cellOf [cs] e j = some x) : e = 0 ∧ cs[j]? = some x := by
  unfold cellOf at hx
  cases e with
  | zero => exact ⟨rfl, by simpa using hx⟩
  | succ e => simp at hx

/-- A variable of its own. -/
theorem alloc_ok {w0 : World} {P0 : Bs} {t : TypeId} {d : Nat} {cs : List AV} {v : Value} (H : HR w0 P0 w κ h clk) (hc : Cells w κ h clk cs v.cells) (hs : ∀ x ∈ cs, x.storable = true ∨ x = .undef) :
    Makes P w0 P0 (do pure (.pointer (some (← newVar t v)))) w κ h clk (.ptr (.l d) clk 0 0) (hup h (.l d) { ver := clk, es := [cs], esz := cs.length, fixed := true, own := False }) (clk + 1) := by
  have N := H.new (o := .l d) (ob' := { ver := clk, es := [cs], esz := cs.length, fixed := true, own := False }) (cs := v.cells) (t := t) rfl (by simp) (by simp [hc.1])
    (fun e j x hx => by
      obtain ⟨rfl, hx⟩ := cellOf_one hx
      have hj : j < v.cells.size := by rw [← hc.1]; exact (List.getElem?_eq_some_iff.1 hx).1
      refine ⟨v.cells.getD j Go.undef, ?_, hc.2 j x hx⟩
      simp [Array.getElem?_eq_getElem hj, Array.getD_eq_getD_getElem?]) (fun hf => hf.elim)
    (fun e j x hx => hs x (List.mem_of_getElem? (cellOf_one hx).2))
  refine ⟨.pointer (some (at_ w.heap.size 0)), w.alloc (.cells v.cells t), _, ?_, N.2, N.1, ?_⟩
  · simp [-World.alloc_eq, newVar, newRow, newObj, Sem.run, Result.andThen, World.alloc]
  · refine .ptr _ _ _ _ _ ⟨_, rfl⟩ (Nat.lt_succ_self _) fun ob hc' => ?_
    obtain ⟨h1, _⟩ := cur_some hc'
    rw [hup_at, if_pos rfl] at h1; cases h1
    simp [Cfg.addr, Cfg.put]
end Go.AM

/-! Eff3 -/
namespace Go.AM
variable {w : World} {κ : Cfg} {h : Heap} {clk : Nat} {P : Program}

def OkCells (l : List AV) : Prop := ∀ x ∈ l, x.storable = true ∨ x = .undef
theorem zeroT_cells {t : TypeId} : OkCells (zeroT P t) := by
  unfold zeroT
  split
  · rename_i z _
    intro x hx
    unfold cval at hx
    split at hx
    all_goals first
      | (simp [AV.cells] at hx; subst hx; first | (exact .inl rfl) | (exact .inr rfl))
      | skip
    simp only [AV.cells, List.mem_map] at hx
    obtain ⟨v, _, rfl⟩ := hx
    split <;> first | exact .inl rfl | exact .inr rfl
  · intro x hx; cases hx
theorem fillA_len : ∀ (ps : List (Nat × Nat × List AV)) (z out : List AV), fillA z ps = some out → out.length = z.length
  | [], z, out, hf => by simp [fillA] at hf; rw [hf]
  | (off, n, vs) :: ps, z, out, hf => by
    simp only [fillA] at hf
    split at hf
    · rename_i hc
      rw [fillA_len ps _ out hf]
      simp; omega
    · cases hf
theorem fillA_cells : ∀ (ps : List (Nat × Nat × List AV)) (z out : List AV), OkCells z → fillA z ps = some out → OkCells out
  | [], z, out, hz, hf => by simp [fillA] at hf; rw [← hf]; exact hz
  | (off, n, vs) :: ps, z, out, hz, hf => by
    simp only [fillA] at hf
    split at hf
    · rename_i hc
      refine fillA_cells ps _ out (fun x hx => ?_) hf
      simp only [List.mem_append] at hx
      rcases hx with (hx | hx) | hx
      · exact hz x (List.mem_of_mem_take hx)
      · exact .inl (List.all_eq_true.1 hc.2.2 x hx)
      · exact hz x (List.mem_of_mem_drop hx)
    · cases hf
theorem chunk_len {esz : Nat} : ∀ (n : Nat) (cs : List AV), (chunk esz n cs).length = n
  | 0, _ => rfl
  | n + 1, cs => by simp [chunk, chunk_len n]
theorem chunk_get {esz : Nat} : ∀ (n : Nat) (cs : List AV) (e : Nat), e < n → (chunk esz n cs)[e]? = some ((cs.drop (e * esz)).take esz)
  | n + 1, cs, 0, _ => by simp [chunk]
  | n + 1, cs, e + 1, he => by
    simp only [chunk, List.getElem?_cons_succ]
    rw [chunk_get n _ e (by omega), List.drop_drop]
    congr 3
    rw [Nat.add_mul]; omega
theorem chunk_cell {esz n : Nat} {cs : List AV} {e j : Nat} {x : AV} (hx : cellOf (chunk esz n cs) e j = some x) : e < n ∧ j < esz ∧ cs[e * esz + j]? = some x := by
  unfold cellOf at hx
  have he : e < n := by
    rcases Nat.lt_or_ge e n with h1 | h1
    · exact h1
    · rw [List.getElem?_eq_none (by rw [chunk_len]; exact h1)] at hx; cases hx
  rw [chunk_get n cs e he] at hx
  simp only [Option.bind_some, List.getElem?_take] at hx
  split at hx
  · rename_i hj; exact ⟨he, hj, by rw [List.getElem?_drop] at hx; exact hx⟩
  · cases hx
theorem chunk_esz {esz n : Nat} {cs : List AV} (hl : cs.length = n * esz) : ∀ e ∈ chunk esz n cs, e.length = esz := by
  intro e he
  obtain ⟨i, hi, rfl⟩ := List.mem_iff_getElem.1 he
  have hi' : i < n := by rw [chunk_len] at hi; exact hi
  have h1 := chunk_get (esz := esz) n cs i hi'
  rw [List.getElem?_eq_getElem hi] at h1
  rw [Option.some.inj h1]
  have : (i + 1) * esz ≤ n * esz := Nat.mul_le_mul_right _ hi'
  rw [Nat.add_mul] at this
  simp; omega
theorem rep_get {z : List AV} : ∀ (n j : Nat), j < n * z.length → ((List.replicate n z).flatten)[j]? = z[j % z.length]?
  | 0, j, hj => by simp at hj
  | n + 1, j, hj => by
    rw [List.replicate_succ, List.flatten_cons]
    by_cases h1 : j < z.length
    · rw [List.getElem?_append_left h1, Nat.mod_eq_of_lt h1]
    · rw [List.getElem?_append_right (by omega), rep_get n (j - z.length) (by rw [Nat.add_mul, Nat.one_mul] at hj; omega)]
      rw [← Nat.mod_eq_sub_mod (by omega)]
theorem rep_len {z : List AV} (n : Nat) : ((List.replicate n z).flatten).length = n * z.length := by simp
theorem rep_cells {z : List AV} (n : Nat) (hz : OkCells z) : OkCells ((List.replicate n z).flatten) := by
  intro x hx
  simp only [List.mem_flatten, List.mem_replicate] at hx
  obtain ⟨l, ⟨_, rfl⟩, hx⟩ := hx
  exact hz x hx

/-- The zeros of so many elements. -/
theorem zeros_cells {z : List AV} {zc : Array Value} {n : Nat} (hz : Cells w κ h clk z zc) : Cells w κ h clk ((List.replicate n z).flatten) ((Array.range (n * z.length)).map (fun i => zc[i % zc.size]!)) := by
  refine ⟨by simp, fun j x hx => ?_⟩
  have hj : j < n * z.length := by rw [← rep_len]; exact (List.getElem?_eq_some_iff.1 hx).1
  rw [rep_get n j hj] at hx
  have h1 := hz.2 _ x hx
  have hpos : 0 < z.length := Nat.pos_of_ne_zero fun h0 => by rw [h0] at hj; omega
  have e1 : ((Array.range (n * z.length)).map (fun i => zc[i % zc.size]!)).getD j Go.undef = zc.getD (j % z.length) Go.undef := by
    have hm : j % zc.size < zc.size := Nat.mod_lt _ (by rw [← hz.1]; exact hpos)
    have hr : (Array.range (n * z.length))[j]? = some j := by simp [hj]
    rw [hz.1] at hr ⊢
    simp only [Array.getD_eq_getD_getElem?, Array.getElem?_map, hr, Option.map_some, Option.getD_some]
    rw [getElem!_pos zc (j % zc.size) hm, Array.getElem?_eq_getElem hm]; rfl
  rw [e1]; exact h1

/-- A new row, and the slice that is all of it. -/
theorem row_ok {w0 : World} {P0 : Bs} {t : TypeId} {d n rc esz : Nat} {es : List (List AV)} {cs : Array Value} {own : Prop} {tmp : Bool} {cap : Option Nat} (H : HR w0 P0 w κ h clk) (hn : es.length = n) (hz : ∀ e ∈ es, e.length = esz) (hl : rc * esz ≤ cs.size) (hnr : n ≤ rc)
    (hc : ∀ e j x, cellOf es e j = some x → ∃ v, cs[e * esz + j]? = some v ∧ VR w κ h clk x v) (hd : own → Flat es) (hs : ∀ e j x, cellOf es e j = some x → x.storable = true ∨ x = .undef) (hcap : ∀ k, cap = some k → rc = k) :
    HR w0 P0 (w.alloc (.cells cs t)) (κ.put (.l d) w.heap.size 0 fun _ _ _ => False) (hup h (.l d) { ver := clk, es := es, esz := esz, own := own, tmp := tmp }) (clk + 1) ∧
    Ext w κ h clk (w.alloc (.cells cs t)) (κ.put (.l d) w.heap.size 0 fun _ _ _ => False) (hup h (.l d) { ver := clk, es := es, esz := esz, own := own, tmp := tmp }) (clk + 1) ∧
    VR (w.alloc (.cells cs t)) (κ.put (.l d) w.heap.size 0 fun _ _ _ => False) (hup h (.l d) { ver := clk, es := es, esz := esz, own := own, tmp := tmp }) (clk + 1) (.sl (.l d) clk 0 n cap) (.slice (some (at_ w.heap.size 0)) n rc) := by
  have N := H.new (o := .l d) (ob' := { ver := clk, es := es, esz := esz, own := own, tmp := tmp }) (cs := cs) (t := t) rfl hz (by simp only [hn]; exact Nat.le_trans (Nat.mul_le_mul_right _ hnr) hl) hc hd hs
  refine ⟨N.2, N.1, .sl _ _ _ _ _ _ ⟨_, _, _, rfl⟩ (Nat.lt_succ_self _) fun ob hc' => ?_⟩
  obtain ⟨h1, _⟩ := cur_some hc'
  rw [hup_at, if_pos rfl] at h1; cases h1
  refine .inr ⟨rc, by simp [Cfg.put], by simp [Cfg.addr, Cfg.put], by simp [hn], hnr, hcap, fun _ => by simp [hn, hnr], ?_⟩
  have e1 : (κ.put (.l d) w.heap.size 0 fun _ _ _ => False).ι (.l d) = (w.heap.size, 0) := by simp [Cfg.put]
  rw [e1]
  simp only [Nat.zero_add]
  exact (ownBlk_alloc w cs t).mono hl

theorem bsl_ok {w0 : World} {P0 : Bs} {t e : TypeId} {d n esz : Nat} {ps : Array (Nat × Operand)} {g : Slots} {ρ : Operand → Value} {p : Prop} {v : AV} {h' : Heap} {clk' : Nat} (H : HR w0 P0 w κ h clk)
    (hu : P.underlying t = some (.slice e)) (hi : (P.info? e).isSome = true) (hzs : ((P.info? e).bind (·.zero)).isSome = true) (hn : P.cellsOf e = esz) (hg : ∀ x, VR w κ h clk (ev g (cv x)) (ρ x))
    (hk : bslF esz n (zeroT P e) d ((ps.toList.map fun (i, x) => (i, cv x)).map fun (j, x) => (j, ev g x)) h clk = some (p, v, h', clk')) (hp : p) :
    Makes P w0 P0 (Instr.buildSlice t n (ps.map fun (i, x) => (i, ρ x))) w κ h clk v h' clk' := by
  obtain ⟨z, hzr, hzc⟩ := zeroT_ok (w := w) (κ := κ) (h := h) (clk := clk) hzs
  unfold bslF at hk
  obtain ⟨gs, hgs⟩ : ∃ gs, gs = ps.toList.map fun (x : Nat × Operand) => (x.1 * esz, esz, ev g (cv x.2)) := ⟨_, rfl⟩
  have hgs' : (((ps.toList.map fun (i, x) => (i, cv x)).map fun (j, x) => (j, ev g x)).map fun (j, x) => (j * esz, esz, x.cells)) = gs.map fun (off, n, x) => (off, n, x.cells) := by
    rw [hgs, List.map_map, List.map_map, List.map_map]; rfl
  rw [hgs'] at hk
  cases hfl : fillA ((List.replicate n (zeroT P e)).flatten) (gs.map fun (off, n, x) => (off, n, x.cells)) with
  | none => rw [hfl] at hk; cases hk
  | some cs =>
    rw [hfl] at hk
    simp only [Option.bind_some, Option.some.injEq, Prod.mk.injEq] at hk; obtain ⟨rfl, rfl, rfl, rfl⟩ := hk
    obtain ⟨hbig, hzl⟩ := hp
    obtain ⟨cs', hf, hcs⟩ := fill_ok (w := w) (κ := κ) (h := h) (clk := clk) (fun i => some (i * esz, esz)) ρ ps.toList _ _ gs cs (zeros_cells (n := n) hzc) (by simp [hgs])
      (fun k i x hkx => ⟨_, _, _, by rw [hgs, List.getElem?_map, hkx]; rfl, rfl, hg x⟩) hfl
    have hlen : cs.length = n * esz := by rw [fillA_len _ _ _ hfl, rep_len, hzl]
    have hok := fillA_cells _ _ _ (rep_cells n zeroT_cells) hfl
    obtain ⟨h1, h2, h3⟩ := row_ok (d := d) (t := e) (n := n) (rc := n) (esz := esz) (es := chunk esz n cs) (cs := cs') (own := NoDat cs) (tmp := false) (cap := some n) H (chunk_len n cs) (chunk_esz hlen) (by rw [← hcs.1, hlen]; exact Nat.le_refl _) (Nat.le_refl _)
      (fun e' j x hx => by
        obtain ⟨_, _, hx⟩ := chunk_cell hx
        have hj : e' * esz + j < cs'.size := by rw [← hcs.1]; exact (List.getElem?_eq_some_iff.1 hx).1
        refine ⟨cs'.getD (e' * esz + j) Go.undef, ?_, hcs.2 _ x hx⟩
        simp [Array.getElem?_eq_getElem hj, Array.getD_eq_getD_getElem?])
      (fun ho e' he' x hx => by
        obtain ⟨i, hi, rfl⟩ := List.mem_iff_getElem.1 he'
        obtain ⟨j, hj, rfl⟩ := List.mem_iff_getElem.1 hx
        have := chunk_cell (cellOf_some (List.getElem?_eq_getElem hi) (List.getElem?_eq_getElem hj))
        exact ho _ (List.mem_of_getElem? this.2.2))
      (fun e' j x hx => hok x (List.mem_of_getElem? (chunk_cell hx).2.2)) (fun k hk => by cases hk; rfl)
    refine ⟨_, _, _, ?_, h1, h2, h3⟩
    have harr : (Array.range (n * esz)).map (fun i => (if n * esz = 0 then #[] else z.cells)[i % (if n * esz = 0 then (#[] : Array Value) else z.cells).size]!) = (Array.range (n * (zeroT P e).length)).map (fun i => z.cells[i % z.cells.size]!) := by
      rw [hzl]
      by_cases h0 : n * esz = 0
      · rw [h0]; simp
      · simp [h0]
    have hbig' : ¬ (n * esz > 2 ^ 24) := by omega
    have fin : ∀ zz : Array Value, (Array.range (n * esz)).map (fun i => zz[i % zz.size]!) = (Array.range (n * (zeroT P e).length)).map (fun i => z.cells[i % z.cells.size]!) →
        ((match Instr.fill (fun i => some (i * esz, esz)) ((Array.range (n * esz)).map (fun i => zz[i % zz.size]!)) (Array.map (fun (x : Nat × Operand) => (x.1, ρ x.2)) ps).toList with
          | some cells => do
            let __do_lift ← newRow e cells
            pure (Value.slice (some __do_lift) n n)
          | x => stuck "buildSlice: a part of the wrong size" : Sem Value)).run P w = .ok (Value.slice (some (at_ w.heap.size 0)) n n) (w.alloc (.cells cs' e)) := by
      intro zz hzz
      rw [hzz, Array.toList_map, hf]
      simp [-World.alloc_eq, newRow, newObj, Sem.run, Result.andThen, World.alloc]
    simp only [Instr.buildSlice, Sem.run_bind, und_run hu, Result.andThen, sizeOf_run hi, hn, hbig', if_false]
    by_cases h0 : n * esz = 0
    · rw [if_pos h0]
      simp only [Sem.run_bind, Sem.run_pure, Result.andThen]
      exact fin #[] (by rw [← harr]; simp [h0])
    · rw [if_neg h0]
      simp only [Sem.run_bind, hzr, Sem.run_pure, Result.andThen]
      exact fin z.cells (by rw [← harr]; simp [h0])
end Go.AM

/-! Eff4 -/
namespace Go.AM
variable {w : World} {κ : Cfg} {h : Heap} {clk : Nat} {P : Program}

theorem mks_ok {w0 : World} {P0 : Bs} {t e : TypeId} {d esz : Nat} {l c : AV} {vl vc : Value} {p : Prop} {v : AV} {h' : Heap} {clk' : Nat} (H : HR w0 P0 w κ h clk)
    (hu : P.underlying t = some (.slice e)) (hi : (P.info? e).isSome = true) (hzs : ((P.info? e).bind (·.zero)).isSome = true) (hn : P.cellsOf e = esz) (hl : VR w κ h clk l vl) (hc : VR w κ h clk c vc)
    (hk : mksF esz (P.bytesOf e) (zeroT P e) d l c h clk = some (p, v, h', clk')) (hp : p) : Makes P w0 P0 (Instr.makeSlice t vl vc) w κ h clk v h' clk' := by
  unfold mksF at hk
  cases l <;> try (cases hk; done)
  rename_i k1 a
  cases c <;> try (cases hk; done)
  rename_i k2 b
  simp only [AV.asI, Option.bind_some, Option.some.injEq, Prod.mk.injEq] at hk; obtain ⟨rfl, rfl, rfl, rfl⟩ := hk
  obtain ⟨rfl, h0, hbig, hmax, hzl⟩ := hp
  have e1 := hl.of_i; have e2 := hc.of_i; subst e1; subst e2
  obtain ⟨z, hzr, hzc⟩ := zeroT_ok (w := w) (κ := κ) (h := h) (clk := clk) hzs
  obtain ⟨ie, hie⟩ := Option.isSome_iff_exists.1 hi
  have hby : ie.bytes = P.bytesOf e := by simp [Program.bytesOf, hie]
  have hcells := zeros_cells (w := w) (κ := κ) (h := h) (clk := clk) (n := a.toNat) hzc
  rw [hzl] at hcells
  obtain ⟨h1, h2, h3⟩ := row_ok (d := d) (t := e) (n := a.toNat) (rc := a.toNat) (esz := esz) (es := List.replicate a.toNat (zeroT P e)) (cs := (Array.range (a.toNat * esz)).map (fun i => z.cells[i % z.cells.size]!)) (own := NoDat (zeroT P e)) (tmp := false) (cap := none) H (by simp)
    (fun e' he' => by rw [(List.mem_replicate.1 he').2]; exact hzl) (by simp) (Nat.le_refl _)
    (fun e' j x hx => by
      unfold cellOf at hx
      rw [List.getElem?_replicate] at hx
      split at hx
      · rename_i hlt
        simp only [Option.bind_some] at hx
        have hj : j < esz := by rw [← hzl]; exact (List.getElem?_eq_some_iff.1 hx).1
        have hb : e' * esz + j < a.toNat * esz := by
          have : (e' + 1) * esz ≤ a.toNat * esz := Nat.mul_le_mul_right _ hlt
          rw [Nat.add_mul] at this; omega
        have hx2 : ((List.replicate a.toNat (zeroT P e)).flatten)[e' * esz + j]? = some x := by
          rw [rep_get _ _ (by rw [hzl]; exact hb), hzl]
          have : (e' * esz + j) % esz = j := by rw [Nat.mul_comm, Nat.mul_add_mod, Nat.mod_eq_of_lt hj]
          rw [this]; exact hx
        refine ⟨_, ?_, hcells.2 _ x hx2⟩
        have hb2 : e' * esz + j < ((Array.range (a.toNat * esz)).map (fun i => z.cells[i % z.cells.size]!)).size := by simpa using hb
        rw [Array.getElem?_eq_getElem hb2, Array.getD_eq_getD_getElem?, Array.getElem?_eq_getElem hb2]; rfl
      · cases hx)
    (fun ho e' he' => by rw [(List.mem_replicate.1 he').2]; exact ho)
    (fun e' j x hx => by
      unfold cellOf at hx
      rw [List.getElem?_replicate] at hx
      split at hx
      · exact zeroT_cells x (List.mem_of_getElem? hx)
      · cases hx) (fun k hk => by cases hk)
  refine ⟨_, _, _, ?_, h1, h2, h3⟩
  unfold bigOk at hbig
  have hmul : (ie.bytes : Int) * a ≤ 281474976710656 := by
    rw [hby]
    have e3 : (a.toNat : Int) = a := Int.toNat_of_nonneg h0
    have h8 := Int.ofNat_le.2 hbig
    rw [Int.natCast_mul, e3, Int.mul_comm] at h8
    omega
  have hsz : ie.size = esz := by rw [← hn]; simp [Program.cellsOf, hie]
  have hz2 : ie.zero.isSome = true := by rw [hie] at hzs; exact hzs
  obtain ⟨z2, hz2⟩ := Option.isSome_iff_exists.1 hz2
  have hzz : z2.cells = z.cells := by
    have h9 := hzr
    simp [zeroValue, typeInfo, hie, hz2, Sem.run] at h9
    rw [h9]
  have hr := run_make (P := P) w t e ie z2 hu hie hz2 k1 k2 a a h0 (Int.le_refl _) hmul hmax
  rw [hsz, madeCells, hzz] at hr
  exact hr

theorem HR.write {w0 : World} {P0 : Bs} {w' : World} {clk' : Nat} {o : Rid} {ob : Ob} {es' : List (List AV)} {own' : Prop} {ver' blk off : Nat} (H : HR w0 P0 w κ h clk) (ho : h o = some ob) (hclk : clk ≤ clk') (hver : ver' < clk')
    (hv : clk ≤ ver' ∨ (ver' = ob.ver ∧ es'.length = ob.es.length ∧ (blk, off) = κ.ι o)) (hz : ∀ e ∈ es', e.length = ob.esz)
    (hw : ∀ b, b ≠ blk → w'.heap[b]? = w.heap[b]?) (hsz : w.heap.size ≤ w'.heap.size) (hos : w'.os = w.os ∧ ∀ a, w'.frozen? a = w.frozen? a) (htp : w'.tape = w.tape) (hou : w'.output = w.output)
    (hblk : (w.heap.size ≤ blk ∧ blk < w'.heap.size) ∨ (κ.re o ∧ (κ.ι o).1 = blk)) (hob : ∀ n, OwnBlk w blk n → OwnBlk w' blk n)
    (hown : es' ≠ [] → OwnBlk w' blk (off + es'.length * ob.esz)) (himp : own' → ob.own)
    (hcells : ∀ e j x, cellOf es' e j = some x → (cellOf ob.es e j = some x ∧ ∀ v, w.cell? (κ.addr o ob.esz e j) = some v → w'.cell? (at_ blk (off + e * ob.esz + j)) = some v) ∨
      ∃ v, w'.cell? (at_ blk (off + e * ob.esz + j)) = some v ∧ VR w κ h clk x v ∧ (x.storable = true ∨ x = .undef) ∧ (own' → x.isDat = false)) :
    ∃ κ', κ'.ι o = (blk, off) ∧ κ'.re o ∧ Ext w κ h clk w' κ' (hup h o { ob with ver := ver', es := es', own := own' }) clk' ∧ HR w0 P0 w' κ' (hup h o { ob with ver := ver', es := es', own := own' }) clk' := by
  have OB := H.ob o ob ho
  have eι : (κ.put o blk off fun e j b => own' ∧ κ.F o e j b).ι o = (blk, off) := by simp [Cfg.put]
  have eF : (κ.put o blk off fun e j b => own' ∧ κ.F o e j b).F o = fun e j b => own' ∧ κ.F o e j b := by simp [Cfg.put]
  have hFb : ∀ e j b, κ.F o e j b → b ≠ blk ∧ b < w.heap.size := fun e j b hb => by
    have hb2 := (H.base o ob b ho (.inr ⟨e, j, hb⟩)).2
    rcases hblk with h1 | h1
    · exact ⟨by omega, hb2⟩
    · exact ⟨by rw [← h1.2]; exact OB.sep e j b hb, hb2⟩
  obtain ⟨E, k⟩ := H.put (clk' := clk') (w' := w') (o := o) (ob' := { ob with ver := ver', es := es', own := own' }) (blk := blk) (off := off) (F := fun e j b => own' ∧ κ.F o e j b) hclk
    (by rcases hv with h1 | ⟨h1, h2, h3⟩
        · exact .inl h1
        · exact .inr ⟨ob, ho, h1, rfl, h2, h3⟩) hw hsz hos htp hou
    (by rcases hblk with h1 | h1
        · exact .inl h1
        · exact .inr ⟨ob, ho, h1⟩) hob (fun e j b hb => ⟨ob, ho, hb.2⟩)
  refine ⟨κ.put o blk off fun e j b => own' ∧ κ.F o e j b, eι, by simp [Cfg.put], E, k ⟨hver, hz, fun hne => ⟨by simp [Cfg.put], by rw [eι]; exact hown hne⟩, fun e j x hx => ?_, fun e j b hb => ?_, fun e j e' j' b hb hb' => ?_⟩⟩
  · have ea : (κ.put o blk off fun e j b => own' ∧ κ.F o e j b).addr o ob.esz e j = at_ blk (off + e * ob.esz + j) := by simp [Cfg.addr, eι]
    show ∃ v, w'.cell? ((κ.put o blk off fun e j b => own' ∧ κ.F o e j b).addr o ob.esz e j) = some v ∧ _
    rw [ea]
    rcases hcells e j x hx with ⟨h1, h2⟩ | ⟨v, h1, h2, h3, h4⟩
    · obtain ⟨v, h5, h6⟩ := OB.cells e j x h1
      refine ⟨v, h2 v h5, h6.ext E (fun ho' b hb => by rw [eF]; exact ⟨ho', hb⟩) (fun b hb => hw b (hFb e j b hb).1) himp (fun hn hown b hb => ?_)⟩
      refine ⟨Nat.lt_of_lt_of_le (hFb e j b hb).2 hsz, H.free b (H.base o ob b ho (.inr ⟨e, j, hb⟩)).1, fun u ou hu hf => ?_⟩
      by_cases huo : u = o
      · subst huo
        rw [put_foot] at hf
        rcases hf with h7 | ⟨_, _, h7, _⟩
        · exact (hFb e j b hb).1 h7
        · exact hn h7
      · rw [put_foot_ne huo] at hf
        rw [hup_at, if_neg huo] at hu
        exact H.apart u o ou ob b hu ho huo hf (.inr ⟨e, j, hb⟩)
    · refine ⟨v, h1, ?_⟩
      have h5 := h2.ext E
      cases x with
      | dat z es => exact ⟨fun ho' => by have := h4 ho'; simp [AV.isDat] at this, fun _ => h5.of_dat⟩
      | agg _ => rcases h3 with h3 | h3 <;> simp [AV.storable] at h3
      | tup _ => rcases h3 with h3 | h3 <;> simp [AV.storable] at h3
      | _ => exact h5
  · rw [eF] at hb; rw [eι]
    exact (hFb e j b hb.2).1
  · rw [eF] at hb hb'
    exact OB.disj e j e' j' b hb.2 hb'.2

theorem VR.one {x : AV} {v : Value} (hv : VR w κ h clk x v) (hs : x.storable = true) : v.oneCell' = true := by
  cases hv with
  | ro _ _ hr => cases hr <;> first | rfl | simp [AV.storable] at hs
  | ptr _ _ _ _ _ hs' _ _ => obtain ⟨a, rfl⟩ := hs'; rfl
  | sl _ _ _ _ _ _ hs' _ _ => obtain ⟨a, l, c, rfl⟩ := hs'; rfl
  | eptr _ _ _ _ _ _ _ _ => rfl
  | agg _ _ _ _ => simp [AV.storable] at hs
  | tup _ _ _ _ => simp [AV.storable] at hs
  | fn _ _ _ _ _ => rfl

theorem OwnBlk.cell {b n : Nat} (k : OwnBlk w b n) {o : Nat} (ho : o < n) : (w.cell? (at_ b o)).isSome = true ∧ w.frozen? (at_ b o) = false := by
  obtain ⟨c, t, f, h1, h2, h3⟩ := k
  refine ⟨?_, h3 o⟩
  simp [World.cell?, h1]; omega

/-- Cells of a block anew. -/
theorem setCells_block {b o : Nat} {vs : List Value} {n : Nat} (k : OwnBlk w b n) : ∀ m, OwnBlk w b m → OwnBlk (w.setCells b o vs) b m := by
  clear k
  induction vs generalizing w o with
  | nil => exact fun m k => k
  | cons v r ih =>
    intro m k
    refine ih m ?_
    obtain ⟨c, t, f, h1, h2, h3⟩ := k
    have hb : b < w.heap.size := (Array.getElem?_eq_some_iff.1 h1).1
    refine ⟨c.setIfInBounds o v, t, f, ?_, by simpa using h2, fun j => by rw [World.frozen?_setCell]; exact h3 j⟩
    have h4 : w.heap[b] = .cells c t f := by rw [Array.getElem?_eq_getElem hb] at h1; exact Option.some.inj h1
    simp [World.setCell, hb, Array.getElem_modify, h4]

theorem setCells_size (b : Nat) : ∀ (o : Nat) (vs : List Value) (w : World), (w.setCells b o vs).heap.size = w.heap.size
  | _, [], _ => rfl
  | o, v :: r, w => by rw [World.setCells, setCells_size b (o + 1) r, World.size_setCell]
theorem setCells_tape (b : Nat) : ∀ (o : Nat) (vs : List Value) (w : World), (w.setCells b o vs).tape = w.tape
  | _, [], _ => rfl
  | o, v :: r, w => by rw [World.setCells, setCells_tape b (o + 1) r]; rfl

theorem storeVar_run {t : TypeId} {b o n : Nat} {v : Value} {m : Nat} (hi : (P.info? t).isSome = true) (hn : P.cellsOf t = n) (hv : v.cells.size = n) (hk : OwnBlk w b m) (hm : o + n ≤ m) (h1 : ∀ u ∈ v.cells.toList, u.oneCell' = true) :
    (storeVar t (at_ b o) v).run P w = .ok () (w.setCells b o v.cells.toList) := by
  have h2 := run_storeCells_cells (P := P) b o v.cells.toList 0 w (fun j hj => (hk.cell (by simp at hj; omega)).1) (fun j hj => (hk.cell (by simp at hj; omega)).2) h1
  simp only [storeVar, Sem.run_bind, sizeOf_run hi, Result.andThen, hn, hv]
  simpa using h2

/-- A store. -/
theorem store_ok {w0 : World} {P0 : Bs} {t : TypeId} {n : Nat} {a v : AV} {va vv : Value} {p : Prop} {h' : Heap} (H : HR w0 P0 w κ h clk) (hi : (P.info? t).isSome = true) (hn : P.cellsOf t = n)
    (ha : VR w κ h clk a va) (hv : VR w κ h clk v vv) (hk : storeF h n a v = some (p, h')) (hp : p) :
    ∃ x w' κ', va = .pointer (some x) ∧ (storeVar t x vv).run P w = .ok () w' ∧ HR w0 P0 w' κ' h' clk ∧ Ext w κ h clk w' κ' h' clk := by
  cases a <;> try (cases hk; done)
  rename_i o ver e j
  unfold storeF at hk
  cases hc : cur h o ver with
  | none => simp [hc] at hk
  | some ob =>
    simp only [hc, Option.bind_some] at hk
    cases he : ob.es[e]? with
    | none => simp [he] at hk
    | some cells =>
      simp only [he, Option.bind_some, Option.some.injEq, Prod.mk.injEq] at hk; obtain ⟨rfl, rfl⟩ := hk
      obtain ⟨h1, h2, h3⟩ := hp
      obtain ⟨ho, hver⟩ := cur_some hc
      have hcs := hv.cells h3
      have OB := H.ob o ob ho
      have hel : e < ob.es.length := (List.getElem?_eq_some_iff.1 he).1
      have hcl : cells.length = ob.esz := OB.esz cells (List.mem_of_getElem? he)
      obtain ⟨hre, hblk⟩ := OB.blk (by intro h0; rw [h0] at hel; simp at hel)
      have hb1 : e * ob.esz + ob.esz ≤ ob.es.length * ob.esz := by
        have : (e + 1) * ob.esz ≤ ob.es.length * ob.esz := Nat.mul_le_mul_right _ hel
        rwa [Nat.add_mul, Nat.one_mul] at this
      have hsz : vv.cells.size = n := by rw [← hcs.1, h1]
      have hone : ∀ u ∈ vv.cells.toList, u.oneCell' = true := fun u hu => by
        obtain ⟨i, hi', rfl⟩ := List.mem_iff_getElem.1 hu
        have hi2 : i < v.cells.length := by rw [hcs.1]; simpa using hi'
        have := (hcs.2 i v.cells[i] (List.getElem?_eq_getElem hi2)).one (List.all_eq_true.1 h3 _ (List.getElem_mem hi2))
        rw [Array.getD_eq_getD_getElem?, Array.getElem?_eq_getElem (by simpa using hi')] at this
        simpa using this
      have hrun := storeVar_run (P := P) (t := t) (o := (κ.ι o).2 + e * ob.esz + j) hi hn hsz hblk (by omega) hone
      have hin := World.cell?_setCells_in (κ.ι o).1 vv.cells.toList ((κ.ι o).2 + e * ob.esz + j) w (fun i hi' => (hblk.cell (by simp at hi'; omega)).1)
      have hout := World.cell?_setCells_out (κ.ι o).1 vv.cells.toList ((κ.ι o).2 + e * ob.esz + j) w
      have hbsz : (κ.ι o).1 < w.heap.size := (H.base o ob _ ho (.inl ⟨hre, rfl⟩)).2
      have hnew : (cells.take j ++ v.cells ++ cells.drop (j + n)).length = ob.esz := by simp; omega
      obtain ⟨κ', _, _, E, k⟩ := H.write (w' := w.setCells (κ.ι o).1 ((κ.ι o).2 + e * ob.esz + j) vv.cells.toList) (clk' := clk) (es' := ob.es.set e (cells.take j ++ v.cells ++ cells.drop (j + n))) (own' := ob.own ∧ NoDat v.cells) (ver' := ob.ver)
        (blk := (κ.ι o).1) (off := (κ.ι o).2) ho (Nat.le_refl _) OB.ver (.inr ⟨rfl, by simp, rfl⟩)
        (fun l hl => by
          rcases List.mem_or_eq_of_mem_set hl with h4 | h4
          · exact OB.esz l h4
          · rw [h4]; exact hnew)
        (fun b hb => by
          by_cases hbs : b < w.heap.size
          · exact World.heap_setCells_other w _ _ _ hbs hb
          · have hs2 : (w.setCells (κ.ι o).1 ((κ.ι o).2 + e * ob.esz + j) vv.cells.toList).heap.size = w.heap.size := setCells_size _ _ _ _
            rw [Array.getElem?_eq_none (by omega), Array.getElem?_eq_none (by omega)])
        (by rw [setCells_size]; exact Nat.le_refl _) ⟨World.os_setCells _ _ _ _, World.frozen?_setCells _ _ _ _⟩ (setCells_tape _ _ _ _) (World.output_setCells _ _ _ _) (.inr ⟨hre, rfl⟩) (fun m k => setCells_block k m k)
        (fun _ => by simp only [List.length_set]; exact setCells_block hblk _ hblk) (fun hh => hh.1)
        (fun e' j' x hx => by
          unfold cellOf at hx
          by_cases hee : e' = e
          · subst hee
            rw [List.getElem?_set_self hel] at hx
            simp only [Option.bind_some, List.append_assoc] at hx
            by_cases hj1 : j' < j
            · rw [List.getElem?_append_left (by simp; omega), List.getElem?_take_of_lt hj1] at hx
              refine .inl ⟨cellOf_some he hx, fun u hu => ?_⟩
              rw [hout _ (fun _ _ => .inl (by simp; omega))]
              simpa [Cfg.addr] using hu
            · rw [List.getElem?_append_right (by simp; omega)] at hx
              have e1 : (cells.take j).length = j := by simp; omega
              rw [e1] at hx
              by_cases hj2 : j' < j + n
              · rw [List.getElem?_append_left (by omega)] at hx
                have hj3 : j' - j < vv.cells.toList.length := by simp; omega
                have h5 := hin (j' - j) hj3
                rw [show (κ.ι o).2 + e' * ob.esz + j + (j' - j) = (κ.ι o).2 + e' * ob.esz + j' by omega] at h5
                have h6 := hcs.2 (j' - j) x hx
                have hmem := List.mem_of_getElem? hx
                refine .inr ⟨_, h5, ?_, .inl (List.all_eq_true.1 h3 _ hmem), fun hh => hh.2 _ hmem⟩
                rw [Array.getD_eq_getD_getElem?, Array.getElem?_eq_getElem (by simpa using hj3)] at h6
                simpa using h6
              · rw [List.getElem?_append_right (by omega), List.getElem?_drop, h1] at hx
                rw [show j + n + (j' - j - n) = j' by omega] at hx
                refine .inl ⟨cellOf_some he hx, fun u hu => ?_⟩
                rw [hout _ (fun _ _ => .inr (by simp; omega))]
                simpa [Cfg.addr] using hu
          · rw [List.getElem?_set_ne (by omega)] at hx
            refine .inl ⟨hx, fun u hu => ?_⟩
            have hj' : j' < ob.esz := by
              cases he' : ob.es[e']? with
              | none => rw [he'] at hx; cases hx
              | some c' => rw [he'] at hx; rw [← OB.esz c' (List.mem_of_getElem? he')]; exact (List.getElem?_eq_some_iff.1 hx).1
            rw [hout _ (fun _ _ => by
              simp only [Array.length_toList]
              rcases Nat.lt_or_gt_of_ne hee with h7 | h7
              · have : (e' + 1) * ob.esz ≤ e * ob.esz := Nat.mul_le_mul_right _ h7
                rw [Nat.add_mul] at this; left; omega
              · have : (e + 1) * ob.esz ≤ e' * ob.esz := Nat.mul_le_mul_right _ h7
                rw [Nat.add_mul] at this; right; omega)]
            simpa [Cfg.addr] using hu)
      exact ⟨_, _, κ', ha.of_ptr hc, hrun, k, E⟩
end Go.AM

/-! Eff5 -/
namespace Go.AM
variable {w : World} {κ : Cfg} {h : Heap} {clk : Nat} {P : Program}

theorem Ext.same {w' : World} (hh : w'.heap = w.heap) : Ext w κ h clk w' κ h clk := by
  refine ⟨Nat.le_refl _, fun o v ob' _ hc => ⟨ob', hc, rfl, rfl, rfl, fun k => k, fun _ n k => k.same (by rw [hh])⟩, fun b hb => ⟨⟨by rw [hh]; exact hb.1, hb.2⟩, by rw [hh]⟩, rfl⟩
theorem Ext.trans {w1 w2 w3 : World} {κ1 κ2 κ3 : Cfg} {h1 h2 h3 : Heap} {c1 c2 c3 : Nat} (E : Ext w1 κ1 h1 c1 w2 κ2 h2 c2) (E' : Ext w2 κ2 h2 c2 w3 κ3 h3 c3) : Ext w1 κ1 h1 c1 w3 κ3 h3 c3 := by
  refine ⟨Nat.le_trans E.hclk E'.hclk, fun o v ob' hv hc => ?_, fun b hb => ?_, ?_⟩
  · obtain ⟨ob2, a1, a2, a3, a4, a5, a6⟩ := E'.hcur o v ob' (Nat.lt_of_lt_of_le hv E.hclk) hc
    obtain ⟨ob1, b1, b2, b3, b4, b5, b6⟩ := E.hcur o v ob2 hv a1
    exact ⟨ob1, b1, a2.trans b2, a3.trans b3, a4.trans b4, fun k => a5 (b5 k), fun k n kn => by
      have := a6 (b5 k) n (by rw [b2]; exact b6 k n kn)
      rwa [b2] at this⟩
  · obtain ⟨a1, a2⟩ := E.hX b hb
    obtain ⟨b1, b2⟩ := E'.hX b a1
    exact ⟨b1, b2.trans a2⟩
  · exact E'.hA.trans E.hA
theorem HR.drew {w0 : World} {P0 : Bs} (H : HR w0 P0 w κ h clk) : HR w0 P0 w.drew κ h clk := by
  have E : Ext w κ h clk w.drew κ h clk := Ext.same rfl
  exact ⟨fun o ob ho => ⟨(H.ob o ob ho).ver, (H.ob o ob ho).esz, fun hn => ⟨((H.ob o ob ho).blk hn).1, ((H.ob o ob ho).blk hn).2.same rfl⟩, fun e j x hx => by
      obtain ⟨v, h1, h2⟩ := (H.ob o ob ho).cells e j x hx
      exact ⟨v, h1, h2.ext E (fun _ _ hb => hb) (fun _ _ => rfl) (fun k => k) (fun h3 h4 => (h3 h4).elim)⟩, (H.ob o ob ho).sep, (H.ob o ob ho).disj⟩,
    H.apart, H.base, H.os, H.tape, H.output, H.size, H.old, H.free, H.glob⟩

/-- Elements that lie behind an address. -/
theorem rowSrc {esz blk off cap : Nat} {tx : TypeId} {xs : List (List AV)} (hk : ∃ e', P.underlying tx = some (.slice e') ∨ P.underlying tx = some .string) (hg : Good xs esz)
    (hc : ∀ e j y, cellOf xs e j = some y → ∃ u, w.cell? (at_ blk (off + e * esz + j)) = some u ∧ VR w κ h clk y u) :
    ∃ news, Src P esz tx (.slice (some (at_ blk off)) xs.length cap) xs.length news w ∧ ∀ e j y, cellOf xs e j = some y → ∃ u, news[e * esz + j]? = some u ∧ VR w κ h clk y u := by
  have key : ∀ i, i < xs.length * esz → ∃ y u, cellOf xs (i / esz) (i % esz) = some y ∧ y.storable = true ∧ w.cell? (at_ blk (off + i)) = some u ∧ VR w κ h clk y u := by
    intro i hi
    have hpos : 0 < esz := Nat.pos_of_ne_zero fun h0 => by rw [h0] at hi; omega
    have h1 : i / esz < xs.length := by rw [Nat.div_lt_iff_lt_mul hpos]; exact hi
    have h2 := hg xs[i / esz] (List.getElem_mem h1)
    have h3 : i % esz < (xs[i / esz]).length := by rw [h2.1]; exact Nat.mod_lt _ hpos
    have h4 := cellOf_some (List.getElem?_eq_getElem h1) (List.getElem?_eq_getElem h3)
    obtain ⟨u, h5, h6⟩ := hc _ _ _ h4
    refine ⟨_, u, h4, List.all_eq_true.1 h2.2 _ (List.getElem_mem h3), ?_, h6⟩
    rw [← h5]; congr 2
    have := Nat.div_add_mod i esz
    rw [Nat.mul_comm] at this; omega
  obtain ⟨news, hn⟩ : ∃ news, news = (List.range (xs.length * esz)).map fun i => (w.cell? (at_ blk (off + i))).getD Go.undef := ⟨_, rfl⟩
  have hlen : news.length = xs.length * esz := by rw [hn]; simp
  have hget : ∀ i u, news[i]? = some u → w.cell? (at_ blk (off + i)) = some u ∧ u.oneCell' = true := by
    intro i u hu
    rw [hn, List.getElem?_map] at hu
    have hi : i < xs.length * esz := by
      rcases Nat.lt_or_ge i (xs.length * esz) with h1 | h1
      · exact h1
      · rw [List.getElem?_eq_none (by simpa using h1)] at hu; cases hu
    rw [List.getElem?_range hi] at hu
    obtain ⟨y, u', _, h2, h3, h4⟩ := key i hi
    simp only [Option.map_some, h3, Option.getD_some, Option.some.injEq] at hu
    subst hu
    exact ⟨h3, h4.one h2⟩
  have hone : ∀ u ∈ news, u.oneCell' = true := fun u hu => by
    obtain ⟨i, hi, rfl⟩ := List.mem_iff_getElem.1 hu
    exact (hget i _ (List.getElem?_eq_getElem hi)).2
  have hcl : ∀ j u, news[j]? = some u → w.cell? ((at_ blk off).add j) = some u := fun j u hu => by rw [addr_add]; exact (hget j u hu).1
  refine ⟨news, ⟨?_, fun _ => rfl, run_firstCells_some w esz _ _ _ cap news hlen hcl, run_firstCells_some w.drew esz _ _ _ cap news hlen (by simpa using hcl), hlen, hone⟩, fun e j y hy => ?_⟩
  · obtain ⟨e', h1 | h1⟩ := hk
    · exact .inl ⟨e', h1⟩
    · exact .inr h1
  · obtain ⟨u, h1, h2⟩ := hc e j y hy
    refine ⟨u, ?_, h2⟩
    have hb : e * esz + j < xs.length * esz := by
      unfold cellOf at hy
      cases he : xs[e]? with
      | none => rw [he] at hy; cases hy
      | some c =>
        rw [he] at hy
        have h3 : e < xs.length := (List.getElem?_eq_some_iff.1 he).1
        have h4 : j < c.length := (List.getElem?_eq_some_iff.1 hy).1
        rw [(hg c (List.mem_of_getElem? he)).1] at h4
        have : (e + 1) * esz ≤ xs.length * esz := Nat.mul_le_mul_right _ h3
        rw [Nat.add_mul] at this; omega
    rw [hn, List.getElem?_map, List.getElem?_range hb]
    simp only [Option.map_some, Option.some.injEq]
    rw [show off + (e * esz + j) = off + e * esz + j by omega, h1]; rfl

theorem src_ok {esz : Nat} {tx : TypeId} {x : AV} {vx : Value} {px : Prop} {xs : List (List AV)} (hO : ∀ o ob, h o = some ob → ObR w κ h clk o ob) (hk : ∃ e', P.underlying tx = some (.slice e') ∨ P.underlying tx = some .string)
    (hx : VR w κ h clk x vx) (hs : srcF h esz x = some (px, xs)) (hp : px) :
    Good xs esz ∧ ∃ news, Src P esz tx vx xs.length news w ∧ ∀ e j y, cellOf xs e j = some y → ∃ u, news[e * esz + j]? = some u ∧ VR w κ h clk y u := by
  have hk' : (∃ e', P.underlying tx = some (.slice e')) ∨ P.underlying tx = some .string := by
    obtain ⟨e', h1 | h1⟩ := hk
    · exact .inl ⟨e', h1⟩
    · exact .inr h1
  have empty : ∀ a cap, Src P esz tx (.slice a 0 cap) 0 [] w := fun a cap => by
    cases a with
    | none => exact ⟨hk', fun _ => rfl, run_firstCells_none w esz 0 0 cap, run_firstCells_none w.drew esz 0 0 cap, by simp, fun _ h => by cases h⟩
    | some a => exact ⟨hk', fun _ => rfl, run_firstCells_some w esz 0 a 0 cap [] (by simp) (by simp), run_firstCells_some w.drew esz 0 a 0 cap [] (by simp) (by simp), by simp, fun _ h => by cases h⟩
  have nocell : ∀ (e j : Nat) (y : AV), cellOf ([] : List (List AV)) e j = some y → ∃ u, ([] : List Value)[e * esz + j]? = some u ∧ VR w κ h clk y u := fun e j y hy => by simp [cellOf] at hy
  cases x with
  | nils =>
    simp only [srcF, Option.some.injEq, Prod.mk.injEq] at hs; obtain ⟨rfl, rfl⟩ := hs
    have := hx.of_nils; subst this
    exact ⟨fun _ hh => (by cases hh), [], empty _ _, nocell⟩
  | dat z es =>
    simp only [srcF, Option.some.injEq, Prod.mk.injEq] at hs; obtain ⟨rfl, rfl⟩ := hs
    refine ⟨hp, ?_⟩
    have hr := hx.of_dat
    cases hr with
    | dat0 _ a cap => exact ⟨[], empty _ _, nocell⟩
    | dat _ blk off cap _ val hX hl hz hc hr =>
      refine rowSrc hk hp fun e j y hy => ⟨val e j, ?_, .ro _ _ (hr e j y hy)⟩
      have hez : z = esz := by
        unfold cellOf at hy
        cases he : es[e]? with
        | none => rw [he] at hy; cases hy
        | some c => rw [← hz c (List.mem_of_getElem? he), (hp c (List.mem_of_getElem? he)).1]
      rw [← hez]; exact hc e j y hy
  | s l =>
    simp only [srcF, Option.some.injEq, Prod.mk.injEq] at hs; obtain ⟨rfl, rfl⟩ := hs
    cases hp
    have := hx.of_s; subst this
    refine ⟨fun e he => ?_, (byteCells ⟨l.toArray⟩), ?_, fun e j y hy => ?_⟩
    · have he2 := List.mem_map.1 he
      obtain ⟨b, hb⟩ := he2
      rw [← hb.2]; exact ⟨rfl, rfl⟩
    · have e1 : (l.map fun b => [AV.i .u8 (b.toNat : Int)]).length = (⟨l.toArray⟩ : ByteArray).size := by simp [ByteArray.size]
      rw [e1]
      exact ⟨hk', fun _ => rfl, firstCells_string _ w, firstCells_string _ w.drew, by rw [byteCells_length, Nat.mul_one], fun u hu => by
        obtain ⟨b, _, hb⟩ := List.mem_map.1 hu
        rw [← hb]; rfl⟩
    · unfold cellOf at hy
      rw [List.getElem?_map] at hy
      cases he : l[e]? with
      | none => rw [he] at hy; cases hy
      | some b =>
        rw [he] at hy
        cases j with
        | succ j => simp at hy
        | zero =>
          simp at hy; subst hy
          exact ⟨.int .u8 b.toNat, by simp [byteCells, he], .mk_i _ _⟩
  | sl o ver off len cap =>
    unfold srcF at hs
    cases hc : cur h o ver with
    | none => simp [hc] at hs
    | some ob =>
      simp only [hc, Option.bind_some, Option.some.injEq, Prod.mk.injEq] at hs; obtain ⟨rfl, rfl⟩ := hs
      obtain ⟨hez, hp⟩ := hp
      refine ⟨hp.2, ?_⟩
      rcases hx.of_sl hc with ⟨rfl, ⟨a, rfl⟩, _⟩ | ⟨rc, _, rfl, hoff, _⟩
      · have e1 : sub ob.es off 0 = [] := by
          by_cases h1 : off ≤ ob.es.length
          · exact sub_zero h1
          · unfold sub; rw [if_neg (by omega)]; simp
        rw [e1]
        exact ⟨[], empty _ _, nocell⟩
      · have hl := sub_length hoff
        have hq : ∀ e j y, cellOf (sub ob.es off len) e j = some y → ∃ u, w.cell? (at_ (κ.ι o).1 ((κ.ι o).2 + off * ob.esz + 0 + e * esz + j)) = some u ∧ VR w κ h clk y u := by
          intro e j y hy
          obtain ⟨_, h2⟩ := sub_cell hoff hy
          obtain ⟨u, h3, h4⟩ := (hO o ob (cur_some hc).1).cells _ _ _ h2
          refine ⟨u, ?_, h4.vr_flat fun hown => ?_⟩
          · rw [← h3, Cfg.addr]; congr 2; rw [hez, Nat.add_mul]; omega
          · unfold cellOf at hy
            cases he : (sub ob.es off len)[e]? with
            | none => rw [he] at hy; cases hy
            | some c => rw [he] at hy; exact hp.1 hown c (List.mem_of_getElem? he) y (List.mem_of_getElem? hy)
        have := rowSrc (cap := rc) hk hp.2 hq
        rw [hl] at this ⊢
        exact this
  | _ => simp [srcF] at hs
end Go.AM

/-! Eff6 -/
namespace Go.AM
variable {w : World} {κ : Cfg} {h : Heap} {clk : Nat} {P : Program}

theorem cellOf_app {es xs : List (List AV)} {e j : Nat} {y : AV} (hx : cellOf (es ++ xs) e j = some y) : (e < es.length ∧ cellOf es e j = some y) ∨ (es.length ≤ e ∧ cellOf xs (e - es.length) j = some y) := by
  unfold cellOf at *
  by_cases h1 : e < es.length
  · rw [List.getElem?_append_left h1] at hx; exact .inl ⟨h1, hx⟩
  · rw [List.getElem?_append_right (by omega)] at hx; exact .inr ⟨by omega, hx⟩
theorem cellOf_lt {es : List (List AV)} {e j n : Nat} {y : AV} (hz : ∀ e ∈ es, e.length = n) (hx : cellOf es e j = some y) : e < es.length ∧ j < n ∧ e * n + j < es.length * n := by
  unfold cellOf at hx
  cases he : es[e]? with
  | none => rw [he] at hx; cases hx
  | some c =>
    rw [he] at hx
    have h1 : e < es.length := (List.getElem?_eq_some_iff.1 he).1
    have h2 : j < c.length := (List.getElem?_eq_some_iff.1 hx).1
    rw [hz c (List.mem_of_getElem? he)] at h2
    have : (e + 1) * n ≤ es.length * n := Nat.mul_le_mul_right _ h1
    rw [Nat.add_mul] at this
    exact ⟨h1, h2, by omega⟩
theorem Good.wide {es : List (List AV)} {n : Nat} (hg : Good es n) : ∀ e ∈ es, e.length = n := fun e he => (hg e he).1
theorem Good.cell {es : List (List AV)} {n e j : Nat} {y : AV} (hg : Good es n) (hx : cellOf es e j = some y) : y.storable = true := by
  unfold cellOf at hx
  cases he : es[e]? with
  | none => rw [he] at hx; cases hx
  | some c => rw [he] at hx; exact List.all_eq_true.1 (hg c (List.mem_of_getElem? he)).2 y (List.mem_of_getElem? hx)
theorem Flat.cell {es : List (List AV)} {e j : Nat} {y : AV} (hf : Flat es) (hx : cellOf es e j = some y) : y.isDat = false := by
  unfold cellOf at hx
  cases he : es[e]? with
  | none => rw [he] at hx; cases hx
  | some c => rw [he] at hx; exact hf c (List.mem_of_getElem? he) y (List.mem_of_getElem? hx)

/-- There is room. -/
theorem app_room {w0 : World} {P0 : Bs} {t tx ty e : TypeId} {i : TypeInfo} {o : Rid} {ob : Ob} {len rc : Nat} {vx : Value} {xs es' : List (List AV)} {news : List Value} {clk' ver' : Nat}
    (H : HR w0 P0 w κ h clk) (ht : P.underlying t = some (.slice e)) (hi : P.info? e = some i) (hez : ob.esz = i.size) (ho : h o = some ob) (hs : Src P i.size tx vx xs.length news w)
    (hnews : ∀ e j y, cellOf xs e j = some y → ∃ u, news[e * i.size + j]? = some u ∧ VR w κ h clk y u) (hg : Good xs i.size)
    (hre : κ.re o) (hlen : len ≤ ob.es.length) (hrc : len + xs.length ≤ rc) (hblk : OwnBlk w (κ.ι o).1 ((κ.ι o).2 + rc * i.size))
    (hclk : clk ≤ clk') (hver : ver' < clk') (hv : clk ≤ ver' ∨ (ver' = ob.ver ∧ es'.length = ob.es.length))
    (hes : es' = ob.es.take len ++ xs ++ ob.es.drop (len + xs.length)) :
    ∃ w' κ', (Builtin.append_ #[t, tx] ty #[.slice (some (κ.addr o ob.esz 0 0)) len rc, vx]).run P w = .ok (.slice (some (κ'.addr o ob.esz 0 0)) (len + xs.length) rc) w' ∧ κ'.ι o = κ.ι o ∧ κ'.re o ∧
      Ext w κ h clk w' κ' (hup h o { ob with ver := ver', es := es', own := ob.own ∧ Flat xs }) clk' ∧ HR w0 P0 w' κ' (hup h o { ob with ver := ver', es := es', own := ob.own ∧ Flat xs }) clk' ∧ OwnBlk w' (κ.ι o).1 ((κ.ι o).2 + rc * i.size) := by
  have OB := H.ob o ob ho
  have hnl := hs.newsLen
  have hmul : (len + xs.length) * i.size ≤ rc * i.size := Nat.mul_le_mul_right _ hrc
  rw [Nat.add_mul] at hmul
  have hbsz : (κ.ι o).1 < w.heap.size := (H.base o ob _ ho (.inl ⟨hre, rfl⟩)).2
  have hin := World.cell?_setCells_in (κ.ι o).1 news ((κ.ι o).2 + len * i.size) w (fun k hk => (hblk.cell (by omega)).1)
  have hout := World.cell?_setCells_out (κ.ι o).1 news ((κ.ι o).2 + len * i.size) w
  have hrun := run_append_room_src (P := P) w t tx ty e i ht hi (κ.ι o).1 (κ.ι o).2 len rc vx xs.length news hs hrc (fun k hk => (hblk.cell (by omega)).1) (fun k hk => (hblk.cell (by omega)).2)
  have hblk' := setCells_block (o := (κ.ι o).2 + len * i.size) (vs := news) hblk _ hblk
  have hz' : ∀ l ∈ es', l.length = ob.esz := fun l hl => by
    rw [hes] at hl
    simp only [List.mem_append] at hl
    rcases hl with (hl | hl) | hl
    · exact OB.esz l (List.mem_of_mem_take hl)
    · rw [hez]; exact (hg l hl).1
    · exact OB.esz l (List.mem_of_mem_drop hl)
  have etl : (ob.es.take len).length = len := by simp; omega
  have hle' : es'.length ≤ max ob.es.length (len + xs.length) := by rw [hes]; simp; omega
  obtain ⟨κ', k1, k2, E, k⟩ := H.write (w' := w.setCells (κ.ι o).1 ((κ.ι o).2 + len * i.size) news) (clk' := clk') (es' := es') (own' := ob.own ∧ Flat xs) (ver' := ver')
    (blk := (κ.ι o).1) (off := (κ.ι o).2) ho hclk hver (by rcases hv with h1 | h1
                                                           · exact .inl h1
                                                           · exact .inr ⟨h1.1, h1.2, rfl⟩) hz'
    (fun b hb => by
      by_cases hbs : b < w.heap.size
      · exact World.heap_setCells_other w _ _ _ hbs hb
      · have hs2 := setCells_size (κ.ι o).1 ((κ.ι o).2 + len * i.size) news w
        rw [Array.getElem?_eq_none (by omega), Array.getElem?_eq_none (by omega)])
    (by rw [setCells_size]; exact Nat.le_refl _) ⟨World.os_setCells _ _ _ _, World.frozen?_setCells _ _ _ _⟩ (setCells_tape _ _ _ _) (World.output_setCells _ _ _ _) (.inr ⟨hre, rfl⟩) (fun m k => setCells_block k m k)
    (fun _ => by
      by_cases h1 : ob.es = []
      · refine hblk'.mono ?_
        rw [hez]
        have : es'.length ≤ rc := by rw [h1] at hle'; simp at hle'; omega
        have := Nat.mul_le_mul_right i.size this
        omega
      · have h2 := setCells_block (o := (κ.ι o).2 + len * i.size) (vs := news) (OB.blk h1).2 _ (OB.blk h1).2
        by_cases h3 : es'.length ≤ ob.es.length
        · exact h2.mono (by have := Nat.mul_le_mul_right ob.esz h3; omega)
        · refine hblk'.mono ?_
          rw [hez]
          have : es'.length ≤ rc := by omega
          have := Nat.mul_le_mul_right i.size this
          omega) (fun hh => hh.1)
    (fun e' j' x hx => by
      obtain ⟨hb1, hb2, _⟩ := cellOf_lt hz' hx
      rw [hes] at hx
      rcases cellOf_app hx with ⟨h1, h2⟩ | ⟨h1, h2⟩
      · rcases cellOf_app h2 with ⟨h3, h4⟩ | ⟨h3, h4⟩
        · refine .inl ⟨?_, fun u hu => ?_⟩
          · unfold cellOf at h4 ⊢
            rwa [List.getElem?_take_of_lt (by omega)] at h4
          · rw [hout _ (fun _ _ => .inl (by
              have : (e' + 1) * i.size ≤ len * i.size := Nat.mul_le_mul_right _ (by omega)
              rw [Nat.add_mul] at this
              simp only [hez] at *; omega))]
            exact hu
        · rw [etl] at h3 h4
          obtain ⟨u, h5, h6⟩ := hnews _ _ _ h4
          refine .inr ⟨u, ?_, h6, .inl (hg.cell h4), fun hh => hh.2.cell h4⟩
          have h7 := (List.getElem?_eq_some_iff.1 h5)
          obtain ⟨h8, h9⟩ := h7
          have h10 := hin _ h8
          rw [h9] at h10
          rw [← h10]; congr 2
          rw [hez]
          have : e' * i.size = len * i.size + (e' - len) * i.size := by rw [← Nat.add_mul]; congr 1; omega
          omega
      · simp only [List.length_append, etl] at h1 h2
        refine .inl ⟨?_, fun u hu => ?_⟩
        · unfold cellOf at h2 ⊢
          rw [List.getElem?_drop, show len + xs.length + (e' - (len + xs.length)) = e' by omega] at h2
          exact h2
        · rw [hout _ (fun _ _ => .inr (by
            have : (len + xs.length) * i.size ≤ e' * i.size := Nat.mul_le_mul_right _ h1
            rw [Nat.add_mul] at this
            simp only [hez] at *; omega))]
          exact hu)
  refine ⟨_, κ', ?_, k1, k2, E, k, hblk'⟩
  have e1 : κ.addr o ob.esz 0 0 = at_ (κ.ι o).1 (κ.ι o).2 := by simp [Cfg.addr]
  have e2 : κ'.addr o ob.esz 0 0 = at_ (κ.ι o).1 (κ.ι o).2 := by simp [Cfg.addr, k1]
  rw [e1, e2]
  exact hrun
end Go.AM

/-! Eff7 -/
namespace Go.AM
variable {w : World} {κ : Cfg} {h : Heap} {clk : Nat} {P : Program}

theorem two {β : Type} {olds news zs : List β} {k j : Nat} {v : β} (hk : olds.length = k) (hj : news[j]? = some v) : (olds ++ news ++ zs)[k + j]? = some v := by
  have h1 : j < news.length := (List.getElem?_eq_some_iff.1 hj).1
  rw [List.append_assoc, List.getElem?_append_right (by omega), List.getElem?_append_left (by omega), hk, show k + j - k = j by omega]
  exact hj

theorem app_grow {w0 : World} {P0 : Bs} {t tx ty e : TypeId} {i : TypeInfo} {z : Value} {o : Rid} {ob : Ob} {base : Option Addr} {rc : Nat} {vx : Value} {xs : List (List AV)} {news olds : List Value} {v : Value}
    (H : HR w0 P0 w κ h clk) (ht : P.underlying t = some (.slice e)) (hi : P.info? e = some i) (hz : i.zero = some z) (hzl : z.cells.size = i.size) (hez : ob.esz = i.size) (ho : h o = some ob) (hs : Src P i.size tx vx xs.length news w)
    (hnews : ∀ e j y, cellOf xs e j = some y → ∃ u, news[e * i.size + j]? = some u ∧ VR w κ h clk y u) (hg : Good xs i.size)
    (hold : (Builtin.firstCells i.size ob.es.length (.slice base ob.es.length rc)).run P w.drew = .ok olds.toArray w.drew) (hol : olds.length = ob.es.length * i.size)
    (holds : ∀ e j x, cellOf ob.es e j = some x → ∀ u, w.cell? (κ.addr o ob.esz e j) = some u → olds[e * i.size + j]? = some u)
    (hrc : rc < ob.es.length + xs.length) (h63 : ob.es.length + xs.length ≤ 9223372036854775807) (hbig : bigOk (ob.es.length + xs.length) i.bytes) (hv : v = .slice base ob.es.length rc) :
    Makes P w0 P0 (Builtin.append_ #[t, tx] ty #[v, vx]) w κ h clk (.sl o clk 0 (ob.es.length + xs.length) none) (hup h o { ob with ver := clk, es := ob.es ++ xs, own := ob.own ∧ Flat xs }) (clk + 1) := by
  have OB := H.ob o ob ho
  have hrun := run_append_grow_src (P := P) w t tx ty e i z ht hi hz base ob.es.length rc olds hold vx xs.length news hs hrc (by omega) (growslice_fits hrc hbig)
  generalize hcap : grownCap w (ob.es.length + xs.length) rc e = cap at hrun
  have hge : ob.es.length + xs.length ≤ cap := by rw [← hcap]; exact grownCap_ge _ _ _ _
  obtain ⟨cs, hcs⟩ : ∃ cs, cs = (olds ++ news).toArray ++ Builtin.zeroCells z.cells (cap - (ob.es.length + xs.length)) := ⟨_, rfl⟩
  rw [← hcs] at hrun
  have hnl := hs.newsLen
  have hsize : cs.size = cap * i.size := by
    rw [hcs, Array.size_append, size_zeroCells, hzl]
    simp only [List.size_toArray, List.length_append, hol, hnl]
    rw [← Nat.add_mul, ← Nat.add_mul]; congr 1; omega
  have hget : ∀ k u, (olds ++ news)[k]? = some u → cs[k]? = some u := fun k u hk => by
    have h1 : k < (olds ++ news).length := (List.getElem?_eq_some_iff.1 hk).1
    rw [hcs, Array.getElem?_append_left (by simpa using h1)]
    simpa using hk
  have E1 : Ext w κ h clk w.drew κ h clk := Ext.same rfl
  have hz' : ∀ l ∈ ob.es ++ xs, l.length = ob.esz := fun l hl => by
    rcases List.mem_append.1 hl with hl | hl
    · exact OB.esz l hl
    · rw [hez]; exact (hg l hl).1
  have hcell : ∀ j, (w.drew.alloc (.cells cs e)).cell? (at_ w.heap.size j) = cs[j]? := fun j => alloc_cell w.drew cs e j
  have hown := ownBlk_alloc w.drew cs e
  obtain ⟨κ', k1, k2, E, k⟩ := H.drew.write (w' := w.drew.alloc (.cells cs e)) (clk' := clk + 1) (es' := ob.es ++ xs) (own' := ob.own ∧ Flat xs) (ver' := clk) (blk := w.heap.size) (off := 0) ho (Nat.le_succ _) (Nat.lt_succ_self _) (.inl (Nat.le_refl _)) hz'
    (fun b hb => alloc_same w.drew _ b hb) (by simp [-World.alloc_eq, World.alloc]) ⟨rfl, RowKit.frozen?_alloc_cells _ _ _⟩ rfl rfl (.inl ⟨Nat.le_refl _, by simp [-World.alloc_eq, World.alloc]⟩) (fun n ⟨c, t', f, h1, _⟩ => by simp at h1)
    (fun _ => hown.mono (by rw [hsize, hez, Nat.zero_add]; exact Nat.mul_le_mul_right _ (by simpa using hge))) (fun hh => hh.1)
    (fun e' j' x hx => by
      rw [Nat.zero_add]
      obtain ⟨hb1, hb2, _⟩ := cellOf_lt hz' hx
      rcases cellOf_app hx with ⟨h1, h2⟩ | ⟨h1, h2⟩
      · refine .inl ⟨h2, fun u hu => ?_⟩
        rw [hcell, hez]
        refine hget _ _ ?_
        have h3 := holds e' j' x h2 u hu
        rw [List.getElem?_append_left (List.getElem?_eq_some_iff.1 h3).1]; exact h3
      · obtain ⟨u, h5, h6⟩ := hnews _ _ _ h2
        refine .inr ⟨u, ?_, h6.ext E1, .inl (hg.cell h2), fun hh => hh.2.cell h2⟩
        rw [hcell, hez]
        refine hget _ _ ?_
        have : e' * i.size = ob.es.length * i.size + (e' - ob.es.length) * i.size := by rw [← Nat.add_mul]; congr 1; omega
        rw [this, Nat.add_assoc]
        have h7 := two (zs := []) hol h5
        simpa using h7)
  subst hv
  refine ⟨_, _, κ', hrun, k, E1.trans E, .sl _ _ _ _ _ _ ⟨_, _, _, rfl⟩ (Nat.lt_succ_self _) fun ob' hc => ?_⟩
  obtain ⟨h1, _⟩ := cur_some hc
  rw [hup_at, if_pos rfl] at h1; cases h1
  refine .inr ⟨cap, k2, ?_, by simp, hge, fun _ hh => (by cases hh), fun _ => (by simpa using hge), ?_⟩
  · simp [Cfg.addr, k1]
  · rw [k1]
    show OwnBlk _ w.heap.size (0 + (0 + cap) * ob.esz)
    rw [hez, Nat.zero_add, Nat.zero_add, ← hsize]
    exact hown

theorem app_ok {w0 : World} {P0 : Bs} {t tx ty e : TypeId} {d esz bytes : Nat} {s x : AV} {vs vx : Value} {p : Prop} {v : AV} {h' : Heap} {clk' : Nat} (H : HR w0 P0 w κ h clk)
    (ht : P.underlying t = some (.slice e)) (hi : (P.info? e).isSome = true) (hzs : ((P.info? e).bind (·.zero)).isSome = true) (hzl : (zeroT P e).length = P.cellsOf e) (htx : ∃ e', P.underlying tx = some (.slice e') ∨ P.underlying tx = some .string)
    (hn : P.cellsOf e = esz) (hb : P.bytesOf e = bytes) (hvs : VR w κ h clk s vs) (hvx : VR w κ h clk x vx)
    (hk : appF esz bytes d s x h clk = some (p, v, h', clk')) (hp : p) : Makes P w0 P0 (Builtin.append_ #[t, tx] ty #[vs, vx]) w κ h clk v h' clk' := by
  obtain ⟨i, hi⟩ := Option.isSome_iff_exists.1 hi
  obtain ⟨z, hz⟩ : ∃ z, i.zero = some z := by rw [hi] at hzs; exact Option.isSome_iff_exists.1 hzs
  have hsz : i.size = esz := by rw [← hn]; simp [Program.cellsOf, hi]
  have hby : i.bytes = bytes := by rw [← hb]; simp [Program.bytesOf, hi]
  have hzc : z.cells.size = i.size := by
    have h1 : zeroT P e = (cval z).cells := by simp [zeroT, hi, hz]
    have h2 := (zero_cells (w := w) (κ := κ) (h := h) (clk := clk) z).1
    rw [← h2, ← h1, hzl, hn, hsz]
  subst hsz; subst hby
  unfold appF at hk
  cases hs : srcF h i.size x with
  | none => rw [hs] at hk; cases hk
  | some r =>
    obtain ⟨px, xs⟩ := r
    rw [hs] at hk
    simp only [Option.bind_some] at hk
    cases s <;> try (cases hk; done)
    · have := hvs.of_nils; subst this
      cases xs with
      | nil =>
        simp only [Option.some.injEq, Prod.mk.injEq] at hk; obtain ⟨rfl, rfl, rfl, rfl⟩ := hk
        obtain ⟨_, news, hsrc, _⟩ := src_ok H.ob htx hvx hs hp
        have hnn : news = [] := List.eq_nil_of_length_eq_zero (by rw [hsrc.newsLen]; simp)
        subst hnn
        exact ⟨_, w, κ, run_append_nothing (P := P) w t tx ty e i ht hi none 0 0 (Nat.le_refl _) vx hsrc, H, Ext.same rfl, .ro _ _ .nils⟩
      | cons y ys =>
        simp only [Option.some.injEq, Prod.mk.injEq] at hk; obtain ⟨rfl, rfl, rfl, rfl⟩ := hk
        obtain ⟨hpx, hbig, h63⟩ := hp
        obtain ⟨hg, news, hsrc, hnews⟩ := src_ok H.ob htx hvx hs hpx
        generalize hxs : y :: ys = xs at *
        have hpos : 0 < xs.length := by rw [← hxs]; simp
        have hrun := run_append_grow_src (P := P) w t tx ty e i z ht hi hz none 0 0 [] (by rw [run_firstCells_none]) vx xs.length news hsrc (by omega) (by omega) (by rw [Nat.zero_add]; exact growslice_fits hpos hbig)
        rw [Nat.zero_add] at hrun
        generalize hcap : grownCap w xs.length 0 e = cap at hrun
        have hge : xs.length ≤ cap := by rw [← hcap]; exact grownCap_ge _ _ _ _
        obtain ⟨cs, hcs⟩ : ∃ cs, cs = ([] ++ news).toArray ++ Builtin.zeroCells z.cells (cap - xs.length) := ⟨_, rfl⟩
        rw [← hcs] at hrun
        have hnl := hsrc.newsLen
        have hsize : cs.size = cap * i.size := by
          rw [hcs, Array.size_append, size_zeroCells, hzc]
          simp only [List.nil_append, List.size_toArray, hnl]
          rw [← Nat.add_mul]; congr 1; omega
        have E1 : Ext w κ h clk w.drew κ h clk := Ext.same rfl
        obtain ⟨h1, h2, h3⟩ := row_ok (d := d) (t := e) (n := xs.length) (rc := cap) (esz := i.size) (es := xs) (cs := cs) (own := Flat xs) (tmp := false) (cap := none) H.drew rfl (fun l hl => (hg l hl).1) (by rw [hsize]; exact Nat.le_refl _) hge
          (fun e' j' x hx => by
            obtain ⟨u, h5, h6⟩ := hnews _ _ _ hx
            refine ⟨u, ?_, h6.ext E1⟩
            rw [hcs, Array.getElem?_append_left (by simpa using (List.getElem?_eq_some_iff.1 h5).1)]
            simpa using h5)
          (fun hf => hf) (fun e' j' x hx => .inl (hg.cell hx)) (fun _ hh => by cases hh)
        exact ⟨_, _, _, hrun, h1, E1.trans h2, h3⟩
    · rename_i o ver off len cap
      simp only at hk
      cases hc : cur h o ver with
      | none => rw [hc] at hk; cases hk
      | some ob =>
        rw [hc] at hk
        simp only [Option.bind_some] at hk
        obtain ⟨ho, hver⟩ := cur_some hc
        have OB := H.ob o ob ho
        split at hk
        · rename_i hfull
          simp only [Option.some.injEq, Prod.mk.injEq] at hk; obtain ⟨rfl, rfl, rfl, rfl⟩ := hk
          obtain ⟨hpx, hez, rfl, hfix, hbig, h63⟩ := hp
          obtain ⟨hg, news, hsrc, hnews⟩ := src_ok H.ob htx hvx hs hpx
          subst hfull
          rcases hvs.of_sl hc with ⟨h0, ⟨a, rfl⟩, _⟩ | ⟨rc, hre, rfl, hoff, hle, hcap1, hcap2, hown⟩
          · have hes : ob.es = [] := List.eq_nil_of_length_eq_zero h0
            cases hxs : xs with
            | nil =>
              subst hxs
              have hnn : news = [] := List.eq_nil_of_length_eq_zero (by rw [hsrc.newsLen]; simp)
              subst hnn
              have hrun := run_append_nothing (P := P) w t tx ty e i ht hi a 0 0 (Nat.le_refl _) vx hsrc
              obtain ⟨κ', k1, k2, E, k⟩ : ∃ κ' : Cfg, True ∧ True ∧ Ext w κ h clk w κ' (hup h o { ob with ver := clk, es := ob.es ++ [], own := ob.own ∧ Flat [] }) (clk + 1) ∧ HR w0 P0 w κ' (hup h o { ob with ver := clk, es := ob.es ++ [], own := ob.own ∧ Flat [] }) (clk + 1) := by
                refine ⟨κ, trivial, trivial, ?_, ?_⟩
                · refine ⟨Nat.le_succ _, fun u vv ou hvl hcu => ?_, fun b hb => ⟨⟨hb.1, hb.2.1, fun u ou hu hf => ?_⟩, rfl⟩, rfl⟩
                  · obtain ⟨h1, h2⟩ := cur_some hcu
                    by_cases hu : u = o
                    · subst hu; rw [hup_at, if_pos rfl] at h1; cases h1; simp at h2; omega
                    · rw [hup_at, if_neg hu] at h1
                      exact ⟨ou, by unfold cur; rw [h1]; simp [h2], rfl, rfl, rfl, fun k => k, fun _ _ k => k⟩
                  · by_cases huo : u = o
                    · subst huo; exact hb.2.2 u ob ho hf
                    · rw [hup_at, if_neg huo] at hu; exact hb.2.2 u ou hu hf
                · have E : Ext w κ h clk w κ (hup h o { ob with ver := clk, es := ob.es ++ [], own := ob.own ∧ Flat [] }) (clk + 1) := by
                    refine ⟨Nat.le_succ _, fun u vv ou hvl hcu => ?_, fun b hb => ⟨⟨hb.1, hb.2.1, fun u ou hu hf => ?_⟩, rfl⟩, rfl⟩
                    · obtain ⟨h1, h2⟩ := cur_some hcu
                      by_cases hu : u = o
                      · subst hu; rw [hup_at, if_pos rfl] at h1; cases h1; simp at h2; omega
                      · rw [hup_at, if_neg hu] at h1
                        exact ⟨ou, by unfold cur; rw [h1]; simp [h2], rfl, rfl, rfl, fun k => k, fun _ _ k => k⟩
                    · by_cases huo : u = o
                      · subst huo; exact hb.2.2 u ob ho hf
                      · rw [hup_at, if_neg huo] at hu; exact hb.2.2 u ou hu hf
                  refine ⟨fun u ou hu => ?_, fun u u' ou ou' b hu hu' hne hf hf' => ?_, fun u ou b hu hf => ?_, H.os, H.tape, H.output, H.size, H.old, H.free, H.glob⟩
                  · by_cases huo : u = o
                    · subst huo; rw [hup_at, if_pos rfl] at hu; cases hu
                      refine ⟨Nat.lt_succ_self _, fun l hl => ?_, fun hne => ?_, fun e' j' x hx => ?_, OB.sep, OB.disj⟩
                      · simp [hes] at hl
                      · simp [hes] at hne
                      · simp [hes, cellOf] at hx
                    · rw [hup_at, if_neg huo] at hu
                      have O2 := H.ob u ou hu
                      refine ⟨Nat.lt_succ_of_lt O2.ver, O2.esz, O2.blk, fun e' j' x hx => ?_, O2.sep, O2.disj⟩
                      obtain ⟨q, h1, h2⟩ := O2.cells e' j' x hx
                      exact ⟨q, h1, h2.ext E (fun _ _ hb => hb) (fun _ _ => rfl) (fun k => k) (fun h3 h4 => (h3 h4).elim)⟩
                  · obtain ⟨ou2, hu2⟩ : ∃ ou2, h u = some ou2 := by
                      by_cases huo : u = o
                      · subst huo; exact ⟨ob, ho⟩
                      · rw [hup_at, if_neg huo] at hu; exact ⟨ou, hu⟩
                    obtain ⟨ou3, hu3⟩ : ∃ ou2, h u' = some ou2 := by
                      by_cases huo : u' = o
                      · subst huo; exact ⟨ob, ho⟩
                      · rw [hup_at, if_neg huo] at hu'; exact ⟨ou', hu'⟩
                    exact H.apart u u' ou2 ou3 b hu2 hu3 hne hf hf'
                  · obtain ⟨ou2, hu2⟩ : ∃ ou2, h u = some ou2 := by
                      by_cases huo : u = o
                      · subst huo; exact ⟨ob, ho⟩
                      · rw [hup_at, if_neg huo] at hu; exact ⟨ou, hu⟩
                    exact H.base u ou2 b hu2 hf
              refine ⟨_, w, κ', hrun, k, E, .sl _ _ _ _ _ _ ⟨_, _, _, rfl⟩ (Nat.lt_succ_self _) fun ob' hc' => ?_⟩
              obtain ⟨h1, _⟩ := cur_some hc'
              rw [hup_at, if_pos rfl] at h1; cases h1
              exact .inl ⟨by simp [hes], ⟨a, rfl⟩, fun _ => (by simp [hes])⟩
            | cons y ys =>
              rw [← hxs]
              have hpos : 0 < xs.length := by rw [hxs]; simp
              refine app_grow (base := a) (rc := 0) (olds := []) H ht hi hz hzc hez ho hsrc hnews hg ?_ (by simp [hes]) (fun e j x hx => by simp [hes, cellOf] at hx) (by omega) h63 hbig (by rw [hes]; rfl)
              rw [hes]
              cases a with
              | none => exact run_firstCells_none _ _ _ _ _
              | some a => exact run_firstCells_some w.drew i.size 0 a 0 0 [] (by simp) (by simp)
          · rw [Nat.zero_add] at hown
            by_cases hr : ob.es.length + xs.length ≤ rc
            · rw [hez] at hown
              obtain ⟨w', κ', hrun, k1, k2, E, k, hb'⟩ := app_room (ty := ty) (clk' := clk + 1) (ver' := clk) (es' := ob.es ++ xs) H ht hi hez ho hsrc hnews hg hre (Nat.le_refl _) hr hown (Nat.le_succ _) (Nat.lt_succ_self _) (.inl (Nat.le_refl _)) (by simp)
              refine ⟨_, w', κ', hrun, k, E, .sl _ _ _ _ _ _ ⟨_, _, _, rfl⟩ (Nat.lt_succ_self _) fun ob' hc' => ?_⟩
              obtain ⟨h1, _⟩ := cur_some hc'
              rw [hup_at, if_pos rfl] at h1; cases h1
              refine .inr ⟨rc, k2, rfl, by simp, hr, fun _ hh => (by cases hh), fun _ => (by simpa using hr), ?_⟩
              rw [k1, Nat.zero_add]
              show OwnBlk _ _ (_ + rc * ob.esz)
              rw [hez]; exact hb'
            · obtain ⟨olds, ho1⟩ : ∃ olds, olds = (List.range (ob.es.length * i.size)).map fun k => (w.cell? (at_ (κ.ι o).1 ((κ.ι o).2 + k))).getD Go.undef := ⟨_, rfl⟩
              have hol : olds.length = ob.es.length * i.size := by rw [ho1]; simp
              have hrcm : ob.es.length * i.size ≤ rc * i.size := Nat.mul_le_mul_right _ hle
              have hcl : ∀ k u, olds[k]? = some u → w.cell? ((κ.addr o ob.esz 0 0).add k) = some u := fun k u hu => by
                have hk1 : k < ob.es.length * i.size := by rw [← hol]; exact (List.getElem?_eq_some_iff.1 hu).1
                rw [ho1, List.getElem?_map, List.getElem?_range hk1] at hu
                simp only [Option.map_some, Option.some.injEq] at hu
                rw [hez] at hown
                obtain ⟨q, hq⟩ := Option.isSome_iff_exists.1 (hown.cell (o := (κ.ι o).2 + k) (by omega)).1
                rw [hq] at hu
                rw [Cfg.addr, addr_add]
                simp only [Nat.zero_mul, Nat.add_zero]
                rw [hq, ← hu]; rfl
              refine app_grow (base := some (κ.addr o ob.esz 0 0)) (rc := rc) (olds := olds) H ht hi hz hzc hez ho hsrc hnews hg (run_firstCells_some w.drew i.size _ _ _ _ olds hol (by simpa using hcl)) hol (fun e' j' x hx u hu => ?_) (by omega) h63 hbig rfl
              obtain ⟨_, _, hb3⟩ := cellOf_lt OB.esz hx
              rw [hez] at hb3
              rw [ho1, List.getElem?_map, List.getElem?_range hb3]
              simp only [Option.map_some, Option.some.injEq]
              rw [Cfg.addr, hez] at hu
              rw [← Nat.add_assoc, hu]; rfl
        · rename_i hnf
          simp only [Option.some.injEq, Prod.mk.injEq] at hk; obtain ⟨rfl, rfl, rfl, rfl⟩ := hk
          obtain ⟨hpx, hez, rfl, hfix, hcapk, hroom⟩ := hp
          obtain ⟨hg, news, hsrc, hnews⟩ := src_ok H.ob htx hvx hs hpx
          rcases hvs.of_sl hc with ⟨h0, _, hcz⟩ | ⟨rc, hre, rfl, hoff, hle, hcap1, hcap2, hown⟩
          · cases cap with
            | none => have := hcz rfl; omega
            | some k => exact absurd h0 (hcapk k rfl).1
          · have hcr : len + xs.length ≤ rc := by
              cases cap with
              | none => have := hcap2 rfl; omega
              | some k => have := hcap1 k rfl; have := (hcapk k rfl).2; omega
            rw [Nat.zero_add] at hown hoff
            rw [hez] at hown
            obtain ⟨w', κ', hrun, k1, k2, E, k, hb'⟩ := app_room (ty := ty) (clk' := clk) (ver' := ob.ver) (es' := ob.es.take len ++ xs ++ ob.es.drop (len + xs.length)) H ht hi hez ho hsrc hnews hg hre hoff (by omega) hown (Nat.le_refl _) OB.ver (.inr ⟨rfl, by simp; omega⟩) rfl
            refine ⟨_, w', κ', hrun, k, E, .sl _ _ _ _ _ _ ⟨_, _, _, rfl⟩ (by rw [← hver]; exact OB.ver) fun ob' hc' => ?_⟩
            obtain ⟨h1, _⟩ := cur_some hc'
            rw [hup_at, if_pos rfl] at h1; cases h1
            refine .inr ⟨rc, k2, rfl, by simp; omega, by omega, hcap1, fun hn => (by have := hcap2 hn; simp; omega), ?_⟩
            rw [k1, Nat.zero_add]
            show OwnBlk _ _ (_ + rc * ob.esz)
            rw [hez]; exact hb'
end Go.AM

/-! Eff8 -/
namespace Go.AM
variable {w : World} {κ : Cfg} {h : Heap} {clk : Nat} {P : Program}

theorem put_room {w0 : World} {P0 : Bs} {o : Rid} {ob : Ob} {off size : Nat} {xs : List (List AV)} {news : List Value}
    (H : HR w0 P0 w κ h clk) (hez : ob.esz = size) (ho : h o = some ob) (hnl : news.length = xs.length * size) (hnews : ∀ e j y, cellOf xs e j = some y → ∃ u, news[e * size + j]? = some u ∧ VR w κ h clk y u) (hg : Good xs size)
    (hlen : off + xs.length ≤ ob.es.length) (hne : ob.es ≠ []) :
    ∃ κ', κ'.ι o = κ.ι o ∧ Ext w κ h clk (w.setCells (κ.ι o).1 ((κ.ι o).2 + off * size) news) κ' (hup h o (laidF ob off xs)) clk ∧ HR w0 P0 (w.setCells (κ.ι o).1 ((κ.ι o).2 + off * size) news) κ' (hup h o (laidF ob off xs)) clk := by
  have OB := H.ob o ob ho
  obtain ⟨hre, hblk⟩ := OB.blk hne
  have hmul : (off + xs.length) * size ≤ ob.es.length * size := Nat.mul_le_mul_right _ hlen
  rw [Nat.add_mul] at hmul
  have hbsz : (κ.ι o).1 < w.heap.size := (H.base o ob _ ho (.inl ⟨hre, rfl⟩)).2
  rw [hez] at hblk
  have hin := World.cell?_setCells_in (κ.ι o).1 news ((κ.ι o).2 + off * size) w (fun k hk => (hblk.cell (by omega)).1)
  have hout := World.cell?_setCells_out (κ.ι o).1 news ((κ.ι o).2 + off * size) w
  obtain ⟨es', hes⟩ : ∃ es', es' = ob.es.take off ++ xs ++ ob.es.drop (off + xs.length) := ⟨_, rfl⟩
  have hz' : ∀ l ∈ es', l.length = ob.esz := fun l hl => by
    rw [hes] at hl
    simp only [List.mem_append] at hl
    rcases hl with (hl | hl) | hl
    · exact OB.esz l (List.mem_of_mem_take hl)
    · rw [hez]; exact (hg l hl).1
    · exact OB.esz l (List.mem_of_mem_drop hl)
  have etl : (ob.es.take off).length = off := by simp; omega
  have hle' : es'.length = ob.es.length := by rw [hes]; simp; omega
  obtain ⟨κ', k1, k2, E, k⟩ := H.write (w' := w.setCells (κ.ι o).1 ((κ.ι o).2 + off * size) news) (clk' := clk) (es' := es') (own' := ob.own ∧ Flat xs) (ver' := ob.ver)
    (blk := (κ.ι o).1) (off := (κ.ι o).2) ho (Nat.le_refl _) OB.ver (.inr ⟨rfl, hle', rfl⟩) hz'
    (fun b hb => by
      by_cases hbs : b < w.heap.size
      · exact World.heap_setCells_other w _ _ _ hbs hb
      · have hs2 := setCells_size (κ.ι o).1 ((κ.ι o).2 + off * size) news w
        rw [Array.getElem?_eq_none (by omega), Array.getElem?_eq_none (by omega)])
    (by rw [setCells_size]; exact Nat.le_refl _) ⟨World.os_setCells _ _ _ _, World.frozen?_setCells _ _ _ _⟩ (setCells_tape _ _ _ _) (World.output_setCells _ _ _ _) (.inr ⟨hre, rfl⟩) (fun m k => setCells_block k m k)
    (fun _ => by rw [hle', hez]; exact setCells_block hblk _ hblk) (fun hh => hh.1)
    (fun e' j' x hx => by
      obtain ⟨hb1, hb2, _⟩ := cellOf_lt hz' hx
      rw [hes] at hx
      rcases cellOf_app hx with ⟨h1, h2⟩ | ⟨h1, h2⟩
      · rcases cellOf_app h2 with ⟨h3, h4⟩ | ⟨h3, h4⟩
        · refine .inl ⟨?_, fun u hu => ?_⟩
          · unfold cellOf at h4 ⊢
            rwa [List.getElem?_take_of_lt (by omega)] at h4
          · rw [hout _ (fun _ _ => .inl (by
              have : (e' + 1) * size ≤ off * size := Nat.mul_le_mul_right _ (by omega)
              rw [Nat.add_mul] at this
              simp only [hez] at *; omega))]
            exact hu
        · rw [etl] at h3 h4
          obtain ⟨u, h5, h6⟩ := hnews _ _ _ h4
          refine .inr ⟨u, ?_, h6, .inl (hg.cell h4), fun hh => hh.2.cell h4⟩
          obtain ⟨h8, h9⟩ := List.getElem?_eq_some_iff.1 h5
          have h10 := hin _ h8
          rw [h9] at h10
          rw [← h10]; congr 2
          rw [hez]
          have : e' * size = off * size + (e' - off) * size := by rw [← Nat.add_mul]; congr 1; omega
          omega
      · simp only [List.length_append, etl] at h1 h2
        refine .inl ⟨?_, fun u hu => ?_⟩
        · unfold cellOf at h2 ⊢
          rw [List.getElem?_drop, show off + xs.length + (e' - (off + xs.length)) = e' by omega] at h2
          exact h2
        · rw [hout _ (fun _ _ => .inr (by
            have : (off + xs.length) * size ≤ e' * size := Nat.mul_le_mul_right _ h1
            rw [Nat.add_mul] at this
            simp only [hez] at *; omega))]
          exact hu)
  subst hes
  exact ⟨κ', k1, E, k⟩

theorem trunc_val {m : Nat} {s : AV} {vs : Value} (hv : VR w κ h clk s vs) {esz : Nat} {r : Prop × List (List AV)} (hs : srcF h esz (truncA m s) = some r) :
    ∃ vs', VR w κ h clk (truncA m s) vs' ∧ ∀ (size : Nat) (w' : World), (Builtin.firstCells size m vs).run P w' = (Builtin.firstCells size m vs').run P w' := by
  cases s <;> try (simp only [truncA, srcF] at hs; cases hs; done)
  · simp only [truncA] at hs ⊢
    by_cases h0 : m = 0
    · rw [if_pos h0]; exact ⟨vs, hv, fun _ _ => rfl⟩
    · rw [if_neg h0] at hs; cases hs
  · rename_i o v off len cap
    simp only [truncA] at hs ⊢
    by_cases hm : m ≤ len
    · rw [if_pos hm]
      have hs' : ∃ a l c, vs = .slice a l c := by
        cases hv with
        | ro _ _ hr => cases hr
        | sl _ _ _ _ _ _ hs' _ _ => exact hs'
      have hlt : v < clk := by
        cases hv with
        | ro _ _ hr => cases hr
        | sl _ _ _ _ _ _ _ hl _ => exact hl
      obtain ⟨a, l, c, rfl⟩ := hs'
      refine ⟨.slice a m c, .sl _ _ _ _ _ _ ⟨_, _, _, rfl⟩ hlt fun ob hc => ?_, fun size w' => by cases a <;> rfl⟩
      rcases hv.of_sl hc with ⟨q1, ⟨a', q2⟩, q3⟩ | ⟨rc, q1, q2, q3, q4, q5, q6, q7⟩
      · cases q2
        exact .inl ⟨by omega, ⟨a, by congr 1; omega⟩, q3⟩
      · cases q2
        exact .inr ⟨c, q1, rfl, by omega, by omega, q5, q6, q7⟩
    · rw [if_neg hm] at hs; cases hs
  · rename_i es
    simp only [truncA] at hs ⊢
    by_cases h0 : m = es.length
    · rw [if_pos h0]; exact ⟨vs, hv, fun _ _ => rfl⟩
    · rw [if_neg h0] at hs; cases hs

theorem lenA_val {s : AV} {vs : Value} {n : Nat} (hO : ∀ o v off len cap, s = .sl o v off len cap → ∃ ob, cur h o v = some ob) (hv : VR w κ h clk s vs) (hn : lenA s = some n) (w' : World) : (Builtin.lenOf vs).run P w' = .ok n w' := by
  cases s <;> try (simp only [lenA] at hn; cases hn; done)
  · simp only [lenA, Option.some.injEq] at hn; subst hn; rw [hv.of_nils]; rfl
  · rename_i o v off len cap
    simp only [lenA, Option.some.injEq] at hn; subst hn
    obtain ⟨ob, hc⟩ := hO _ _ _ _ _ rfl
    obtain ⟨a, rc, rfl, _⟩ := (hv.of_sl hc).slice
    rfl
  · simp only [lenA, Option.some.injEq] at hn; subst hn
    have := hv.of_dat
    cases this <;> rfl

/-- copy. -/
theorem cpy_ok {w0 : World} {P0 : Bs} {t tx ty e : TypeId} {esz : Nat} {d s : AV} {vd vs : Value} {p : Prop} {r : AV} {h' : Heap} (H : HR w0 P0 w κ h clk) (ht : P.underlying t = some (.slice e)) (hi : (P.info? e).isSome = true) (hn : P.cellsOf e = esz)
    (htx : ∃ e', P.underlying tx = some (.slice e') ∨ P.underlying tx = some .string) (hd : VR w κ h clk d vd) (hs : VR w κ h clk s vs) (hk : cpyF h esz d s = some (p, r, h')) (hp : p) : Makes P w0 P0 (Builtin.copy_ #[t, tx] ty #[vd, vs]) w κ h clk r h' clk := by
  unfold cpyF at hk
  cases d <;> try (cases hk; done)
  rename_i o v off len cap
  simp only at hk
  cases hc : cur h o v with
  | none => rw [hc] at hk; cases hk
  | some ob =>
    cases hl : lenA s with
    | none => rw [hc, hl] at hk; cases hk
    | some n =>
      cases hsf : srcF h esz (truncA (min n len) s) with
      | none => rw [hc, hl] at hk; simp only [Option.bind_some, hsf] at hk; cases hk
      | some q =>
        obtain ⟨px, xs⟩ := q
        rw [hc, hl] at hk
        simp only [Option.bind_some, hsf, Option.some.injEq, Prod.mk.injEq] at hk; obtain ⟨rfl, rfl, rfl⟩ := hk
        obtain ⟨hpx, hez, hl0, hxl⟩ := hp
        obtain ⟨ho, _⟩ := cur_some hc
        obtain ⟨vs', hv', hfc⟩ := trunc_val (P := P) hs hsf
        obtain ⟨hg, news, hsrc, hnews⟩ := src_ok (P := P) (tx := tx) H.ob htx hv' hsf hpx
        rcases hd.of_sl hc with ⟨h1, _⟩ | ⟨rc, hre, rfl, hoff, hle, _, _, _⟩
        · exact absurd h1 hl0
        · have hne : ob.es ≠ [] := by intro h0; rw [h0] at hoff; simp at hoff; omega
          obtain ⟨κ', _, E, k⟩ := put_room (off := off) H hez ho hsrc.newsLen hnews hg (by omega) hne
          refine ⟨_, _, κ', ?_, k, E, .ro _ _ (.i _ _)⟩
          have hlen : (Builtin.lenOf vs).run P w = .ok n w := lenA_val (fun o' v' off' len' cap' hh => by
            subst hh
            simp only [truncA] at hsf
            split at hsf
            · simp only [srcF] at hsf
              cases hc2 : cur h o' v' with
              | none => rw [hc2] at hsf; cases hsf
              | some ob2 => exact ⟨ob2, rfl⟩
            · cases hsf) hs hl w
          have hcells : (Builtin.firstCells esz (min n len) vs).run P w = .ok news.toArray w := by
            rw [hfc, ← hxl]; exact hsrc.cells
          obtain ⟨hre2, hblk⟩ := (H.ob o ob ho).blk hne
          rw [hez] at hblk
          have hmul : (off + xs.length) * esz ≤ ob.es.length * esz := Nat.mul_le_mul_right _ (by omega)
          rw [Nat.add_mul] at hmul
          have hnl := hsrc.newsLen
          have hst := run_storeCells_cells (P := P) (κ.ι o).1 ((κ.ι o).2 + off * esz) news 0 w (fun j hj => (hblk.cell (by omega)).1) (fun j hj => (hblk.cell (by omega)).2) hsrc.one
          have ea : κ.addr o ob.esz off 0 = at_ (κ.ι o).1 ((κ.ι o).2 + off * esz) := by simp [Cfg.addr, hez]
          rw [ea]
          have hmin : Nat.min n len = min n len := rfl
          simp only [Builtin.copy_, List.getElem?_toArray, List.getElem?_cons_zero, List.getElem?_cons_succ, Sem.run_bind, und_run ht, Result.andThen, hlen, hmin, sizeOf_run hi, hn, hcells, hst, Sem.run_pure]
          simp only [Nat.add_zero] at hst ⊢
          rfl

theorem zeroCells_get {z : Array Value} {len esz : Nat} (hz : z.size = esz) {i : Nat} (hi : i < len * esz) : (Builtin.zeroCells z len).toList[i]? = some (z.getD (i % esz) Go.undef) := by
  have hpos : 0 < esz := Nat.pos_of_ne_zero fun h0 => by rw [h0] at hi; omega
  have hm : i % esz < z.size := by rw [hz]; exact Nat.mod_lt _ hpos
  have hi2 : i < (Builtin.zeroCells z len).size := by simp [Builtin.zeroCells, hz]; exact hi
  rw [Array.getElem?_toList, Array.getElem?_eq_getElem hi2, Array.getD_eq_getD_getElem?, Array.getElem?_eq_getElem hm]
  simp [Builtin.zeroCells, hz]
  rw [getElem!_pos z (i % esz) hm]
/-- append of zeros, where there is no room. -/
theorem appz_ok {w0 : World} {P0 : Bs} {t tn ty e : TypeId} {kn : IntKind} {d esz bytes : Nat} {s x : AV} {vs vx : Value} {p : Prop} {v : AV} {h' : Heap} {clk' : Nat} (H : HR w0 P0 w κ h clk)
    (ht : P.underlying t = some (.slice e)) (htn : P.underlying tn = some (.int kn)) (hi : (P.info? e).isSome = true) (hzs : ((P.info? e).bind (·.zero)).isSome = true) (hn : P.cellsOf e = esz) (hb : P.bytesOf e = bytes)
    (hvs : VR w κ h clk s vs) (hvx : VR w κ h clk x vx) (hk : appzF esz bytes (zeroT P e) d s x h clk = some (p, v, h', clk')) (hp : p) : Makes P w0 P0 (Builtin.append_ #[t, tn] ty #[vs, vx]) w κ h clk v h' clk' := by
  obtain ⟨i, hi⟩ := Option.isSome_iff_exists.1 hi
  obtain ⟨z, hz⟩ : ∃ z, i.zero = some z := by rw [hi] at hzs; exact Option.isSome_iff_exists.1 hzs
  have hsz : i.size = esz := by rw [← hn]; simp [Program.cellsOf, hi]
  have hby : i.bytes = bytes := by rw [← hb]; simp [Program.bytesOf, hi]
  have hzc : Cells w κ h clk (zeroT P e) z.cells := by
    have h1 : zeroT P e = (cval z).cells := by simp [zeroT, hi, hz]
    rw [h1]; exact zero_cells z
  unfold appzF at hk
  split at hk
  · rename_i o v' off len k kx n
    cases hc : cur h o v' with
    | none => rw [hc] at hk; cases hk
    | some ob =>
      rw [hc] at hk
      simp only [Option.bind_some, Option.some.injEq, Prod.mk.injEq] at hk; obtain ⟨rfl, rfl, rfl, rfl⟩ := hk
      obtain ⟨hez, hzl, hpos, hn0, hkn, hol, h63, hbig, hg, hfl, hzst, hznd⟩ := hp
      have hvx2 := hvx.of_i; subst hvx2
      obtain ⟨m, rfl⟩ : ∃ m : Nat, n = m := ⟨n.toNat, by omega⟩
      simp only [Int.toNat_natCast] at *
      have hslen : (sub ob.es off len).length = len := sub_length hol
      have hsf : srcF h esz (.sl o v' off len (some k)) = some (ob.esz = esz ∧ (ob.own → Flat (sub ob.es off len)) ∧ Good (sub ob.es off len) esz, sub ob.es off len) := by simp only [srcF, hc, Option.bind_some]
      obtain ⟨_, olds, hsrc, holds⟩ := src_ok (P := P) (tx := t) H.ob ⟨e, .inl ht⟩ hvs hsf ⟨hez, fun _ => hfl, hg⟩
      obtain ⟨base, rc, rfl, hrc⟩ : ∃ base rc, vs = .slice base len rc ∧ rc < len + m := by
        rcases hvs.of_sl hc with ⟨q1, ⟨a, q2⟩, _⟩ | ⟨rc, _, q2, _, _, q5, _, _⟩
        · exact ⟨a, 0, by rw [q2, q1], by omega⟩
        · exact ⟨_, rc, q2, by have := q5 k rfl; omega⟩
      have hcd := hsrc.cellsD
      rw [hslen] at hcd
      have hnl := hsrc.newsLen
      rw [hslen] at hnl
      subst hsz; subst hby
      have hbig2 := hbig
      unfold bigOk at hbig2
      have h48 : m * i.bytes ≤ 281474976710656 := by
        have : m * i.bytes ≤ (len + m) * i.bytes := Nat.mul_le_mul_right _ (by omega)
        omega
      have hrun := Lib.run_append_grow_zeros (P := P) w t tn ty e i z kx kn ht htn hi hz base len rc olds hcd m (by omega) hpos hrc (by omega) h48 (growslice_fits hrc hbig)
      generalize hcap : grownCap w (len + m) rc e = cap at hrun
      have hge : len + m ≤ cap := by rw [← hcap]; exact grownCap_ge _ _ _ _
      have hzsz : z.cells.size = i.size := by rw [← hzc.1, hzl]
      obtain ⟨cs, hcs⟩ : ∃ cs, cs = olds.toArray ++ Builtin.zeroCells z.cells m ++ Builtin.zeroCells z.cells (cap - (len + m)) := ⟨_, rfl⟩
      rw [← hcs] at hrun
      have hsize : cs.size = cap * i.size := by
        rw [hcs, Array.size_append, Array.size_append, size_zeroCells, size_zeroCells, hzsz]
        simp only [List.size_toArray, hnl]
        rw [← Nat.add_mul, ← Nat.add_mul]; congr 1; omega
      have E1 : Ext w κ h clk w.drew κ h clk := Ext.same rfl
      obtain ⟨q1, q2, q3⟩ := row_ok (d := d) (t := e) (n := len + m) (rc := cap) (esz := i.size) (es := sub ob.es off len ++ List.replicate m (zeroT P e)) (cs := cs) (own := True) (tmp := false) (cap := none) H.drew (by simp [hslen])
        (fun l hl => by
          rcases List.mem_append.1 hl with hl | hl
          · exact (hg l hl).1
          · rw [(List.mem_replicate.1 hl).2]; exact hzl) (by rw [hsize]; exact Nat.le_refl _) hge
        (fun e' j' y hy => by
          rcases cellOf_app hy with ⟨q1, q2⟩ | ⟨q1, q2⟩
          · obtain ⟨u, h5, h6⟩ := holds _ _ _ q2
            refine ⟨u, ?_, h6.ext E1⟩
            rw [hcs, Array.getElem?_append_left (by have := (List.getElem?_eq_some_iff.1 h5).1; simp; omega), Array.getElem?_append_left (by have := (List.getElem?_eq_some_iff.1 h5).1; simp; omega)]
            simpa using h5
          · rw [hslen] at q1 q2
            unfold cellOf at q2
            rw [List.getElem?_replicate] at q2
            split at q2
            · rename_i hlt
              simp only [Option.bind_some] at q2
              have hj : j' < i.size := by rw [← hzl]; exact (List.getElem?_eq_some_iff.1 q2).1
              have hb3 : (e' - len) * i.size + j' < m * i.size := by
                have : ((e' - len) + 1) * i.size ≤ m * i.size := Nat.mul_le_mul_right _ hlt
                rw [Nat.add_mul] at this; omega
              have hg2 := zeroCells_get (z := z.cells) (len := m) hzsz hb3
              refine ⟨z.cells.getD j' Go.undef, ?_, (hzc.2 j' y q2).ext E1⟩
              have hidx : e' * i.size + j' = len * i.size + ((e' - len) * i.size + j') := by rw [← Nat.add_assoc, ← Nat.add_mul]; congr 2; omega
              rw [show ((e' - len) * i.size + j') % i.size = j' by rw [Nat.mul_comm, Nat.mul_add_mod, Nat.mod_eq_of_lt hj]] at hg2
              have hsz1 : (Builtin.zeroCells z.cells m).size = m * i.size := by rw [size_zeroCells, hzsz]
              rw [hcs, hidx, Array.getElem?_append_left (by simp [hnl, hsz1]; omega), Array.getElem?_append_right (by simp [hnl])]
              simp only [List.size_toArray, hnl, Nat.add_sub_cancel_left]
              rw [← Array.getElem?_toList]; exact hg2
            · cases q2)
        (fun _ l hl => by
          rcases List.mem_append.1 hl with hl | hl
          · exact hfl l hl
          · rw [(List.mem_replicate.1 hl).2]; exact hznd)
        (fun e' j' y hy => .inl (by
          rcases cellOf_app hy with ⟨q1, q2⟩ | ⟨q1, q2⟩
          · exact hg.cell q2
          · unfold cellOf at q2
            rw [List.getElem?_replicate] at q2
            split at q2
            · exact List.all_eq_true.1 hzst _ (List.mem_of_getElem? q2)
            · cases q2)) (fun _ hh => by cases hh)
      exact ⟨_, _, _, hrun, q1, E1.trans q2, q3⟩
  · cases hk

/-- clear. -/
theorem clr_ok {w0 : World} {P0 : Bs} {t ty e : TypeId} {esz : Nat} {x : AV} {vx : Value} {p : Prop} {h' : Heap} (H : HR w0 P0 w κ h clk) (ht : P.underlying t = some (.slice e)) (hzs : ((P.info? e).bind (·.zero)).isSome = true) (hn : P.cellsOf e = esz)
    (hx : VR w κ h clk x vx) (hk : clrF h esz (zeroT P e) x = some (p, h')) (hp : p) : Makes P w0 P0 (Builtin.clear_ #[t] ty #[vx]) w κ h clk (.tup []) h' clk := by
  unfold clrF at hk
  cases x <;> try (cases hk; done)
  rename_i o v off len cap
  simp only at hk
  cases hc : cur h o v with
  | none => rw [hc] at hk; cases hk
  | some ob =>
    rw [hc] at hk
    simp only [Option.bind_some, Option.some.injEq, Prod.mk.injEq] at hk; obtain ⟨rfl, rfl⟩ := hk
    obtain ⟨hez, hl0, hzl, hzst⟩ := hp
    obtain ⟨ho, _⟩ := cur_some hc
    obtain ⟨z, hzr, hzc⟩ := zeroT_ok (w := w) (κ := κ) (h := h) (clk := clk) hzs
    rcases hx.of_sl hc with ⟨h1, _⟩ | ⟨rc, hre, rfl, hoff, hle, _, _, _⟩
    · exact absurd h1 hl0
    · have hne : ob.es ≠ [] := by intro h0; rw [h0] at hoff; simp at hoff; omega
      have hzsz : z.cells.size = esz := by rw [← hzc.1, hzl]
      have hnl : (Builtin.zeroCells z.cells len).toList.length = (List.replicate len (zeroT P e)).length * esz := by simp [Builtin.zeroCells, hzsz]
      have hget : ∀ i, i < len * esz → (Builtin.zeroCells z.cells len).toList[i]? = some (z.cells.getD (i % esz) Go.undef) := by
        intro i hi
        have hpos : 0 < esz := Nat.pos_of_ne_zero fun h0 => by rw [h0] at hi; omega
        have hm : i % esz < z.cells.size := by rw [hzsz]; exact Nat.mod_lt _ hpos
        have hi2 : i < (Builtin.zeroCells z.cells len).size := by simp [Builtin.zeroCells, hzsz]; exact hi
        rw [Array.getElem?_toList, Array.getElem?_eq_getElem hi2, Array.getD_eq_getD_getElem?, Array.getElem?_eq_getElem hm]
        simp [Builtin.zeroCells, hzsz]
        rw [getElem!_pos z.cells (i % esz) hm]
      have hg : Good (List.replicate len (zeroT P e)) esz := fun q hq => by
        rw [(List.mem_replicate.1 hq).2]; exact ⟨hzl, hzst⟩
      obtain ⟨κ', _, E, k⟩ := put_room (off := off) (xs := List.replicate len (zeroT P e)) (news := (Builtin.zeroCells z.cells len).toList) H hez ho hnl (fun e' j y hy => by
        unfold cellOf at hy
        rw [List.getElem?_replicate] at hy
        split at hy
        · rename_i hlt
          simp only [Option.bind_some] at hy
          have hj : j < esz := by rw [← hzl]; exact (List.getElem?_eq_some_iff.1 hy).1
          have hb : e' * esz + j < len * esz := by
            have : (e' + 1) * esz ≤ len * esz := Nat.mul_le_mul_right _ hlt
            rw [Nat.add_mul] at this; omega
          refine ⟨_, hget _ hb, ?_⟩
          rw [show (e' * esz + j) % esz = j by rw [Nat.mul_comm, Nat.mul_add_mod, Nat.mod_eq_of_lt hj]]
          exact hzc.2 j y hy
        · cases hy) hg (by simp; omega) hne
      refine ⟨.tuple #[], _, κ', ?_, k, E, .tup [] #[] rfl (fun j x hx => by simp at hx)⟩
      obtain ⟨hre2, hblk⟩ := (H.ob o ob ho).blk hne
      rw [hez] at hblk
      have hmul : (off + len) * esz ≤ ob.es.length * esz := Nat.mul_le_mul_right _ (by omega)
      rw [Nat.add_mul] at hmul
      have hone : ∀ u ∈ (Builtin.zeroCells z.cells len).toList, u.oneCell' = true := fun u hu => by
        obtain ⟨i, hi, rfl⟩ := List.mem_iff_getElem.1 hu
        have hi3 : i < len * esz := by simpa [Builtin.zeroCells, hzsz] using hi
        have hi2 := hget i hi3
        rw [List.getElem?_eq_getElem hi] at hi2
        have hpos : 0 < esz := Nat.pos_of_ne_zero fun h0 => by rw [h0] at hi3; omega
        have hm : i % esz < (zeroT P e).length := by rw [hzl]; exact Nat.mod_lt _ hpos
        rw [Option.some.inj hi2]
        exact (hzc.2 (i % esz) _ (List.getElem?_eq_getElem hm)).one (List.all_eq_true.1 hzst _ (List.getElem_mem hm))
      have hst := run_storeCells_cells (P := P) (κ.ι o).1 ((κ.ι o).2 + off * esz) (Builtin.zeroCells z.cells len).toList 0 w (fun j hj => (hblk.cell (by simp [Builtin.zeroCells, hzsz] at hj; omega)).1) (fun j hj => (hblk.cell (by simp [Builtin.zeroCells, hzsz] at hj; omega)).2) hone
      have ea : κ.addr o ob.esz off 0 = at_ (κ.ι o).1 ((κ.ι o).2 + off * esz) := by simp [Cfg.addr, hez]
      rw [ea]
      cases len with
      | zero => exact absurd rfl hl0
      | succ len =>
        simp only [Builtin.clear_, List.getElem?_toArray, List.getElem?_cons_zero, Sem.run_bind, und_run ht, Result.andThen, hzr, hst, Sem.run_pure]
        rfl
end Go.AM

