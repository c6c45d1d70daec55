/- How the relation lives on behind a change of memory. No condition. -/
import Derived.Test.YtpiegccohgdkdaaAmOp10
set_option linter.all false
set_option linter.unusedSimpArgs false
set_option linter.unusedVariables false
set_option linter.deprecated false
namespace Go.AM

structure Ext (w : World) (κ : Cfg) (h : Heap) (clk : Nat) (w' : World) (κ' : Cfg) (h' : Heap) (clk' : Nat) : Prop where
  hclk : clk ≤ clk'
  hcur : ∀ o v ob', v < clk → cur h' o v = some ob' → ∃ ob, cur h o v = some ob ∧ κ'.ι o = κ.ι o ∧ ob'.esz = ob.esz ∧ ob'.es.length = ob.es.length ∧ (κ.re o → κ'.re o) ∧
    (κ.re o → ∀ n, OwnBlk w (κ.ι o).1 n → OwnBlk w' (κ.ι o).1 n)
  hX : ∀ b, κ.X h w b → κ'.X h' w' b ∧ w'.heap[b]? = w.heap[b]?
  hA : κ'.A = κ.A

variable {w w' : World} {κ κ' : Cfg} {h h' : Heap} {clk clk' : Nat}

theorem Ext.ro (E : Ext w κ h clk w' κ' h' clk') {x : AV} {v : Value} (hr : Ro w (κ.X h w) x v) : Ro w' (κ'.X h' w') x v := hr.frame (fun b hb => (E.hX b hb).1) (fun b hb => (E.hX b hb).2)

theorem SlOk.ext {o : Rid} {ob ob' : Ob} {off len : Nat} {cap : Option Nat} {v : Value} (hι : κ'.ι o = κ.ι o) (hz : ob'.esz = ob.esz) (hl : ob'.es.length = ob.es.length) (hre : κ.re o → κ'.re o)
    (hb : κ.re o → ∀ n, OwnBlk w (κ.ι o).1 n → OwnBlk w' (κ.ι o).1 n) (hs : SlOk w κ o ob off len cap v) : SlOk w' κ' o ob' off len cap v := by
  rcases hs with ⟨h0, ha, hc⟩ | ⟨rc, h1, h2, h3, h4, h5, h6, h7⟩
  · exact .inl ⟨h0, ha, fun hn => by rw [hl]; exact hc hn⟩
  · refine .inr ⟨rc, hre h1, ?_, by rw [hl]; exact h3, h4, h5, fun hn => by rw [hl]; exact h6 hn, ?_⟩
    · rw [h2, Cfg.addr, Cfg.addr, hι, hz]
    · rw [hι, hz]; exact hb h1 _ h7

theorem VR.ext (E : Ext w κ h clk w' κ' h' clk') {x : AV} {v : Value} (hv : VR w κ h clk x v) : VR w' κ' h' clk' x v := by
  induction hv with
  | ro x v hr => exact .ro _ _ (E.ro hr)
  | ptr o ver e c v hs hl hp =>
    refine .ptr _ _ _ _ _ hs (Nat.lt_of_lt_of_le hl E.hclk) fun ob' hc => ?_
    obtain ⟨ob, h1, h2, h3, _⟩ := E.hcur o ver ob' hl hc
    rw [hp ob h1, Cfg.addr, Cfg.addr, h2, h3]
  | sl o ver off len cap v hs hl hp =>
    refine .sl _ _ _ _ _ _ hs (Nat.lt_of_lt_of_le hl E.hclk) fun ob' hc => ?_
    obtain ⟨ob, h1, h2, h3, h4, h5, h6⟩ := E.hcur o ver ob' hl hc
    exact (hp ob h1).ext h2 h3 h4 h5 h6
  | eptr cells c blk off val hX hc hr =>
    exact .eptr _ _ blk off val (E.hX _ hX).1 (fun j x hx => by rw [cell_same (E.hX _ hX).2]; exact hc j x hx) (fun j x hx => E.ro (hr j x hx))
  | agg cs vs hl hr ih => exact .agg _ _ hl ih
  | tup cs vs hl hr ih => exact .tup _ _ hl ih
  | fn f cs vs hl hr ih => exact .fn _ _ _ hl ih

theorem CR.ext (E : Ext w κ h clk w' κ' h' clk') {own own' : Prop} {S S' : Bs} {x : AV} {v : Value} (hc : CR w κ h clk own S x v) (hS : own' → ∀ b, S b → S' b) (hw : ∀ b, S b → w'.heap[b]? = w.heap[b]?)
    (ho : own' → own) (hX : ¬ own' → own → ∀ b, S b → κ'.X h' w' b) : CR w' κ' h' clk' own' S' x v := by
  cases x with
  | dat es =>
    refine ⟨fun h1 => (hc.1 (ho h1)).frame (hS h1) hw, fun h1 => ?_⟩
    by_cases h2 : own
    · exact ((hc.1 h2).frame (S' := S) (fun _ hb => hb) hw).ro (hX h1 h2)
    · exact E.ro (hc.2 h2)
  | agg _ => exact hc.elim
  | tup _ => exact hc.elim
  | b _ => exact VR.ext E hc
  | i _ _ => exact VR.ext E hc
  | s _ => exact VR.ext E hc
  | nilp => exact VR.ext E hc
  | nils => exact VR.ext E hc
  | nilf => exact VR.ext E hc
  | undef => exact VR.ext E hc
  | ptr _ _ _ _ => exact VR.ext E hc
  | sl _ _ _ _ _ => exact VR.ext E hc
  | eptr _ _ => exact VR.ext E hc
  | fn _ _ => exact VR.ext E hc

/-- One object anew. -/
def Cfg.put (κ : Cfg) (o : Rid) (blk off : Nat) (F : Nat → Nat → Bs) : Cfg :=
  { ι := fun u => if u = o then (blk, off) else κ.ι u, re := fun u => if u = o then True else κ.re u, F := fun u => if u = o then F else κ.F u, A := κ.A }
theorem put_foot_ne {o u : Rid} {blk off : Nat} {F : Nat → Nat → Bs} (hu : u ≠ o) : (κ.put o blk off F).foot u = κ.foot u := by
  unfold Cfg.foot Cfg.put; simp [hu]
theorem put_foot {o : Rid} {blk off : Nat} {F : Nat → Nat → Bs} {b : Nat} : (κ.put o blk off F).foot o b ↔ b = blk ∨ ∃ e j, F e j b := by
  unfold Cfg.foot Cfg.put; simp

theorem HR.put {w0 : World} {P0 : Bs} {o : Rid} {ob' : Ob} {blk off : Nat} {F : Nat → Nat → Bs} (H : HR w0 P0 w κ h clk) (hclk : clk ≤ clk')
    (hv : clk ≤ ob'.ver ∨ ∃ ob, h o = some ob ∧ ob'.ver = ob.ver ∧ ob'.esz = ob.esz ∧ ob'.es.length = ob.es.length ∧ (blk, off) = κ.ι o)
    (hw : ∀ b, b ≠ blk → w'.heap[b]? = w.heap[b]?) (hsz : w.heap.size ≤ w'.heap.size) (hos : w'.os = w.os ∧ ∀ a, w'.frozen? a = w.frozen? a) (htp : w'.tape = w.tape) (hou : w'.output = w.output)
    (hblk : (w.heap.size ≤ blk ∧ blk < w'.heap.size) ∨ (∃ ob, h o = some ob ∧ κ.re o ∧ (κ.ι o).1 = blk))
    (hob : ∀ n, OwnBlk w blk n → OwnBlk w' blk n)
    (hF : ∀ e j b, F e j b → ∃ ob, h o = some ob ∧ κ.F o e j b) :
    Ext w κ h clk w' (κ.put o blk off F) (hup h o ob') clk' ∧
    (ObR w' (κ.put o blk off F) (hup h o ob') clk' o ob' → HR w0 P0 w' (κ.put o blk off F) (hup h o ob') clk') := by
  have nblk : ∀ b, κ.X h w b → b ≠ blk := by
    rintro b ⟨h1, _, h2⟩ rfl
    rcases hblk with ⟨h3, _⟩ | ⟨ob, h3, h4, h5⟩
    · omega
    · exact h2 o ob h3 (.inl ⟨h4, h5.symm⟩)
  have Fold : ∀ e j b, F e j b → ∃ ob, h o = some ob ∧ κ.foot o b := fun e j b hb => by
    obtain ⟨ob, h1, h2⟩ := hF e j b hb
    exact ⟨ob, h1, .inr ⟨e, j, h2⟩⟩
  have E : Ext w κ h clk w' (κ.put o blk off F) (hup h o ob') clk' := by
    refine ⟨hclk, fun u v ou hvl hc => ?_, fun b hb => ⟨⟨Nat.lt_of_lt_of_le hb.1 hsz, hb.2.1, fun u ou hu hf => ?_⟩, hw b (nblk b hb)⟩, rfl⟩
    · obtain ⟨h1, h2⟩ := cur_some hc
      by_cases hu : u = o
      · subst hu
        rw [hup_at, if_pos rfl] at h1; cases h1
        rcases hv with hv | ⟨ob, h3, h4, h5, h6, h7⟩
        · omega
        · refine ⟨ob, by unfold cur; rw [h3]; simp only; rw [if_pos (by omega)], by simp [Cfg.put, h7], h5, h6, fun _ => by simp [Cfg.put], fun _ n hn => ?_⟩
          rw [← h7] at hn ⊢
          exact hob n hn
      · rw [hup_at, if_neg hu] at h1
        refine ⟨ou, by unfold cur; rw [h1]; simp only; rw [if_pos h2], by simp [Cfg.put, hu], rfl, rfl, fun hh => by simp [Cfg.put, hu, hh], fun hh n hn => ?_⟩
        have : (κ.ι u).1 ≠ blk := by
          intro he
          rcases hblk with ⟨h3, _⟩ | ⟨ob, h3, h4, h5⟩
          · have := (H.base u ou _ h1 (.inl ⟨hh, rfl⟩)).2; omega
          · exact H.apart u o ou ob blk h1 h3 hu (.inl ⟨hh, he.symm⟩) (.inl ⟨h4, h5.symm⟩)
        exact hn.same (hw _ this)
    · by_cases hu' : u = o
      · subst hu'
        rcases put_foot.1 hf with h1 | ⟨e, j, h1⟩
        · exact nblk b hb h1
        · obtain ⟨ob, h2, h3⟩ := Fold e j b h1
          exact hb.2.2 u ob h2 h3
      · rw [put_foot_ne hu'] at hf
        rw [hup_at, if_neg hu'] at hu
        exact hb.2.2 u ou hu hf
  refine ⟨E, fun hO => ⟨fun u ou hu => ?_, fun u u' ou ou' b hu hu' hne hf hf' => ?_, fun u ou b hu hf => ?_, ⟨hos.1.trans H.os.1, fun a => (hos.2 a).trans (H.os.2 a)⟩, by rw [htp, H.tape], by rw [hou, H.output], Nat.le_trans H.size hsz, fun b hb hP => ?_, H.free⟩⟩
  · by_cases huo : u = o
    · subst huo
      rw [hup_at, if_pos rfl] at hu; cases hu
      exact hO
    · rw [hup_at, if_neg huo] at hu
      have R := H.ob u ou hu
      have hblk' : κ.re u → (κ.ι u).1 ≠ blk := by
        intro hh he
        rcases hblk with ⟨h3, _⟩ | ⟨ob, h3, h4, h5⟩
        · have := (H.base u ou _ hu (.inl ⟨hh, rfl⟩)).2; omega
        · exact H.apart u o ou ob blk hu h3 huo (.inl ⟨hh, he.symm⟩) (.inl ⟨h4, h5.symm⟩)
      have hFb : ∀ e j b, κ.F u e j b → b ≠ blk := by
        rintro e j b hb rfl
        rcases hblk with ⟨h3, _⟩ | ⟨ob, h3, h4, h5⟩
        · have := (H.base u ou _ hu (.inr ⟨e, j, hb⟩)).2; omega
        · exact H.apart u o ou ob _ hu h3 huo (.inr ⟨e, j, hb⟩) (.inl ⟨h4, h5.symm⟩)
      refine ⟨Nat.lt_of_lt_of_le R.ver hclk, R.esz, fun hne => ?_, fun e j x hx => ?_, ?_, ?_⟩
      · obtain ⟨h1, h2⟩ := R.blk hne
        refine ⟨by simp [Cfg.put, huo, h1], ?_⟩
        have : (κ.put o blk off F).ι u = κ.ι u := by simp [Cfg.put, huo]
        rw [this]
        exact h2.same (hw _ (hblk' h1))
      · obtain ⟨v, h1, h2⟩ := R.cells e j x hx
        have ha : (κ.put o blk off F).addr u ou.esz e j = κ.addr u ou.esz e j := by simp [Cfg.addr, Cfg.put, huo]
        have hF' : (κ.put o blk off F).F u e j = κ.F u e j := by simp [Cfg.put, huo]
        have hne : ou.es ≠ [] := by
          intro he; unfold cellOf at hx; rw [he] at hx; simp at hx
        refine ⟨v, ?_, ?_⟩
        · rw [ha, Cfg.addr, cell_same (hw _ (hblk' (R.blk hne).1))]; exact h1
        · rw [hF']
          exact h2.ext E (fun _ _ hb => hb) (fun b hb => hw b (hFb e j b hb)) id (fun hn ho => absurd ho hn)
      · intro e j b hb
        have hF' : (κ.put o blk off F).F u e j = κ.F u e j := by simp [Cfg.put, huo]
        have : (κ.put o blk off F).ι u = κ.ι u := by simp [Cfg.put, huo]
        rw [hF'] at hb; rw [this]
        exact R.sep e j b hb
      · intro e j e' j' b hb hb'
        have hF' : ∀ e j, (κ.put o blk off F).F u e j = κ.F u e j := fun e j => by simp [Cfg.put, huo]
        rw [hF'] at hb hb'
        exact R.disj e j e' j' b hb hb'
  · have key : ∀ (u : Rid) (ou : Ob), hup h o ob' u = some ou → u ≠ o → κ.foot u b → (κ.put o blk off F).foot o b → False := by
      intro u ou hu huo gf gf'
      rw [hup_at, if_neg huo] at hu
      rcases put_foot.1 gf' with h1 | ⟨e, j, h1⟩
      · subst h1
        rcases hblk with ⟨h3, _⟩ | ⟨ob, h3, h4, h5⟩
        · have := (H.base u ou b hu gf).2; omega
        · exact H.apart u o ou ob b hu h3 huo gf (.inl ⟨h4, h5.symm⟩)
      · obtain ⟨ob, h2, h3⟩ := Fold e j b h1
        exact H.apart u o ou ob b hu h2 huo gf h3
    by_cases h1 : u = o
    · subst h1
      have h2 : u' ≠ u := fun hh => hne hh.symm
      rw [put_foot_ne h2] at hf'
      exact key u' ou' hu' h2 hf' hf
    · rw [put_foot_ne h1] at hf
      by_cases h2 : u' = o
      · subst h2; exact key u ou hu h1 hf hf'
      · rw [put_foot_ne h2] at hf'
        rw [hup_at, if_neg h1] at hu
        rw [hup_at, if_neg h2] at hu'
        exact H.apart u u' ou ou' b hu hu' hne hf hf'
  · by_cases h1 : u = o
    · subst h1
      rcases put_foot.1 hf with h2 | ⟨e, j, h2⟩
      · subst h2
        rcases hblk with ⟨h3, h4⟩ | ⟨ob, h3, h4, h5⟩
        · exact ⟨.inl (Nat.le_trans H.size h3), h4⟩
        · have := H.base u ob b h3 (.inl ⟨h4, h5.symm⟩)
          exact ⟨this.1, Nat.lt_of_lt_of_le this.2 hsz⟩
      · obtain ⟨ob, h3, h4⟩ := Fold e j b h2
        have := H.base u ob b h3 h4
        exact ⟨this.1, Nat.lt_of_lt_of_le this.2 hsz⟩
    · rw [put_foot_ne h1] at hf
      rw [hup_at, if_neg h1] at hu
      have := H.base u ou b hu hf
      exact ⟨this.1, Nat.lt_of_lt_of_le this.2 hsz⟩
  · have : b ≠ blk := by
      rintro rfl
      rcases hblk with ⟨h3, h4⟩ | ⟨ob, h3, h4, h5⟩
      · have := H.size; omega
      · rcases (H.base o ob b h3 (.inl ⟨h4, h5.symm⟩)).1 with h6 | h6
        · omega
        · exact hP h6
    rw [hw b this]
    exact H.old b hb hP
end Go.AM
