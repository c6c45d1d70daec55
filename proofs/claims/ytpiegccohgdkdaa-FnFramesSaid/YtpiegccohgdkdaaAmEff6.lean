/- append, joined. No condition. -/
import Derived.Test.YtpiegccohgdkdaaAmEff5
set_option linter.all false
set_option linter.unusedSimpArgs false
set_option linter.unusedVariables false
set_option linter.deprecated false
namespace Go.AM
variable {w : World} {κ : Cfg} {h : Heap} {clk : Nat} {P : Program}

theorem cellOf_app {es xs : List (List AV)} {e j : Nat} {y : AV} (hx : cellOf (es ++ xs) e j = some y) : (e < es.length ∧ cellOf es e j = some y) ∨ (es.length ≤ e ∧ cellOf xs (e - es.length) j = some y) := by
  unfold cellOf at *
  by_cases h1 : e < es.length
  · rw [List.getElem?_append_left h1] at hx; exact .inl ⟨h1, hx⟩
  · rw [List.getElem?_append_right (by omega)] at hx; exact .inr ⟨by omega, hx⟩
theorem cellOf_lt {es : List (List AV)} {e j n : Nat} {y : AV} (hz : ∀ e ∈ es, e.length = n) (hx : cellOf es e j = some y) : e < es.length ∧ j < n ∧ e * n + j < es.length * n := by
  unfold cellOf at hx
  cases he : es[e]? with
  | none => rw [he] at hx; cases hx
  | some c =>
    rw [he] at hx
    have h1 : e < es.length := (List.getElem?_eq_some_iff.1 he).1
    have h2 : j < c.length := (List.getElem?_eq_some_iff.1 hx).1
    rw [hz c (List.mem_of_getElem? he)] at h2
    have : (e + 1) * n ≤ es.length * n := Nat.mul_le_mul_right _ h1
    rw [Nat.add_mul] at this
    exact ⟨h1, h2, by omega⟩
theorem Good.wide {es : List (List AV)} {n : Nat} (hg : Good es n) : ∀ e ∈ es, e.length = n := fun e he => (hg e he).1
theorem Good.cell {es : List (List AV)} {n e j : Nat} {y : AV} (hg : Good es n) (hx : cellOf es e j = some y) : y.storable = true := by
  unfold cellOf at hx
  cases he : es[e]? with
  | none => rw [he] at hx; cases hx
  | some c => rw [he] at hx; exact List.all_eq_true.1 (hg c (List.mem_of_getElem? he)).2 y (List.mem_of_getElem? hx)
theorem Flat.cell {es : List (List AV)} {e j : Nat} {y : AV} (hf : Flat es) (hx : cellOf es e j = some y) : y.isDat = false := by
  unfold cellOf at hx
  cases he : es[e]? with
  | none => rw [he] at hx; cases hx
  | some c => rw [he] at hx; exact hf c (List.mem_of_getElem? he) y (List.mem_of_getElem? hx)

/-- There is room. -/
theorem app_room {w0 : World} {P0 : Bs} {t tx ty e : TypeId} {i : TypeInfo} {o : Rid} {ob : Ob} {len rc : Nat} {vx : Value} {xs es' : List (List AV)} {news : List Value} {clk' ver' : Nat}
    (H : HR w0 P0 w κ h clk) (ht : P.underlying t = some (.slice e)) (hi : P.info? e = some i) (hez : ob.esz = i.size) (ho : h o = some ob) (hs : Src P i.size tx vx xs.length news w)
    (hnews : ∀ e j y, cellOf xs e j = some y → ∃ u, news[e * i.size + j]? = some u ∧ VR w κ h clk y u) (hg : Good xs i.size)
    (hre : κ.re o) (hlen : len ≤ ob.es.length) (hrc : len + xs.length ≤ rc) (hblk : OwnBlk w (κ.ι o).1 ((κ.ι o).2 + rc * i.size))
    (hclk : clk ≤ clk') (hver : ver' < clk') (hv : clk ≤ ver' ∨ (ver' = ob.ver ∧ es'.length = ob.es.length))
    (hes : es' = ob.es.take len ++ xs ++ ob.es.drop (len + xs.length)) :
    ∃ w' κ', (Builtin.append_ #[t, tx] ty #[.slice (some (κ.addr o ob.esz 0 0)) len rc, vx]).run P w = .ok (.slice (some (κ'.addr o ob.esz 0 0)) (len + xs.length) rc) w' ∧ κ'.ι o = κ.ι o ∧ κ'.re o ∧
      Ext w κ h clk w' κ' (hup h o { ob with ver := ver', es := es', own := ob.own ∧ Flat xs }) clk' ∧ HR w0 P0 w' κ' (hup h o { ob with ver := ver', es := es', own := ob.own ∧ Flat xs }) clk' ∧ OwnBlk w' (κ.ι o).1 ((κ.ι o).2 + rc * i.size) := by
  have OB := H.ob o ob ho
  have hnl := hs.newsLen
  have hmul : (len + xs.length) * i.size ≤ rc * i.size := Nat.mul_le_mul_right _ hrc
  rw [Nat.add_mul] at hmul
  have hbsz : (κ.ι o).1 < w.heap.size := (H.base o ob _ ho (.inl ⟨hre, rfl⟩)).2
  have hin := World.cell?_setCells_in (κ.ι o).1 news ((κ.ι o).2 + len * i.size) w (fun k hk => (hblk.cell (by omega)).1)
  have hout := World.cell?_setCells_out (κ.ι o).1 news ((κ.ι o).2 + len * i.size) w
  have hrun := run_append_room_src (P := P) w t tx ty e i ht hi (κ.ι o).1 (κ.ι o).2 len rc vx xs.length news hs hrc (fun k hk => (hblk.cell (by omega)).1) (fun k hk => (hblk.cell (by omega)).2)
  have hblk' := setCells_block (o := (κ.ι o).2 + len * i.size) (vs := news) hblk _ hblk
  have hz' : ∀ l ∈ es', l.length = ob.esz := fun l hl => by
    rw [hes] at hl
    simp only [List.mem_append] at hl
    rcases hl with (hl | hl) | hl
    · exact OB.esz l (List.mem_of_mem_take hl)
    · rw [hez]; exact (hg l hl).1
    · exact OB.esz l (List.mem_of_mem_drop hl)
  have etl : (ob.es.take len).length = len := by simp; omega
  have hle' : es'.length ≤ max ob.es.length (len + xs.length) := by rw [hes]; simp; omega
  obtain ⟨κ', k1, k2, E, k⟩ := H.write (w' := w.setCells (κ.ι o).1 ((κ.ι o).2 + len * i.size) news) (clk' := clk') (es' := es') (own' := ob.own ∧ Flat xs) (ver' := ver')
    (blk := (κ.ι o).1) (off := (κ.ι o).2) ho hclk hver (by rcases hv with h1 | h1
                                                           · exact .inl h1
                                                           · exact .inr ⟨h1.1, h1.2, rfl⟩) hz'
    (fun b hb => by
      by_cases hbs : b < w.heap.size
      · exact World.heap_setCells_other w _ _ _ hbs hb
      · have hs2 := setCells_size (κ.ι o).1 ((κ.ι o).2 + len * i.size) news w
        rw [Array.getElem?_eq_none (by omega), Array.getElem?_eq_none (by omega)])
    (by rw [setCells_size]; exact Nat.le_refl _) ⟨World.os_setCells _ _ _ _, World.frozen?_setCells _ _ _ _⟩ (setCells_tape _ _ _ _) (World.output_setCells _ _ _ _) (.inr ⟨hre, rfl⟩) (fun m k => setCells_block k m k)
    (fun _ => by
      by_cases h1 : ob.es = []
      · refine hblk'.mono ?_
        rw [hez]
        have : es'.length ≤ rc := by rw [h1] at hle'; simp at hle'; omega
        have := Nat.mul_le_mul_right i.size this
        omega
      · have h2 := setCells_block (o := (κ.ι o).2 + len * i.size) (vs := news) (OB.blk h1).2 _ (OB.blk h1).2
        by_cases h3 : es'.length ≤ ob.es.length
        · exact h2.mono (by have := Nat.mul_le_mul_right ob.esz h3; omega)
        · refine hblk'.mono ?_
          rw [hez]
          have : es'.length ≤ rc := by omega
          have := Nat.mul_le_mul_right i.size this
          omega) (fun hh => hh.1)
    (fun e' j' x hx => by
      obtain ⟨hb1, hb2, _⟩ := cellOf_lt hz' hx
      rw [hes] at hx
      rcases cellOf_app hx with ⟨h1, h2⟩ | ⟨h1, h2⟩
      · rcases cellOf_app h2 with ⟨h3, h4⟩ | ⟨h3, h4⟩
        · refine .inl ⟨?_, fun u hu => ?_⟩
          · unfold cellOf at h4 ⊢
            rwa [List.getElem?_take_of_lt (by omega)] at h4
          · rw [hout _ (fun _ _ => .inl (by
              have : (e' + 1) * i.size ≤ len * i.size := Nat.mul_le_mul_right _ (by omega)
              rw [Nat.add_mul] at this
              simp only [hez] at *; omega))]
            exact hu
        · rw [etl] at h3 h4
          obtain ⟨u, h5, h6⟩ := hnews _ _ _ h4
          refine .inr ⟨u, ?_, h6, .inl (hg.cell h4), fun hh => hh.2.cell h4⟩
          have h7 := (List.getElem?_eq_some_iff.1 h5)
          obtain ⟨h8, h9⟩ := h7
          have h10 := hin _ h8
          rw [h9] at h10
          rw [← h10]; congr 2
          rw [hez]
          have : e' * i.size = len * i.size + (e' - len) * i.size := by rw [← Nat.add_mul]; congr 1; omega
          omega
      · simp only [List.length_append, etl] at h1 h2
        refine .inl ⟨?_, fun u hu => ?_⟩
        · unfold cellOf at h2 ⊢
          rw [List.getElem?_drop, show len + xs.length + (e' - (len + xs.length)) = e' by omega] at h2
          exact h2
        · rw [hout _ (fun _ _ => .inr (by
            have : (len + xs.length) * i.size ≤ e' * i.size := Nat.mul_le_mul_right _ h1
            rw [Nat.add_mul] at this
            simp only [hez] at *; omega))]
          exact hu)
  refine ⟨_, κ', ?_, k1, k2, E, k, hblk'⟩
  have e1 : κ.addr o ob.esz 0 0 = at_ (κ.ι o).1 (κ.ι o).2 := by simp [Cfg.addr]
  have e2 : κ'.addr o ob.esz 0 0 = at_ (κ.ι o).1 (κ.ι o).2 := by simp [Cfg.addr, k1]
  rw [e1, e2]
  exact hrun
end Go.AM
