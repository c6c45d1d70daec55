/- append. No condition. -/
import Derived.Test.YtbhdjaccdaccbaaGreatAmG10
import Derived.Deep.AppendSrc
set_option linter.all false
set_option linter.unusedSimpArgs false
set_option linter.unusedVariables false
set_option linter.deprecated false
/-! Eff5 -/
section
namespace Go.AM
variable {w : World} {κ : Cfg} {h : Heap} {clk : Nat} {P : Program}

theorem Ext.same {w' : World} (hh : w'.heap = w.heap) : Ext w κ h clk w' κ h clk := by
  refine ⟨Nat.le_refl _, fun o v ob' _ hc => ⟨ob', hc, rfl, rfl, rfl, fun k => k, fun _ n k => k.same (by rw [hh])⟩, fun b hb => ⟨⟨by rw [hh]; exact hb.1, hb.2⟩, by rw [hh]⟩, rfl⟩
theorem Ext.trans {w1 w2 w3 : World} {κ1 κ2 κ3 : Cfg} {h1 h2 h3 : Heap} {c1 c2 c3 : Nat} (E : Ext w1 κ1 h1 c1 w2 κ2 h2 c2) (E' : Ext w2 κ2 h2 c2 w3 κ3 h3 c3) : Ext w1 κ1 h1 c1 w3 κ3 h3 c3 := by
  refine ⟨Nat.le_trans E.hclk E'.hclk, fun o v ob' hv hc => ?_, fun b hb => ?_, ?_⟩
  · obtain ⟨ob2, a1, a2, a3, a4, a5, a6⟩ := E'.hcur o v ob' (Nat.lt_of_lt_of_le hv E.hclk) hc
    obtain ⟨ob1, b1, b2, b3, b4, b5, b6⟩ := E.hcur o v ob2 hv a1
    exact ⟨ob1, b1, a2.trans b2, a3.trans b3, a4.trans b4, fun k => a5 (b5 k), fun k n kn => by
      have := a6 (b5 k) n (by rw [b2]; exact b6 k n kn)
      rwa [b2] at this⟩
  · obtain ⟨a1, a2⟩ := E.hX b hb
    obtain ⟨b1, b2⟩ := E'.hX b a1
    exact ⟨b1, b2.trans a2⟩
  · exact E'.hA.trans E.hA
theorem HR.drew {w0 : World} {P0 : Bs} (H : HR w0 P0 w κ h clk) : HR w0 P0 w.drew κ h clk := by
  have E : Ext w κ h clk w.drew κ h clk := Ext.same rfl
  exact ⟨fun o ob ho => ⟨(H.ob o ob ho).ver, (H.ob o ob ho).esz, fun hn => ⟨((H.ob o ob ho).blk hn).1, ((H.ob o ob ho).blk hn).2.same rfl⟩, fun e j x hx => by
      obtain ⟨v, h1, h2⟩ := (H.ob o ob ho).cells e j x hx
      exact ⟨v, h1, h2.ext E (fun _ _ hb => hb) (fun _ _ => rfl) (fun k => k) (fun h3 h4 => (h3 h4).elim)⟩, (H.ob o ob ho).sep, (H.ob o ob ho).disj⟩,
    H.apart, H.base, H.os, H.tape, H.output, H.size, H.old, H.free, H.glob⟩

/-- Elements that lie behind an address. -/
theorem rowSrc {esz blk off cap : Nat} {tx : TypeId} {xs : List (List AV)} (hk : ∃ e', P.underlying tx = some (.slice e') ∨ P.underlying tx = some .string) (hg : Good xs esz)
    (hc : ∀ e j y, cellOf xs e j = some y → ∃ u, w.cell? (at_ blk (off + e * esz + j)) = some u ∧ VR w κ h clk y u) :
    ∃ news, Src P esz tx (.slice (some (at_ blk off)) xs.length cap) xs.length news w ∧ ∀ e j y, cellOf xs e j = some y → ∃ u, news[e * esz + j]? = some u ∧ VR w κ h clk y u := by
  have key : ∀ i, i < xs.length * esz → ∃ y u, cellOf xs (i / esz) (i % esz) = some y ∧ y.storable = true ∧ w.cell? (at_ blk (off + i)) = some u ∧ VR w κ h clk y u := by
    intro i hi
    have hpos : 0 < esz := Nat.pos_of_ne_zero fun h0 => by rw [h0] at hi; omega
    have h1 : i / esz < xs.length := by rw [Nat.div_lt_iff_lt_mul hpos]; exact hi
    have h2 := hg xs[i / esz] (List.getElem_mem h1)
    have h3 : i % esz < (xs[i / esz]).length := by rw [h2.1]; exact Nat.mod_lt _ hpos
    have h4 := cellOf_some (List.getElem?_eq_getElem h1) (List.getElem?_eq_getElem h3)
    obtain ⟨u, h5, h6⟩ := hc _ _ _ h4
    refine ⟨_, u, h4, List.all_eq_true.1 h2.2 _ (List.getElem_mem h3), ?_, h6⟩
    rw [← h5]; congr 2
    have := Nat.div_add_mod i esz
    rw [Nat.mul_comm] at this; omega
  obtain ⟨news, hn⟩ : ∃ news, news = (List.range (xs.length * esz)).map fun i => (w.cell? (at_ blk (off + i))).getD Go.undef := ⟨_, rfl⟩
  have hlen : news.length = xs.length * esz := by rw [hn]; simp
  have hget : ∀ i u, news[i]? = some u → w.cell? (at_ blk (off + i)) = some u ∧ u.oneCell' = true := by
    intro i u hu
    rw [hn, List.getElem?_map] at hu
    have hi : i < xs.length * esz := by
      rcases Nat.lt_or_ge i (xs.length * esz) with h1 | h1
      · exact h1
      · rw [List.getElem?_eq_none (by simpa using h1)] at hu; cases hu
    rw [List.getElem?_range hi] at hu
    obtain ⟨y, u', _, h2, h3, h4⟩ := key i hi
    simp only [Option.map_some, h3, Option.getD_some, Option.some.injEq] at hu
    subst hu
    exact ⟨h3, h4.one h2⟩
  have hone : ∀ u ∈ news, u.oneCell' = true := fun u hu => by
    obtain ⟨i, hi, rfl⟩ := List.mem_iff_getElem.1 hu
    exact (hget i _ (List.getElem?_eq_getElem hi)).2
  have hcl : ∀ j u, news[j]? = some u → w.cell? ((at_ blk off).add j) = some u := fun j u hu => by rw [addr_add]; exact (hget j u hu).1
  refine ⟨news, ⟨?_, fun _ => rfl, run_firstCells_some w esz _ _ _ cap news hlen hcl, run_firstCells_some w.drew esz _ _ _ cap news hlen (by simpa using hcl), hlen, hone⟩, fun e j y hy => ?_⟩
  · obtain ⟨e', h1 | h1⟩ := hk
    · exact .inl ⟨e', h1⟩
    · exact .inr h1
  · obtain ⟨u, h1, h2⟩ := hc e j y hy
    refine ⟨u, ?_, h2⟩
    have hb : e * esz + j < xs.length * esz := by
      unfold cellOf at hy
      cases he : xs[e]? with
      | none => rw [he] at hy; cases hy
      | some c =>
        rw [he] at hy
        have h3 : e < xs.length := (List.getElem?_eq_some_iff.1 he).1
        have h4 : j < c.length := (List.getElem?_eq_some_iff.1 hy).1
        rw [(hg c (List.mem_of_getElem? he)).1] at h4
        have : (e + 1) * esz ≤ xs.length * esz := Nat.mul_le_mul_right _ h3
        rw [Nat.add_mul] at this; omega
    rw [hn, List.getElem?_map, List.getElem?_range hb]
    simp only [Option.map_some, Option.some.injEq]
    rw [show off + (e * esz + j) = off + e * esz + j by omega, h1]; rfl

theorem src_ok {esz : Nat} {tx : TypeId} {x : AV} {vx : Value} {px : Prop} {xs : List (List AV)} (hO : ∀ o ob, h o = some ob → ObR w κ h clk o ob) (hk : ∃ e', P.underlying tx = some (.slice e') ∨ P.underlying tx = some .string)
    (hx : VR w κ h clk x vx) (hs : srcF h esz x = some (px, xs)) (hp : px) :
    Good xs esz ∧ ∃ news, Src P esz tx vx xs.length news w ∧ ∀ e j y, cellOf xs e j = some y → ∃ u, news[e * esz + j]? = some u ∧ VR w κ h clk y u := by
  have hk' : (∃ e', P.underlying tx = some (.slice e')) ∨ P.underlying tx = some .string := by
    obtain ⟨e', h1 | h1⟩ := hk
    · exact .inl ⟨e', h1⟩
    · exact .inr h1
  have empty : ∀ a cap, Src P esz tx (.slice a 0 cap) 0 [] w := fun a cap => by
    cases a with
    | none => exact ⟨hk', fun _ => rfl, run_firstCells_none w esz 0 0 cap, run_firstCells_none w.drew esz 0 0 cap, by simp, fun _ h => by cases h⟩
    | some a => exact ⟨hk', fun _ => rfl, run_firstCells_some w esz 0 a 0 cap [] (by simp) (by simp), run_firstCells_some w.drew esz 0 a 0 cap [] (by simp) (by simp), by simp, fun _ h => by cases h⟩
  have nocell : ∀ (e j : Nat) (y : AV), cellOf ([] : List (List AV)) e j = some y → ∃ u, ([] : List Value)[e * esz + j]? = some u ∧ VR w κ h clk y u := fun e j y hy => by simp [cellOf] at hy
  cases x with
  | nils =>
    simp only [srcF, Option.some.injEq, Prod.mk.injEq] at hs; obtain ⟨rfl, rfl⟩ := hs
    have := hx.of_nils; subst this
    exact ⟨fun _ hh => (by cases hh), [], empty _ _, nocell⟩
  | dat z es =>
    simp only [srcF, Option.some.injEq, Prod.mk.injEq] at hs; obtain ⟨rfl, rfl⟩ := hs
    refine ⟨hp, ?_⟩
    have hr := hx.of_dat
    cases hr with
    | dat0 _ a cap => exact ⟨[], empty _ _, nocell⟩
    | dat _ blk off cap _ val hX hl hz hc hr =>
      refine rowSrc hk hp fun e j y hy => ⟨val e j, ?_, .ro _ _ (hr e j y hy)⟩
      have hez : z = esz := by
        unfold cellOf at hy
        cases he : es[e]? with
        | none => rw [he] at hy; cases hy
        | some c => rw [← hz c (List.mem_of_getElem? he), (hp c (List.mem_of_getElem? he)).1]
      rw [← hez]; exact hc e j y hy
  | s l =>
    simp only [srcF, Option.some.injEq, Prod.mk.injEq] at hs; obtain ⟨rfl, rfl⟩ := hs
    cases hp
    have := hx.of_s; subst this
    refine ⟨fun e he => ?_, (byteCells ⟨l.toArray⟩), ?_, fun e j y hy => ?_⟩
    · have he2 := List.mem_map.1 he
      obtain ⟨b, hb⟩ := he2
      rw [← hb.2]; exact ⟨rfl, rfl⟩
    · have e1 : (l.map fun b => [AV.i .u8 (b.toNat : Int)]).length = (⟨l.toArray⟩ : ByteArray).size := by simp [ByteArray.size]
      rw [e1]
      exact ⟨hk', fun _ => rfl, firstCells_string _ w, firstCells_string _ w.drew, by rw [byteCells_length, Nat.mul_one], fun u hu => by
        obtain ⟨b, _, hb⟩ := List.mem_map.1 hu
        rw [← hb]; rfl⟩
    · unfold cellOf at hy
      rw [List.getElem?_map] at hy
      cases he : l[e]? with
      | none => rw [he] at hy; cases hy
      | some b =>
        rw [he] at hy
        cases j with
        | succ j => simp at hy
        | zero =>
          simp at hy; subst hy
          exact ⟨.int .u8 b.toNat, by simp [byteCells, he], .mk_i _ _⟩
  | sl o ver off len cap =>
    unfold srcF at hs
    cases hc : cur h o ver with
    | none => simp [hc] at hs
    | some ob =>
      simp only [hc, Option.bind_some, Option.some.injEq, Prod.mk.injEq] at hs; obtain ⟨rfl, rfl⟩ := hs
      obtain ⟨hez, hp⟩ := hp
      refine ⟨hp.2, ?_⟩
      rcases hx.of_sl hc with ⟨rfl, ⟨a, rfl⟩, _⟩ | ⟨rc, _, rfl, hoff, _⟩
      · have e1 : sub ob.es off 0 = [] := by
          by_cases h1 : off ≤ ob.es.length
          · exact sub_zero h1
          · unfold sub; rw [if_neg (by omega)]; simp
        rw [e1]
        exact ⟨[], empty _ _, nocell⟩
      · have hl := sub_length hoff
        have hq : ∀ e j y, cellOf (sub ob.es off len) e j = some y → ∃ u, w.cell? (at_ (κ.ι o).1 ((κ.ι o).2 + off * ob.esz + 0 + e * esz + j)) = some u ∧ VR w κ h clk y u := by
          intro e j y hy
          obtain ⟨_, h2⟩ := sub_cell hoff hy
          obtain ⟨u, h3, h4⟩ := (hO o ob (cur_some hc).1).cells _ _ _ h2
          refine ⟨u, ?_, h4.vr_flat fun hown => ?_⟩
          · rw [← h3, Cfg.addr]; congr 2; rw [hez, Nat.add_mul]; omega
          · unfold cellOf at hy
            cases he : (sub ob.es off len)[e]? with
            | none => rw [he] at hy; cases hy
            | some c => rw [he] at hy; exact hp.1 hown c (List.mem_of_getElem? he) y (List.mem_of_getElem? hy)
        have := rowSrc (cap := rc) hk hp.2 hq
        rw [hl] at this ⊢
        exact this
  | _ => simp [srcF] at hs
end Go.AM
end
/-! Eff6 -/
section
namespace Go.AM
variable {w : World} {κ : Cfg} {h : Heap} {clk : Nat} {P : Program}

theorem cellOf_app {es xs : List (List AV)} {e j : Nat} {y : AV} (hx : cellOf (es ++ xs) e j = some y) : (e < es.length ∧ cellOf es e j = some y) ∨ (es.length ≤ e ∧ cellOf xs (e - es.length) j = some y) := by
  unfold cellOf at *
  by_cases h1 : e < es.length
  · rw [List.getElem?_append_left h1] at hx; exact .inl ⟨h1, hx⟩
  · rw [List.getElem?_append_right (by omega)] at hx; exact .inr ⟨by omega, hx⟩
theorem cellOf_lt {es : List (List AV)} {e j n : Nat} {y : AV} (hz : ∀ e ∈ es, e.length = n) (hx : cellOf es e j = some y) : e < es.length ∧ j < n ∧ e * n + j < es.length * n := by
  unfold cellOf at hx
  cases he : es[e]? with
  | none => rw [he] at hx; cases hx
  | some c =>
    rw [he] at hx
    have h1 : e < es.length := (List.getElem?_eq_some_iff.1 he).1
    have h2 : j < c.length := (List.getElem?_eq_some_iff.1 hx).1
    rw [hz c (List.mem_of_getElem? he)] at h2
    have : (e + 1) * n ≤ es.length * n := Nat.mul_le_mul_right _ h1
    rw [Nat.add_mul] at this
    exact ⟨h1, h2, by omega⟩
theorem Good.wide {es : List (List AV)} {n : Nat} (hg : Good es n) : ∀ e ∈ es, e.length = n := fun e he => (hg e he).1
theorem Good.cell {es : List (List AV)} {n e j : Nat} {y : AV} (hg : Good es n) (hx : cellOf es e j = some y) : y.storable = true := by
  unfold cellOf at hx
  cases he : es[e]? with
  | none => rw [he] at hx; cases hx
  | some c => rw [he] at hx; exact List.all_eq_true.1 (hg c (List.mem_of_getElem? he)).2 y (List.mem_of_getElem? hx)
theorem Flat.cell {es : List (List AV)} {e j : Nat} {y : AV} (hf : Flat es) (hx : cellOf es e j = some y) : y.isDat = false := by
  unfold cellOf at hx
  cases he : es[e]? with
  | none => rw [he] at hx; cases hx
  | some c => rw [he] at hx; exact hf c (List.mem_of_getElem? he) y (List.mem_of_getElem? hx)

/-- There is room. -/
theorem app_room {w0 : World} {P0 : Bs} {t tx ty e : TypeId} {i : TypeInfo} {o : Rid} {ob : Ob} {len rc : Nat} {vx : Value} {xs es' : List (List AV)} {news : List Value} {clk' ver' : Nat}
    (H : HR w0 P0 w κ h clk) (ht : P.underlying t = some (.slice e)) (hi : P.info? e = some i) (hez : ob.esz = i.size) (ho : h o = some ob) (hs : Src P i.size tx vx xs.length news w)
    (hnews : ∀ e j y, cellOf xs e j = some y → ∃ u, news[e * i.size + j]? = some u ∧ VR w κ h clk y u) (hg : Good xs i.size)
    (hre : κ.re o) (hlen : len ≤ ob.es.length) (hrc : len + xs.length ≤ rc) (hblk : OwnBlk w (κ.ι o).1 ((κ.ι o).2 + rc * i.size))
    (hclk : clk ≤ clk') (hver : ver' < clk') (hv : clk ≤ ver' ∨ (ver' = ob.ver ∧ es'.length = ob.es.length))
    (hes : es' = ob.es.take len ++ xs ++ ob.es.drop (len + xs.length)) :
    ∃ w' κ', (Builtin.append_ #[t, tx] ty #[.slice (some (κ.addr o ob.esz 0 0)) len rc, vx]).run P w = .ok (.slice (some (κ'.addr o ob.esz 0 0)) (len + xs.length) rc) w' ∧ κ'.ι o = κ.ι o ∧ κ'.re o ∧
      Ext w κ h clk w' κ' (hup h o { ob with ver := ver', es := es', own := ob.own ∧ Flat xs }) clk' ∧ HR w0 P0 w' κ' (hup h o { ob with ver := ver', es := es', own := ob.own ∧ Flat xs }) clk' ∧ OwnBlk w' (κ.ι o).1 ((κ.ι o).2 + rc * i.size) := by
  have OB := H.ob o ob ho
  have hnl := hs.newsLen
  have hmul : (len + xs.length) * i.size ≤ rc * i.size := Nat.mul_le_mul_right _ hrc
  rw [Nat.add_mul] at hmul
  have hbsz : (κ.ι o).1 < w.heap.size := (H.base o ob _ ho (.inl ⟨hre, rfl⟩)).2
  have hin := World.cell?_setCells_in (κ.ι o).1 news ((κ.ι o).2 + len * i.size) w (fun k hk => (hblk.cell (by omega)).1)
  have hout := World.cell?_setCells_out (κ.ι o).1 news ((κ.ι o).2 + len * i.size) w
  have hrun := run_append_room_src (P := P) w t tx ty e i ht hi (κ.ι o).1 (κ.ι o).2 len rc vx xs.length news hs hrc (fun k hk => (hblk.cell (by omega)).1) (fun k hk => (hblk.cell (by omega)).2)
  have hblk' := setCells_block (o := (κ.ι o).2 + len * i.size) (vs := news) hblk _ hblk
  have hz' : ∀ l ∈ es', l.length = ob.esz := fun l hl => by
    rw [hes] at hl
    simp only [List.mem_append] at hl
    rcases hl with (hl | hl) | hl
    · exact OB.esz l (List.mem_of_mem_take hl)
    · rw [hez]; exact (hg l hl).1
    · exact OB.esz l (List.mem_of_mem_drop hl)
  have etl : (ob.es.take len).length = len := by simp; omega
  have hle' : es'.length ≤ max ob.es.length (len + xs.length) := by rw [hes]; simp; omega
  obtain ⟨κ', k1, k2, E, k⟩ := H.write (w' := w.setCells (κ.ι o).1 ((κ.ι o).2 + len * i.size) news) (clk' := clk') (es' := es') (own' := ob.own ∧ Flat xs) (ver' := ver')
    (blk := (κ.ι o).1) (off := (κ.ι o).2) ho hclk hver (by rcases hv with h1 | h1
                                                           · exact .inl h1
                                                           · exact .inr ⟨h1.1, h1.2, rfl⟩) hz'
    (fun b hb => by
      by_cases hbs : b < w.heap.size
      · exact World.heap_setCells_other w _ _ _ hbs hb
      · have hs2 := setCells_size (κ.ι o).1 ((κ.ι o).2 + len * i.size) news w
        rw [Array.getElem?_eq_none (by omega), Array.getElem?_eq_none (by omega)])
    (by rw [setCells_size]; exact Nat.le_refl _) ⟨World.os_setCells _ _ _ _, World.frozen?_setCells _ _ _ _⟩ (setCells_tape _ _ _ _) (World.output_setCells _ _ _ _) (.inr ⟨hre, rfl⟩) (fun m k => setCells_block k m k)
    (fun _ => by
      by_cases h1 : ob.es = []
      · refine hblk'.mono ?_
        rw [hez]
        have : es'.length ≤ rc := by rw [h1] at hle'; simp at hle'; omega
        have := Nat.mul_le_mul_right i.size this
        omega
      · have h2 := setCells_block (o := (κ.ι o).2 + len * i.size) (vs := news) (OB.blk h1).2 _ (OB.blk h1).2
        by_cases h3 : es'.length ≤ ob.es.length
        · exact h2.mono (by have := Nat.mul_le_mul_right ob.esz h3; omega)
        · refine hblk'.mono ?_
          rw [hez]
          have : es'.length ≤ rc := by omega
          have := Nat.mul_le_mul_right i.size this
          omega) (fun hh => hh.1)
    (fun e' j' x hx => by
      obtain ⟨hb1, hb2, _⟩ := cellOf_lt hz' hx
      rw [hes] at hx
      rcases cellOf_app hx with ⟨h1, h2⟩ | ⟨h1, h2⟩
      · rcases cellOf_app h2 with ⟨h3, h4⟩ | ⟨h3, h4⟩
        · refine .inl ⟨?_, fun u hu => ?_⟩
          · unfold cellOf at h4 ⊢
            rwa [List.getElem?_take_of_lt (by omega)] at h4
          · rw [hout _ (fun _ _ => .inl (by
              have : (e' + 1) * i.size ≤ len * i.size := Nat.mul_le_mul_right _ (by omega)
              rw [Nat.add_mul] at this
              simp only [hez] at *; omega))]
            exact hu
        · rw [etl] at h3 h4
          obtain ⟨u, h5, h6⟩ := hnews _ _ _ h4
          refine .inr ⟨u, ?_, h6, .inl (hg.cell h4), fun hh => hh.2.cell h4⟩
          have h7 := (List.getElem?_eq_some_iff.1 h5)
          obtain ⟨h8, h9⟩ := h7
          have h10 := hin _ h8
          rw [h9] at h10
          rw [← h10]; congr 2
          rw [hez]
          have : e' * i.size = len * i.size + (e' - len) * i.size := by rw [← Nat.add_mul]; congr 1; omega
          omega
      · simp only [List.length_append, etl] at h1 h2
        refine .inl ⟨?_, fun u hu => ?_⟩
        · unfold cellOf at h2 ⊢
          rw [List.getElem?_drop, show len + xs.length + (e' - (len + xs.length)) = e' by omega] at h2
          exact h2
        · rw [hout _ (fun _ _ => .inr (by
            have : (len + xs.length) * i.size ≤ e' * i.size := Nat.mul_le_mul_right _ h1
            rw [Nat.add_mul] at this
            simp only [hez] at *; omega))]
          exact hu)
  refine ⟨_, κ', ?_, k1, k2, E, k, hblk'⟩
  have e1 : κ.addr o ob.esz 0 0 = at_ (κ.ι o).1 (κ.ι o).2 := by simp [Cfg.addr]
  have e2 : κ'.addr o ob.esz 0 0 = at_ (κ.ι o).1 (κ.ι o).2 := by simp [Cfg.addr, k1]
  rw [e1, e2]
  exact hrun
end Go.AM
end
/-! Eff7 -/
section
namespace Go.AM
variable {w : World} {κ : Cfg} {h : Heap} {clk : Nat} {P : Program}

theorem two {β : Type} {olds news zs : List β} {k j : Nat} {v : β} (hk : olds.length = k) (hj : news[j]? = some v) : (olds ++ news ++ zs)[k + j]? = some v := by
  have h1 : j < news.length := (List.getElem?_eq_some_iff.1 hj).1
  rw [List.append_assoc, List.getElem?_append_right (by omega), List.getElem?_append_left (by omega), hk, show k + j - k = j by omega]
  exact hj

theorem app_grow {w0 : World} {P0 : Bs} {t tx ty e : TypeId} {i : TypeInfo} {z : Value} {o : Rid} {ob : Ob} {base : Option Addr} {rc : Nat} {vx : Value} {xs : List (List AV)} {news olds : List Value} {v : Value}
    (H : HR w0 P0 w κ h clk) (ht : P.underlying t = some (.slice e)) (hi : P.info? e = some i) (hz : i.zero = some z) (hzl : z.cells.size = i.size) (hez : ob.esz = i.size) (ho : h o = some ob) (hs : Src P i.size tx vx xs.length news w)
    (hnews : ∀ e j y, cellOf xs e j = some y → ∃ u, news[e * i.size + j]? = some u ∧ VR w κ h clk y u) (hg : Good xs i.size)
    (hold : (Builtin.firstCells i.size ob.es.length (.slice base ob.es.length rc)).run P w.drew = .ok olds.toArray w.drew) (hol : olds.length = ob.es.length * i.size)
    (holds : ∀ e j x, cellOf ob.es e j = some x → ∀ u, w.cell? (κ.addr o ob.esz e j) = some u → olds[e * i.size + j]? = some u)
    (hrc : rc < ob.es.length + xs.length) (h63 : ob.es.length + xs.length ≤ 9223372036854775807) (hbig : bigOk (ob.es.length + xs.length) i.bytes) (hv : v = .slice base ob.es.length rc) :
    Makes P w0 P0 (Builtin.append_ #[t, tx] ty #[v, vx]) w κ h clk (.sl o clk 0 (ob.es.length + xs.length) none) (hup h o { ob with ver := clk, es := ob.es ++ xs, own := ob.own ∧ Flat xs }) (clk + 1) := by
  have OB := H.ob o ob ho
  have hrun := run_append_grow_src (P := P) w t tx ty e i z ht hi hz base ob.es.length rc olds hold vx xs.length news hs hrc (by omega) (growslice_fits hrc hbig)
  generalize hcap : grownCap w (ob.es.length + xs.length) rc e = cap at hrun
  have hge : ob.es.length + xs.length ≤ cap := by rw [← hcap]; exact grownCap_ge _ _ _ _
  obtain ⟨cs, hcs⟩ : ∃ cs, cs = (olds ++ news).toArray ++ Builtin.zeroCells z.cells (cap - (ob.es.length + xs.length)) := ⟨_, rfl⟩
  rw [← hcs] at hrun
  have hnl := hs.newsLen
  have hsize : cs.size = cap * i.size := by
    rw [hcs, Array.size_append, size_zeroCells, hzl]
    simp only [List.size_toArray, List.length_append, hol, hnl]
    rw [← Nat.add_mul, ← Nat.add_mul]; congr 1; omega
  have hget : ∀ k u, (olds ++ news)[k]? = some u → cs[k]? = some u := fun k u hk => by
    have h1 : k < (olds ++ news).length := (List.getElem?_eq_some_iff.1 hk).1
    rw [hcs, Array.getElem?_append_left (by simpa using h1)]
    simpa using hk
  have E1 : Ext w κ h clk w.drew κ h clk := Ext.same rfl
  have hz' : ∀ l ∈ ob.es ++ xs, l.length = ob.esz := fun l hl => by
    rcases List.mem_append.1 hl with hl | hl
    · exact OB.esz l hl
    · rw [hez]; exact (hg l hl).1
  have hcell : ∀ j, (w.drew.alloc (.cells cs e)).cell? (at_ w.heap.size j) = cs[j]? := fun j => alloc_cell w.drew cs e j
  have hown := ownBlk_alloc w.drew cs e
  obtain ⟨κ', k1, k2, E, k⟩ := H.drew.write (w' := w.drew.alloc (.cells cs e)) (clk' := clk + 1) (es' := ob.es ++ xs) (own' := ob.own ∧ Flat xs) (ver' := clk) (blk := w.heap.size) (off := 0) ho (Nat.le_succ _) (Nat.lt_succ_self _) (.inl (Nat.le_refl _)) hz'
    (fun b hb => alloc_same w.drew _ b hb) (by simp [-World.alloc_eq, World.alloc]) ⟨rfl, RowKit.frozen?_alloc_cells _ _ _⟩ rfl rfl (.inl ⟨Nat.le_refl _, by simp [-World.alloc_eq, World.alloc]⟩) (fun n ⟨c, t', f, h1, _⟩ => by simp at h1)
    (fun _ => hown.mono (by rw [hsize, hez, Nat.zero_add]; exact Nat.mul_le_mul_right _ (by simpa using hge))) (fun hh => hh.1)
    (fun e' j' x hx => by
      rw [Nat.zero_add]
      obtain ⟨hb1, hb2, _⟩ := cellOf_lt hz' hx
      rcases cellOf_app hx with ⟨h1, h2⟩ | ⟨h1, h2⟩
      · refine .inl ⟨h2, fun u hu => ?_⟩
        rw [hcell, hez]
        refine hget _ _ ?_
        have h3 := holds e' j' x h2 u hu
        rw [List.getElem?_append_left (List.getElem?_eq_some_iff.1 h3).1]; exact h3
      · obtain ⟨u, h5, h6⟩ := hnews _ _ _ h2
        refine .inr ⟨u, ?_, h6.ext E1, .inl (hg.cell h2), fun hh => hh.2.cell h2⟩
        rw [hcell, hez]
        refine hget _ _ ?_
        have : e' * i.size = ob.es.length * i.size + (e' - ob.es.length) * i.size := by rw [← Nat.add_mul]; congr 1; omega
        rw [this, Nat.add_assoc]
        have h7 := two (zs := []) hol h5
        simpa using h7)
  subst hv
  refine ⟨_, _, κ', hrun, k, E1.trans E, .sl _ _ _ _ _ _ ⟨_, _, _, rfl⟩ (Nat.lt_succ_self _) fun ob' hc => ?_⟩
  obtain ⟨h1, _⟩ := cur_some hc
  rw [hup_at, if_pos rfl] at h1; cases h1
  refine .inr ⟨cap, k2, ?_, by simp, hge, fun _ hh => (by cases hh), fun _ => (by simpa using hge), ?_⟩
  · simp [Cfg.addr, k1]
  · rw [k1]
    show OwnBlk _ w.heap.size (0 + (0 + cap) * ob.esz)
    rw [hez, Nat.zero_add, Nat.zero_add, ← hsize]
    exact hown

theorem app_ok {w0 : World} {P0 : Bs} {t tx ty e : TypeId} {d esz bytes : Nat} {s x : AV} {vs vx : Value} {p : Prop} {v : AV} {h' : Heap} {clk' : Nat} (H : HR w0 P0 w κ h clk)
    (ht : P.underlying t = some (.slice e)) (hi : (P.info? e).isSome = true) (hzs : ((P.info? e).bind (·.zero)).isSome = true) (hzl : (zeroT P e).length = P.cellsOf e) (htx : ∃ e', P.underlying tx = some (.slice e') ∨ P.underlying tx = some .string)
    (hn : P.cellsOf e = esz) (hb : P.bytesOf e = bytes) (hvs : VR w κ h clk s vs) (hvx : VR w κ h clk x vx)
    (hk : appF esz bytes d s x h clk = some (p, v, h', clk')) (hp : p) : Makes P w0 P0 (Builtin.append_ #[t, tx] ty #[vs, vx]) w κ h clk v h' clk' := by
  obtain ⟨i, hi⟩ := Option.isSome_iff_exists.1 hi
  obtain ⟨z, hz⟩ : ∃ z, i.zero = some z := by rw [hi] at hzs; exact Option.isSome_iff_exists.1 hzs
  have hsz : i.size = esz := by rw [← hn]; simp [Program.cellsOf, hi]
  have hby : i.bytes = bytes := by rw [← hb]; simp [Program.bytesOf, hi]
  have hzc : z.cells.size = i.size := by
    have h1 : zeroT P e = (cval z).cells := by simp [zeroT, hi, hz]
    have h2 := (zero_cells (w := w) (κ := κ) (h := h) (clk := clk) z).1
    rw [← h2, ← h1, hzl, hn, hsz]
  subst hsz; subst hby
  unfold appF at hk
  cases hs : srcF h i.size x with
  | none => rw [hs] at hk; cases hk
  | some r =>
    obtain ⟨px, xs⟩ := r
    rw [hs] at hk
    simp only [Option.bind_some] at hk
    cases s <;> try (cases hk; done)
    · have := hvs.of_nils; subst this
      cases xs with
      | nil =>
        simp only [Option.some.injEq, Prod.mk.injEq] at hk; obtain ⟨rfl, rfl, rfl, rfl⟩ := hk
        obtain ⟨_, news, hsrc, _⟩ := src_ok H.ob htx hvx hs hp
        have hnn : news = [] := List.eq_nil_of_length_eq_zero (by rw [hsrc.newsLen]; simp)
        subst hnn
        exact ⟨_, w, κ, run_append_nothing (P := P) w t tx ty e i ht hi none 0 0 (Nat.le_refl _) vx hsrc, H, Ext.same rfl, .ro _ _ .nils⟩
      | cons y ys =>
        simp only [Option.some.injEq, Prod.mk.injEq] at hk; obtain ⟨rfl, rfl, rfl, rfl⟩ := hk
        obtain ⟨hpx, hbig, h63⟩ := hp
        obtain ⟨hg, news, hsrc, hnews⟩ := src_ok H.ob htx hvx hs hpx
        generalize hxs : y :: ys = xs at *
        have hpos : 0 < xs.length := by rw [← hxs]; simp
        have hrun := run_append_grow_src (P := P) w t tx ty e i z ht hi hz none 0 0 [] (by rw [run_firstCells_none]) vx xs.length news hsrc (by omega) (by omega) (by rw [Nat.zero_add]; exact growslice_fits hpos hbig)
        rw [Nat.zero_add] at hrun
        generalize hcap : grownCap w xs.length 0 e = cap at hrun
        have hge : xs.length ≤ cap := by rw [← hcap]; exact grownCap_ge _ _ _ _
        obtain ⟨cs, hcs⟩ : ∃ cs, cs = ([] ++ news).toArray ++ Builtin.zeroCells z.cells (cap - xs.length) := ⟨_, rfl⟩
        rw [← hcs] at hrun
        have hnl := hsrc.newsLen
        have hsize : cs.size = cap * i.size := by
          rw [hcs, Array.size_append, size_zeroCells, hzc]
          simp only [List.nil_append, List.size_toArray, hnl]
          rw [← Nat.add_mul]; congr 1; omega
        have E1 : Ext w κ h clk w.drew κ h clk := Ext.same rfl
        obtain ⟨h1, h2, h3⟩ := row_ok (d := d) (t := e) (n := xs.length) (rc := cap) (esz := i.size) (es := xs) (cs := cs) (own := Flat xs) (tmp := false) (cap := none) H.drew rfl (fun l hl => (hg l hl).1) (by rw [hsize]; exact Nat.le_refl _) hge
          (fun e' j' x hx => by
            obtain ⟨u, h5, h6⟩ := hnews _ _ _ hx
            refine ⟨u, ?_, h6.ext E1⟩
            rw [hcs, Array.getElem?_append_left (by simpa using (List.getElem?_eq_some_iff.1 h5).1)]
            simpa using h5)
          (fun hf => hf) (fun e' j' x hx => .inl (hg.cell hx)) (fun _ hh => by cases hh)
        exact ⟨_, _, _, hrun, h1, E1.trans h2, h3⟩
    · rename_i o ver off len cap
      simp only at hk
      cases hc : cur h o ver with
      | none => rw [hc] at hk; cases hk
      | some ob =>
        rw [hc] at hk
        simp only [Option.bind_some] at hk
        obtain ⟨ho, hver⟩ := cur_some hc
        have OB := H.ob o ob ho
        split at hk
        · rename_i hfull
          simp only [Option.some.injEq, Prod.mk.injEq] at hk; obtain ⟨rfl, rfl, rfl, rfl⟩ := hk
          obtain ⟨hpx, hez, rfl, hfix, hbig, h63⟩ := hp
          obtain ⟨hg, news, hsrc, hnews⟩ := src_ok H.ob htx hvx hs hpx
          subst hfull
          rcases hvs.of_sl hc with ⟨h0, ⟨a, rfl⟩, _⟩ | ⟨rc, hre, rfl, hoff, hle, hcap1, hcap2, hown⟩
          · have hes : ob.es = [] := List.eq_nil_of_length_eq_zero h0
            cases hxs : xs with
            | nil =>
              subst hxs
              have hnn : news = [] := List.eq_nil_of_length_eq_zero (by rw [hsrc.newsLen]; simp)
              subst hnn
              have hrun := run_append_nothing (P := P) w t tx ty e i ht hi a 0 0 (Nat.le_refl _) vx hsrc
              obtain ⟨κ', k1, k2, E, k⟩ : ∃ κ' : Cfg, True ∧ True ∧ Ext w κ h clk w κ' (hup h o { ob with ver := clk, es := ob.es ++ [], own := ob.own ∧ Flat [] }) (clk + 1) ∧ HR w0 P0 w κ' (hup h o { ob with ver := clk, es := ob.es ++ [], own := ob.own ∧ Flat [] }) (clk + 1) := by
                refine ⟨κ, trivial, trivial, ?_, ?_⟩
                · refine ⟨Nat.le_succ _, fun u vv ou hvl hcu => ?_, fun b hb => ⟨⟨hb.1, hb.2.1, fun u ou hu hf => ?_⟩, rfl⟩, rfl⟩
                  · obtain ⟨h1, h2⟩ := cur_some hcu
                    by_cases hu : u = o
                    · subst hu; rw [hup_at, if_pos rfl] at h1; cases h1; simp at h2; omega
                    · rw [hup_at, if_neg hu] at h1
                      exact ⟨ou, by unfold cur; rw [h1]; simp [h2], rfl, rfl, rfl, fun k => k, fun _ _ k => k⟩
                  · by_cases huo : u = o
                    · subst huo; exact hb.2.2 u ob ho hf
                    · rw [hup_at, if_neg huo] at hu; exact hb.2.2 u ou hu hf
                · have E : Ext w κ h clk w κ (hup h o { ob with ver := clk, es := ob.es ++ [], own := ob.own ∧ Flat [] }) (clk + 1) := by
                    refine ⟨Nat.le_succ _, fun u vv ou hvl hcu => ?_, fun b hb => ⟨⟨hb.1, hb.2.1, fun u ou hu hf => ?_⟩, rfl⟩, rfl⟩
                    · obtain ⟨h1, h2⟩ := cur_some hcu
                      by_cases hu : u = o
                      · subst hu; rw [hup_at, if_pos rfl] at h1; cases h1; simp at h2; omega
                      · rw [hup_at, if_neg hu] at h1
                        exact ⟨ou, by unfold cur; rw [h1]; simp [h2], rfl, rfl, rfl, fun k => k, fun _ _ k => k⟩
                    · by_cases huo : u = o
                      · subst huo; exact hb.2.2 u ob ho hf
                      · rw [hup_at, if_neg huo] at hu; exact hb.2.2 u ou hu hf
                  refine ⟨fun u ou hu => ?_, fun u u' ou ou' b hu hu' hne hf hf' => ?_, fun u ou b hu hf => ?_, H.os, H.tape, H.output, H.size, H.old, H.free, H.glob⟩
                  · by_cases huo : u = o
                    · subst huo; rw [hup_at, if_pos rfl] at hu; cases hu
                      refine ⟨Nat.lt_succ_self _, fun l hl => ?_, fun hne => ?_, fun e' j' x hx => ?_, OB.sep, OB.disj⟩
                      · simp [hes] at hl
                      · simp [hes] at hne
                      · simp [hes, cellOf] at hx
                    · rw [hup_at, if_neg huo] at hu
                      have O2 := H.ob u ou hu
                      refine ⟨Nat.lt_succ_of_lt O2.ver, O2.esz, O2.blk, fun e' j' x hx => ?_, O2.sep, O2.disj⟩
                      obtain ⟨q, h1, h2⟩ := O2.cells e' j' x hx
                      exact ⟨q, h1, h2.ext E (fun _ _ hb => hb) (fun _ _ => rfl) (fun k => k) (fun h3 h4 => (h3 h4).elim)⟩
                  · obtain ⟨ou2, hu2⟩ : ∃ ou2, h u = some ou2 := by
                      by_cases huo : u = o
                      · subst huo; exact ⟨ob, ho⟩
                      · rw [hup_at, if_neg huo] at hu; exact ⟨ou, hu⟩
                    obtain ⟨ou3, hu3⟩ : ∃ ou2, h u' = some ou2 := by
                      by_cases huo : u' = o
                      · subst huo; exact ⟨ob, ho⟩
                      · rw [hup_at, if_neg huo] at hu'; exact ⟨ou', hu'⟩
                    exact H.apart u u' ou2 ou3 b hu2 hu3 hne hf hf'
                  · obtain ⟨ou2, hu2⟩ : ∃ ou2, h u = some ou2 := by
                      by_cases huo : u = o
                      · subst huo; exact ⟨ob, ho⟩
                      · rw [hup_at, if_neg huo] at hu; exact ⟨ou, hu⟩
                    exact H.base u ou2 b hu2 hf
              refine ⟨_, w, κ', hrun, k, E, .sl _ _ _ _ _ _ ⟨_, _, _, rfl⟩ (Nat.lt_succ_self _) fun ob' hc' => ?_⟩
              obtain ⟨h1, _⟩ := cur_some hc'
              rw [hup_at, if_pos rfl] at h1; cases h1
              exact .inl ⟨by simp [hes], ⟨a, rfl⟩, fun _ => (by simp [hes])⟩
            | cons y ys =>
              rw [← hxs]
              have hpos : 0 < xs.length := by rw [hxs]; simp
              refine app_grow (base := a) (rc := 0) (olds := []) H ht hi hz hzc hez ho hsrc hnews hg ?_ (by simp [hes]) (fun e j x hx => by simp [hes, cellOf] at hx) (by omega) h63 hbig (by rw [hes]; rfl)
              rw [hes]
              cases a with
              | none => exact run_firstCells_none _ _ _ _ _
              | some a => exact run_firstCells_some w.drew i.size 0 a 0 0 [] (by simp) (by simp)
          · rw [Nat.zero_add] at hown
            by_cases hr : ob.es.length + xs.length ≤ rc
            · rw [hez] at hown
              obtain ⟨w', κ', hrun, k1, k2, E, k, hb'⟩ := app_room (ty := ty) (clk' := clk + 1) (ver' := clk) (es' := ob.es ++ xs) H ht hi hez ho hsrc hnews hg hre (Nat.le_refl _) hr hown (Nat.le_succ _) (Nat.lt_succ_self _) (.inl (Nat.le_refl _)) (by simp)
              refine ⟨_, w', κ', hrun, k, E, .sl _ _ _ _ _ _ ⟨_, _, _, rfl⟩ (Nat.lt_succ_self _) fun ob' hc' => ?_⟩
              obtain ⟨h1, _⟩ := cur_some hc'
              rw [hup_at, if_pos rfl] at h1; cases h1
              refine .inr ⟨rc, k2, rfl, by simp, hr, fun _ hh => (by cases hh), fun _ => (by simpa using hr), ?_⟩
              rw [k1, Nat.zero_add]
              show OwnBlk _ _ (_ + rc * ob.esz)
              rw [hez]; exact hb'
            · obtain ⟨olds, ho1⟩ : ∃ olds, olds = (List.range (ob.es.length * i.size)).map fun k => (w.cell? (at_ (κ.ι o).1 ((κ.ι o).2 + k))).getD Go.undef := ⟨_, rfl⟩
              have hol : olds.length = ob.es.length * i.size := by rw [ho1]; simp
              have hrcm : ob.es.length * i.size ≤ rc * i.size := Nat.mul_le_mul_right _ hle
              have hcl : ∀ k u, olds[k]? = some u → w.cell? ((κ.addr o ob.esz 0 0).add k) = some u := fun k u hu => by
                have hk1 : k < ob.es.length * i.size := by rw [← hol]; exact (List.getElem?_eq_some_iff.1 hu).1
                rw [ho1, List.getElem?_map, List.getElem?_range hk1] at hu
                simp only [Option.map_some, Option.some.injEq] at hu
                rw [hez] at hown
                obtain ⟨q, hq⟩ := Option.isSome_iff_exists.1 (hown.cell (o := (κ.ι o).2 + k) (by omega)).1
                rw [hq] at hu
                rw [Cfg.addr, addr_add]
                simp only [Nat.zero_mul, Nat.add_zero]
                rw [hq, ← hu]; rfl
              refine app_grow (base := some (κ.addr o ob.esz 0 0)) (rc := rc) (olds := olds) H ht hi hz hzc hez ho hsrc hnews hg (run_firstCells_some w.drew i.size _ _ _ _ olds hol (by simpa using hcl)) hol (fun e' j' x hx u hu => ?_) (by omega) h63 hbig rfl
              obtain ⟨_, _, hb3⟩ := cellOf_lt OB.esz hx
              rw [hez] at hb3
              rw [ho1, List.getElem?_map, List.getElem?_range hb3]
              simp only [Option.map_some, Option.some.injEq]
              rw [Cfg.addr, hez] at hu
              rw [← Nat.add_assoc, hu]; rfl
        · rename_i hnf
          simp only [Option.some.injEq, Prod.mk.injEq] at hk; obtain ⟨rfl, rfl, rfl, rfl⟩ := hk
          obtain ⟨hpx, hez, rfl, hfix, hcapk, hroom⟩ := hp
          obtain ⟨hg, news, hsrc, hnews⟩ := src_ok H.ob htx hvx hs hpx
          rcases hvs.of_sl hc with ⟨h0, _, hcz⟩ | ⟨rc, hre, rfl, hoff, hle, hcap1, hcap2, hown⟩
          · cases cap with
            | none => have := hcz rfl; omega
            | some k => exact absurd h0 (hcapk k rfl).1
          · have hcr : len + xs.length ≤ rc := by
              cases cap with
              | none => have := hcap2 rfl; omega
              | some k => have := hcap1 k rfl; have := (hcapk k rfl).2; omega
            rw [Nat.zero_add] at hown hoff
            rw [hez] at hown
            obtain ⟨w', κ', hrun, k1, k2, E, k, hb'⟩ := app_room (ty := ty) (clk' := clk) (ver' := ob.ver) (es' := ob.es.take len ++ xs ++ ob.es.drop (len + xs.length)) H ht hi hez ho hsrc hnews hg hre hoff (by omega) hown (Nat.le_refl _) OB.ver (.inr ⟨rfl, by simp; omega⟩) rfl
            refine ⟨_, w', κ', hrun, k, E, .sl _ _ _ _ _ _ ⟨_, _, _, rfl⟩ (by rw [← hver]; exact OB.ver) fun ob' hc' => ?_⟩
            obtain ⟨h1, _⟩ := cur_some hc'
            rw [hup_at, if_pos rfl] at h1; cases h1
            refine .inr ⟨rc, k2, rfl, by simp; omega, by omega, hcap1, fun hn => (by have := hcap2 hn; simp; omega), ?_⟩
            rw [k1, Nat.zero_add]
            show OwnBlk _ _ (_ + rc * ob.esz)
            rw [hez]; exact hb'
end Go.AM
end
