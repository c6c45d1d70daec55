/- copy and clear. No condition. -/
import Derived.Test.YtbhdjaccdaccbaaGreatAmG11
import Derived.Lib.AppendZerosOnto
set_option linter.all false
set_option linter.unusedSimpArgs false
set_option linter.unusedVariables false
set_option linter.deprecated false
/-! Eff8 -/
section
namespace Go.AM
variable {w : World} {κ : Cfg} {h : Heap} {clk : Nat} {P : Program}

theorem put_room {w0 : World} {P0 : Bs} {o : Rid} {ob : Ob} {off size : Nat} {xs : List (List AV)} {news : List Value}
    (H : HR w0 P0 w κ h clk) (hez : ob.esz = size) (ho : h o = some ob) (hnl : news.length = xs.length * size) (hnews : ∀ e j y, cellOf xs e j = some y → ∃ u, news[e * size + j]? = some u ∧ VR w κ h clk y u) (hg : Good xs size)
    (hlen : off + xs.length ≤ ob.es.length) (hne : ob.es ≠ []) :
    ∃ κ', κ'.ι o = κ.ι o ∧ Ext w κ h clk (w.setCells (κ.ι o).1 ((κ.ι o).2 + off * size) news) κ' (hup h o (laidF ob off xs)) clk ∧ HR w0 P0 (w.setCells (κ.ι o).1 ((κ.ι o).2 + off * size) news) κ' (hup h o (laidF ob off xs)) clk := by
  have OB := H.ob o ob ho
  obtain ⟨hre, hblk⟩ := OB.blk hne
  have hmul : (off + xs.length) * size ≤ ob.es.length * size := Nat.mul_le_mul_right _ hlen
  rw [Nat.add_mul] at hmul
  have hbsz : (κ.ι o).1 < w.heap.size := (H.base o ob _ ho (.inl ⟨hre, rfl⟩)).2
  rw [hez] at hblk
  have hin := World.cell?_setCells_in (κ.ι o).1 news ((κ.ι o).2 + off * size) w (fun k hk => (hblk.cell (by omega)).1)
  have hout := World.cell?_setCells_out (κ.ι o).1 news ((κ.ι o).2 + off * size) w
  obtain ⟨es', hes⟩ : ∃ es', es' = ob.es.take off ++ xs ++ ob.es.drop (off + xs.length) := ⟨_, rfl⟩
  have hz' : ∀ l ∈ es', l.length = ob.esz := fun l hl => by
    rw [hes] at hl
    simp only [List.mem_append] at hl
    rcases hl with (hl | hl) | hl
    · exact OB.esz l (List.mem_of_mem_take hl)
    · rw [hez]; exact (hg l hl).1
    · exact OB.esz l (List.mem_of_mem_drop hl)
  have etl : (ob.es.take off).length = off := by simp; omega
  have hle' : es'.length = ob.es.length := by rw [hes]; simp; omega
  obtain ⟨κ', k1, k2, E, k⟩ := H.write (w' := w.setCells (κ.ι o).1 ((κ.ι o).2 + off * size) news) (clk' := clk) (es' := es') (own' := ob.own ∧ Flat xs) (ver' := ob.ver)
    (blk := (κ.ι o).1) (off := (κ.ι o).2) ho (Nat.le_refl _) OB.ver (.inr ⟨rfl, hle', rfl⟩) hz'
    (fun b hb => by
      by_cases hbs : b < w.heap.size
      · exact World.heap_setCells_other w _ _ _ hbs hb
      · have hs2 := setCells_size (κ.ι o).1 ((κ.ι o).2 + off * size) news w
        rw [Array.getElem?_eq_none (by omega), Array.getElem?_eq_none (by omega)])
    (by rw [setCells_size]; exact Nat.le_refl _) ⟨World.os_setCells _ _ _ _, World.frozen?_setCells _ _ _ _⟩ (setCells_tape _ _ _ _) (World.output_setCells _ _ _ _) (.inr ⟨hre, rfl⟩) (fun m k => setCells_block k m k)
    (fun _ => by rw [hle', hez]; exact setCells_block hblk _ hblk) (fun hh => hh.1)
    (fun e' j' x hx => by
      obtain ⟨hb1, hb2, _⟩ := cellOf_lt hz' hx
      rw [hes] at hx
      rcases cellOf_app hx with ⟨h1, h2⟩ | ⟨h1, h2⟩
      · rcases cellOf_app h2 with ⟨h3, h4⟩ | ⟨h3, h4⟩
        · refine .inl ⟨?_, fun u hu => ?_⟩
          · unfold cellOf at h4 ⊢
            rwa [List.getElem?_take_of_lt (by omega)] at h4
          · rw [hout _ (fun _ _ => .inl (by
              have : (e' + 1) * size ≤ off * size := Nat.mul_le_mul_right _ (by omega)
              rw [Nat.add_mul] at this
              simp only [hez] at *; omega))]
            exact hu
        · rw [etl] at h3 h4
          obtain ⟨u, h5, h6⟩ := hnews _ _ _ h4
          refine .inr ⟨u, ?_, h6, .inl (hg.cell h4), fun hh => hh.2.cell h4⟩
          obtain ⟨h8, h9⟩ := List.getElem?_eq_some_iff.1 h5
          have h10 := hin _ h8
          rw [h9] at h10
          rw [← h10]; congr 2
          rw [hez]
          have : e' * size = off * size + (e' - off) * size := by rw [← Nat.add_mul]; congr 1; omega
          omega
      · simp only [List.length_append, etl] at h1 h2
        refine .inl ⟨?_, fun u hu => ?_⟩
        · unfold cellOf at h2 ⊢
          rw [List.getElem?_drop, show off + xs.length + (e' - (off + xs.length)) = e' by omega] at h2
          exact h2
        · rw [hout _ (fun _ _ => .inr (by
            have : (off + xs.length) * size ≤ e' * size := Nat.mul_le_mul_right _ h1
            rw [Nat.add_mul] at this
            simp only [hez] at *; omega))]
          exact hu)
  subst hes
  exact ⟨κ', k1, E, k⟩

theorem trunc_val {m : Nat} {s : AV} {vs : Value} (hv : VR w κ h clk s vs) {esz : Nat} {r : Prop × List (List AV)} (hs : srcF h esz (truncA m s) = some r) :
    ∃ vs', VR w κ h clk (truncA m s) vs' ∧ ∀ (size : Nat) (w' : World), (Builtin.firstCells size m vs).run P w' = (Builtin.firstCells size m vs').run P w' := by
  cases s <;> try (simp only [truncA, srcF] at hs; cases hs; done)
  · simp only [truncA] at hs ⊢
    by_cases h0 : m = 0
    · rw [if_pos h0]; exact ⟨vs, hv, fun _ _ => rfl⟩
    · rw [if_neg h0] at hs; cases hs
  · rename_i o v off len cap
    simp only [truncA] at hs ⊢
    by_cases hm : m ≤ len
    · rw [if_pos hm]
      have hs' : ∃ a l c, vs = .slice a l c := by
        cases hv with
        | ro _ _ hr => cases hr
        | sl _ _ _ _ _ _ hs' _ _ => exact hs'
      have hlt : v < clk := by
        cases hv with
        | ro _ _ hr => cases hr
        | sl _ _ _ _ _ _ _ hl _ => exact hl
      obtain ⟨a, l, c, rfl⟩ := hs'
      refine ⟨.slice a m c, .sl _ _ _ _ _ _ ⟨_, _, _, rfl⟩ hlt fun ob hc => ?_, fun size w' => by cases a <;> rfl⟩
      rcases hv.of_sl hc with ⟨q1, ⟨a', q2⟩, q3⟩ | ⟨rc, q1, q2, q3, q4, q5, q6, q7⟩
      · cases q2
        exact .inl ⟨by omega, ⟨a, by congr 1; omega⟩, q3⟩
      · cases q2
        exact .inr ⟨c, q1, rfl, by omega, by omega, q5, q6, q7⟩
    · rw [if_neg hm] at hs; cases hs
  · rename_i es
    simp only [truncA] at hs ⊢
    by_cases h0 : m = es.length
    · rw [if_pos h0]; exact ⟨vs, hv, fun _ _ => rfl⟩
    · rw [if_neg h0] at hs; cases hs

theorem lenA_val {s : AV} {vs : Value} {n : Nat} (hO : ∀ o v off len cap, s = .sl o v off len cap → ∃ ob, cur h o v = some ob) (hv : VR w κ h clk s vs) (hn : lenA s = some n) (w' : World) : (Builtin.lenOf vs).run P w' = .ok n w' := by
  cases s <;> try (simp only [lenA] at hn; cases hn; done)
  · simp only [lenA, Option.some.injEq] at hn; subst hn; rw [hv.of_nils]; rfl
  · rename_i o v off len cap
    simp only [lenA, Option.some.injEq] at hn; subst hn
    obtain ⟨ob, hc⟩ := hO _ _ _ _ _ rfl
    obtain ⟨a, rc, rfl, _⟩ := (hv.of_sl hc).slice
    rfl
  · simp only [lenA, Option.some.injEq] at hn; subst hn
    have := hv.of_dat
    cases this <;> rfl

/-- copy. -/
theorem cpy_ok {w0 : World} {P0 : Bs} {t tx ty e : TypeId} {esz : Nat} {d s : AV} {vd vs : Value} {p : Prop} {r : AV} {h' : Heap} (H : HR w0 P0 w κ h clk) (ht : P.underlying t = some (.slice e)) (hi : (P.info? e).isSome = true) (hn : P.cellsOf e = esz)
    (htx : ∃ e', P.underlying tx = some (.slice e') ∨ P.underlying tx = some .string) (hd : VR w κ h clk d vd) (hs : VR w κ h clk s vs) (hk : cpyF h esz d s = some (p, r, h')) (hp : p) : Makes P w0 P0 (Builtin.copy_ #[t, tx] ty #[vd, vs]) w κ h clk r h' clk := by
  unfold cpyF at hk
  cases d <;> try (cases hk; done)
  rename_i o v off len cap
  simp only at hk
  cases hc : cur h o v with
  | none => rw [hc] at hk; cases hk
  | some ob =>
    cases hl : lenA s with
    | none => rw [hc, hl] at hk; cases hk
    | some n =>
      cases hsf : srcF h esz (truncA (min n len) s) with
      | none => rw [hc, hl] at hk; simp only [Option.bind_some, hsf] at hk; cases hk
      | some q =>
        obtain ⟨px, xs⟩ := q
        rw [hc, hl] at hk
        simp only [Option.bind_some, hsf, Option.some.injEq, Prod.mk.injEq] at hk; obtain ⟨rfl, rfl, rfl⟩ := hk
        obtain ⟨hpx, hez, hl0, hxl⟩ := hp
        obtain ⟨ho, _⟩ := cur_some hc
        obtain ⟨vs', hv', hfc⟩ := trunc_val (P := P) hs hsf
        obtain ⟨hg, news, hsrc, hnews⟩ := src_ok (P := P) (tx := tx) H.ob htx hv' hsf hpx
        rcases hd.of_sl hc with ⟨h1, _⟩ | ⟨rc, hre, rfl, hoff, hle, _, _, _⟩
        · exact absurd h1 hl0
        · have hne : ob.es ≠ [] := by intro h0; rw [h0] at hoff; simp at hoff; omega
          obtain ⟨κ', _, E, k⟩ := put_room (off := off) H hez ho hsrc.newsLen hnews hg (by omega) hne
          refine ⟨_, _, κ', ?_, k, E, .ro _ _ (.i _ _)⟩
          have hlen : (Builtin.lenOf vs).run P w = .ok n w := lenA_val (fun o' v' off' len' cap' hh => by
            subst hh
            simp only [truncA] at hsf
            split at hsf
            · simp only [srcF] at hsf
              cases hc2 : cur h o' v' with
              | none => rw [hc2] at hsf; cases hsf
              | some ob2 => exact ⟨ob2, rfl⟩
            · cases hsf) hs hl w
          have hcells : (Builtin.firstCells esz (min n len) vs).run P w = .ok news.toArray w := by
            rw [hfc, ← hxl]; exact hsrc.cells
          obtain ⟨hre2, hblk⟩ := (H.ob o ob ho).blk hne
          rw [hez] at hblk
          have hmul : (off + xs.length) * esz ≤ ob.es.length * esz := Nat.mul_le_mul_right _ (by omega)
          rw [Nat.add_mul] at hmul
          have hnl := hsrc.newsLen
          have hst := run_storeCells_cells (P := P) (κ.ι o).1 ((κ.ι o).2 + off * esz) news 0 w (fun j hj => (hblk.cell (by omega)).1) (fun j hj => (hblk.cell (by omega)).2) hsrc.one
          have ea : κ.addr o ob.esz off 0 = at_ (κ.ι o).1 ((κ.ι o).2 + off * esz) := by simp [Cfg.addr, hez]
          rw [ea]
          have hmin : Nat.min n len = min n len := rfl
          simp only [Builtin.copy_, List.getElem?_toArray, List.getElem?_cons_zero, List.getElem?_cons_succ, Sem.run_bind, und_run ht, Result.andThen, hlen, hmin, sizeOf_run hi, hn, hcells, hst, Sem.run_pure]
          simp only [Nat.add_zero] at hst ⊢
          rfl

theorem zeroCells_get {z : Array Value} {len esz : Nat} (hz : z.size = esz) {i : Nat} (hi : i < len * esz) : (Builtin.zeroCells z len).toList[i]? = some (z.getD (i % esz) Go.undef) := by
  have hpos : 0 < esz := Nat.pos_of_ne_zero fun h0 => by rw [h0] at hi; omega
  have hm : i % esz < z.size := by rw [hz]; exact Nat.mod_lt _ hpos
  have hi2 : i < (Builtin.zeroCells z len).size := by simp [Builtin.zeroCells, hz]; exact hi
  rw [Array.getElem?_toList, Array.getElem?_eq_getElem hi2, Array.getD_eq_getD_getElem?, Array.getElem?_eq_getElem hm]
  simp [Builtin.zeroCells, hz]
  rw [getElem!_pos z (i % esz) hm]
/-- append of zeros, where there is no room. -/
theorem appz_ok {w0 : World} {P0 : Bs} {t tn ty e : TypeId} {kn : IntKind} {d esz bytes : Nat} {s x : AV} {vs vx : Value} {p : Prop} {v : AV} {h' : Heap} {clk' : Nat} (H : HR w0 P0 w κ h clk)
    (ht : P.underlying t = some (.slice e)) (htn : P.underlying tn = some (.int kn)) (hi : (P.info? e).isSome = true) (hzs : ((P.info? e).bind (·.zero)).isSome = true) (hn : P.cellsOf e = esz) (hb : P.bytesOf e = bytes)
    (hvs : VR w κ h clk s vs) (hvx : VR w κ h clk x vx) (hk : appzF esz bytes (zeroT P e) d s x h clk = some (p, v, h', clk')) (hp : p) : Makes P w0 P0 (Builtin.append_ #[t, tn] ty #[vs, vx]) w κ h clk v h' clk' := by
  obtain ⟨i, hi⟩ := Option.isSome_iff_exists.1 hi
  obtain ⟨z, hz⟩ : ∃ z, i.zero = some z := by rw [hi] at hzs; exact Option.isSome_iff_exists.1 hzs
  have hsz : i.size = esz := by rw [← hn]; simp [Program.cellsOf, hi]
  have hby : i.bytes = bytes := by rw [← hb]; simp [Program.bytesOf, hi]
  have hzc : Cells w κ h clk (zeroT P e) z.cells := by
    have h1 : zeroT P e = (cval z).cells := by simp [zeroT, hi, hz]
    rw [h1]; exact zero_cells z
  unfold appzF at hk
  split at hk
  · rename_i o v' off len k kx n
    cases hc : cur h o v' with
    | none => rw [hc] at hk; cases hk
    | some ob =>
      rw [hc] at hk
      simp only [Option.bind_some, Option.some.injEq, Prod.mk.injEq] at hk; obtain ⟨rfl, rfl, rfl, rfl⟩ := hk
      obtain ⟨hez, hzl, hpos, hn0, hkn, hol, h63, hbig, hg, hfl, hzst, hznd⟩ := hp
      have hvx2 := hvx.of_i; subst hvx2
      obtain ⟨m, rfl⟩ : ∃ m : Nat, n = m := ⟨n.toNat, by omega⟩
      simp only [Int.toNat_natCast] at *
      have hslen : (sub ob.es off len).length = len := sub_length hol
      have hsf : srcF h esz (.sl o v' off len (some k)) = some (ob.esz = esz ∧ (ob.own → Flat (sub ob.es off len)) ∧ Good (sub ob.es off len) esz, sub ob.es off len) := by simp only [srcF, hc, Option.bind_some]
      obtain ⟨_, olds, hsrc, holds⟩ := src_ok (P := P) (tx := t) H.ob ⟨e, .inl ht⟩ hvs hsf ⟨hez, fun _ => hfl, hg⟩
      obtain ⟨base, rc, rfl, hrc⟩ : ∃ base rc, vs = .slice base len rc ∧ rc < len + m := by
        rcases hvs.of_sl hc with ⟨q1, ⟨a, q2⟩, _⟩ | ⟨rc, _, q2, _, _, q5, _, _⟩
        · exact ⟨a, 0, by rw [q2, q1], by omega⟩
        · exact ⟨_, rc, q2, by have := q5 k rfl; omega⟩
      have hcd := hsrc.cellsD
      rw [hslen] at hcd
      have hnl := hsrc.newsLen
      rw [hslen] at hnl
      subst hsz; subst hby
      have hbig2 := hbig
      unfold bigOk at hbig2
      have h48 : m * i.bytes ≤ 281474976710656 := by
        have : m * i.bytes ≤ (len + m) * i.bytes := Nat.mul_le_mul_right _ (by omega)
        omega
      have hrun := Lib.run_append_grow_zeros (P := P) w t tn ty e i z kx kn ht htn hi hz base len rc olds hcd m (by omega) hpos hrc (by omega) h48 (growslice_fits hrc hbig)
      generalize hcap : grownCap w (len + m) rc e = cap at hrun
      have hge : len + m ≤ cap := by rw [← hcap]; exact grownCap_ge _ _ _ _
      have hzsz : z.cells.size = i.size := by rw [← hzc.1, hzl]
      obtain ⟨cs, hcs⟩ : ∃ cs, cs = olds.toArray ++ Builtin.zeroCells z.cells m ++ Builtin.zeroCells z.cells (cap - (len + m)) := ⟨_, rfl⟩
      rw [← hcs] at hrun
      have hsize : cs.size = cap * i.size := by
        rw [hcs, Array.size_append, Array.size_append, size_zeroCells, size_zeroCells, hzsz]
        simp only [List.size_toArray, hnl]
        rw [← Nat.add_mul, ← Nat.add_mul]; congr 1; omega
      have E1 : Ext w κ h clk w.drew κ h clk := Ext.same rfl
      obtain ⟨q1, q2, q3⟩ := row_ok (d := d) (t := e) (n := len + m) (rc := cap) (esz := i.size) (es := sub ob.es off len ++ List.replicate m (zeroT P e)) (cs := cs) (own := True) (tmp := false) (cap := none) H.drew (by simp [hslen])
        (fun l hl => by
          rcases List.mem_append.1 hl with hl | hl
          · exact (hg l hl).1
          · rw [(List.mem_replicate.1 hl).2]; exact hzl) (by rw [hsize]; exact Nat.le_refl _) hge
        (fun e' j' y hy => by
          rcases cellOf_app hy with ⟨q1, q2⟩ | ⟨q1, q2⟩
          · obtain ⟨u, h5, h6⟩ := holds _ _ _ q2
            refine ⟨u, ?_, h6.ext E1⟩
            rw [hcs, Array.getElem?_append_left (by have := (List.getElem?_eq_some_iff.1 h5).1; simp; omega), Array.getElem?_append_left (by have := (List.getElem?_eq_some_iff.1 h5).1; simp; omega)]
            simpa using h5
          · rw [hslen] at q1 q2
            unfold cellOf at q2
            rw [List.getElem?_replicate] at q2
            split at q2
            · rename_i hlt
              simp only [Option.bind_some] at q2
              have hj : j' < i.size := by rw [← hzl]; exact (List.getElem?_eq_some_iff.1 q2).1
              have hb3 : (e' - len) * i.size + j' < m * i.size := by
                have : ((e' - len) + 1) * i.size ≤ m * i.size := Nat.mul_le_mul_right _ hlt
                rw [Nat.add_mul] at this; omega
              have hg2 := zeroCells_get (z := z.cells) (len := m) hzsz hb3
              refine ⟨z.cells.getD j' Go.undef, ?_, (hzc.2 j' y q2).ext E1⟩
              have hidx : e' * i.size + j' = len * i.size + ((e' - len) * i.size + j') := by rw [← Nat.add_assoc, ← Nat.add_mul]; congr 2; omega
              rw [show ((e' - len) * i.size + j') % i.size = j' by rw [Nat.mul_comm, Nat.mul_add_mod, Nat.mod_eq_of_lt hj]] at hg2
              have hsz1 : (Builtin.zeroCells z.cells m).size = m * i.size := by rw [size_zeroCells, hzsz]
              rw [hcs, hidx, Array.getElem?_append_left (by simp [hnl, hsz1]; omega), Array.getElem?_append_right (by simp [hnl])]
              simp only [List.size_toArray, hnl, Nat.add_sub_cancel_left]
              rw [← Array.getElem?_toList]; exact hg2
            · cases q2)
        (fun _ l hl => by
          rcases List.mem_append.1 hl with hl | hl
          · exact hfl l hl
          · rw [(List.mem_replicate.1 hl).2]; exact hznd)
        (fun e' j' y hy => .inl (by
          rcases cellOf_app hy with ⟨q1, q2⟩ | ⟨q1, q2⟩
          · exact hg.cell q2
          · unfold cellOf at q2
            rw [List.getElem?_replicate] at q2
            split at q2
            · exact List.all_eq_true.1 hzst _ (List.mem_of_getElem? q2)
            · cases q2)) (fun _ hh => by cases hh)
      exact ⟨_, _, _, hrun, q1, E1.trans q2, q3⟩
  · cases hk

/-- clear. -/
theorem clr_ok {w0 : World} {P0 : Bs} {t ty e : TypeId} {esz : Nat} {x : AV} {vx : Value} {p : Prop} {h' : Heap} (H : HR w0 P0 w κ h clk) (ht : P.underlying t = some (.slice e)) (hzs : ((P.info? e).bind (·.zero)).isSome = true) (hn : P.cellsOf e = esz)
    (hx : VR w κ h clk x vx) (hk : clrF h esz (zeroT P e) x = some (p, h')) (hp : p) : Makes P w0 P0 (Builtin.clear_ #[t] ty #[vx]) w κ h clk (.tup []) h' clk := by
  unfold clrF at hk
  cases x <;> try (cases hk; done)
  rename_i o v off len cap
  simp only at hk
  cases hc : cur h o v with
  | none => rw [hc] at hk; cases hk
  | some ob =>
    rw [hc] at hk
    simp only [Option.bind_some, Option.some.injEq, Prod.mk.injEq] at hk; obtain ⟨rfl, rfl⟩ := hk
    obtain ⟨hez, hl0, hzl, hzst⟩ := hp
    obtain ⟨ho, _⟩ := cur_some hc
    obtain ⟨z, hzr, hzc⟩ := zeroT_ok (w := w) (κ := κ) (h := h) (clk := clk) hzs
    rcases hx.of_sl hc with ⟨h1, _⟩ | ⟨rc, hre, rfl, hoff, hle, _, _, _⟩
    · exact absurd h1 hl0
    · have hne : ob.es ≠ [] := by intro h0; rw [h0] at hoff; simp at hoff; omega
      have hzsz : z.cells.size = esz := by rw [← hzc.1, hzl]
      have hnl : (Builtin.zeroCells z.cells len).toList.length = (List.replicate len (zeroT P e)).length * esz := by simp [Builtin.zeroCells, hzsz]
      have hget : ∀ i, i < len * esz → (Builtin.zeroCells z.cells len).toList[i]? = some (z.cells.getD (i % esz) Go.undef) := by
        intro i hi
        have hpos : 0 < esz := Nat.pos_of_ne_zero fun h0 => by rw [h0] at hi; omega
        have hm : i % esz < z.cells.size := by rw [hzsz]; exact Nat.mod_lt _ hpos
        have hi2 : i < (Builtin.zeroCells z.cells len).size := by simp [Builtin.zeroCells, hzsz]; exact hi
        rw [Array.getElem?_toList, Array.getElem?_eq_getElem hi2, Array.getD_eq_getD_getElem?, Array.getElem?_eq_getElem hm]
        simp [Builtin.zeroCells, hzsz]
        rw [getElem!_pos z.cells (i % esz) hm]
      have hg : Good (List.replicate len (zeroT P e)) esz := fun q hq => by
        rw [(List.mem_replicate.1 hq).2]; exact ⟨hzl, hzst⟩
      obtain ⟨κ', _, E, k⟩ := put_room (off := off) (xs := List.replicate len (zeroT P e)) (news := (Builtin.zeroCells z.cells len).toList) H hez ho hnl (fun e' j y hy => by
        unfold cellOf at hy
        rw [List.getElem?_replicate] at hy
        split at hy
        · rename_i hlt
          simp only [Option.bind_some] at hy
          have hj : j < esz := by rw [← hzl]; exact (List.getElem?_eq_some_iff.1 hy).1
          have hb : e' * esz + j < len * esz := by
            have : (e' + 1) * esz ≤ len * esz := Nat.mul_le_mul_right _ hlt
            rw [Nat.add_mul] at this; omega
          refine ⟨_, hget _ hb, ?_⟩
          rw [show (e' * esz + j) % esz = j by rw [Nat.mul_comm, Nat.mul_add_mod, Nat.mod_eq_of_lt hj]]
          exact hzc.2 j y hy
        · cases hy) hg (by simp; omega) hne
      refine ⟨.tuple #[], _, κ', ?_, k, E, .tup [] #[] rfl (fun j x hx => by simp at hx)⟩
      obtain ⟨hre2, hblk⟩ := (H.ob o ob ho).blk hne
      rw [hez] at hblk
      have hmul : (off + len) * esz ≤ ob.es.length * esz := Nat.mul_le_mul_right _ (by omega)
      rw [Nat.add_mul] at hmul
      have hone : ∀ u ∈ (Builtin.zeroCells z.cells len).toList, u.oneCell' = true := fun u hu => by
        obtain ⟨i, hi, rfl⟩ := List.mem_iff_getElem.1 hu
        have hi3 : i < len * esz := by simpa [Builtin.zeroCells, hzsz] using hi
        have hi2 := hget i hi3
        rw [List.getElem?_eq_getElem hi] at hi2
        have hpos : 0 < esz := Nat.pos_of_ne_zero fun h0 => by rw [h0] at hi3; omega
        have hm : i % esz < (zeroT P e).length := by rw [hzl]; exact Nat.mod_lt _ hpos
        rw [Option.some.inj hi2]
        exact (hzc.2 (i % esz) _ (List.getElem?_eq_getElem hm)).one (List.all_eq_true.1 hzst _ (List.getElem_mem hm))
      have hst := run_storeCells_cells (P := P) (κ.ι o).1 ((κ.ι o).2 + off * esz) (Builtin.zeroCells z.cells len).toList 0 w (fun j hj => (hblk.cell (by simp [Builtin.zeroCells, hzsz] at hj; omega)).1) (fun j hj => (hblk.cell (by simp [Builtin.zeroCells, hzsz] at hj; omega)).2) hone
      have ea : κ.addr o ob.esz off 0 = at_ (κ.ι o).1 ((κ.ι o).2 + off * esz) := by simp [Cfg.addr, hez]
      rw [ea]
      cases len with
      | zero => exact absurd rfl hl0
      | succ len =>
        simp only [Builtin.clear_, List.getElem?_toArray, List.getElem?_cons_zero, Sem.run_bind, und_run ht, Result.andThen, hzr, hst, Sem.run_pure]
        rfl
end Go.AM
end
