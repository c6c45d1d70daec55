/- append that grows; append. No condition. -/
import Derived.Test.YtpiegccohgdkdaaAmEff6
set_option linter.all false
set_option linter.unusedSimpArgs false
set_option linter.unusedVariables false
set_option linter.deprecated false
namespace Go.AM
variable {w : World} {κ : Cfg} {h : Heap} {clk : Nat} {P : Program}

theorem two {β : Type} {olds news zs : List β} {k j : Nat} {v : β} (hk : olds.length = k) (hj : news[j]? = some v) : (olds ++ news ++ zs)[k + j]? = some v := by
  have h1 : j < news.length := (List.getElem?_eq_some_iff.1 hj).1
  rw [List.append_assoc, List.getElem?_append_right (by omega), List.getElem?_append_left (by omega), hk, show k + j - k = j by omega]
  exact hj

theorem app_grow {w0 : World} {P0 : Bs} {t tx ty e : TypeId} {i : TypeInfo} {z : Value} {o : Rid} {ob : Ob} {base : Option Addr} {rc : Nat} {vx : Value} {xs : List (List AV)} {news olds : List Value} {v : Value}
    (H : HR w0 P0 w κ h clk) (ht : P.underlying t = some (.slice e)) (hi : P.info? e = some i) (hz : i.zero = some z) (hzl : z.cells.size = i.size) (hez : ob.esz = i.size) (ho : h o = some ob) (hs : Src P i.size tx vx xs.length news w)
    (hnews : ∀ e j y, cellOf xs e j = some y → ∃ u, news[e * i.size + j]? = some u ∧ VR w κ h clk y u) (hg : Good xs i.size)
    (hold : (Builtin.firstCells i.size ob.es.length (.slice base ob.es.length rc)).run P w.drew = .ok olds.toArray w.drew) (hol : olds.length = ob.es.length * i.size)
    (holds : ∀ e j x, cellOf ob.es e j = some x → ∀ u, w.cell? (κ.addr o ob.esz e j) = some u → olds[e * i.size + j]? = some u)
    (hrc : rc < ob.es.length + xs.length) (h63 : ob.es.length + xs.length ≤ 9223372036854775807) (hbig : bigOk (ob.es.length + xs.length) i.bytes) (hv : v = .slice base ob.es.length rc) :
    Makes P w0 P0 (Builtin.append_ #[t, tx] ty #[v, vx]) w κ h clk (.sl o clk 0 (ob.es.length + xs.length) none) (hup h o { ob with ver := clk, es := ob.es ++ xs, own := ob.own ∧ Flat xs }) (clk + 1) := by
  have OB := H.ob o ob ho
  have hrun := run_append_grow_src (P := P) w t tx ty e i z ht hi hz base ob.es.length rc olds hold vx xs.length news hs hrc (by omega) (growslice_fits hrc hbig)
  generalize hcap : grownCap w (ob.es.length + xs.length) rc e = cap at hrun
  have hge : ob.es.length + xs.length ≤ cap := by rw [← hcap]; exact grownCap_ge _ _ _ _
  obtain ⟨cs, hcs⟩ : ∃ cs, cs = (olds ++ news).toArray ++ Builtin.zeroCells z.cells (cap - (ob.es.length + xs.length)) := ⟨_, rfl⟩
  rw [← hcs] at hrun
  have hnl := hs.newsLen
  have hsize : cs.size = cap * i.size := by
    rw [hcs, Array.size_append, size_zeroCells, hzl]
    simp only [List.size_toArray, List.length_append, hol, hnl]
    rw [← Nat.add_mul, ← Nat.add_mul]; congr 1; omega
  have hget : ∀ k u, (olds ++ news)[k]? = some u → cs[k]? = some u := fun k u hk => by
    have h1 : k < (olds ++ news).length := (List.getElem?_eq_some_iff.1 hk).1
    rw [hcs, Array.getElem?_append_left (by simpa using h1)]
    simpa using hk
  have E1 : Ext w κ h clk w.drew κ h clk := Ext.same rfl
  have hz' : ∀ l ∈ ob.es ++ xs, l.length = ob.esz := fun l hl => by
    rcases List.mem_append.1 hl with hl | hl
    · exact OB.esz l hl
    · rw [hez]; exact (hg l hl).1
  have hcell : ∀ j, (w.drew.alloc (.cells cs e)).cell? (at_ w.heap.size j) = cs[j]? := fun j => alloc_cell w.drew cs e j
  have hown := ownBlk_alloc w.drew cs e
  obtain ⟨κ', k1, k2, E, k⟩ := H.drew.write (w' := w.drew.alloc (.cells cs e)) (clk' := clk + 1) (es' := ob.es ++ xs) (own' := ob.own ∧ Flat xs) (ver' := clk) (blk := w.heap.size) (off := 0) ho (Nat.le_succ _) (Nat.lt_succ_self _) (.inl (Nat.le_refl _)) hz'
    (fun b hb => alloc_same w.drew _ b hb) (by simp [-World.alloc_eq, World.alloc]) ⟨rfl, RowKit.frozen?_alloc_cells _ _ _⟩ rfl rfl (.inl ⟨Nat.le_refl _, by simp [-World.alloc_eq, World.alloc]⟩) (fun n ⟨c, t', f, h1, _⟩ => by simp at h1)
    (fun _ => hown.mono (by rw [hsize, hez, Nat.zero_add]; exact Nat.mul_le_mul_right _ (by simpa using hge))) (fun hh => hh.1)
    (fun e' j' x hx => by
      rw [Nat.zero_add]
      obtain ⟨hb1, hb2, _⟩ := cellOf_lt hz' hx
      rcases cellOf_app hx with ⟨h1, h2⟩ | ⟨h1, h2⟩
      · refine .inl ⟨h2, fun u hu => ?_⟩
        rw [hcell, hez]
        refine hget _ _ ?_
        have h3 := holds e' j' x h2 u hu
        rw [List.getElem?_append_left (List.getElem?_eq_some_iff.1 h3).1]; exact h3
      · obtain ⟨u, h5, h6⟩ := hnews _ _ _ h2
        refine .inr ⟨u, ?_, h6.ext E1, .inl (hg.cell h2), fun hh => hh.2.cell h2⟩
        rw [hcell, hez]
        refine hget _ _ ?_
        have : e' * i.size = ob.es.length * i.size + (e' - ob.es.length) * i.size := by rw [← Nat.add_mul]; congr 1; omega
        rw [this, Nat.add_assoc]
        have h7 := two (zs := []) hol h5
        simpa using h7)
  subst hv
  refine ⟨_, _, κ', hrun, k, E1.trans E, .sl _ _ _ _ _ _ ⟨_, _, _, rfl⟩ (Nat.lt_succ_self _) fun ob' hc => ?_⟩
  obtain ⟨h1, _⟩ := cur_some hc
  rw [hup_at, if_pos rfl] at h1; cases h1
  refine .inr ⟨cap, k2, ?_, by simp, hge, fun _ hh => (by cases hh), fun _ => (by simpa using hge), ?_⟩
  · simp [Cfg.addr, k1]
  · rw [k1]
    show OwnBlk _ w.heap.size (0 + (0 + cap) * ob.esz)
    rw [hez, Nat.zero_add, Nat.zero_add, ← hsize]
    exact hown

theorem app_ok {w0 : World} {P0 : Bs} {t tx ty e : TypeId} {d esz bytes : Nat} {s x : AV} {vs vx : Value} {p : Prop} {v : AV} {h' : Heap} {clk' : Nat} (H : HR w0 P0 w κ h clk)
    (ht : P.underlying t = some (.slice e)) (hi : (P.info? e).isSome = true) (hzs : ((P.info? e).bind (·.zero)).isSome = true) (hzl : (zeroT P e).length = P.cellsOf e) (htx : ∃ e', P.underlying tx = some (.slice e') ∨ P.underlying tx = some .string)
    (hn : P.cellsOf e = esz) (hb : P.bytesOf e = bytes) (hvs : VR w κ h clk s vs) (hvx : VR w κ h clk x vx)
    (hk : appF esz bytes d s x h clk = some (p, v, h', clk')) (hp : p) : Makes P w0 P0 (Builtin.append_ #[t, tx] ty #[vs, vx]) w κ h clk v h' clk' := by
  obtain ⟨i, hi⟩ := Option.isSome_iff_exists.1 hi
  obtain ⟨z, hz⟩ : ∃ z, i.zero = some z := by rw [hi] at hzs; exact Option.isSome_iff_exists.1 hzs
  have hsz : i.size = esz := by rw [← hn]; simp [Program.cellsOf, hi]
  have hby : i.bytes = bytes := by rw [← hb]; simp [Program.bytesOf, hi]
  have hzc : z.cells.size = i.size := by
    have h1 : zeroT P e = (cval z).cells := by simp [zeroT, hi, hz]
    have h2 := (zero_cells (w := w) (κ := κ) (h := h) (clk := clk) z).1
    rw [← h2, ← h1, hzl, hn, hsz]
  subst hsz; subst hby
  unfold appF at hk
  cases hs : srcF h i.size x with
  | none => rw [hs] at hk; cases hk
  | some r =>
    obtain ⟨px, xs⟩ := r
    rw [hs] at hk
    simp only [Option.bind_some] at hk
    cases s <;> try (cases hk; done)
    · have := hvs.of_nils; subst this
      cases xs with
      | nil =>
        simp only [Option.some.injEq, Prod.mk.injEq] at hk; obtain ⟨rfl, rfl, rfl, rfl⟩ := hk
        obtain ⟨_, news, hsrc, _⟩ := src_ok H.ob htx hvx hs hp
        have hnn : news = [] := List.eq_nil_of_length_eq_zero (by rw [hsrc.newsLen]; simp)
        subst hnn
        exact ⟨_, w, κ, run_append_nothing (P := P) w t tx ty e i ht hi none 0 0 (Nat.le_refl _) vx hsrc, H, Ext.same rfl, .ro _ _ .nils⟩
      | cons y ys =>
        simp only [Option.some.injEq, Prod.mk.injEq] at hk; obtain ⟨rfl, rfl, rfl, rfl⟩ := hk
        obtain ⟨hpx, hbig, h63⟩ := hp
        obtain ⟨hg, news, hsrc, hnews⟩ := src_ok H.ob htx hvx hs hpx
        generalize hxs : y :: ys = xs at *
        have hpos : 0 < xs.length := by rw [← hxs]; simp
        have hrun := run_append_grow_src (P := P) w t tx ty e i z ht hi hz none 0 0 [] (by rw [run_firstCells_none]) vx xs.length news hsrc (by omega) (by omega) (by rw [Nat.zero_add]; exact growslice_fits hpos hbig)
        rw [Nat.zero_add] at hrun
        generalize hcap : grownCap w xs.length 0 e = cap at hrun
        have hge : xs.length ≤ cap := by rw [← hcap]; exact grownCap_ge _ _ _ _
        obtain ⟨cs, hcs⟩ : ∃ cs, cs = ([] ++ news).toArray ++ Builtin.zeroCells z.cells (cap - xs.length) := ⟨_, rfl⟩
        rw [← hcs] at hrun
        have hnl := hsrc.newsLen
        have hsize : cs.size = cap * i.size := by
          rw [hcs, Array.size_append, size_zeroCells, hzc]
          simp only [List.nil_append, List.size_toArray, hnl]
          rw [← Nat.add_mul]; congr 1; omega
        have E1 : Ext w κ h clk w.drew κ h clk := Ext.same rfl
        obtain ⟨h1, h2, h3⟩ := row_ok (d := d) (t := e) (n := xs.length) (rc := cap) (esz := i.size) (es := xs) (cs := cs) (own := Flat xs) (tmp := false) (cap := none) H.drew rfl (fun l hl => (hg l hl).1) (by rw [hsize]; exact Nat.le_refl _) hge
          (fun e' j' x hx => by
            obtain ⟨u, h5, h6⟩ := hnews _ _ _ hx
            refine ⟨u, ?_, h6.ext E1⟩
            rw [hcs, Array.getElem?_append_left (by simpa using (List.getElem?_eq_some_iff.1 h5).1)]
            simpa using h5)
          (fun hf => hf) (fun e' j' x hx => .inl (hg.cell hx)) (fun _ hh => by cases hh)
        exact ⟨_, _, _, hrun, h1, E1.trans h2, h3⟩
    · rename_i o ver off len cap
      simp only at hk
      cases hc : cur h o ver with
      | none => rw [hc] at hk; cases hk
      | some ob =>
        rw [hc] at hk
        simp only [Option.bind_some] at hk
        obtain ⟨ho, hver⟩ := cur_some hc
        have OB := H.ob o ob ho
        split at hk
        · rename_i hfull
          simp only [Option.some.injEq, Prod.mk.injEq] at hk; obtain ⟨rfl, rfl, rfl, rfl⟩ := hk
          obtain ⟨hpx, hez, rfl, hfix, hbig, h63⟩ := hp
          obtain ⟨hg, news, hsrc, hnews⟩ := src_ok H.ob htx hvx hs hpx
          subst hfull
          rcases hvs.of_sl hc with ⟨h0, ⟨a, rfl⟩, _⟩ | ⟨rc, hre, rfl, hoff, hle, hcap1, hcap2, hown⟩
          · have hes : ob.es = [] := List.eq_nil_of_length_eq_zero h0
            cases hxs : xs with
            | nil =>
              subst hxs
              have hnn : news = [] := List.eq_nil_of_length_eq_zero (by rw [hsrc.newsLen]; simp)
              subst hnn
              have hrun := run_append_nothing (P := P) w t tx ty e i ht hi a 0 0 (Nat.le_refl _) vx hsrc
              obtain ⟨κ', k1, k2, E, k⟩ : ∃ κ' : Cfg, True ∧ True ∧ Ext w κ h clk w κ' (hup h o { ob with ver := clk, es := ob.es ++ [], own := ob.own ∧ Flat [] }) (clk + 1) ∧ HR w0 P0 w κ' (hup h o { ob with ver := clk, es := ob.es ++ [], own := ob.own ∧ Flat [] }) (clk + 1) := by
                refine ⟨κ, trivial, trivial, ?_, ?_⟩
                · refine ⟨Nat.le_succ _, fun u vv ou hvl hcu => ?_, fun b hb => ⟨⟨hb.1, hb.2.1, fun u ou hu hf => ?_⟩, rfl⟩, rfl⟩
                  · obtain ⟨h1, h2⟩ := cur_some hcu
                    by_cases hu : u = o
                    · subst hu; rw [hup_at, if_pos rfl] at h1; cases h1; simp at h2; omega
                    · rw [hup_at, if_neg hu] at h1
                      exact ⟨ou, by unfold cur; rw [h1]; simp [h2], rfl, rfl, rfl, fun k => k, fun _ _ k => k⟩
                  · by_cases huo : u = o
                    · subst huo; exact hb.2.2 u ob ho hf
                    · rw [hup_at, if_neg huo] at hu; exact hb.2.2 u ou hu hf
                · have E : Ext w κ h clk w κ (hup h o { ob with ver := clk, es := ob.es ++ [], own := ob.own ∧ Flat [] }) (clk + 1) := by
                    refine ⟨Nat.le_succ _, fun u vv ou hvl hcu => ?_, fun b hb => ⟨⟨hb.1, hb.2.1, fun u ou hu hf => ?_⟩, rfl⟩, rfl⟩
                    · obtain ⟨h1, h2⟩ := cur_some hcu
                      by_cases hu : u = o
                      · subst hu; rw [hup_at, if_pos rfl] at h1; cases h1; simp at h2; omega
                      · rw [hup_at, if_neg hu] at h1
                        exact ⟨ou, by unfold cur; rw [h1]; simp [h2], rfl, rfl, rfl, fun k => k, fun _ _ k => k⟩
                    · by_cases huo : u = o
                      · subst huo; exact hb.2.2 u ob ho hf
                      · rw [hup_at, if_neg huo] at hu; exact hb.2.2 u ou hu hf
                  refine ⟨fun u ou hu => ?_, fun u u' ou ou' b hu hu' hne hf hf' => ?_, fun u ou b hu hf => ?_, H.os, H.tape, H.output, H.size, H.old, H.free⟩
                  · by_cases huo : u = o
                    · subst huo; rw [hup_at, if_pos rfl] at hu; cases hu
                      refine ⟨Nat.lt_succ_self _, fun l hl => ?_, fun hne => ?_, fun e' j' x hx => ?_, OB.sep, OB.disj⟩
                      · simp [hes] at hl
                      · simp [hes] at hne
                      · simp [hes, cellOf] at hx
                    · rw [hup_at, if_neg huo] at hu
                      have O2 := H.ob u ou hu
                      refine ⟨Nat.lt_succ_of_lt O2.ver, O2.esz, O2.blk, fun e' j' x hx => ?_, O2.sep, O2.disj⟩
                      obtain ⟨q, h1, h2⟩ := O2.cells e' j' x hx
                      exact ⟨q, h1, h2.ext E (fun _ _ hb => hb) (fun _ _ => rfl) (fun k => k) (fun h3 h4 => (h3 h4).elim)⟩
                  · obtain ⟨ou2, hu2⟩ : ∃ ou2, h u = some ou2 := by
                      by_cases huo : u = o
                      · subst huo; exact ⟨ob, ho⟩
                      · rw [hup_at, if_neg huo] at hu; exact ⟨ou, hu⟩
                    obtain ⟨ou3, hu3⟩ : ∃ ou2, h u' = some ou2 := by
                      by_cases huo : u' = o
                      · subst huo; exact ⟨ob, ho⟩
                      · rw [hup_at, if_neg huo] at hu'; exact ⟨ou', hu'⟩
                    exact H.apart u u' ou2 ou3 b hu2 hu3 hne hf hf'
                  · obtain ⟨ou2, hu2⟩ : ∃ ou2, h u = some ou2 := by
                      by_cases huo : u = o
                      · subst huo; exact ⟨ob, ho⟩
                      · rw [hup_at, if_neg huo] at hu; exact ⟨ou, hu⟩
                    exact H.base u ou2 b hu2 hf
              refine ⟨_, w, κ', hrun, k, E, .sl _ _ _ _ _ _ ⟨_, _, _, rfl⟩ (Nat.lt_succ_self _) fun ob' hc' => ?_⟩
              obtain ⟨h1, _⟩ := cur_some hc'
              rw [hup_at, if_pos rfl] at h1; cases h1
              exact .inl ⟨by simp [hes], ⟨a, rfl⟩, fun _ => (by simp [hes])⟩
            | cons y ys =>
              rw [← hxs]
              have hpos : 0 < xs.length := by rw [hxs]; simp
              refine app_grow (base := a) (rc := 0) (olds := []) H ht hi hz hzc hez ho hsrc hnews hg ?_ (by simp [hes]) (fun e j x hx => by simp [hes, cellOf] at hx) (by omega) h63 hbig (by rw [hes]; rfl)
              rw [hes]
              cases a with
              | none => exact run_firstCells_none _ _ _ _ _
              | some a => exact run_firstCells_some w.drew i.size 0 a 0 0 [] (by simp) (by simp)
          · rw [Nat.zero_add] at hown
            by_cases hr : ob.es.length + xs.length ≤ rc
            · rw [hez] at hown
              obtain ⟨w', κ', hrun, k1, k2, E, k, hb'⟩ := app_room (ty := ty) (clk' := clk + 1) (ver' := clk) (es' := ob.es ++ xs) H ht hi hez ho hsrc hnews hg hre (Nat.le_refl _) hr hown (Nat.le_succ _) (Nat.lt_succ_self _) (.inl (Nat.le_refl _)) (by simp)
              refine ⟨_, w', κ', hrun, k, E, .sl _ _ _ _ _ _ ⟨_, _, _, rfl⟩ (Nat.lt_succ_self _) fun ob' hc' => ?_⟩
              obtain ⟨h1, _⟩ := cur_some hc'
              rw [hup_at, if_pos rfl] at h1; cases h1
              refine .inr ⟨rc, k2, rfl, by simp, hr, fun _ hh => (by cases hh), fun _ => (by simpa using hr), ?_⟩
              rw [k1, Nat.zero_add]
              show OwnBlk _ _ (_ + rc * ob.esz)
              rw [hez]; exact hb'
            · obtain ⟨olds, ho1⟩ : ∃ olds, olds = (List.range (ob.es.length * i.size)).map fun k => (w.cell? (at_ (κ.ι o).1 ((κ.ι o).2 + k))).getD Go.undef := ⟨_, rfl⟩
              have hol : olds.length = ob.es.length * i.size := by rw [ho1]; simp
              have hrcm : ob.es.length * i.size ≤ rc * i.size := Nat.mul_le_mul_right _ hle
              have hcl : ∀ k u, olds[k]? = some u → w.cell? ((κ.addr o ob.esz 0 0).add k) = some u := fun k u hu => by
                have hk1 : k < ob.es.length * i.size := by rw [← hol]; exact (List.getElem?_eq_some_iff.1 hu).1
                rw [ho1, List.getElem?_map, List.getElem?_range hk1] at hu
                simp only [Option.map_some, Option.some.injEq] at hu
                rw [hez] at hown
                obtain ⟨q, hq⟩ := Option.isSome_iff_exists.1 (hown.cell (o := (κ.ι o).2 + k) (by omega)).1
                rw [hq] at hu
                rw [Cfg.addr, addr_add]
                simp only [Nat.zero_mul, Nat.add_zero]
                rw [hq, ← hu]; rfl
              refine app_grow (base := some (κ.addr o ob.esz 0 0)) (rc := rc) (olds := olds) H ht hi hz hzc hez ho hsrc hnews hg (run_firstCells_some w.drew i.size _ _ _ _ olds hol (by simpa using hcl)) hol (fun e' j' x hx u hu => ?_) (by omega) h63 hbig rfl
              obtain ⟨_, _, hb3⟩ := cellOf_lt OB.esz hx
              rw [hez] at hb3
              rw [ho1, List.getElem?_map, List.getElem?_range hb3]
              simp only [Option.map_some, Option.some.injEq]
              rw [Cfg.addr, hez] at hu
              rw [← Nat.add_assoc, hu]; rfl
        · rename_i hnf
          simp only [Option.some.injEq, Prod.mk.injEq] at hk; obtain ⟨rfl, rfl, rfl, rfl⟩ := hk
          obtain ⟨hpx, hez, rfl, hfix, rfl, hroom⟩ := hp
          obtain ⟨hg, news, hsrc, hnews⟩ := src_ok H.ob htx hvx hs hpx
          rcases hvs.of_sl hc with ⟨h0, _, hcz⟩ | ⟨rc, hre, rfl, hoff, hle, hcap1, hcap2, hown⟩
          · have := hcz rfl; omega
          · have hcr := hcap2 rfl
            rw [Nat.zero_add] at hown hcr hoff
            rw [hez] at hown
            obtain ⟨w', κ', hrun, k1, k2, E, k, hb'⟩ := app_room (ty := ty) (clk' := clk) (ver' := ob.ver) (es' := ob.es.take len ++ xs ++ ob.es.drop (len + xs.length)) H ht hi hez ho hsrc hnews hg hre hoff (by omega) hown (Nat.le_refl _) OB.ver (.inr ⟨rfl, by simp; omega⟩) rfl
            refine ⟨_, w', κ', hrun, k, E, .sl _ _ _ _ _ _ ⟨_, _, _, rfl⟩ (by rw [← hver]; exact OB.ver) fun ob' hc' => ?_⟩
            obtain ⟨h1, _⟩ := cur_some hc'
            rw [hup_at, if_pos rfl] at h1; cases h1
            refine .inr ⟨rc, k2, rfl, by simp; omega, by omega, fun _ hh => (by cases hh), fun _ => (by simp; omega), ?_⟩
            rw [k1, Nat.zero_add]
            show OwnBlk _ _ (_ + rc * ob.esz)
            rw [hez]; exact hb'
end Go.AM
