/- make, and a store. No condition. -/
import Derived.Test.YtbhdjaccdaccbaaGreatAmG09
import Derived.Laws.MakeOwn
import Derived.Laws.IdiomCopy
import Derived.Deep.Upon
set_option linter.all false
set_option linter.unusedSimpArgs false
set_option linter.unusedVariables false
set_option linter.deprecated false
/-! Eff4 -/
section
namespace Go.AM
variable {w : World} {κ : Cfg} {h : Heap} {clk : Nat} {P : Program}

theorem mks_ok {w0 : World} {P0 : Bs} {t e : TypeId} {d esz : Nat} {l c : AV} {vl vc : Value} {p : Prop} {v : AV} {h' : Heap} {clk' : Nat} (H : HR w0 P0 w κ h clk)
    (hu : P.underlying t = some (.slice e)) (hi : (P.info? e).isSome = true) (hzs : ((P.info? e).bind (·.zero)).isSome = true) (hn : P.cellsOf e = esz) (hl : VR w κ h clk l vl) (hc : VR w κ h clk c vc)
    (hk : mksF esz (P.bytesOf e) (zeroT P e) d l c h clk = some (p, v, h', clk')) (hp : p) : Makes P w0 P0 (Instr.makeSlice t vl vc) w κ h clk v h' clk' := by
  unfold mksF at hk
  cases l <;> try (cases hk; done)
  rename_i k1 a
  cases c <;> try (cases hk; done)
  rename_i k2 b
  simp only [AV.asI, Option.bind_some, Option.some.injEq, Prod.mk.injEq] at hk; obtain ⟨rfl, rfl, rfl, rfl⟩ := hk
  obtain ⟨rfl, h0, hbig, hmax, hzl⟩ := hp
  have e1 := hl.of_i; have e2 := hc.of_i; subst e1; subst e2
  obtain ⟨z, hzr, hzc⟩ := zeroT_ok (w := w) (κ := κ) (h := h) (clk := clk) hzs
  obtain ⟨ie, hie⟩ := Option.isSome_iff_exists.1 hi
  have hby : ie.bytes = P.bytesOf e := by simp [Program.bytesOf, hie]
  have hcells := zeros_cells (w := w) (κ := κ) (h := h) (clk := clk) (n := a.toNat) hzc
  rw [hzl] at hcells
  obtain ⟨h1, h2, h3⟩ := row_ok (d := d) (t := e) (n := a.toNat) (rc := a.toNat) (esz := esz) (es := List.replicate a.toNat (zeroT P e)) (cs := (Array.range (a.toNat * esz)).map (fun i => z.cells[i % z.cells.size]!)) (own := NoDat (zeroT P e)) (tmp := false) (cap := none) H (by simp)
    (fun e' he' => by rw [(List.mem_replicate.1 he').2]; exact hzl) (by simp) (Nat.le_refl _)
    (fun e' j x hx => by
      unfold cellOf at hx
      rw [List.getElem?_replicate] at hx
      split at hx
      · rename_i hlt
        simp only [Option.bind_some] at hx
        have hj : j < esz := by rw [← hzl]; exact (List.getElem?_eq_some_iff.1 hx).1
        have hb : e' * esz + j < a.toNat * esz := by
          have : (e' + 1) * esz ≤ a.toNat * esz := Nat.mul_le_mul_right _ hlt
          rw [Nat.add_mul] at this; omega
        have hx2 : ((List.replicate a.toNat (zeroT P e)).flatten)[e' * esz + j]? = some x := by
          rw [rep_get _ _ (by rw [hzl]; exact hb), hzl]
          have : (e' * esz + j) % esz = j := by rw [Nat.mul_comm, Nat.mul_add_mod, Nat.mod_eq_of_lt hj]
          rw [this]; exact hx
        refine ⟨_, ?_, hcells.2 _ x hx2⟩
        have hb2 : e' * esz + j < ((Array.range (a.toNat * esz)).map (fun i => z.cells[i % z.cells.size]!)).size := by simpa using hb
        rw [Array.getElem?_eq_getElem hb2, Array.getD_eq_getD_getElem?, Array.getElem?_eq_getElem hb2]; rfl
      · cases hx)
    (fun ho e' he' => by rw [(List.mem_replicate.1 he').2]; exact ho)
    (fun e' j x hx => by
      unfold cellOf at hx
      rw [List.getElem?_replicate] at hx
      split at hx
      · exact zeroT_cells x (List.mem_of_getElem? hx)
      · cases hx) (fun k hk => by cases hk)
  refine ⟨_, _, _, ?_, h1, h2, h3⟩
  unfold bigOk at hbig
  have hmul : (ie.bytes : Int) * a ≤ 281474976710656 := by
    rw [hby]
    have e3 : (a.toNat : Int) = a := Int.toNat_of_nonneg h0
    have h8 := Int.ofNat_le.2 hbig
    rw [Int.natCast_mul, e3, Int.mul_comm] at h8
    omega
  have hsz : ie.size = esz := by rw [← hn]; simp [Program.cellsOf, hie]
  have hz2 : ie.zero.isSome = true := by rw [hie] at hzs; exact hzs
  obtain ⟨z2, hz2⟩ := Option.isSome_iff_exists.1 hz2
  have hzz : z2.cells = z.cells := by
    have h9 := hzr
    simp [zeroValue, typeInfo, hie, hz2, Sem.run] at h9
    rw [h9]
  have hr := run_make (P := P) w t e ie z2 hu hie hz2 k1 k2 a a h0 (Int.le_refl _) hmul hmax
  rw [hsz, madeCells, hzz] at hr
  exact hr

theorem HR.write {w0 : World} {P0 : Bs} {w' : World} {clk' : Nat} {o : Rid} {ob : Ob} {es' : List (List AV)} {own' : Prop} {ver' blk off : Nat} (H : HR w0 P0 w κ h clk) (ho : h o = some ob) (hclk : clk ≤ clk') (hver : ver' < clk')
    (hv : clk ≤ ver' ∨ (ver' = ob.ver ∧ es'.length = ob.es.length ∧ (blk, off) = κ.ι o)) (hz : ∀ e ∈ es', e.length = ob.esz)
    (hw : ∀ b, b ≠ blk → w'.heap[b]? = w.heap[b]?) (hsz : w.heap.size ≤ w'.heap.size) (hos : w'.os = w.os ∧ ∀ a, w'.frozen? a = w.frozen? a) (htp : w'.tape = w.tape) (hou : w'.output = w.output)
    (hblk : (w.heap.size ≤ blk ∧ blk < w'.heap.size) ∨ (κ.re o ∧ (κ.ι o).1 = blk)) (hob : ∀ n, OwnBlk w blk n → OwnBlk w' blk n)
    (hown : es' ≠ [] → OwnBlk w' blk (off + es'.length * ob.esz)) (himp : own' → ob.own)
    (hcells : ∀ e j x, cellOf es' e j = some x → (cellOf ob.es e j = some x ∧ ∀ v, w.cell? (κ.addr o ob.esz e j) = some v → w'.cell? (at_ blk (off + e * ob.esz + j)) = some v) ∨
      ∃ v, w'.cell? (at_ blk (off + e * ob.esz + j)) = some v ∧ VR w κ h clk x v ∧ (x.storable = true ∨ x = .undef) ∧ (own' → x.isDat = false)) :
    ∃ κ', κ'.ι o = (blk, off) ∧ κ'.re o ∧ Ext w κ h clk w' κ' (hup h o { ob with ver := ver', es := es', own := own' }) clk' ∧ HR w0 P0 w' κ' (hup h o { ob with ver := ver', es := es', own := own' }) clk' := by
  have OB := H.ob o ob ho
  have eι : (κ.put o blk off fun e j b => own' ∧ κ.F o e j b).ι o = (blk, off) := by simp [Cfg.put]
  have eF : (κ.put o blk off fun e j b => own' ∧ κ.F o e j b).F o = fun e j b => own' ∧ κ.F o e j b := by simp [Cfg.put]
  have hFb : ∀ e j b, κ.F o e j b → b ≠ blk ∧ b < w.heap.size := fun e j b hb => by
    have hb2 := (H.base o ob b ho (.inr ⟨e, j, hb⟩)).2
    rcases hblk with h1 | h1
    · exact ⟨by omega, hb2⟩
    · exact ⟨by rw [← h1.2]; exact OB.sep e j b hb, hb2⟩
  obtain ⟨E, k⟩ := H.put (clk' := clk') (w' := w') (o := o) (ob' := { ob with ver := ver', es := es', own := own' }) (blk := blk) (off := off) (F := fun e j b => own' ∧ κ.F o e j b) hclk
    (by rcases hv with h1 | ⟨h1, h2, h3⟩
        · exact .inl h1
        · exact .inr ⟨ob, ho, h1, rfl, h2, h3⟩) hw hsz hos htp hou
    (by rcases hblk with h1 | h1
        · exact .inl h1
        · exact .inr ⟨ob, ho, h1⟩) hob (fun e j b hb => ⟨ob, ho, hb.2⟩)
  refine ⟨κ.put o blk off fun e j b => own' ∧ κ.F o e j b, eι, by simp [Cfg.put], E, k ⟨hver, hz, fun hne => ⟨by simp [Cfg.put], by rw [eι]; exact hown hne⟩, fun e j x hx => ?_, fun e j b hb => ?_, fun e j e' j' b hb hb' => ?_⟩⟩
  · have ea : (κ.put o blk off fun e j b => own' ∧ κ.F o e j b).addr o ob.esz e j = at_ blk (off + e * ob.esz + j) := by simp [Cfg.addr, eι]
    show ∃ v, w'.cell? ((κ.put o blk off fun e j b => own' ∧ κ.F o e j b).addr o ob.esz e j) = some v ∧ _
    rw [ea]
    rcases hcells e j x hx with ⟨h1, h2⟩ | ⟨v, h1, h2, h3, h4⟩
    · obtain ⟨v, h5, h6⟩ := OB.cells e j x h1
      refine ⟨v, h2 v h5, h6.ext E (fun ho' b hb => by rw [eF]; exact ⟨ho', hb⟩) (fun b hb => hw b (hFb e j b hb).1) himp (fun hn hown b hb => ?_)⟩
      refine ⟨Nat.lt_of_lt_of_le (hFb e j b hb).2 hsz, H.free b (H.base o ob b ho (.inr ⟨e, j, hb⟩)).1, fun u ou hu hf => ?_⟩
      by_cases huo : u = o
      · subst huo
        rw [put_foot] at hf
        rcases hf with h7 | ⟨_, _, h7, _⟩
        · exact (hFb e j b hb).1 h7
        · exact hn h7
      · rw [put_foot_ne huo] at hf
        rw [hup_at, if_neg huo] at hu
        exact H.apart u o ou ob b hu ho huo hf (.inr ⟨e, j, hb⟩)
    · refine ⟨v, h1, ?_⟩
      have h5 := h2.ext E
      cases x with
      | dat z es => exact ⟨fun ho' => by have := h4 ho'; simp [AV.isDat] at this, fun _ => h5.of_dat⟩
      | agg _ => rcases h3 with h3 | h3 <;> simp [AV.storable] at h3
      | tup _ => rcases h3 with h3 | h3 <;> simp [AV.storable] at h3
      | _ => exact h5
  · rw [eF] at hb; rw [eι]
    exact (hFb e j b hb.2).1
  · rw [eF] at hb hb'
    exact OB.disj e j e' j' b hb.2 hb'.2

theorem VR.one {x : AV} {v : Value} (hv : VR w κ h clk x v) (hs : x.storable = true) : v.oneCell' = true := by
  cases hv with
  | ro _ _ hr => cases hr <;> first | rfl | simp [AV.storable] at hs
  | ptr _ _ _ _ _ hs' _ _ => obtain ⟨a, rfl⟩ := hs'; rfl
  | sl _ _ _ _ _ _ hs' _ _ => obtain ⟨a, l, c, rfl⟩ := hs'; rfl
  | eptr _ _ _ _ _ _ _ _ => rfl
  | agg _ _ _ _ => simp [AV.storable] at hs
  | tup _ _ _ _ => simp [AV.storable] at hs
  | fn _ _ _ _ _ => rfl

theorem OwnBlk.cell {b n : Nat} (k : OwnBlk w b n) {o : Nat} (ho : o < n) : (w.cell? (at_ b o)).isSome = true ∧ w.frozen? (at_ b o) = false := by
  obtain ⟨c, t, f, h1, h2, h3⟩ := k
  refine ⟨?_, h3 o⟩
  simp [World.cell?, h1]; omega

/-- Cells of a block anew. -/
theorem setCells_block {b o : Nat} {vs : List Value} {n : Nat} (k : OwnBlk w b n) : ∀ m, OwnBlk w b m → OwnBlk (w.setCells b o vs) b m := by
  clear k
  induction vs generalizing w o with
  | nil => exact fun m k => k
  | cons v r ih =>
    intro m k
    refine ih m ?_
    obtain ⟨c, t, f, h1, h2, h3⟩ := k
    have hb : b < w.heap.size := (Array.getElem?_eq_some_iff.1 h1).1
    refine ⟨c.setIfInBounds o v, t, f, ?_, by simpa using h2, fun j => by rw [World.frozen?_setCell]; exact h3 j⟩
    have h4 : w.heap[b] = .cells c t f := by rw [Array.getElem?_eq_getElem hb] at h1; exact Option.some.inj h1
    simp [World.setCell, hb, Array.getElem_modify, h4]

theorem setCells_size (b : Nat) : ∀ (o : Nat) (vs : List Value) (w : World), (w.setCells b o vs).heap.size = w.heap.size
  | _, [], _ => rfl
  | o, v :: r, w => by rw [World.setCells, setCells_size b (o + 1) r, World.size_setCell]
theorem setCells_tape (b : Nat) : ∀ (o : Nat) (vs : List Value) (w : World), (w.setCells b o vs).tape = w.tape
  | _, [], _ => rfl
  | o, v :: r, w => by rw [World.setCells, setCells_tape b (o + 1) r]; rfl

theorem storeVar_run {t : TypeId} {b o n : Nat} {v : Value} {m : Nat} (hi : (P.info? t).isSome = true) (hn : P.cellsOf t = n) (hv : v.cells.size = n) (hk : OwnBlk w b m) (hm : o + n ≤ m) (h1 : ∀ u ∈ v.cells.toList, u.oneCell' = true) :
    (storeVar t (at_ b o) v).run P w = .ok () (w.setCells b o v.cells.toList) := by
  have h2 := run_storeCells_cells (P := P) b o v.cells.toList 0 w (fun j hj => (hk.cell (by simp at hj; omega)).1) (fun j hj => (hk.cell (by simp at hj; omega)).2) h1
  simp only [storeVar, Sem.run_bind, sizeOf_run hi, Result.andThen, hn, hv]
  simpa using h2

/-- A store. -/
theorem store_ok {w0 : World} {P0 : Bs} {t : TypeId} {n : Nat} {a v : AV} {va vv : Value} {p : Prop} {h' : Heap} (H : HR w0 P0 w κ h clk) (hi : (P.info? t).isSome = true) (hn : P.cellsOf t = n)
    (ha : VR w κ h clk a va) (hv : VR w κ h clk v vv) (hk : storeF h n a v = some (p, h')) (hp : p) :
    ∃ x w' κ', va = .pointer (some x) ∧ (storeVar t x vv).run P w = .ok () w' ∧ HR w0 P0 w' κ' h' clk ∧ Ext w κ h clk w' κ' h' clk := by
  cases a <;> try (cases hk; done)
  rename_i o ver e j
  unfold storeF at hk
  cases hc : cur h o ver with
  | none => simp [hc] at hk
  | some ob =>
    simp only [hc, Option.bind_some] at hk
    cases he : ob.es[e]? with
    | none => simp [he] at hk
    | some cells =>
      simp only [he, Option.bind_some, Option.some.injEq, Prod.mk.injEq] at hk; obtain ⟨rfl, rfl⟩ := hk
      obtain ⟨h1, h2, h3⟩ := hp
      obtain ⟨ho, hver⟩ := cur_some hc
      have hcs := hv.cells h3
      have OB := H.ob o ob ho
      have hel : e < ob.es.length := (List.getElem?_eq_some_iff.1 he).1
      have hcl : cells.length = ob.esz := OB.esz cells (List.mem_of_getElem? he)
      obtain ⟨hre, hblk⟩ := OB.blk (by intro h0; rw [h0] at hel; simp at hel)
      have hb1 : e * ob.esz + ob.esz ≤ ob.es.length * ob.esz := by
        have : (e + 1) * ob.esz ≤ ob.es.length * ob.esz := Nat.mul_le_mul_right _ hel
        rwa [Nat.add_mul, Nat.one_mul] at this
      have hsz : vv.cells.size = n := by rw [← hcs.1, h1]
      have hone : ∀ u ∈ vv.cells.toList, u.oneCell' = true := fun u hu => by
        obtain ⟨i, hi', rfl⟩ := List.mem_iff_getElem.1 hu
        have hi2 : i < v.cells.length := by rw [hcs.1]; simpa using hi'
        have := (hcs.2 i v.cells[i] (List.getElem?_eq_getElem hi2)).one (List.all_eq_true.1 h3 _ (List.getElem_mem hi2))
        rw [Array.getD_eq_getD_getElem?, Array.getElem?_eq_getElem (by simpa using hi')] at this
        simpa using this
      have hrun := storeVar_run (P := P) (t := t) (o := (κ.ι o).2 + e * ob.esz + j) hi hn hsz hblk (by omega) hone
      have hin := World.cell?_setCells_in (κ.ι o).1 vv.cells.toList ((κ.ι o).2 + e * ob.esz + j) w (fun i hi' => (hblk.cell (by simp at hi'; omega)).1)
      have hout := World.cell?_setCells_out (κ.ι o).1 vv.cells.toList ((κ.ι o).2 + e * ob.esz + j) w
      have hbsz : (κ.ι o).1 < w.heap.size := (H.base o ob _ ho (.inl ⟨hre, rfl⟩)).2
      have hnew : (cells.take j ++ v.cells ++ cells.drop (j + n)).length = ob.esz := by simp; omega
      obtain ⟨κ', _, _, E, k⟩ := H.write (w' := w.setCells (κ.ι o).1 ((κ.ι o).2 + e * ob.esz + j) vv.cells.toList) (clk' := clk) (es' := ob.es.set e (cells.take j ++ v.cells ++ cells.drop (j + n))) (own' := ob.own ∧ NoDat v.cells) (ver' := ob.ver)
        (blk := (κ.ι o).1) (off := (κ.ι o).2) ho (Nat.le_refl _) OB.ver (.inr ⟨rfl, by simp, rfl⟩)
        (fun l hl => by
          rcases List.mem_or_eq_of_mem_set hl with h4 | h4
          · exact OB.esz l h4
          · rw [h4]; exact hnew)
        (fun b hb => by
          by_cases hbs : b < w.heap.size
          · exact World.heap_setCells_other w _ _ _ hbs hb
          · have hs2 : (w.setCells (κ.ι o).1 ((κ.ι o).2 + e * ob.esz + j) vv.cells.toList).heap.size = w.heap.size := setCells_size _ _ _ _
            rw [Array.getElem?_eq_none (by omega), Array.getElem?_eq_none (by omega)])
        (by rw [setCells_size]; exact Nat.le_refl _) ⟨World.os_setCells _ _ _ _, World.frozen?_setCells _ _ _ _⟩ (setCells_tape _ _ _ _) (World.output_setCells _ _ _ _) (.inr ⟨hre, rfl⟩) (fun m k => setCells_block k m k)
        (fun _ => by simp only [List.length_set]; exact setCells_block hblk _ hblk) (fun hh => hh.1)
        (fun e' j' x hx => by
          unfold cellOf at hx
          by_cases hee : e' = e
          · subst hee
            rw [List.getElem?_set_self hel] at hx
            simp only [Option.bind_some, List.append_assoc] at hx
            by_cases hj1 : j' < j
            · rw [List.getElem?_append_left (by simp; omega), List.getElem?_take_of_lt hj1] at hx
              refine .inl ⟨cellOf_some he hx, fun u hu => ?_⟩
              rw [hout _ (fun _ _ => .inl (by simp; omega))]
              simpa [Cfg.addr] using hu
            · rw [List.getElem?_append_right (by simp; omega)] at hx
              have e1 : (cells.take j).length = j := by simp; omega
              rw [e1] at hx
              by_cases hj2 : j' < j + n
              · rw [List.getElem?_append_left (by omega)] at hx
                have hj3 : j' - j < vv.cells.toList.length := by simp; omega
                have h5 := hin (j' - j) hj3
                rw [show (κ.ι o).2 + e' * ob.esz + j + (j' - j) = (κ.ι o).2 + e' * ob.esz + j' by omega] at h5
                have h6 := hcs.2 (j' - j) x hx
                have hmem := List.mem_of_getElem? hx
                refine .inr ⟨_, h5, ?_, .inl (List.all_eq_true.1 h3 _ hmem), fun hh => hh.2 _ hmem⟩
                rw [Array.getD_eq_getD_getElem?, Array.getElem?_eq_getElem (by simpa using hj3)] at h6
                simpa using h6
              · rw [List.getElem?_append_right (by omega), List.getElem?_drop, h1] at hx
                rw [show j + n + (j' - j - n) = j' by omega] at hx
                refine .inl ⟨cellOf_some he hx, fun u hu => ?_⟩
                rw [hout _ (fun _ _ => .inr (by simp; omega))]
                simpa [Cfg.addr] using hu
          · rw [List.getElem?_set_ne (by omega)] at hx
            refine .inl ⟨hx, fun u hu => ?_⟩
            have hj' : j' < ob.esz := by
              cases he' : ob.es[e']? with
              | none => rw [he'] at hx; cases hx
              | some c' => rw [he'] at hx; rw [← OB.esz c' (List.mem_of_getElem? he')]; exact (List.getElem?_eq_some_iff.1 hx).1
            rw [hout _ (fun _ _ => by
              simp only [Array.length_toList]
              rcases Nat.lt_or_gt_of_ne hee with h7 | h7
              · have : (e' + 1) * ob.esz ≤ e * ob.esz := Nat.mul_le_mul_right _ h7
                rw [Nat.add_mul] at this; left; omega
              · have : (e + 1) * ob.esz ≤ e' * ob.esz := Nat.mul_le_mul_right _ h7
                rw [Nat.add_mul] at this; right; omega)]
            simpa [Cfg.addr] using hu)
      exact ⟨_, _, κ', ha.of_ptr hc, hrun, k, E⟩
end Go.AM
end
