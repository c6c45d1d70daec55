/- Operations that make memory. No condition. -/
import Derived.Test.YtbhdjaccdaccbaaGreatAmG08
import Derived.RowKit3
import Derived.Laws.IdiomCopy
set_option linter.all false
set_option linter.unusedSimpArgs false
set_option linter.unusedVariables false
set_option linter.deprecated false
/-! Eff2 -/
section
namespace Go.AM
variable {w : World} {κ : Cfg} {h : Heap} {clk : Nat} {P : Program}

/-- What an operation that makes memory owes. -/
def Makes (P : Program) (w0 : World) (P0 : Bs) (s : Sem Value) (w : World) (κ : Cfg) (h : Heap) (clk : Nat) (x : AV) (h' : Heap) (clk' : Nat) : Prop :=
  ∃ v w' κ', s.run P w = .ok v w' ∧ HR w0 P0 w' κ' h' clk' ∧ Ext w κ h clk w' κ' h' clk' ∧ VR w' κ' h' clk' x v

theorem ownBlk_alloc (w : World) (cs : Array Value) (t : TypeId) : OwnBlk (w.alloc (.cells cs t)) w.heap.size cs.size :=
  ⟨cs, t, (0, 0), by simp [-World.alloc_eq, World.alloc], Nat.le_refl _, fun o => by simp [-World.alloc_eq, World.frozen?, World.alloc]⟩
theorem alloc_same (w : World) (ob : Obj) (b : Nat) (hb : b ≠ w.heap.size) : (w.alloc ob).heap[b]? = w.heap[b]? := by
  simp only [World.alloc, Array.getElem?_push]
  rw [if_neg hb]
theorem alloc_cell (w : World) (cs : Array Value) (t : TypeId) (j : Nat) : (w.alloc (.cells cs t)).cell? (at_ w.heap.size j) = cs[j]? := by
  simp [-World.alloc_eq, World.cell?, World.alloc]

/-- A new row of cells, as a new object. -/
theorem HR.new {w0 : World} {P0 : Bs} {o : Rid} {ob' : Ob} {cs : Array Value} {t : TypeId} (H : HR w0 P0 w κ h clk) (hv : ob'.ver = clk) (hz : ∀ e ∈ ob'.es, e.length = ob'.esz) (hl : ob'.es.length * ob'.esz ≤ cs.size)
    (hc : ∀ e j x, cellOf ob'.es e j = some x → ∃ v, cs[e * ob'.esz + j]? = some v ∧ VR w κ h clk x v) (hd : ob'.own → Flat ob'.es) (hs : ∀ e j x, cellOf ob'.es e j = some x → x.storable = true ∨ x = .undef) :
    Ext w κ h clk (w.alloc (.cells cs t)) (κ.put o w.heap.size 0 fun _ _ _ => False) (hup h o ob') (clk + 1) ∧
    HR w0 P0 (w.alloc (.cells cs t)) (κ.put o w.heap.size 0 fun _ _ _ => False) (hup h o ob') (clk + 1) := by
  obtain ⟨E, k⟩ := H.put (clk' := clk + 1) (w' := w.alloc (.cells cs t)) (o := o) (ob' := ob') (blk := w.heap.size) (off := 0) (F := fun _ _ _ => False) (Nat.le_succ _) (.inl (by omega))
    (fun b hb => alloc_same w _ b hb) (by simp [-World.alloc_eq, World.alloc]) ⟨rfl, RowKit.frozen?_alloc_cells _ _ _⟩ rfl rfl (.inl ⟨Nat.le_refl _, by simp [-World.alloc_eq, World.alloc]⟩)
    (fun n ⟨c, t', f, h1, _⟩ => by simp at h1) (fun _ _ _ hf => hf.elim)
  refine ⟨E, k ⟨by omega, hz, fun _ => ⟨by simp [Cfg.put], ?_⟩, fun e j x hx => ?_, fun _ _ _ hf => ?_, fun _ _ _ _ _ hf => ?_⟩⟩
  · have := ownBlk_alloc w cs t
    have e1 : (κ.put o w.heap.size 0 fun _ _ _ => False).ι o = (w.heap.size, 0) := by simp [Cfg.put]
    rw [e1, Nat.zero_add]
    exact this.mono hl
  · obtain ⟨v, h1, h2⟩ := hc e j x hx
    refine ⟨v, ?_, ?_⟩
    · have e1 : (κ.put o w.heap.size 0 fun _ _ _ => False).addr o ob'.esz e j = at_ w.heap.size (e * ob'.esz + j) := by simp [Cfg.addr, Cfg.put]
      rw [e1, alloc_cell]; exact h1
    · have hv2 := h2.ext E
      have hmem : ob'.own → x.isDat = false := fun ho => by
        unfold cellOf at hx
        cases he : ob'.es[e]? with
        | none => rw [he] at hx; cases hx
        | some cells =>
          rw [he] at hx
          exact hd ho cells (List.mem_of_getElem? he) x (List.mem_of_getElem? hx)
      cases x with
      | dat z es => exact ⟨fun ho => by have := hmem ho; simp [AV.isDat] at this, fun _ => hv2.of_dat⟩
      | agg _ => rcases hs e j _ hx with h5 | h5 <;> simp [AV.storable] at h5
      | tup _ => rcases hs e j _ hx with h5 | h5 <;> simp [AV.storable] at h5
      | _ => exact hv2
  · have e1 : (κ.put o w.heap.size 0 fun _ _ _ => False).F o = fun _ _ _ => False := by simp [Cfg.put]
    rw [e1] at hf; exact hf.elim
  · have e1 : (κ.put o w.heap.size 0 fun _ _ _ => False).F o = fun _ _ _ => False := by simp [Cfg.put]
    rw [e1] at hf; exact hf.elim

theorem cellOf_one {cs : List AV} {e j : Nat} {x : AV} (hx : cellOf [cs] e j = some x) : e = 0 ∧ cs[j]? = some x := by
  unfold cellOf at hx
  cases e with
  | zero => exact ⟨rfl, by simpa using hx⟩
  | succ e => simp at hx

/-- A variable of its own. -/
theorem alloc_ok {w0 : World} {P0 : Bs} {t : TypeId} {d : Nat} {cs : List AV} {v : Value} (H : HR w0 P0 w κ h clk) (hc : Cells w κ h clk cs v.cells) (hs : ∀ x ∈ cs, x.storable = true ∨ x = .undef) :
    Makes P w0 P0 (do pure (.pointer (some (← newVar t v)))) w κ h clk (.ptr (.l d) clk 0 0) (hup h (.l d) { ver := clk, es := [cs], esz := cs.length, fixed := true, own := False }) (clk + 1) := by
  have N := H.new (o := .l d) (ob' := { ver := clk, es := [cs], esz := cs.length, fixed := true, own := False }) (cs := v.cells) (t := t) rfl (by simp) (by simp [hc.1])
    (fun e j x hx => by
      obtain ⟨rfl, hx⟩ := cellOf_one hx
      have hj : j < v.cells.size := by rw [← hc.1]; exact (List.getElem?_eq_some_iff.1 hx).1
      refine ⟨v.cells.getD j Go.undef, ?_, hc.2 j x hx⟩
      simp [Array.getElem?_eq_getElem hj, Array.getD_eq_getD_getElem?]) (fun hf => hf.elim)
    (fun e j x hx => hs x (List.mem_of_getElem? (cellOf_one hx).2))
  refine ⟨.pointer (some (at_ w.heap.size 0)), w.alloc (.cells v.cells t), _, ?_, N.2, N.1, ?_⟩
  · simp [-World.alloc_eq, newVar, newRow, newObj, Sem.run, Result.andThen, World.alloc]
  · refine .ptr _ _ _ _ _ ⟨_, rfl⟩ (Nat.lt_succ_self _) fun ob hc' => ?_
    obtain ⟨h1, _⟩ := cur_some hc'
    rw [hup_at, if_pos rfl] at h1; cases h1
    simp [Cfg.addr, Cfg.put]
end Go.AM
end
/-! Eff3 -/
section
namespace Go.AM
variable {w : World} {κ : Cfg} {h : Heap} {clk : Nat} {P : Program}

def OkCells (l : List AV) : Prop := ∀ x ∈ l, x.storable = true ∨ x = .undef
theorem zeroT_cells {t : TypeId} : OkCells (zeroT P t) := by
  unfold zeroT
  split
  · rename_i z _
    intro x hx
    unfold cval at hx
    split at hx
    all_goals first
      | (simp [AV.cells] at hx; subst hx; first | (exact .inl rfl) | (exact .inr rfl))
      | skip
    simp only [AV.cells, List.mem_map] at hx
    obtain ⟨v, _, rfl⟩ := hx
    split <;> first | exact .inl rfl | exact .inr rfl
  · intro x hx; cases hx
theorem fillA_len : ∀ (ps : List (Nat × Nat × List AV)) (z out : List AV), fillA z ps = some out → out.length = z.length
  | [], z, out, hf => by simp [fillA] at hf; rw [hf]
  | (off, n, vs) :: ps, z, out, hf => by
    simp only [fillA] at hf
    split at hf
    · rename_i hc
      rw [fillA_len ps _ out hf]
      simp; omega
    · cases hf
theorem fillA_cells : ∀ (ps : List (Nat × Nat × List AV)) (z out : List AV), OkCells z → fillA z ps = some out → OkCells out
  | [], z, out, hz, hf => by simp [fillA] at hf; rw [← hf]; exact hz
  | (off, n, vs) :: ps, z, out, hz, hf => by
    simp only [fillA] at hf
    split at hf
    · rename_i hc
      refine fillA_cells ps _ out (fun x hx => ?_) hf
      simp only [List.mem_append] at hx
      rcases hx with (hx | hx) | hx
      · exact hz x (List.mem_of_mem_take hx)
      · exact .inl (List.all_eq_true.1 hc.2.2 x hx)
      · exact hz x (List.mem_of_mem_drop hx)
    · cases hf
theorem chunk_len {esz : Nat} : ∀ (n : Nat) (cs : List AV), (chunk esz n cs).length = n
  | 0, _ => rfl
  | n + 1, cs => by simp [chunk, chunk_len n]
theorem chunk_get {esz : Nat} : ∀ (n : Nat) (cs : List AV) (e : Nat), e < n → (chunk esz n cs)[e]? = some ((cs.drop (e * esz)).take esz)
  | n + 1, cs, 0, _ => by simp [chunk]
  | n + 1, cs, e + 1, he => by
    simp only [chunk, List.getElem?_cons_succ]
    rw [chunk_get n _ e (by omega), List.drop_drop]
    congr 3
    rw [Nat.add_mul]; omega
theorem chunk_cell {esz n : Nat} {cs : List AV} {e j : Nat} {x : AV} (hx : cellOf (chunk esz n cs) e j = some x) : e < n ∧ j < esz ∧ cs[e * esz + j]? = some x := by
  unfold cellOf at hx
  have he : e < n := by
    rcases Nat.lt_or_ge e n with h1 | h1
    · exact h1
    · rw [List.getElem?_eq_none (by rw [chunk_len]; exact h1)] at hx; cases hx
  rw [chunk_get n cs e he] at hx
  simp only [Option.bind_some, List.getElem?_take] at hx
  split at hx
  · rename_i hj; exact ⟨he, hj, by rw [List.getElem?_drop] at hx; exact hx⟩
  · cases hx
theorem chunk_esz {esz n : Nat} {cs : List AV} (hl : cs.length = n * esz) : ∀ e ∈ chunk esz n cs, e.length = esz := by
  intro e he
  obtain ⟨i, hi, rfl⟩ := List.mem_iff_getElem.1 he
  have hi' : i < n := by rw [chunk_len] at hi; exact hi
  have h1 := chunk_get (esz := esz) n cs i hi'
  rw [List.getElem?_eq_getElem hi] at h1
  rw [Option.some.inj h1]
  have : (i + 1) * esz ≤ n * esz := Nat.mul_le_mul_right _ hi'
  rw [Nat.add_mul] at this
  simp; omega
theorem rep_get {z : List AV} : ∀ (n j : Nat), j < n * z.length → ((List.replicate n z).flatten)[j]? = z[j % z.length]?
  | 0, j, hj => by simp at hj
  | n + 1, j, hj => by
    rw [List.replicate_succ, List.flatten_cons]
    by_cases h1 : j < z.length
    · rw [List.getElem?_append_left h1, Nat.mod_eq_of_lt h1]
    · rw [List.getElem?_append_right (by omega), rep_get n (j - z.length) (by rw [Nat.add_mul, Nat.one_mul] at hj; omega)]
      rw [← Nat.mod_eq_sub_mod (by omega)]
theorem rep_len {z : List AV} (n : Nat) : ((List.replicate n z).flatten).length = n * z.length := by simp
theorem rep_cells {z : List AV} (n : Nat) (hz : OkCells z) : OkCells ((List.replicate n z).flatten) := by
  intro x hx
  simp only [List.mem_flatten, List.mem_replicate] at hx
  obtain ⟨l, ⟨_, rfl⟩, hx⟩ := hx
  exact hz x hx

/-- The zeros of so many elements. -/
theorem zeros_cells {z : List AV} {zc : Array Value} {n : Nat} (hz : Cells w κ h clk z zc) : Cells w κ h clk ((List.replicate n z).flatten) ((Array.range (n * z.length)).map (fun i => zc[i % zc.size]!)) := by
  refine ⟨by simp, fun j x hx => ?_⟩
  have hj : j < n * z.length := by rw [← rep_len]; exact (List.getElem?_eq_some_iff.1 hx).1
  rw [rep_get n j hj] at hx
  have h1 := hz.2 _ x hx
  have hpos : 0 < z.length := Nat.pos_of_ne_zero fun h0 => by rw [h0] at hj; omega
  have e1 : ((Array.range (n * z.length)).map (fun i => zc[i % zc.size]!)).getD j Go.undef = zc.getD (j % z.length) Go.undef := by
    have hm : j % zc.size < zc.size := Nat.mod_lt _ (by rw [← hz.1]; exact hpos)
    have hr : (Array.range (n * z.length))[j]? = some j := by simp [hj]
    rw [hz.1] at hr ⊢
    simp only [Array.getD_eq_getD_getElem?, Array.getElem?_map, hr, Option.map_some, Option.getD_some]
    rw [getElem!_pos zc (j % zc.size) hm, Array.getElem?_eq_getElem hm]; rfl
  rw [e1]; exact h1

/-- A new row, and the slice that is all of it. -/
theorem row_ok {w0 : World} {P0 : Bs} {t : TypeId} {d n rc esz : Nat} {es : List (List AV)} {cs : Array Value} {own : Prop} {tmp : Bool} {cap : Option Nat} (H : HR w0 P0 w κ h clk) (hn : es.length = n) (hz : ∀ e ∈ es, e.length = esz) (hl : rc * esz ≤ cs.size) (hnr : n ≤ rc)
    (hc : ∀ e j x, cellOf es e j = some x → ∃ v, cs[e * esz + j]? = some v ∧ VR w κ h clk x v) (hd : own → Flat es) (hs : ∀ e j x, cellOf es e j = some x → x.storable = true ∨ x = .undef) (hcap : ∀ k, cap = some k → rc = k) :
    HR w0 P0 (w.alloc (.cells cs t)) (κ.put (.l d) w.heap.size 0 fun _ _ _ => False) (hup h (.l d) { ver := clk, es := es, esz := esz, own := own, tmp := tmp }) (clk + 1) ∧
    Ext w κ h clk (w.alloc (.cells cs t)) (κ.put (.l d) w.heap.size 0 fun _ _ _ => False) (hup h (.l d) { ver := clk, es := es, esz := esz, own := own, tmp := tmp }) (clk + 1) ∧
    VR (w.alloc (.cells cs t)) (κ.put (.l d) w.heap.size 0 fun _ _ _ => False) (hup h (.l d) { ver := clk, es := es, esz := esz, own := own, tmp := tmp }) (clk + 1) (.sl (.l d) clk 0 n cap) (.slice (some (at_ w.heap.size 0)) n rc) := by
  have N := H.new (o := .l d) (ob' := { ver := clk, es := es, esz := esz, own := own, tmp := tmp }) (cs := cs) (t := t) rfl hz (by simp only [hn]; exact Nat.le_trans (Nat.mul_le_mul_right _ hnr) hl) hc hd hs
  refine ⟨N.2, N.1, .sl _ _ _ _ _ _ ⟨_, _, _, rfl⟩ (Nat.lt_succ_self _) fun ob hc' => ?_⟩
  obtain ⟨h1, _⟩ := cur_some hc'
  rw [hup_at, if_pos rfl] at h1; cases h1
  refine .inr ⟨rc, by simp [Cfg.put], by simp [Cfg.addr, Cfg.put], by simp [hn], hnr, hcap, fun _ => by simp [hn, hnr], ?_⟩
  have e1 : (κ.put (.l d) w.heap.size 0 fun _ _ _ => False).ι (.l d) = (w.heap.size, 0) := by simp [Cfg.put]
  rw [e1]
  simp only [Nat.zero_add]
  exact (ownBlk_alloc w cs t).mono hl

theorem bsl_ok {w0 : World} {P0 : Bs} {t e : TypeId} {d n esz : Nat} {ps : Array (Nat × Operand)} {g : Slots} {ρ : Operand → Value} {p : Prop} {v : AV} {h' : Heap} {clk' : Nat} (H : HR w0 P0 w κ h clk)
    (hu : P.underlying t = some (.slice e)) (hi : (P.info? e).isSome = true) (hzs : ((P.info? e).bind (·.zero)).isSome = true) (hn : P.cellsOf e = esz) (hg : ∀ x, VR w κ h clk (ev g (cv x)) (ρ x))
    (hk : bslF esz n (zeroT P e) d ((ps.toList.map fun (i, x) => (i, cv x)).map fun (j, x) => (j, ev g x)) h clk = some (p, v, h', clk')) (hp : p) :
    Makes P w0 P0 (Instr.buildSlice t n (ps.map fun (i, x) => (i, ρ x))) w κ h clk v h' clk' := by
  obtain ⟨z, hzr, hzc⟩ := zeroT_ok (w := w) (κ := κ) (h := h) (clk := clk) hzs
  unfold bslF at hk
  obtain ⟨gs, hgs⟩ : ∃ gs, gs = ps.toList.map fun (x : Nat × Operand) => (x.1 * esz, esz, ev g (cv x.2)) := ⟨_, rfl⟩
  have hgs' : (((ps.toList.map fun (i, x) => (i, cv x)).map fun (j, x) => (j, ev g x)).map fun (j, x) => (j * esz, esz, x.cells)) = gs.map fun (off, n, x) => (off, n, x.cells) := by
    rw [hgs, List.map_map, List.map_map, List.map_map]; rfl
  rw [hgs'] at hk
  cases hfl : fillA ((List.replicate n (zeroT P e)).flatten) (gs.map fun (off, n, x) => (off, n, x.cells)) with
  | none => rw [hfl] at hk; cases hk
  | some cs =>
    rw [hfl] at hk
    simp only [Option.bind_some, Option.some.injEq, Prod.mk.injEq] at hk; obtain ⟨rfl, rfl, rfl, rfl⟩ := hk
    obtain ⟨hbig, hzl⟩ := hp
    obtain ⟨cs', hf, hcs⟩ := fill_ok (w := w) (κ := κ) (h := h) (clk := clk) (fun i => some (i * esz, esz)) ρ ps.toList _ _ gs cs (zeros_cells (n := n) hzc) (by simp [hgs])
      (fun k i x hkx => ⟨_, _, _, by rw [hgs, List.getElem?_map, hkx]; rfl, rfl, hg x⟩) hfl
    have hlen : cs.length = n * esz := by rw [fillA_len _ _ _ hfl, rep_len, hzl]
    have hok := fillA_cells _ _ _ (rep_cells n zeroT_cells) hfl
    obtain ⟨h1, h2, h3⟩ := row_ok (d := d) (t := e) (n := n) (rc := n) (esz := esz) (es := chunk esz n cs) (cs := cs') (own := NoDat cs) (tmp := false) (cap := some n) H (chunk_len n cs) (chunk_esz hlen) (by rw [← hcs.1, hlen]; exact Nat.le_refl _) (Nat.le_refl _)
      (fun e' j x hx => by
        obtain ⟨_, _, hx⟩ := chunk_cell hx
        have hj : e' * esz + j < cs'.size := by rw [← hcs.1]; exact (List.getElem?_eq_some_iff.1 hx).1
        refine ⟨cs'.getD (e' * esz + j) Go.undef, ?_, hcs.2 _ x hx⟩
        simp [Array.getElem?_eq_getElem hj, Array.getD_eq_getD_getElem?])
      (fun ho e' he' x hx => by
        obtain ⟨i, hi, rfl⟩ := List.mem_iff_getElem.1 he'
        obtain ⟨j, hj, rfl⟩ := List.mem_iff_getElem.1 hx
        have := chunk_cell (cellOf_some (List.getElem?_eq_getElem hi) (List.getElem?_eq_getElem hj))
        exact ho _ (List.mem_of_getElem? this.2.2))
      (fun e' j x hx => hok x (List.mem_of_getElem? (chunk_cell hx).2.2)) (fun k hk => by cases hk; rfl)
    refine ⟨_, _, _, ?_, h1, h2, h3⟩
    have harr : (Array.range (n * esz)).map (fun i => (if n * esz = 0 then #[] else z.cells)[i % (if n * esz = 0 then (#[] : Array Value) else z.cells).size]!) = (Array.range (n * (zeroT P e).length)).map (fun i => z.cells[i % z.cells.size]!) := by
      rw [hzl]
      by_cases h0 : n * esz = 0
      · rw [h0]; simp
      · simp [h0]
    have hbig' : ¬ (n * esz > 2 ^ 24) := by omega
    have fin : ∀ zz : Array Value, (Array.range (n * esz)).map (fun i => zz[i % zz.size]!) = (Array.range (n * (zeroT P e).length)).map (fun i => z.cells[i % z.cells.size]!) →
        ((match Instr.fill (fun i => some (i * esz, esz)) ((Array.range (n * esz)).map (fun i => zz[i % zz.size]!)) (Array.map (fun (x : Nat × Operand) => (x.1, ρ x.2)) ps).toList with
          | some cells => do
            let __do_lift ← newRow e cells
            pure (Value.slice (some __do_lift) n n)
          | x => stuck "buildSlice: a part of the wrong size" : Sem Value)).run P w = .ok (Value.slice (some (at_ w.heap.size 0)) n n) (w.alloc (.cells cs' e)) := by
      intro zz hzz
      rw [hzz, Array.toList_map, hf]
      simp [-World.alloc_eq, newRow, newObj, Sem.run, Result.andThen, World.alloc]
    simp only [Instr.buildSlice, Sem.run_bind, und_run hu, Result.andThen, sizeOf_run hi, hn, hbig', if_false]
    by_cases h0 : n * esz = 0
    · rw [if_pos h0]
      simp only [Sem.run_bind, Sem.run_pure, Result.andThen]
      exact fin #[] (by rw [← harr]; simp [h0])
    · rw [if_neg h0]
      simp only [Sem.run_bind, hzr, Sem.run_pure, Result.andThen]
      exact fin z.cells (by rw [← harr]; simp [h0])
end Go.AM
end
