/- Cuts of slices; structs built; the least and the greatest. No condition. -/
import Derived.Test.YtpiegccohgdkdaaAmOp4
set_option linter.all false
set_option linter.unusedSimpArgs false
set_option linter.unusedVariables false
set_option linter.deprecated false
namespace Go.AM
variable {w : World} {κ : Cfg} {h : Heap} {clk : Nat} {P : Program}

theorem OwnBlk.mono {b n m : Nat} (hb : OwnBlk w b n) (hm : m ≤ n) : OwnBlk w b m := by
  obtain ⟨c, t, f, h1, h2, h3⟩ := hb
  exact ⟨c, t, f, h1, by omega, fun o ho => h3 o (by omega)⟩
theorem sub_length {es : List (List AV)} {off len : Nat} (hl : off + len ≤ es.length) : (sub es off len).length = len := by
  unfold sub; split
  · omega
  · simp; omega
theorem sub_get {es : List (List AV)} {off len e : Nat} (he : e < len) : (sub es off len)[e]? = es[off + e]? := by
  unfold sub; split
  · rename_i hh; rw [hh.1, Nat.zero_add]
  · rw [List.getElem?_take, if_pos he, List.getElem?_drop]
theorem sub_cell {es : List (List AV)} {off len e j : Nat} {x : AV} (hl : off + len ≤ es.length) (hx : cellOf (sub es off len) e j = some x) : e < len ∧ cellOf es (off + e) j = some x := by
  have he : e < len := by
    rcases Nat.lt_or_ge e len with h1 | h1
    · exact h1
    · unfold cellOf at hx
      rw [List.getElem?_eq_none (by rw [sub_length hl]; exact h1)] at hx
      cases hx
  refine ⟨he, ?_⟩
  unfold cellOf at hx ⊢
  rwa [sub_get he] at hx
theorem sub_mem {es : List (List AV)} {off len : Nat} {e : List AV} (he : e ∈ sub es off len) : e ∈ es := by
  unfold sub at he; split at he
  · exact he
  · exact List.mem_of_mem_drop (List.mem_of_mem_take he)
theorem sub_zero {es : List (List AV)} {off : Nat} (hl : off ≤ es.length) : sub es off 0 = [] := List.eq_nil_of_length_eq_zero (sub_length (by omega))

/-- A part of what is read. -/
theorem Ro.cut {X : Bs} {es : List (List AV)} {a : Option Addr} {len rc esz l hh : Nat} (hr : Ro w X (.dat es) (.slice a len rc)) (hz : ∀ e ∈ es, e.length = esz) (h1 : l ≤ hh) (h2 : hh ≤ es.length) (hm : hh ≤ rc) :
    Ro w X (.dat (sub es l (hh - l))) (.slice (if rc = l then a else a.map (·.add (l * esz))) (hh - l) (rc - l)) := by
  rcases Nat.eq_zero_or_pos (hh - l) with h0 | hpos
  · rw [h0, sub_zero (by omega)]; exact .dat0 _ _
  · generalize hv : Value.slice a len rc = v at hr
    cases hr with
    | dat0 b c => simp at h2; omega
    | dat _ blk off cap esz' val hX hl hzz hc hr =>
      cases hv
      have hne : ¬ rc = l := by omega
      have : esz' = esz := by
        cases es with
        | nil => simp at h2; omega
        | cons e r => rw [← hzz e (by simp), hz e (by simp)]
      subst this
      have hlen : (sub es l (hh - l)).length = hh - l := sub_length (by omega)
      rw [if_neg hne]
      simp only [Option.map_some, addr_add]
      have key := Ro.dat (w := w) (X := X) (sub es l (hh - l)) blk (off + l * esz') (rc - l) esz' (fun e j => val (l + e) j) hX (by omega) (fun e he => hz e (sub_mem he))
        (fun e j x hx => by
          have := hc (l + e) j x (sub_cell (by omega) hx).2
          rw [show off + l * esz' + e * esz' + j = off + (l + e) * esz' + j by rw [Nat.add_mul]; omega]; exact this)
        (fun e j x hx => hr (l + e) j x (sub_cell (by omega) hx).2)
      rw [hlen] at key
      exact key

theorem slc_ok {t e : TypeId} {esz : Nat} {x : Operand} {lo hi mx : Option Operand} {g : Slots} {ρ : Operand → Value} {p : Prop} {v : AV} (ht : P.underlying t = some (.slice e)) (he : (P.info? e).isSome = true) (hz : P.cellsOf e = esz)
    (hmh : mx.isSome = true → hi.isSome = true)
    (hg : ∀ x, VR w κ h clk (ev g (cv x)) (ρ x))
    (hk : slcF h esz (ev g (cv x)) ((lo.map cv).map (ev g)) ((hi.map cv).map (ev g)) ((mx.map cv).map (ev g)) = some (p, v)) (hp : p) : Gives P (Instr.sliceAt t (ρ x) (lo.map ρ) (hi.map ρ) (mx.map ρ)) w κ h clk v := by
  have run : ∀ (a : Option Addr) (len cap l hh m : Nat), ρ x = .slice a len cap → (Instr.sliceBounds true len cap (lo.map ρ) (hi.map ρ) (mx.map ρ)).run P w = .ok (l, hh, m) w →
      (Instr.sliceAt t (ρ x) (lo.map ρ) (hi.map ρ) (mx.map ρ)).run P w = .ok (.slice (if m = l then a else a.map (·.add (l * esz))) (hh - l) (m - l)) w := by
    intro a len cap l hh m hx hb
    simp only [Instr.sliceAt, Sem.run_bind, und_run ht, Result.andThen, Instr.slice, hx, hb, sizeOf_run he, hz, Sem.run_pure]
  unfold slcF at hk
  split at hk
  · rename_i hx
    have e2 := hg x; rw [hx] at e2; have e3 := e2.of_nils
    cases hl : loN ((lo.map cv).map (ev g)) with
    | none => simp only [hl] at hk; cases hk
    | some l =>
      cases hh : hiN 0 ((hi.map cv).map (ev g)) with
      | none => simp only [hl, hh, Option.bind_some] at hk; cases hk
      | some m =>
        simp only [hl, hh, Option.bind_some, Option.some.injEq, Prod.mk.injEq] at hk; obtain ⟨rfl, rfl⟩ := hk
        obtain ⟨h0, h1, h2, h3⟩ := hp
        have hmx : mx = none := by cases mx <;> simp_all
        subst hmx
        have hb := bounds_run (P := P) (w := w) (isSlice := true) (len := 0) (cap := 0) (lo_val hg hl) (hi_val hg hh) h0 h1 (by omega)
        have := run none 0 0 l.toNat m.toNat 0 e3 hb
        refine ⟨_, this, ?_⟩
        rw [show l.toNat = 0 by omega, show m.toNat = 0 by omega]
        exact .ro _ _ .nils
  · rename_i es hx
    have e2 := hg x; rw [hx] at e2; have e3 := e2.of_dat
    cases hl : loN ((lo.map cv).map (ev g)) with
    | none => simp only [hl] at hk; cases hk
    | some l =>
      cases hh : hiN es.length ((hi.map cv).map (ev g)) with
      | none => simp only [hl, hh, Option.bind_some] at hk; cases hk
      | some m =>
        simp only [hl, hh, Option.bind_some, Option.some.injEq, Prod.mk.injEq] at hk; obtain ⟨rfl, rfl⟩ := hk
        obtain ⟨h0, h1, h2, h3, hzz⟩ := hp
        have hmx : mx = none := by cases mx <;> simp_all
        subst hmx
        obtain ⟨a, rc, hv, hrc⟩ : ∃ a rc, ρ x = .slice a es.length rc ∧ es.length ≤ rc := by
          cases hr : ρ x <;> (rw [hr] at e3; cases e3)
          · exact ⟨_, _, rfl, Nat.zero_le _⟩
          · exact ⟨_, _, rfl, by assumption⟩
        have hb := bounds_run (P := P) (w := w) (isSlice := true) (len := es.length) (cap := rc) (lo_val hg hl) (hi_val hg hh) h0 h1 (by omega)
        refine ⟨_, run a es.length rc l.toNat m.toNat rc hv hb, .ro _ _ ?_⟩
        rw [hv] at e3
        have := Ro.cut (l := l.toNat) (hh := m.toNat) e3 hzz (by omega) (by omega) (by omega)
        rw [show (m - l).toNat = m.toNat - l.toNat by omega]
        exact this
  · rename_i o ver off len cap hx
    have e2 := hg x; rw [hx] at e2
    cases hc : cur h o ver with
    | none => simp only [hc] at hk; cases hk
    | some ob =>
      have e3 := e2.of_sl hc
      simp only [hc, Option.bind_some] at hk
      cases hl : loN ((lo.map cv).map (ev g)) with
      | none => simp only [hl] at hk; cases hk
      | some l =>
        cases hh : hiN len ((hi.map cv).map (ev g)) with
        | none => simp only [hl, hh, Option.bind_some] at hk; cases hk
        | some m =>
          simp only [hl, hh, Option.bind_some] at hk
          have fin : ∀ (mm : Nat) (cap' : Option Nat), (∀ (a : Option Addr) (rc : Nat), ρ x = .slice a len rc → len ≤ rc → (mx = none ∧ mm = rc ∨ mx ≠ none ∧ mm ≤ rc) ∧
              (Instr.sliceBounds true len rc (lo.map ρ) (hi.map ρ) (mx.map ρ)).run P w = .ok (l.toNat, m.toNat, if mx = none then rc else mm) w) → True := fun _ _ _ => trivial
          clear fin
          cases mx with
          | none =>
            simp only [Option.map_none, Option.some.injEq, Prod.mk.injEq] at hk; obtain ⟨rfl, rfl⟩ := hk
            obtain ⟨hob, h0, h1, h2⟩ := hp
            obtain ⟨a, rc, hv, hrc⟩ := e3.slice
            have hb := bounds_run (P := P) (w := w) (isSlice := true) (len := len) (cap := rc) (lo_val hg hl) (hi_val hg hh) h0 h1 (by omega)
            refine ⟨_, run a len rc l.toNat m.toNat rc hv hb, .sl _ _ _ _ _ _ ⟨_, _, _, rfl⟩ e2.sl_lt fun ob' hc' => ?_⟩
            rw [hc] at hc'; cases hc'
            rcases e3 with ⟨rfl, ⟨a', ha'⟩, hcap⟩ | ⟨rc', hre, hv', hoff, hle, hck, hcn, hown⟩
            · rw [ha'] at hv; cases hv
              refine .inl ⟨by omega, ⟨_, by rw [if_pos (by omega)]; congr 1 <;> omega⟩, fun hn => ?_⟩
              have := hcap (by simpa using hn); omega
            · rw [hv'] at hv; cases hv
              by_cases hml : rc = l.toNat
              · refine .inl ⟨by omega, ⟨_, by rw [if_pos hml]; congr 1 <;> omega⟩, fun hn => ?_⟩
                have := hcn (by simpa using hn); omega
              · refine .inr ⟨rc - l.toNat, hre, ?_, by omega, by omega, fun k hk' => ?_, fun hn => ?_, ?_⟩
                · rw [if_neg hml]
                  simp only [Option.map_some, Cfg.addr, addr_add, hob]
                  congr 1
                  · congr 2
                    rw [Nat.add_mul]; omega
                  · omega
                · cases cap with
                  | none => simp at hk'
                  | some c => simp at hk'; have := hck c rfl; omega
                · have := hcn (by simpa using hn); omega
                · exact hown.mono (Nat.add_le_add_left (Nat.mul_le_mul_right _ (by omega)) _)
          | some mo =>
            simp only [Option.map_some] at hk
            cases hm : hiN len (some (ev g (cv mo))) with
            | none => simp only [hm] at hk; cases hk
            | some mm =>
              simp only [hm, Option.bind_some, Option.some.injEq, Prod.mk.injEq] at hk; obtain ⟨rfl, rfl⟩ := hk
              obtain ⟨hob, h0, h1, h2, h3, h4⟩ := hp
              obtain ⟨a, rc, hv, hrc⟩ := e3.slice
              obtain ⟨km, hkm⟩ : ∃ k, ρ mo = .int k mm := by
                rcases hi_val (a := some mo) hg hm with ⟨h5, _⟩ | ⟨y, k, h5, h6⟩
                · cases h5
                · cases h5; exact ⟨k, h6⟩
              have hhi : ∃ x k, hi = some x ∧ ρ x = .int k m := by
                rcases hi_val hg hh with ⟨h5, _⟩ | h5
                · subst h5; simp at hmh
                · exact h5
              have hb := bounds_run3 (P := P) (w := w) (isSlice := true) (len := len) (cap := rc) (lo_val hg hl) hhi hkm h0 h1 h3 (by omega)
              refine ⟨_, run a len rc l.toNat m.toNat mm.toNat hv hb, .sl _ _ _ _ _ _ ⟨_, _, _, rfl⟩ e2.sl_lt fun ob' hc' => ?_⟩
              rw [hc] at hc'; cases hc'
              rcases e3 with ⟨rfl, ⟨a', ha'⟩, hcap⟩ | ⟨rc', hre, hv', hoff, hle, hck, hcn, hown⟩
              · rw [ha'] at hv; cases hv
                refine .inl ⟨by omega, ⟨_, by rw [if_pos (by omega)]; congr 1 <;> omega⟩, fun hn => by simp at hn⟩
              · rw [hv'] at hv; cases hv
                by_cases hml : mm.toNat = l.toNat
                · exact .inl ⟨by omega, ⟨_, by rw [if_pos hml]; congr 1 <;> omega⟩, fun hn => by simp at hn⟩
                · refine .inr ⟨mm.toNat - l.toNat, hre, ?_, by omega, by omega, fun k hk' => ?_, fun hn => by simp at hn, ?_⟩
                  · rw [if_neg hml]
                    simp only [Option.map_some, Cfg.addr, addr_add, hob]
                    congr 1
                    · congr 2
                      rw [Nat.add_mul]; omega
                    · omega
                  · simp at hk'; omega
                  · exact hown.mono (Nat.add_le_add_left (Nat.mul_le_mul_right _ (by omega)) _)
  · cases hk
end Go.AM
