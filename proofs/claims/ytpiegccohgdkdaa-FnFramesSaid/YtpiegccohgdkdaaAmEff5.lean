/- append. No condition. -/
import Derived.Test.YtpiegccohgdkdaaAmEff4
import Derived.Deep.AppendSrc
set_option linter.all false
set_option linter.unusedSimpArgs false
set_option linter.unusedVariables false
set_option linter.deprecated false
namespace Go.AM
variable {w : World} {κ : Cfg} {h : Heap} {clk : Nat} {P : Program}

theorem Ext.same {w' : World} (hh : w'.heap = w.heap) : Ext w κ h clk w' κ h clk := by
  refine ⟨Nat.le_refl _, fun o v ob' _ hc => ⟨ob', hc, rfl, rfl, rfl, fun k => k, fun _ n k => k.same (by rw [hh])⟩, fun b hb => ⟨⟨by rw [hh]; exact hb.1, hb.2⟩, by rw [hh]⟩, rfl⟩
theorem Ext.trans {w1 w2 w3 : World} {κ1 κ2 κ3 : Cfg} {h1 h2 h3 : Heap} {c1 c2 c3 : Nat} (E : Ext w1 κ1 h1 c1 w2 κ2 h2 c2) (E' : Ext w2 κ2 h2 c2 w3 κ3 h3 c3) : Ext w1 κ1 h1 c1 w3 κ3 h3 c3 := by
  refine ⟨Nat.le_trans E.hclk E'.hclk, fun o v ob' hv hc => ?_, fun b hb => ?_, ?_⟩
  · obtain ⟨ob2, a1, a2, a3, a4, a5, a6⟩ := E'.hcur o v ob' (Nat.lt_of_lt_of_le hv E.hclk) hc
    obtain ⟨ob1, b1, b2, b3, b4, b5, b6⟩ := E.hcur o v ob2 hv a1
    exact ⟨ob1, b1, a2.trans b2, a3.trans b3, a4.trans b4, fun k => a5 (b5 k), fun k n kn => by
      have := a6 (b5 k) n (by rw [b2]; exact b6 k n kn)
      rwa [b2] at this⟩
  · obtain ⟨a1, a2⟩ := E.hX b hb
    obtain ⟨b1, b2⟩ := E'.hX b a1
    exact ⟨b1, b2.trans a2⟩
  · exact E'.hA.trans E.hA
theorem HR.drew {w0 : World} {P0 : Bs} (H : HR w0 P0 w κ h clk) : HR w0 P0 w.drew κ h clk := by
  have E : Ext w κ h clk w.drew κ h clk := Ext.same rfl
  exact ⟨fun o ob ho => ⟨(H.ob o ob ho).ver, (H.ob o ob ho).esz, fun hn => ⟨((H.ob o ob ho).blk hn).1, ((H.ob o ob ho).blk hn).2.same rfl⟩, fun e j x hx => by
      obtain ⟨v, h1, h2⟩ := (H.ob o ob ho).cells e j x hx
      exact ⟨v, h1, h2.ext E (fun _ _ hb => hb) (fun _ _ => rfl) (fun k => k) (fun h3 h4 => (h3 h4).elim)⟩, (H.ob o ob ho).sep, (H.ob o ob ho).disj⟩,
    H.apart, H.base, H.os, H.tape, H.output, H.size, H.old, H.free⟩

/-- Elements that lie behind an address. -/
theorem rowSrc {esz blk off cap : Nat} {tx : TypeId} {xs : List (List AV)} (hk : ∃ e', P.underlying tx = some (.slice e') ∨ P.underlying tx = some .string) (hg : Good xs esz)
    (hc : ∀ e j y, cellOf xs e j = some y → ∃ u, w.cell? (at_ blk (off + e * esz + j)) = some u ∧ VR w κ h clk y u) :
    ∃ news, Src P esz tx (.slice (some (at_ blk off)) xs.length cap) xs.length news w ∧ ∀ e j y, cellOf xs e j = some y → ∃ u, news[e * esz + j]? = some u ∧ VR w κ h clk y u := by
  have key : ∀ i, i < xs.length * esz → ∃ y u, cellOf xs (i / esz) (i % esz) = some y ∧ y.storable = true ∧ w.cell? (at_ blk (off + i)) = some u ∧ VR w κ h clk y u := by
    intro i hi
    have hpos : 0 < esz := Nat.pos_of_ne_zero fun h0 => by rw [h0] at hi; omega
    have h1 : i / esz < xs.length := by rw [Nat.div_lt_iff_lt_mul hpos]; exact hi
    have h2 := hg xs[i / esz] (List.getElem_mem h1)
    have h3 : i % esz < (xs[i / esz]).length := by rw [h2.1]; exact Nat.mod_lt _ hpos
    have h4 := cellOf_some (List.getElem?_eq_getElem h1) (List.getElem?_eq_getElem h3)
    obtain ⟨u, h5, h6⟩ := hc _ _ _ h4
    refine ⟨_, u, h4, List.all_eq_true.1 h2.2 _ (List.getElem_mem h3), ?_, h6⟩
    rw [← h5]; congr 2
    have := Nat.div_add_mod i esz
    rw [Nat.mul_comm] at this; omega
  obtain ⟨news, hn⟩ : ∃ news, news = (List.range (xs.length * esz)).map fun i => (w.cell? (at_ blk (off + i))).getD Go.undef := ⟨_, rfl⟩
  have hlen : news.length = xs.length * esz := by rw [hn]; simp
  have hget : ∀ i u, news[i]? = some u → w.cell? (at_ blk (off + i)) = some u ∧ u.oneCell' = true := by
    intro i u hu
    rw [hn, List.getElem?_map] at hu
    have hi : i < xs.length * esz := by
      rcases Nat.lt_or_ge i (xs.length * esz) with h1 | h1
      · exact h1
      · rw [List.getElem?_eq_none (by simpa using h1)] at hu; cases hu
    rw [List.getElem?_range hi] at hu
    obtain ⟨y, u', _, h2, h3, h4⟩ := key i hi
    simp only [Option.map_some, h3, Option.getD_some, Option.some.injEq] at hu
    subst hu
    exact ⟨h3, h4.one h2⟩
  have hone : ∀ u ∈ news, u.oneCell' = true := fun u hu => by
    obtain ⟨i, hi, rfl⟩ := List.mem_iff_getElem.1 hu
    exact (hget i _ (List.getElem?_eq_getElem hi)).2
  have hcl : ∀ j u, news[j]? = some u → w.cell? ((at_ blk off).add j) = some u := fun j u hu => by rw [addr_add]; exact (hget j u hu).1
  refine ⟨news, ⟨?_, fun _ => rfl, run_firstCells_some w esz _ _ _ cap news hlen hcl, run_firstCells_some w.drew esz _ _ _ cap news hlen (by simpa using hcl), hlen, hone⟩, fun e j y hy => ?_⟩
  · obtain ⟨e', h1 | h1⟩ := hk
    · exact .inl ⟨e', h1⟩
    · exact .inr h1
  · obtain ⟨u, h1, h2⟩ := hc e j y hy
    refine ⟨u, ?_, h2⟩
    have hb : e * esz + j < xs.length * esz := by
      unfold cellOf at hy
      cases he : xs[e]? with
      | none => rw [he] at hy; cases hy
      | some c =>
        rw [he] at hy
        have h3 : e < xs.length := (List.getElem?_eq_some_iff.1 he).1
        have h4 : j < c.length := (List.getElem?_eq_some_iff.1 hy).1
        rw [(hg c (List.mem_of_getElem? he)).1] at h4
        have : (e + 1) * esz ≤ xs.length * esz := Nat.mul_le_mul_right _ h3
        rw [Nat.add_mul] at this; omega
    rw [hn, List.getElem?_map, List.getElem?_range hb]
    simp only [Option.map_some, Option.some.injEq]
    rw [show off + (e * esz + j) = off + e * esz + j by omega, h1]; rfl

theorem src_ok {esz : Nat} {tx : TypeId} {x : AV} {vx : Value} {px : Prop} {xs : List (List AV)} (hO : ∀ o ob, h o = some ob → ObR w κ h clk o ob) (hk : ∃ e', P.underlying tx = some (.slice e') ∨ P.underlying tx = some .string)
    (hx : VR w κ h clk x vx) (hs : srcF h esz x = some (px, xs)) (hp : px) :
    Good xs esz ∧ ∃ news, Src P esz tx vx xs.length news w ∧ ∀ e j y, cellOf xs e j = some y → ∃ u, news[e * esz + j]? = some u ∧ VR w κ h clk y u := by
  have hk' : (∃ e', P.underlying tx = some (.slice e')) ∨ P.underlying tx = some .string := by
    obtain ⟨e', h1 | h1⟩ := hk
    · exact .inl ⟨e', h1⟩
    · exact .inr h1
  have empty : ∀ a cap, Src P esz tx (.slice a 0 cap) 0 [] w := fun a cap => by
    cases a with
    | none => exact ⟨hk', fun _ => rfl, run_firstCells_none w esz 0 0 cap, run_firstCells_none w.drew esz 0 0 cap, by simp, fun _ h => by cases h⟩
    | some a => exact ⟨hk', fun _ => rfl, run_firstCells_some w esz 0 a 0 cap [] (by simp) (by simp), run_firstCells_some w.drew esz 0 a 0 cap [] (by simp) (by simp), by simp, fun _ h => by cases h⟩
  have nocell : ∀ (e j : Nat) (y : AV), cellOf ([] : List (List AV)) e j = some y → ∃ u, ([] : List Value)[e * esz + j]? = some u ∧ VR w κ h clk y u := fun e j y hy => by simp [cellOf] at hy
  cases x with
  | nils =>
    simp only [srcF, Option.some.injEq, Prod.mk.injEq] at hs; obtain ⟨rfl, rfl⟩ := hs
    have := hx.of_nils; subst this
    exact ⟨fun _ hh => (by cases hh), [], empty _ _, nocell⟩
  | dat es =>
    simp only [srcF, Option.some.injEq, Prod.mk.injEq] at hs; obtain ⟨rfl, rfl⟩ := hs
    refine ⟨hp, ?_⟩
    have hr := hx.of_dat
    cases hr with
    | dat0 a cap => exact ⟨[], empty _ _, nocell⟩
    | dat _ blk off cap esz' val hX hl hz hc hr =>
      refine rowSrc hk hp fun e j y hy => ⟨val e j, ?_, .ro _ _ (hr e j y hy)⟩
      have hez : esz' = esz := by
        unfold cellOf at hy
        cases he : es[e]? with
        | none => rw [he] at hy; cases hy
        | some c => rw [← hz c (List.mem_of_getElem? he), (hp c (List.mem_of_getElem? he)).1]
      rw [← hez]; exact hc e j y hy
  | s l =>
    simp only [srcF, Option.some.injEq, Prod.mk.injEq] at hs; obtain ⟨rfl, rfl⟩ := hs
    cases hp
    have := hx.of_s; subst this
    refine ⟨fun e he => ?_, (byteCells ⟨l.toArray⟩), ?_, fun e j y hy => ?_⟩
    · have he2 := List.mem_map.1 he
      obtain ⟨b, hb⟩ := he2
      rw [← hb.2]; exact ⟨rfl, rfl⟩
    · have e1 : (l.map fun b => [AV.i .u8 (b.toNat : Int)]).length = (⟨l.toArray⟩ : ByteArray).size := by simp [ByteArray.size]
      rw [e1]
      exact ⟨hk', fun _ => rfl, firstCells_string _ w, firstCells_string _ w.drew, by rw [byteCells_length, Nat.mul_one], fun u hu => by
        obtain ⟨b, _, hb⟩ := List.mem_map.1 hu
        rw [← hb]; rfl⟩
    · unfold cellOf at hy
      rw [List.getElem?_map] at hy
      cases he : l[e]? with
      | none => rw [he] at hy; cases hy
      | some b =>
        rw [he] at hy
        cases j with
        | succ j => simp at hy
        | zero =>
          simp at hy; subst hy
          exact ⟨.int .u8 b.toNat, by simp [byteCells, he], .mk_i _ _⟩
  | sl o ver off len cap =>
    unfold srcF at hs
    cases hc : cur h o ver with
    | none => simp [hc] at hs
    | some ob =>
      simp only [hc, Option.bind_some, Option.some.injEq, Prod.mk.injEq] at hs; obtain ⟨rfl, rfl⟩ := hs
      obtain ⟨hez, hp⟩ := hp
      refine ⟨hp.2, ?_⟩
      rcases hx.of_sl hc with ⟨rfl, ⟨a, rfl⟩, _⟩ | ⟨rc, _, rfl, hoff, _⟩
      · have e1 : sub ob.es off 0 = [] := by
          by_cases h1 : off ≤ ob.es.length
          · exact sub_zero h1
          · unfold sub; rw [if_neg (by omega)]; simp
        rw [e1]
        exact ⟨[], empty _ _, nocell⟩
      · have hl := sub_length hoff
        have hq : ∀ e j y, cellOf (sub ob.es off len) e j = some y → ∃ u, w.cell? (at_ (κ.ι o).1 ((κ.ι o).2 + off * ob.esz + 0 + e * esz + j)) = some u ∧ VR w κ h clk y u := by
          intro e j y hy
          obtain ⟨_, h2⟩ := sub_cell hoff hy
          obtain ⟨u, h3, h4⟩ := (hO o ob (cur_some hc).1).cells _ _ _ h2
          refine ⟨u, ?_, h4.vr_flat fun hown => ?_⟩
          · rw [← h3, Cfg.addr]; congr 2; rw [hez, Nat.add_mul]; omega
          · unfold cellOf at hy
            cases he : (sub ob.es off len)[e]? with
            | none => rw [he] at hy; cases hy
            | some c => rw [he] at hy; exact hp.1 hown c (List.mem_of_getElem? he) y (List.mem_of_getElem? hy)
        have := rowSrc (cap := rc) hk hp.2 hq
        rw [hl] at this ⊢
        exact this
  | _ => simp [srcF] at hs
end Go.AM
