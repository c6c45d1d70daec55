/- Ghost steps are sound. No condition. -/
import Derived.Test.YtbhdjaccdaccbaaGreatAmG13
set_option linter.all false
set_option linter.unusedSimpArgs false
set_option linter.unusedVariables false
set_option linter.deprecated false
/-! Gh -/
section
namespace Go.AM
variable {w0 : World} {P0 : Bs} {w : World} {κ κ' : Cfg} {h h' : Heap} {clk clk' : Nat}
theorem HR.rearr (H : HR w0 P0 w κ h clk) (hA : κ'.A = κ.A) (hclk : clk ≤ clk')
    (hcur : ∀ u ou', h' u = some ou' → ou'.ver < clk → ∃ ou, h u = some ou ∧ ou.ver = ou'.ver ∧ κ'.ι u = κ.ι u ∧ ou'.esz = ou.esz ∧ ou'.es.length = ou.es.length ∧ (κ.re u → κ'.re u))
    (hfoot : ∀ u ou b, h' u = some ou → κ'.foot u b → ∃ u2 ou2, h u2 = some ou2 ∧ κ.foot u2 b)
    (hap : ∀ u u' ou ou' b, h' u = some ou → h' u' = some ou' → u ≠ u' → κ'.foot u b → κ'.foot u' b → False)
    (hob : Ext w κ h clk w κ' h' clk' → ∀ u ou, h' u = some ou → ObR w κ' h' clk' u ou) : HR w0 P0 w κ' h' clk' ∧ Ext w κ h clk w κ' h' clk' := by
  have E : Ext w κ h clk w κ' h' clk' := by
    refine ⟨hclk, fun u v ou' hv hc => ?_, fun b hb => ⟨⟨hb.1, by rw [hA]; exact hb.2.1, fun u ou hu hf => ?_⟩, rfl⟩, hA⟩
    · obtain ⟨h1, h2⟩ := cur_some hc
      obtain ⟨ou, q1, q2, q3, q4, q5, q6⟩ := hcur u ou' h1 (by omega)
      exact ⟨ou, by unfold cur; rw [q1]; simp only; rw [if_pos (by omega)], q3, q4, q5, q6, fun _ _ k => k⟩
    · obtain ⟨u2, ou2, h1, h2⟩ := hfoot u ou b hu hf
      exact hb.2.2 u2 ou2 h1 h2
  refine ⟨⟨hob E, hap, fun u ou b hu hf => ?_, H.os, H.tape, H.output, H.size, H.old, fun b hb => by rw [hA]; exact H.free b hb, by rw [hA]; exact H.glob⟩, E⟩
  obtain ⟨u2, ou2, h1, h2⟩ := hfoot u ou b hu hf
  exact H.base u2 ou2 b h1 h2
theorem ObR.keep {u : Rid} {ou : Ob} (R : ObR w κ h clk u ou) (E : Ext w κ h clk w κ' h' clk') (hι : κ'.ι u = κ.ι u) (hre : κ.re u → κ'.re u) (hF : κ'.F u = κ.F u) : ObR w κ' h' clk' u ou := by
  refine ⟨Nat.lt_of_lt_of_le R.ver E.hclk, R.esz, fun hne => ?_, fun e j x hx => ?_, fun e j b hb => ?_, fun e j e' j' b hb hb' => ?_⟩
  · obtain ⟨h1, h2⟩ := R.blk hne
    exact ⟨hre h1, by rw [hι]; exact h2⟩
  · obtain ⟨v, h1, h2⟩ := R.cells e j x hx
    refine ⟨v, by rw [Cfg.addr, hι]; exact h1, ?_⟩
    rw [hF]
    exact h2.ext E (fun _ _ hb => hb) (fun _ _ => rfl) id (fun hn ho => absurd ho hn)
  · rw [hF] at hb; rw [hι]; exact R.sep e j b hb
  · rw [hF] at hb hb'; exact R.disj e j e' j' b hb hb'
theorem cellOf_set {es : List (List AV)} {e j : Nat} {row : List AV} {x : AV} (hr : es[e]? = some row) {e' j' : Nat} {y : AV} (hy : cellOf (es.set e (row.set j x)) e' j' = some y) :
    (e' = e ∧ j' = j ∧ y = x) ∨ (¬ (e' = e ∧ j' = j) ∧ cellOf es e' j' = some y) := by
  have hlt := (List.getElem?_eq_some_iff.1 hr).1
  unfold cellOf at hy ⊢
  by_cases he : e' = e
  · subst he
    rw [List.getElem?_set_self hlt] at hy
    simp only [Option.bind_some] at hy
    by_cases hj : j' = j
    · subst hj
      by_cases hl : j' < row.length
      · rw [List.getElem?_set_self hl] at hy
        exact .inl ⟨rfl, rfl, (Option.some.inj hy).symm⟩
      · rw [List.getElem?_eq_none (by simp; omega)] at hy; cases hy
    · rw [List.getElem?_set_ne (by omega)] at hy
      exact .inr ⟨by omega, by rw [hr]; exact hy⟩
  · rw [List.getElem?_set_ne (by omega)] at hy
    exact .inr ⟨by omega, hy⟩
theorem set_esz {es : List (List AV)} {e j n : Nat} {row : List AV} {x : AV} (hr : es[e]? = some row) (hz : ∀ l ∈ es, l.length = n) : ∀ l ∈ es.set e (row.set j x), l.length = n := by
  intro l hl
  rcases List.mem_or_eq_of_mem_set hl with h | h
  · exact hz l h
  · subst h; simp; exact hz row (List.mem_of_getElem? hr)
/-- With a place of an object that holds other blocks. -/
def Cfg.setF (κ : Cfg) (o : Rid) (e j : Nat) (S : Bs) : Cfg := { κ with F := fun u e' j' => if u = o ∧ e' = e ∧ j' = j then S else κ.F u e' j' }
theorem setF_foot {o u : Rid} {e j : Nat} {S : Bs} {b : Nat} (hf : (κ.setF o e j S).foot u b) : κ.foot u b ∨ (u = o ∧ S b) := by
  rcases hf with h1 | ⟨e', j', h1⟩
  · exact .inl (.inl h1)
  · simp only [Cfg.setF] at h1
    split at h1
    · rename_i hh; exact .inr ⟨hh.1, h1⟩
    · exact .inl (.inr ⟨e', j', h1⟩)
theorem Od.vr {S : Bs} {x : AV} {v : Value} (ho : Od w S x v) (hd : x.isDat = false) : VR w κ h clk x v := by
  cases ho with
  | b => exact .ro _ _ (.b _)
  | i => exact .ro _ _ (.i _ _)
  | s => exact .ro _ _ (.s _)
  | nilp => exact .ro _ _ .nilp
  | nils => exact .ro _ _ .nils
  | nilf => exact .ro _ _ .nilf
  | undef => exact .ro _ _ (.undef _)
  | dat0 => simp [AV.isDat] at hd
  | dat => simp [AV.isDat] at hd
theorem Od.cr {own : Prop} (hown : own) {S : Bs} {x : AV} {v : Value} (ho : Od w S x v) : CR w κ h clk own S x v := by
  cases hx : x.isDat with
  | true =>
    cases x <;> simp [AV.isDat] at hx
    exact ⟨fun _ => ho, fun hn => absurd hown hn⟩
  | false =>
    have hv := ho.vr (κ := κ) (h := h) (clk := clk) hx
    cases x <;> first | exact hv | (simp [AV.isDat] at hx; done) | (cases ho; done)
theorem CR.od {own : Prop} {S : Bs} {x : AV} {v : Value} (hc : CR w κ h clk own S x v) (hp : x.pure = true) (ho : own ∨ x.isDat = false) : Od w S x v := by
  cases x with
  | dat z es =>
    rcases ho with ho | ho
    · exact hc.1 ho
    · simp [AV.isDat] at ho
  | b x => have := (show VR w κ h clk _ v from hc).of_b; subst this; exact .b _ _
  | i k n => have := (show VR w κ h clk _ v from hc).of_i; subst this; exact .i _ _ _
  | s l => have := (show VR w κ h clk _ v from hc).of_s; subst this; exact .s _ _
  | nilp => cases (show VR w κ h clk _ v from hc) with | ro _ _ hr => cases hr; exact .nilp _
  | nils => have := (show VR w κ h clk _ v from hc).of_nils; subst this; exact .nils _
  | nilf => have := (show VR w κ h clk _ v from hc).of_nilf; subst this; exact .nilf _
  | undef => exact .undef _ _
  | _ => simp [AV.pure] at hp
/-- What a step leaves of the world's reading. -/
def GhSt (w0 : World) (P0 : Bs) (w : World) (κ : Cfg) (h : Heap) (clk : Nat) (g : Slots) (tm : Nat → Value) (g' : Slots) (h' : Heap) (clk' : Nat) : Prop :=
  ∃ κ', HR w0 P0 w κ' h' clk' ∧ Ext w κ h clk w κ' h' clk' ∧ ∀ t, VR w κ' h' clk' (g' t) (tm t)
theorem gh_nil {g : Slots} {tm : Nat → Value} {t z : Nat} {n : Rid} {cap : Option Nat} (H : HR w0 P0 w κ h clk) (hg : ∀ t, VR w κ h clk (g t) (tm t)) (ht : g t = .nils) (hn : h n = none) :
    GhSt w0 P0 w κ h clk g tm (upd g t (.sl n clk 0 0 cap)) (hup h n { ver := clk, es := [], esz := z }) (clk + 1) := by
  let κ' : Cfg := { κ with re := fun u => if u = n then False else κ.re u, F := fun u => if u = n then fun _ _ _ => False else κ.F u }
  have fn : ∀ b, ¬ κ'.foot n b := by intro b; simp [κ', Cfg.foot]
  have fo : ∀ u, u ≠ n → ∀ b, κ'.foot u b ↔ κ.foot u b := by intro u hu b; simp [κ', Cfg.foot, hu]
  obtain ⟨H', E⟩ := H.rearr (κ' := κ') (h' := hup h n { ver := clk, es := [], esz := z }) (clk' := clk + 1) rfl (Nat.le_succ _)
    (fun u ou hu hv => by
      by_cases hun : u = n
      · subst hun; rw [hup_at, if_pos rfl] at hu; cases hu; simp at hv
      · rw [hup_at, if_neg hun] at hu; exact ⟨ou, hu, rfl, rfl, rfl, rfl, fun hr => by simp [κ', hun, hr]⟩)
    (fun u ou b hu hf => by
      by_cases hun : u = n
      · subst hun; exact (fn b hf).elim
      · rw [hup_at, if_neg hun] at hu; exact ⟨u, ou, hu, (fo u hun b).1 hf⟩)
    (fun u u' ou ou' b hu hu' hne hf hf' => by
      by_cases hun : u = n
      · subst hun; exact fn b hf
      · by_cases hun' : u' = n
        · subst hun'; exact fn b hf'
        · rw [hup_at, if_neg hun] at hu; rw [hup_at, if_neg hun'] at hu'
          exact H.apart u u' ou ou' b hu hu' hne ((fo u hun b).1 hf) ((fo u' hun' b).1 hf'))
    (fun E u ou hu => by
      by_cases hun : u = n
      · subst hun; rw [hup_at, if_pos rfl] at hu; cases hu
        exact ⟨Nat.lt_succ_self _, (by simp), (by simp), (fun e j x hx => by simp [cellOf] at hx), (fun e j b hb => by simp [κ'] at hb), (fun e j e' j' b hb => by simp [κ'] at hb)⟩
      · rw [hup_at, if_neg hun] at hu
        exact (H.ob u ou hu).keep E rfl (fun hr => by simp [κ', hun, hr]) (by simp [κ', hun]))
  refine ⟨κ', H', E, fun s => ?_⟩
  unfold upd
  by_cases hs : s = t
  · subst hs
    rw [if_pos rfl]
    have hv := hg s
    rw [ht] at hv
    rw [hv.of_nils]
    refine .sl _ _ _ _ _ _ ⟨_, _, _, rfl⟩ (Nat.lt_succ_self _) fun ob hc => ?_
    obtain ⟨h1, _⟩ := cur_some hc
    rw [hup_at, if_pos rfl] at h1; cases h1
    exact .inl ⟨rfl, ⟨none, rfl⟩, fun _ => by simp⟩
  · rw [if_neg hs]; exact (hg s).ext E
theorem gh_take {g : Slots} {tm : Nat → Value} {o n : Rid} {ob : Ob} {row : List AV} {e j z : Nat} {es : List (List AV)} (H : HR w0 P0 w κ h clk) (hg : ∀ t, VR w κ h clk (g t) (tm t)) (ho : h o = some ob) (hown : ob.own) (hrow : ob.es[e]? = some row) (hcell : row[j]? = some (.dat z es)) (hn : h n = none) (hno : n ≠ o) :
    GhSt w0 P0 w κ h clk g tm g (hup (hup h o { ob with es := ob.es.set e (row.set j (.sl n clk 0 es.length none)) }) n { ver := clk, es := es, esz := z }) (clk + 1) := by
  have R := H.ob o ob ho
  have hc : cellOf ob.es e j = some (.dat z es) := by unfold cellOf; rw [hrow]; exact hcell
  obtain ⟨v, hv1, hv2⟩ := R.cells e j _ hc
  have hod := hv2.1 hown
  -- what the row's blocks are
  obtain ⟨blk, off, re, Sf, hre, hS, hd, hz, hblk, hcells, hsl⟩ : ∃ (blk off : Nat) (re : Prop) (Sf : Nat → Nat → Bs), (re → κ.F o e j blk) ∧ (∀ e' j' b, Sf e' j' b → κ.F o e j b ∧ b ≠ blk) ∧ (∀ e1 j1 e2 j2 b, Sf e1 j1 b → Sf e2 j2 b → e1 = e2 ∧ j1 = j2) ∧ (∀ l ∈ es, l.length = z) ∧
      (es ≠ [] → re ∧ OwnBlk w blk (off + es.length * z)) ∧ (∀ e' j' x, cellOf es e' j' = some x → ∃ u, w.cell? (at_ blk (off + e' * z + j')) = some u ∧ Od w (Sf e' j') x u) ∧
      ((es.length = 0 ∧ ∃ a, v = .slice a 0 0) ∨ ∃ rc, re ∧ v = .slice (some (at_ blk off)) es.length rc ∧ es.length ≤ rc ∧ OwnBlk w blk (off + rc * z)) := by
    cases hod with
    | dat0 _ _ a => exact ⟨0, 0, False, fun _ _ _ => False, (fun h => h.elim), (fun _ _ _ h => h.elim), (fun _ _ _ _ _ h => h.elim), (by simp), (by simp), (fun e' j' x hx => by simp [cellOf] at hx), .inl ⟨rfl, a, rfl⟩⟩
    | dat _ _ blk off cap _ val Sf hS hl hO hz hc hr hs hd =>
      refine ⟨blk, off, True, Sf, fun _ => hS, fun e' j' b hb => hs e' j' b hb, hd, hz, fun _ => ⟨trivial, hO.mono ?_⟩, fun e' j' x hx => ⟨_, hc e' j' x hx, hr e' j' x hx⟩, .inr ⟨cap, trivial, rfl, hl, hO⟩⟩
      have := Nat.mul_le_mul_right z hl; omega
  let κ' : Cfg := { ι := fun u => if u = n then (blk, off) else κ.ι u, re := fun u => if u = n then re else κ.re u, F := fun u => if u = n then Sf else fun e' j' => if u = o ∧ e' = e ∧ j' = j then fun _ => False else κ.F u e' j', A := κ.A }
  have fn : ∀ b, κ'.foot n b → κ.F o e j b := by
    intro b hb
    rcases hb with ⟨h1, h2⟩ | ⟨e', j', h1⟩
    · simp only [κ', if_true] at h1 h2; rw [h2]; exact hre h1
    · simp only [κ', if_true] at h1; exact (hS e' j' b h1).1
  have fo : ∀ u, u ≠ n → ∀ b, κ'.foot u b → κ.foot u b ∧ (u = o → ¬ κ.F o e j b) := by
    intro u hu b hb
    rcases hb with ⟨h1, h2⟩ | ⟨e', j', h1⟩
    · simp only [κ', if_neg hu] at h1 h2
      refine ⟨.inl ⟨h1, h2⟩, fun huo hF => ?_⟩
      subst huo; exact R.sep e j b hF h2
    · simp only [κ', if_neg hu] at h1
      split at h1
      · exact h1.elim
      · rename_i hne
        refine ⟨.inr ⟨e', j', h1⟩, fun huo hF => ?_⟩
        subst huo
        have := R.disj e' j' e j b h1 hF
        exact hne ⟨rfl, this.1, this.2⟩
  have hlen : (ob.es.set e (row.set j (.sl n clk 0 es.length none))).length = ob.es.length := List.length_set
  have at_n : ∀ ou, hup (hup h o { ob with es := ob.es.set e (row.set j (.sl n clk 0 es.length none)) }) n { ver := clk, es := es, esz := z } n = some ou → ou = { ver := clk, es := es, esz := z } := fun ou hu => by rw [hup_at, if_pos rfl] at hu; exact (Option.some.inj hu).symm
  have at_o : ∀ u ou, u ≠ n → hup (hup h o { ob with es := ob.es.set e (row.set j (.sl n clk 0 es.length none)) }) n { ver := clk, es := es, esz := z } u = some ou → (u = o ∧ ou = { ob with es := ob.es.set e (row.set j (.sl n clk 0 es.length none)) }) ∨ (u ≠ o ∧ h u = some ou) := fun u ou hun hu => by
    rw [hup_at, if_neg hun, hup_at] at hu
    by_cases huo : u = o
    · rw [if_pos huo] at hu; exact .inl ⟨huo, (Option.some.inj hu).symm⟩
    · rw [if_neg huo] at hu; exact .inr ⟨huo, hu⟩
  have was : ∀ u ou, u ≠ n → hup (hup h o { ob with es := ob.es.set e (row.set j (.sl n clk 0 es.length none)) }) n { ver := clk, es := es, esz := z } u = some ou → ∃ ou2, h u = some ou2 := fun u ou hun hu => by
    rcases at_o u ou hun hu with ⟨rfl, _⟩ | ⟨_, h2⟩
    · exact ⟨ob, ho⟩
    · exact ⟨ou, h2⟩
  obtain ⟨H', E⟩ := H.rearr (κ' := κ') (h' := hup (hup h o { ob with es := ob.es.set e (row.set j (.sl n clk 0 es.length none)) }) n { ver := clk, es := es, esz := z }) (clk' := clk + 1) rfl (Nat.le_succ _)
    (fun u ou hu hv => by
      by_cases hun : u = n
      · subst hun; rw [at_n ou hu] at hv; simp at hv
      · rcases at_o u ou hun hu with ⟨rfl, rfl⟩ | ⟨_, h2⟩
        · exact ⟨ob, ho, rfl, by simp [κ', hun], rfl, hlen, fun hr => by simp [κ', hun, hr]⟩
        · exact ⟨ou, h2, rfl, by simp [κ', hun], rfl, rfl, fun hr => by simp [κ', hun, hr]⟩)
    (fun u ou b hu hf => by
      by_cases hun : u = n
      · subst hun; exact ⟨o, ob, ho, .inr ⟨e, j, fn b hf⟩⟩
      · obtain ⟨ou2, h2⟩ := was u ou hun hu
        exact ⟨u, ou2, h2, (fo u hun b hf).1⟩)
    (fun u u' ou ou' b hu hu' hne hf hf' => by
      by_cases hun : u = n
      · subst hun
        have hun' : u' ≠ u := fun hh => hne hh.symm
        obtain ⟨ou2, h2⟩ := was u' ou' hun' hu'
        obtain ⟨h3, h4⟩ := fo u' hun' b hf'
        by_cases huo : u' = o
        · exact h4 huo (fn b hf)
        · exact H.apart u' o ou2 ob b h2 ho huo h3 (.inr ⟨e, j, fn b hf⟩)
      · obtain ⟨ou2, h2⟩ := was u ou hun hu
        by_cases hun' : u' = n
        · subst hun'
          obtain ⟨h3, h4⟩ := fo u hun b hf
          by_cases huo : u = o
          · exact h4 huo (fn b hf')
          · exact H.apart u o ou2 ob b h2 ho huo h3 (.inr ⟨e, j, fn b hf'⟩)
        · obtain ⟨ou3, h3⟩ := was u' ou' hun' hu'
          exact H.apart u u' ou2 ou3 b h2 h3 hne (fo u hun b hf).1 (fo u' hun' b hf').1)
    (fun E u ou hu => by
      by_cases hun : u = n
      · subst hun
        rw [at_n ou hu]
        refine ⟨Nat.lt_succ_self _, hz, fun hne => ?_, fun e' j' x hx => ?_, fun e' j' b hb => ?_, fun e1 j1 e2 j2 b hb hb' => ?_⟩
        · simp only [κ', if_true]; exact hblk hne
        · obtain ⟨q, h1, h2⟩ := hcells e' j' x hx
          refine ⟨q, by simp only [Cfg.addr, κ', if_true]; exact h1, ?_⟩
          simp only [κ', if_true]
          exact h2.cr trivial
        · simp only [κ', if_true] at hb ⊢; exact (hS e' j' b hb).2
        · simp only [κ', if_true] at hb hb'; exact hd e1 j1 e2 j2 b hb hb'
      · rcases at_o u ou hun hu with ⟨rfl, rfl⟩ | ⟨huo, h2⟩
        · have hι : κ'.ι u = κ.ι u := by simp [κ', hun]
          have hne : ob.es ≠ [] := by intro hh; rw [hh] at hrow; simp at hrow
          refine ⟨Nat.lt_succ_of_lt R.ver, set_esz hrow R.esz, fun _ => ?_, fun e' j' x hx => ?_, fun e' j' b hb => ?_, fun e1 j1 e2 j2 b hb hb' => ?_⟩
          · obtain ⟨h1, h2⟩ := R.blk hne
            exact ⟨by simp [κ', hun, h1], by rw [hι]; simp only [hlen]; exact h2⟩
          · rcases cellOf_set hrow hx with ⟨rfl, rfl, rfl⟩ | ⟨hne2, hx2⟩
            · refine ⟨v, by rw [Cfg.addr, hι]; exact hv1, ?_⟩
              refine .sl _ _ _ _ _ _ (by rcases hsl with ⟨h1, a, rfl⟩ | ⟨rc, _, rfl, _⟩ <;> exact ⟨_, _, _, rfl⟩) (Nat.lt_succ_self _) fun ob' hc' => ?_
              obtain ⟨h3, _⟩ := cur_some hc'
              rw [at_n ob' h3]
              rcases hsl with ⟨h1, a, rfl⟩ | ⟨rc, h1, rfl, h4, h5⟩
              · exact .inl ⟨h1, ⟨a, rfl⟩, fun _ => by show es.length ≤ 0; omega⟩
              · refine .inr ⟨rc, by simp [κ', h1], by simp [Cfg.addr, κ'], by simp, h4, fun _ hh => (by cases hh), fun _ => by simp; exact h4, by simpa [κ'] using h5⟩
            · obtain ⟨q, h1, h2⟩ := R.cells e' j' x hx2
              refine ⟨q, by rw [Cfg.addr, hι]; exact h1, ?_⟩
              have hF : κ'.F u e' j' = κ.F u e' j' := by simp [κ', hun]; intro h3 h4; exact absurd ⟨h3, h4⟩ hne2
              rw [hF]
              exact h2.ext E (fun _ _ hb => hb) (fun _ _ => rfl) id (fun hn ho => absurd ho hn)
          · rw [hι]
            simp only [κ', if_neg hun] at hb
            split at hb
            · exact hb.elim
            · exact R.sep e' j' b hb
          · simp only [κ', if_neg hun] at hb hb'
            split at hb
            · exact hb.elim
            · split at hb'
              · exact hb'.elim
              · exact R.disj e1 j1 e2 j2 b hb hb'
        · exact (H.ob u ou h2).keep E (by simp [κ', hun]) (fun hr => by simp [κ', hun, hr]) (by simp [κ', hun, huo]))
  exact ⟨κ', H', E, fun t => (hg t).ext E⟩
theorem gh_give {g : Slots} {tm : Nat → Value} {o n : Rid} {ob bn : Ob} {row : List AV} {e j off len : Nat} {cap : Option Nat} (H : HR w0 P0 w κ h clk) (hg : ∀ t, VR w κ h clk (g t) (tm t)) (ho : h o = some ob) (hown : ob.own) (hrow : ob.es[e]? = some row) (hcell : row[j]? = some (.sl n bn.ver off len cap))
    (hn : h n = some bn) (hno : n ≠ o) (hlen : off + len ≤ bn.es.length) (hp : Pure bn.es) (hw : bn.own ∨ Flat bn.es) :
    GhSt w0 P0 w κ h clk g tm g (hup (hdel h n) o { ob with es := ob.es.set e (row.set j (.dat bn.esz (sub bn.es off len))) }) clk := by
  have R := H.ob o ob ho
  have Rn := H.ob n bn hn
  have hne : ob.es ≠ [] := by intro hh; rw [hh] at hrow; simp at hrow
  have hreo := (R.blk hne).1
  have hc : cellOf ob.es e j = some (.sl n bn.ver off len cap) := by unfold cellOf; rw [hrow]; exact hcell
  obtain ⟨v, hv1, hv2⟩ := R.cells e j _ hc
  have hcu : cur h n bn.ver = some bn := by unfold cur; rw [hn]; simp
  have hso : SlOk w κ n bn off len cap v := (show VR w κ h clk (.sl n bn.ver off len cap) v from hv2).of_sl hcu
  have hslen := sub_length hlen
  have hod : Od w (κ.foot n) (.dat bn.esz (sub bn.es off len)) v := by
    rcases hso with ⟨rfl, ⟨a, rfl⟩, _⟩ | ⟨rc, hre, rfl, hoff, hlr, _, _, hO⟩
    · rw [sub_zero (by omega)]; exact .dat0 _ _ a
    · have key : ∀ e' j' x, cellOf (sub bn.es off len) e' j' = some x → ∃ u, w.cell? (κ.addr n bn.esz (off + e') j') = some u ∧ Od w (κ.F n (off + e') j') x u := by
        intro e' j' x hx
        obtain ⟨_, hx2⟩ := sub_cell hoff hx
        obtain ⟨u, h3, h4⟩ := Rn.cells _ _ _ hx2
        have hxp : x.pure = true ∧ (bn.own ∨ x.isDat = false) := by
          unfold cellOf at hx2
          cases he : bn.es[off + e']? with
          | none => rw [he] at hx2; cases hx2
          | some c =>
            rw [he] at hx2
            refine ⟨hp c (List.mem_of_getElem? he) x (List.mem_of_getElem? hx2), hw.imp id fun hf => hf c (List.mem_of_getElem? he) x (List.mem_of_getElem? hx2)⟩
        exact ⟨u, h3, h4.od hxp.1 hxp.2⟩
      have hk := Od.dat (w := w) (κ.foot n) (sub bn.es off len) (κ.ι n).1 ((κ.ι n).2 + off * bn.esz) rc bn.esz (fun e' j' => (w.cell? (κ.addr n bn.esz (off + e') j')).getD Go.undef) (fun e' j' => κ.F n (off + e') j') (.inl ⟨hre, rfl⟩) (by rw [hslen]; exact hlr)
        (by rw [show (κ.ι n).2 + off * bn.esz + rc * bn.esz = (κ.ι n).2 + (off + rc) * bn.esz by rw [Nat.add_mul]; omega]; exact hO) (fun l hl => Rn.esz l (sub_mem hl))
        (fun e' j' x hx => by
          obtain ⟨u, h3, _⟩ := key e' j' x hx
          rw [h3, Option.getD_some]
          rw [← h3, Cfg.addr, show (κ.ι n).2 + off * bn.esz + e' * bn.esz + j' = (κ.ι n).2 + (off + e') * bn.esz + j' by rw [Nat.add_mul]; omega])
        (fun e' j' x hx => by
          obtain ⟨u, h3, h4⟩ := key e' j' x hx
          rw [h3, Option.getD_some]; exact h4)
        (fun e' j' b hb => ⟨.inr ⟨_, _, hb⟩, Rn.sep _ _ b hb⟩) (fun e1 j1 e2 j2 b h1 h2 => by
          have := Rn.disj _ _ _ _ b h1 h2; omega)
      rw [hslen] at hk
      have ea : κ.addr n bn.esz off 0 = at_ (κ.ι n).1 ((κ.ι n).2 + off * bn.esz) := by simp [Cfg.addr]
      rw [ea]; exact hk
  let κ' : Cfg := κ.setF o e j (κ.foot n)
  have hlen2 : (ob.es.set e (row.set j (.dat bn.esz (sub bn.es off len)))).length = ob.es.length := List.length_set
  have at_ : ∀ u ou, hup (hdel h n) o { ob with es := ob.es.set e (row.set j (.dat bn.esz (sub bn.es off len))) } u = some ou → u ≠ n ∧ ((u = o ∧ ou = { ob with es := ob.es.set e (row.set j (.dat bn.esz (sub bn.es off len))) }) ∨ (u ≠ o ∧ h u = some ou)) := fun u ou hu => by
    rw [hup_at] at hu
    by_cases huo : u = o
    · rw [if_pos huo] at hu; exact ⟨fun hh => hno (hh.symm.trans huo), .inl ⟨huo, (Option.some.inj hu).symm⟩⟩
    · rw [if_neg huo, hdel_at] at hu
      by_cases hun : u = n
      · rw [if_pos hun] at hu; cases hu
      · rw [if_neg hun] at hu; exact ⟨hun, .inr ⟨huo, hu⟩⟩
  have was : ∀ u ou, hup (hdel h n) o { ob with es := ob.es.set e (row.set j (.dat bn.esz (sub bn.es off len))) } u = some ou → u ≠ n ∧ ∃ ou2, h u = some ou2 := fun u ou hu => by
    obtain ⟨h1, ⟨rfl, _⟩ | ⟨_, h2⟩⟩ := at_ u ou hu
    · exact ⟨h1, ob, ho⟩
    · exact ⟨h1, ou, h2⟩
  obtain ⟨H', E⟩ := H.rearr (κ' := κ') (h' := hup (hdel h n) o { ob with es := ob.es.set e (row.set j (.dat bn.esz (sub bn.es off len))) }) (clk' := clk) rfl (Nat.le_refl _)
    (fun u ou hu hv => by
      obtain ⟨_, ⟨rfl, rfl⟩ | ⟨_, h2⟩⟩ := at_ u ou hu
      · exact ⟨ob, ho, rfl, rfl, rfl, hlen2, fun hr => hr⟩
      · exact ⟨ou, h2, rfl, rfl, rfl, rfl, fun hr => hr⟩)
    (fun u ou b hu hf => by
      obtain ⟨_, ou2, h2⟩ := was u ou hu
      rcases setF_foot hf with h3 | ⟨_, h3⟩
      · exact ⟨u, ou2, h2, h3⟩
      · exact ⟨n, bn, hn, h3⟩)
    (fun u u' ou ou' b hu hu' hne hf hf' => by
      obtain ⟨h1, ou2, h2⟩ := was u ou hu
      obtain ⟨h1', ou2', h2'⟩ := was u' ou' hu'
      rcases setF_foot hf with h3 | ⟨h4, h3⟩ <;> rcases setF_foot hf' with h3' | ⟨h4', h3'⟩
      · exact H.apart u u' ou2 ou2' b h2 h2' hne h3 h3'
      · exact H.apart u n ou2 bn b h2 hn h1 h3 h3'
      · exact H.apart u' n ou2' bn b h2' hn h1' h3' h3
      · exact hne (h4.trans h4'.symm))
    (fun E u ou hu => by
      obtain ⟨hun, ⟨rfl, rfl⟩ | ⟨huo, h2⟩⟩ := at_ u ou hu
      · have hFn : ∀ b, κ.foot n b → b ≠ (κ.ι u).1 := fun b hb hh => H.apart n u bn ob b hn ho hno hb (.inl ⟨hreo, hh⟩)
        refine ⟨R.ver, set_esz hrow R.esz, fun _ => ?_, fun e' j' x hx => ?_, fun e' j' b hb => ?_, fun e1 j1 e2 j2 b hb hb' => ?_⟩
        · obtain ⟨h1, h2⟩ := R.blk hne
          exact ⟨h1, by simp only [hlen2]; exact h2⟩
        · rcases cellOf_set hrow hx with ⟨rfl, rfl, rfl⟩ | ⟨hne2, hx2⟩
          · refine ⟨v, hv1, ?_⟩
            have hF : κ'.F u e' j' = κ.foot n := by simp [κ', Cfg.setF]
            rw [hF]
            exact ⟨fun _ => hod, fun hn => absurd hown hn⟩
          · obtain ⟨q, h1, h2⟩ := R.cells e' j' x hx2
            refine ⟨q, h1, ?_⟩
            have hF : κ'.F u e' j' = κ.F u e' j' := by simp [κ', Cfg.setF]; intro h3 h4; exact absurd ⟨h3, h4⟩ hne2
            rw [hF]
            exact h2.ext E (fun _ _ hb => hb) (fun _ _ => rfl) id (fun hn ho => absurd ho hn)
        · simp only [κ', Cfg.setF] at hb
          split at hb
          · exact hFn b hb
          · exact R.sep e' j' b hb
        · simp only [κ', Cfg.setF] at hb hb'
          split at hb
          · rename_i q1
            split at hb'
            · rename_i q2; exact ⟨q1.2.1.trans q2.2.1.symm, q1.2.2.trans q2.2.2.symm⟩
            · exact (H.apart n u bn ob b hn ho hno hb (.inr ⟨_, _, hb'⟩)).elim
          · split at hb'
            · exact (H.apart n u bn ob b hn ho hno hb' (.inr ⟨_, _, hb⟩)).elim
            · exact R.disj e1 j1 e2 j2 b hb hb'
      · refine (H.ob u ou h2).keep E rfl (fun hr => hr) ?_
        funext e' j'; simp [κ', Cfg.setF, huo])
  exact ⟨κ', H', E, fun t => (hg t).ext E⟩
theorem gh_drop {g : Slots} {tm : Nat → Value} {n : Rid} (H : HR w0 P0 w κ h clk) (hg : ∀ t, VR w κ h clk (g t) (tm t)) : GhSt w0 P0 w κ h clk g tm g (hdel h n) clk := by
  have at_ : ∀ u ou, hdel h n u = some ou → h u = some ou := fun u ou hu => by
    rw [hdel_at] at hu; split at hu
    · cases hu
    · exact hu
  obtain ⟨H', E⟩ := H.rearr (κ' := κ) (h' := hdel h n) (clk' := clk) rfl (Nat.le_refl _)
    (fun u ou hu hv => ⟨ou, at_ u ou hu, rfl, rfl, rfl, rfl, fun k => k⟩)
    (fun u ou b hu hf => ⟨u, ou, at_ u ou hu, hf⟩)
    (fun u u' ou ou' b hu hu' hne hf hf' => H.apart u u' ou ou' b (at_ u ou hu) (at_ u' ou' hu') hne hf hf')
    (fun E u ou hu => (H.ob u ou (at_ u ou hu)).keep E rfl (fun k => k) rfl)
  exact ⟨κ, H', E, fun t => (hg t).ext E⟩
theorem gh_read {g : Slots} {tm : Nat → Value} {t : Nat} {n : Rid} {bn : Ob} {off len : Nat} {cap : Option Nat} (H : HR w0 P0 w κ h clk) (hg : ∀ t, VR w κ h clk (g t) (tm t)) (ht : g t = .sl n bn.ver off len cap) (hn : h n = some bn) (hlen : off + len ≤ bn.es.length) (hp : Pure bn.es) :
    GhSt w0 P0 w κ h clk g tm (upd g t (.dat bn.esz (sub bn.es off len))) (hdel h n) clk := by
  have ats : ∀ u ou, hdel h n u = some ou → u ≠ n ∧ h u = some ou := fun u ou hu => by
    rw [hdel_at] at hu; split at hu
    · cases hu
    · rename_i hne; exact ⟨hne, hu⟩
  obtain ⟨H', E⟩ := H.rearr (κ' := κ) (h' := hdel h n) (clk' := clk) rfl (Nat.le_refl _)
    (fun u ou hu hv => ⟨ou, (ats u ou hu).2, rfl, rfl, rfl, rfl, fun k => k⟩)
    (fun u ou b hu hf => ⟨u, ou, (ats u ou hu).2, hf⟩)
    (fun u u' ou ou' b hu hu' hne hf hf' => H.apart u u' ou ou' b (ats u ou hu).2 (ats u' ou' hu').2 hne hf hf')
    (fun E u ou hu => (H.ob u ou (ats u ou hu).2).keep E rfl (fun k => k) rfl)
  have hX : ∀ b, κ.foot n b → κ.X (hdel h n) w b := fun b hb => by
    obtain ⟨h1, h2⟩ := H.base n bn b hn hb
    exact ⟨h2, H.free b h1, fun u ou hu hf => H.apart n u bn ou b hn (ats u ou hu).2 (fun e => (ats u ou hu).1 e.symm) hb hf⟩
  have Rn := H.ob n bn hn
  have hcu : cur h n bn.ver = some bn := by unfold cur; rw [hn]; simp
  have hslen := sub_length hlen
  refine ⟨κ, H', E, fun s => ?_⟩
  unfold upd
  by_cases hs : s = t
  · subst hs
    rw [if_pos rfl]
    have hv := hg s
    rw [ht] at hv
    rcases hv.of_sl hcu with ⟨rfl, ⟨a, ha⟩, _⟩ | ⟨rc, hre, ha, hoff, hlr, _, _, hO⟩
    · rw [ha, sub_zero (by omega)]; exact .ro _ _ (.dat0 _ a 0)
    · have key : ∀ e' j' x, cellOf (sub bn.es off len) e' j' = some x → ∃ u, w.cell? (κ.addr n bn.esz (off + e') j') = some u ∧ Ro w (κ.X (hdel h n) w) x u := by
        intro e' j' x hx
        obtain ⟨_, hx2⟩ := sub_cell hoff hx
        obtain ⟨u, h3, h4⟩ := Rn.cells _ _ _ hx2
        have hxp : x.pure = true := by
          unfold cellOf at hx2
          cases he : bn.es[off + e']? with
          | none => rw [he] at hx2; cases hx2
          | some c => rw [he] at hx2; exact hp c (List.mem_of_getElem? he) x (List.mem_of_getElem? hx2)
        refine ⟨u, h3, ?_⟩
        cases x with
        | dat z es =>
          by_cases ho : bn.own
          · exact (h4.1 ho).ro (fun b hb => hX b (.inr ⟨_, _, hb⟩))
          · exact E.ro (h4.2 ho)
        | b _ => exact pure_ro hxp h4 (fun b hb => (E.hX b hb).1)
        | i _ _ => exact pure_ro hxp h4 (fun b hb => (E.hX b hb).1)
        | s _ => exact pure_ro hxp h4 (fun b hb => (E.hX b hb).1)
        | nilp => exact pure_ro hxp h4 (fun b hb => (E.hX b hb).1)
        | nils => exact pure_ro hxp h4 (fun b hb => (E.hX b hb).1)
        | nilf => exact pure_ro hxp h4 (fun b hb => (E.hX b hb).1)
        | undef => exact pure_ro hxp h4 (fun b hb => (E.hX b hb).1)
        | _ => simp [AV.pure] at hxp
      have hk := Ro.dat (w := w) (X := κ.X (hdel h n) w) (sub bn.es off len) (κ.ι n).1 ((κ.ι n).2 + off * bn.esz) rc bn.esz (fun e' j' => (w.cell? (κ.addr n bn.esz (off + e') j')).getD Go.undef) (hX _ (.inl ⟨hre, rfl⟩)) (by rw [hslen]; exact hlr)
        (fun l hl => Rn.esz l (sub_mem hl))
        (fun e' j' x hx => by
          obtain ⟨u, h3, _⟩ := key e' j' x hx
          rw [h3, Option.getD_some]
          rw [← h3, Cfg.addr, show (κ.ι n).2 + off * bn.esz + e' * bn.esz + j' = (κ.ι n).2 + (off + e') * bn.esz + j' by rw [Nat.add_mul]; omega])
        (fun e' j' x hx => by
          obtain ⟨u, h3, h4⟩ := key e' j' x hx
          rw [h3, Option.getD_some]; exact h4)
      rw [hslen] at hk
      have ea : κ.addr n bn.esz off 0 = at_ (κ.ι n).1 ((κ.ι n).2 + off * bn.esz) := by simp [Cfg.addr]
      rw [ha, ea]; exact .ro _ _ hk
  · rw [if_neg hs]; exact (hg s).ext E
theorem gh_ren {g : Slots} {tm : Nat → Value} {o n n' : Rid} {ob bn : Ob} {row : List AV} {e j off len : Nat} {cap : Option Nat} (H : HR w0 P0 w κ h clk) (hg : ∀ t, VR w κ h clk (g t) (tm t)) (ho : h o = some ob) (hrow : ob.es[e]? = some row) (hcell : row[j]? = some (.sl n bn.ver off len cap))
    (hn : h n = some bn) (hno : n ≠ o) (hn' : h n' = none) :
    GhSt w0 P0 w κ h clk g tm g (hup (hup (hdel h n) n' { bn with ver := clk }) o { ob with es := ob.es.set e (row.set j (.sl n' clk off len cap)) }) (clk + 1) := by
  have R := H.ob o ob ho
  have Rn := H.ob n bn hn
  have hne : ob.es ≠ [] := by intro hh; rw [hh] at hrow; simp at hrow
  have hnn : n' ≠ n := by rintro rfl; rw [hn] at hn'; cases hn'
  have hno' : n' ≠ o := by rintro rfl; rw [ho] at hn'; cases hn'
  have hc : cellOf ob.es e j = some (.sl n bn.ver off len cap) := by unfold cellOf; rw [hrow]; exact hcell
  obtain ⟨v, hv1, hv2⟩ := R.cells e j _ hc
  have hcu : cur h n bn.ver = some bn := by unfold cur; rw [hn]; simp
  have hvr : VR w κ h clk (.sl n bn.ver off len cap) v := hv2
  have hso : SlOk w κ n bn off len cap v := hvr.of_sl hcu
  let κ' : Cfg := { ι := fun u => if u = n' then κ.ι n else κ.ι u, re := fun u => if u = n' then κ.re n else κ.re u, F := fun u => if u = n' then κ.F n else κ.F u, A := κ.A }
  have fn : ∀ b, κ'.foot n' b ↔ κ.foot n b := by intro b; simp [κ', Cfg.foot]
  have fo : ∀ u, u ≠ n' → ∀ b, κ'.foot u b ↔ κ.foot u b := by intro u hu b; simp [κ', Cfg.foot, hu]
  obtain ⟨ob', hob'⟩ : ∃ x : Ob, x = { ob with es := ob.es.set e (row.set j (.sl n' clk off len cap)) } := ⟨_, rfl⟩
  obtain ⟨bn', hbn'⟩ : ∃ x : Ob, x = { bn with ver := clk } := ⟨_, rfl⟩
  rw [← hob', ← hbn']
  have hlen2 : ob'.es.length = ob.es.length := by rw [hob']; exact List.length_set
  have at_ : ∀ u ou, hup (hup (hdel h n) n' bn') o ob' u = some ou → (u = n' ∧ ou = bn') ∨ (u ≠ n' ∧ u ≠ n ∧ ((u = o ∧ ou = ob') ∨ (u ≠ o ∧ h u = some ou))) := fun u ou hu => by
    rw [hup_at] at hu
    by_cases huo : u = o
    · rw [if_pos huo] at hu; subst huo
      exact .inr ⟨fun hh => hno' hh.symm, fun hh => hno hh.symm, .inl ⟨rfl, (Option.some.inj hu).symm⟩⟩
    · rw [if_neg huo, hup_at] at hu
      by_cases hun' : u = n'
      · rw [if_pos hun'] at hu; exact .inl ⟨hun', (Option.some.inj hu).symm⟩
      · rw [if_neg hun', hdel_at] at hu
        by_cases hun : u = n
        · rw [if_pos hun] at hu; cases hu
        · rw [if_neg hun] at hu; exact .inr ⟨hun', hun, .inr ⟨huo, hu⟩⟩
  have was : ∀ u ou, hup (hup (hdel h n) n' bn') o ob' u = some ou → ∃ u2 ou2, h u2 = some ou2 ∧ (∀ b, κ'.foot u b ↔ κ.foot u2 b) ∧ ((u = n' ∧ u2 = n) ∨ (u ≠ n' ∧ u ≠ n ∧ u2 = u)) := fun u ou hu => by
    rcases at_ u ou hu with ⟨rfl, _⟩ | ⟨h1, h2, ⟨rfl, _⟩ | ⟨_, h3⟩⟩
    · exact ⟨n, bn, hn, fn, .inl ⟨rfl, rfl⟩⟩
    · exact ⟨u, ob, ho, fo u h1, .inr ⟨h1, h2, rfl⟩⟩
    · exact ⟨u, ou, h3, fo u h1, .inr ⟨h1, h2, rfl⟩⟩
  obtain ⟨H', E⟩ := H.rearr (κ' := κ') (h' := hup (hup (hdel h n) n' bn') o ob') (clk' := clk + 1) rfl (Nat.le_succ _)
    (fun u ou hu hv => by
      rcases at_ u ou hu with ⟨rfl, rfl⟩ | ⟨h1, h2, ⟨rfl, rfl⟩ | ⟨_, h3⟩⟩
      · rw [hbn'] at hv; simp at hv
      · exact ⟨ob, ho, by rw [hob'], by simp [κ', h1], by rw [hob'], hlen2, fun hr => by simp [κ', h1, hr]⟩
      · exact ⟨ou, h3, rfl, by simp [κ', h1], rfl, rfl, fun hr => by simp [κ', h1, hr]⟩)
    (fun u ou b hu hf => by
      obtain ⟨u2, ou2, h1, h2, _⟩ := was u ou hu
      exact ⟨u2, ou2, h1, (h2 b).1 hf⟩)
    (fun u u' ou ou' b hu hu' hne hf hf' => by
      obtain ⟨u2, ou2, h1, h2, h3⟩ := was u ou hu
      obtain ⟨u2', ou2', h1', h2', h3'⟩ := was u' ou' hu'
      refine H.apart u2 u2' ou2 ou2' b h1 h1' ?_ ((h2 b).1 hf) ((h2' b).1 hf')
      rcases h3 with ⟨rfl, rfl⟩ | ⟨q1, q2, rfl⟩ <;> rcases h3' with ⟨rfl, rfl⟩ | ⟨q1', q2', rfl⟩
      · exact absurd rfl hne
      · exact fun hh => q2' hh.symm
      · exact q2
      · exact hne)
    (fun E u ou hu => by
      rcases at_ u ou hu with ⟨rfl, hou⟩ | ⟨h1, h2, ⟨rfl, hou⟩ | ⟨huo, h3⟩⟩
      · have hι : κ'.ι u = κ.ι n := by simp [κ']
        have hF : κ'.F u = κ.F n := by simp [κ']
        rw [hou]
        refine ⟨(by rw [hbn']; exact Nat.lt_succ_self _), (by rw [hbn']; exact Rn.esz), fun hne => ?_, fun e' j' x hx => ?_, fun e' j' b hb => ?_, fun e1 j1 e2 j2 b hb hb' => ?_⟩
        · obtain ⟨q1, q2⟩ := Rn.blk (by rw [hbn'] at hne; exact hne)
          exact ⟨by simp [κ', q1], by rw [hι, hbn']; exact q2⟩
        · obtain ⟨q, q1, q2⟩ := Rn.cells e' j' x (by rw [hbn'] at hx; exact hx)
          have hz : bn'.esz = bn.esz := by rw [hbn']
          have hw : bn'.own = bn.own := by rw [hbn']
          refine ⟨q, by rw [Cfg.addr, hι, hz]; exact q1, ?_⟩
          rw [hF, hw]
          exact q2.ext E (fun _ _ hb => hb) (fun _ _ => rfl) id (fun hn ho => absurd ho hn)
        · rw [hF] at hb; rw [hι]; exact Rn.sep e' j' b hb
        · rw [hF] at hb hb'; exact Rn.disj e1 j1 e2 j2 b hb hb'
      · have hι : κ'.ι u = κ.ι u := by simp [κ', h1]
        have hF : κ'.F u = κ.F u := by simp [κ', h1]
        rw [hou]
        refine ⟨by rw [hob']; exact Nat.lt_succ_of_lt R.ver, by rw [hob']; exact set_esz hrow R.esz, fun _ => ?_, fun e' j' x hx => ?_, fun e' j' b hb => ?_, fun e1 j1 e2 j2 b hb hb' => ?_⟩
        · obtain ⟨q1, q2⟩ := R.blk hne
          refine ⟨by simp [κ', h1, q1], ?_⟩
          rw [hι, hlen2, hob']; exact q2
        · have hx' : cellOf (ob.es.set e (row.set j (.sl n' clk off len cap))) e' j' = some x := by rw [hob'] at hx; exact hx
          have hz : ob'.esz = ob.esz := by rw [hob']
          have hw : ob'.own = ob.own := by rw [hob']
          rcases cellOf_set hrow hx' with ⟨rfl, rfl, rfl⟩ | ⟨hne2, hx2⟩
          · refine ⟨v, by rw [Cfg.addr, hι, hz]; exact hv1, ?_⟩
            refine .sl _ _ _ _ _ _ (by cases hvr with | ro _ _ hr => cases hr | sl _ _ _ _ _ _ hs _ _ => exact hs) (Nat.lt_succ_self _) fun ob2 hc' => ?_
            obtain ⟨q1, _⟩ := cur_some hc'
            rw [hup_at, if_neg hno', hup_at, if_pos rfl, hbn'] at q1
            cases q1
            rcases hso with ⟨q1, q2, q3⟩ | ⟨rc, q1, q2, q3, q4, q5, q6, q7⟩
            · exact .inl ⟨q1, q2, q3⟩
            · exact .inr ⟨rc, by simp [κ', q1], by rw [q2]; simp [Cfg.addr, κ'], q3, q4, q5, q6, by simpa [κ'] using q7⟩
          · obtain ⟨q, q1, q2⟩ := R.cells e' j' x hx2
            refine ⟨q, by rw [Cfg.addr, hι, hz]; exact q1, ?_⟩
            rw [hF, hw]
            exact q2.ext E (fun _ _ hb => hb) (fun _ _ => rfl) id (fun hn ho => absurd ho hn)
        · rw [hF] at hb; rw [hι]; exact R.sep e' j' b hb
        · rw [hF] at hb hb'; exact R.disj e1 j1 e2 j2 b hb hb'
      · exact (H.ob u ou h3).keep E (by simp [κ', h1]) (fun hr => by simp [κ', h1, hr]) (by simp [κ', h1]))
  exact ⟨κ', H', E, fun t => (hg t).ext E⟩
theorem gh_rows {g : Slots} {tm : Nat → Value} {t z n : Nat} {o : Rid} {ob : Ob} {cs : List AV} (H : HR w0 P0 w κ h clk) (hg : ∀ t, VR w κ h clk (g t) (tm t)) (ht : g t = .ptr o ob.ver 0 0) (ho : h o = some ob) (hes : ob.es = [cs]) (hz : 0 < z) (hl : cs.length = n * z) (hn : 0 < n) (hd : ∀ x ∈ cs, x.isDat = false) :
    GhSt w0 P0 w κ h clk g tm (upd g t (.ptr o clk 0 0)) (hup h o { ob with ver := clk, es := chunk z n cs, esz := z }) (clk + 1) := by
  have R := H.ob o ob ho
  have hE : ob.esz = n * z := by rw [← hl]; exact (R.esz cs (by rw [hes]; simp)).symm
  have hcl := chunk_esz (esz := z) hl
  have hlen : (chunk z n cs).length = n := chunk_len n cs
  obtain ⟨hre, hown⟩ := R.blk (by rw [hes]; simp)
  obtain ⟨H', E⟩ := H.rearr (κ' := κ) (h' := hup h o { ob with ver := clk, es := chunk z n cs, esz := z }) (clk' := clk + 1) rfl (Nat.le_succ _)
    (fun u ou hu hv => by
      by_cases hun : u = o
      · subst hun; rw [hup_at, if_pos rfl] at hu; cases hu; simp at hv
      · rw [hup_at, if_neg hun] at hu; exact ⟨ou, hu, rfl, rfl, rfl, rfl, id⟩)
    (fun u ou b hu hf => by
      by_cases hun : u = o
      · subst hun; exact ⟨u, ob, ho, hf⟩
      · rw [hup_at, if_neg hun] at hu; exact ⟨u, ou, hu, hf⟩)
    (fun u u' ou ou' b hu hu' hne hf hf' => by
      have key : ∀ {v : Rid} {ov : Ob}, hup h o { ob with ver := clk, es := chunk z n cs, esz := z } v = some ov → ∃ ov2, h v = some ov2 := fun {v ov} hv => by
        by_cases hun : v = o
        · subst hun; exact ⟨ob, ho⟩
        · rw [hup_at, if_neg hun] at hv; exact ⟨ov, hv⟩
      obtain ⟨o1, h1⟩ := key hu
      obtain ⟨o2, h2⟩ := key hu'
      exact H.apart u u' o1 o2 b h1 h2 hne hf hf')
    (fun E u ou hu => by
      by_cases hun : u = o
      · subst hun
        rw [hup_at, if_pos rfl] at hu; cases hu
        refine ⟨Nat.lt_succ_self _, hcl, fun _ => ⟨hre, ?_⟩, fun e j x hx => ?_, R.sep, R.disj⟩
        · simp only [hlen]
          rw [hes, hE] at hown
          simpa using hown
        · obtain ⟨_, hj, hx2⟩ := chunk_cell hx
          obtain ⟨v, q1, q2⟩ := R.cells 0 (e * z + j) x (by rw [hes]; simpa [cellOf] using hx2)
          refine ⟨v, ?_, ?_⟩
          · rw [← q1]; simp only [Cfg.addr]; congr 2; omega
          · have hxd := hd x (List.mem_of_getElem? hx2)
            cases x <;> first | (simp [AV.isDat] at hxd; done) | exact q2.elim | exact VR.ext E q2
      · rw [hup_at, if_neg hun] at hu
        exact (H.ob u ou hu).keep E rfl id rfl)
  refine ⟨κ, H', E, fun s => ?_⟩
  simp only [upd]
  split
  · rename_i hst; subst hst
    have h1 := hg s
    rw [ht] at h1
    have h2 := h1.of_ptr (ob := ob) (by unfold cur; rw [ho]; simp)
    rw [h2]
    refine .ptr _ _ _ _ _ ⟨_, rfl⟩ (Nat.lt_succ_self _) fun ob' hc' => ?_
    obtain ⟨q1, _⟩ := cur_some hc'
    rw [hup_at, if_pos rfl] at q1; cases q1
    simp [Cfg.addr]
  · exact (hg s).ext E
theorem gh_dat0 {g : Slots} {tm : Nat → Value} {o : Rid} {ob : Ob} {row : List AV} {e j z : Nat} (H : HR w0 P0 w κ h clk) (hg : ∀ t, VR w κ h clk (g t) (tm t)) (ho : h o = some ob) (hrow : ob.es[e]? = some row) (hcell : row[j]? = some .nils) :
    GhSt w0 P0 w κ h clk g tm g (hup h o { ob with es := ob.es.set e (row.set j (.dat z [])) }) clk := by
  have R := H.ob o ob ho
  have hc : cellOf ob.es e j = some .nils := by unfold cellOf; rw [hrow]; exact hcell
  obtain ⟨v, hv1, hv2⟩ := R.cells e j _ hc
  have hvn : v = .slice none 0 0 := (show VR w κ h clk .nils v from hv2).of_nils
  obtain ⟨H', E⟩ := H.rearr (κ' := κ) (h' := hup h o { ob with es := ob.es.set e (row.set j (.dat z [])) }) (clk' := clk) rfl (Nat.le_refl _)
    (fun u ou hu _ => by
      by_cases huo : u = o
      · subst huo; rw [hup_at, if_pos rfl] at hu; cases hu
        exact ⟨ob, ho, rfl, rfl, rfl, by simp, id⟩
      · rw [hup_at, if_neg huo] at hu
        exact ⟨ou, hu, rfl, rfl, rfl, rfl, id⟩)
    (fun u ou b hu hf => by
      by_cases huo : u = o
      · subst huo; exact ⟨u, ob, ho, hf⟩
      · rw [hup_at, if_neg huo] at hu; exact ⟨u, ou, hu, hf⟩)
    (fun u u' ou ou' b hu hu' hne hf hf' => by
      have was : ∀ u ou, hup h o { ob with es := ob.es.set e (row.set j (.dat z [])) } u = some ou → ∃ ou2, h u = some ou2 := fun u ou hu => by
        by_cases huo : u = o
        · subst huo; exact ⟨ob, ho⟩
        · rw [hup_at, if_neg huo] at hu; exact ⟨ou, hu⟩
      obtain ⟨o2, h2⟩ := was u ou hu
      obtain ⟨o2', h2'⟩ := was u' ou' hu'
      exact H.apart u u' o2 o2' b h2 h2' hne hf hf')
    (fun E u ou hu => by
      by_cases huo : u = o
      · subst huo; rw [hup_at, if_pos rfl] at hu; cases hu
        refine ⟨R.ver, set_esz hrow R.esz, fun hne => ?_, fun e' j' x hx => ?_, R.sep, R.disj⟩
        · have := R.blk (by intro h0; rw [h0] at hrow; simp at hrow)
          simpa using this
        · rcases cellOf_set hrow hx with ⟨rfl, rfl, rfl⟩ | ⟨_, h2⟩
          · refine ⟨v, hv1, fun _ => ?_, fun _ => ?_⟩
            · rw [hvn]; exact .dat0 _ _ _
            · rw [hvn]; exact .dat0 _ _ _
          · obtain ⟨v', h3, h4⟩ := R.cells _ _ _ h2
            exact ⟨v', h3, h4.ext E (fun _ _ hb => hb) (fun _ _ => rfl) id (fun hn ho => absurd ho hn)⟩
      · rw [hup_at, if_neg huo] at hu
        exact (H.ob u ou hu).keep E rfl id rfl)
  exact ⟨κ, H', E, fun t => (hg t).ext E⟩
theorem gh_weak {g : Slots} {tm : Nat → Value} {o : Rid} {ob : Ob} {es' : List (List AV)} (H : HR w0 P0 w κ h clk) (hg : ∀ t, VR w κ h clk (g t) (tm t)) (ho : h o = some ob) (hl : es'.length = ob.es.length) (hz : ∀ e ∈ es', e.length = ob.esz) (hw : ∀ (e j : Nat) (r r' : List AV) (x x' : AV), es'[e]? = some r' → r'[j]? = some x' → ob.es[e]? = some r → r[j]? = some x → x' = .undef ∨ x' = x) :
    GhSt w0 P0 w κ h clk g tm g (hup h o { ob with es := es' }) clk := by
  have R := H.ob o ob ho
  obtain ⟨H', E⟩ := H.rearr (κ' := κ) (h' := hup h o { ob with es := es' }) (clk' := clk) rfl (Nat.le_refl _)
    (fun u ou hu _ => by
      by_cases huo : u = o
      · subst huo; rw [hup_at, if_pos rfl] at hu; cases hu
        exact ⟨ob, ho, rfl, rfl, rfl, hl, id⟩
      · rw [hup_at, if_neg huo] at hu
        exact ⟨ou, hu, rfl, rfl, rfl, rfl, id⟩)
    (fun u ou b hu hf => by
      by_cases huo : u = o
      · subst huo; exact ⟨u, ob, ho, hf⟩
      · rw [hup_at, if_neg huo] at hu; exact ⟨u, ou, hu, hf⟩)
    (fun u u' ou ou' b hu hu' hne hf hf' => by
      have was : ∀ u ou, hup h o { ob with es := es' } u = some ou → ∃ ou2, h u = some ou2 := fun u ou hu => by
        by_cases huo : u = o
        · subst huo; exact ⟨ob, ho⟩
        · rw [hup_at, if_neg huo] at hu; exact ⟨ou, hu⟩
      obtain ⟨o2, h2⟩ := was u ou hu
      obtain ⟨o2', h2'⟩ := was u' ou' hu'
      exact H.apart u u' o2 o2' b h2 h2' hne hf hf')
    (fun E u ou hu => by
      by_cases huo : u = o
      · subst huo; rw [hup_at, if_pos rfl] at hu; cases hu
        refine ⟨R.ver, hz, fun hne => ?_, fun e j x' hx => ?_, R.sep, R.disj⟩
        · have := R.blk (by intro h0; apply hne; have h1 : es'.length = 0 := by rw [hl, h0]; rfl
                            exact List.length_eq_zero_iff.1 h1)
          show κ.re u ∧ OwnBlk w (κ.ι u).1 ((κ.ι u).2 + es'.length * ob.esz)
          rw [hl]; exact this
        · obtain ⟨r', hr', hj'⟩ := Option.bind_eq_some_iff.1 hx
          have hlt : e < es'.length := (List.getElem?_eq_some_iff.1 hr').1
          have hr : ob.es[e]? = some (ob.es[e]'(by omega)) := List.getElem?_eq_getElem (by omega)
          have hjl := (List.getElem?_eq_some_iff.1 hj').1
          rw [hz r' (List.mem_of_getElem? hr')] at hjl
          have hrl := R.esz _ (List.mem_of_getElem? hr)
          have hj : (ob.es[e]'(by omega))[j]? = some ((ob.es[e]'(by omega))[j]'(by omega)) := List.getElem?_eq_getElem (by omega)
          obtain ⟨v, h3, h4⟩ := R.cells e j _ (show cellOf ob.es e j = _ by unfold cellOf; rw [hr]; exact hj)
          refine ⟨v, h3, ?_⟩
          rcases hw e j _ _ _ _ hr' hj' hr hj with rfl | rfl
          · exact .ro _ _ (.undef _)
          · exact h4.ext E (fun _ _ hb => hb) (fun _ _ => rfl) id (fun hn ho => absurd ho hn)
      · rw [hup_at, if_neg huo] at hu
        exact (H.ob u ou hu).keep E rfl id rfl)
  exact ⟨κ, H', E, fun t => (hg t).ext E⟩
theorem gh_ok {g : Slots} {g' : Slots} {tm : Nat → Value} (G : Gh g h clk g' h' clk') : ∀ {κ : Cfg}, HR w0 P0 w κ h clk → (∀ t, VR w κ h clk (g t) (tm t)) → GhSt w0 P0 w κ h clk g tm g' h' clk' := by
  induction G with
  | refl g h c => intro κ H hg; exact ⟨κ, H, Ext.same rfl, hg⟩
  | trans _ _ ih1 ih2 =>
    intro κ H hg
    obtain ⟨κ1, H1, E1, hg1⟩ := ih1 H hg
    obtain ⟨κ2, H2, E2, hg2⟩ := ih2 H1 hg1
    exact ⟨κ2, H2, E1.trans E2, hg2⟩
  | read g h c t n bn off len cap h1 h2 h3 h4 => intro κ H hg; exact gh_read H hg h1 h2 h3 h4
  | drop g h c n h1 => intro κ H hg; exact gh_drop H hg
  | rows g h c t z n o ob cs h1 h2 h3 h4 h5 h6 h7 => intro κ H hg; exact gh_rows H hg h1 h2 h3 h4 h5 h6 h7
  | nil g h c t n z h1 h2 h3 => intro κ H hg; exact gh_nil H hg h1 h2
  | nilc g h c t n z cap h1 h2 h3 => intro κ H hg; exact gh_nil H hg h1 h2
  | dat0 g h c o ob row e j z h1 h2 h3 => intro κ H hg; exact gh_dat0 H hg h1 h2 h3
  | weak g h c o ob es' h1 h2 h3 h4 => intro κ H hg; exact gh_weak H hg h1 h2 h3 h4
  | take g h c o n ob row e j z es h1 h2 h3 h4 h5 h6 h7 => intro κ H hg; exact gh_take H hg h1 h2 h3 h4 h5 h7
  | ren g h c o n n' ob bn row e j off len cap h1 h2 h3 h4 h5 h6 => intro κ H hg; exact gh_ren H hg h1 h2 h3 h4 h5 h6
  | give g h c o n ob bn row e j off len cap h1 h2 h3 h4 h5 h6 h7 h8 h9 => intro κ H hg; exact gh_give H hg h1 h2 h3 h4 h5 h6 h7 h8 h9
end Go.AM
end
