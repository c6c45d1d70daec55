/- Regions whose order is drawn. No condition. -/
import Derived.Test.YtpiegccohgdkdaaAmDraw2
import Derived.StillTail
set_option linter.all false
set_option linter.unusedSimpArgs false
set_option linter.unusedVariables false
set_option linter.deprecated false
namespace Go.AM
variable {P : Program} {I : Ini} {C : Con} {hint : Nat → Bool}

theorem expA_free {h : Heap} {a : AV} (ha : a.free = true) : expA h [] a = a := by
  have pure : ∀ x : AV, x.pure = true → expA h [] x = x := fun x hx => by cases x <;> first | (simp [AV.pure] at hx; done) | simp [expA]
  have list : ∀ l : List AV, l.all AV.pure = true → expL h [] l = l := by
    intro l
    induction l with
    | nil => intro _; simp [expL]
    | cons x r ih => intro hl; simp only [List.all_cons, Bool.and_eq_true] at hl; rw [expL, pure x hl.1, ih hl.2]
  cases a with
  | agg cs => rw [expA, list cs ha]
  | tup cs => rw [expA, list cs ha]
  | fn f cs => rw [expA, list cs ha]
  | _ => exact pure _ ha
theorem expL_free {h : Heap} : ∀ {l : List AV}, (∀ a ∈ l, a.free = true) → expL h [] l = l
  | [], _ => by simp [expL]
  | a :: r, hl => by rw [expL, expA_free (hl a List.mem_cons_self), expL_free fun b hb => hl b (List.mem_cons_of_mem _ hb)]
theorem expOk_free {h : Heap} {a : AV} (ha : a.free = true) : ExpOk h [] a := by
  have one : ∀ c : AV, c.pure = true → (match c with
      | .sl o v off len _ => match ([] : List Rid).idxOf? o, cur h o v with
        | none, some ob => Pure ob.es ∧ off + len ≤ ob.es.length
        | some _, some _ => True
        | _, none => False
      | .ptr o v _ _ => match ([] : List Rid).idxOf? o, cur h o v with
        | some _, some _ => True
        | _, _ => False
      | c => c.pure = true) := fun c hc => by cases c <;> first | (simp [AV.pure] at hc; done) | exact hc
  cases a with
  | agg cs => exact fun c hc => one c (List.all_eq_true.1 ha c hc)
  | tup cs => exact fun c hc => one c (List.all_eq_true.1 ha c hc)
  | fn f cs => exact fun c hc => one c (List.all_eq_true.1 ha c hc)
  | ptr _ _ _ _ => simp [AV.free, AV.pure] at ha
  | sl _ _ _ _ _ => simp [AV.free, AV.pure] at ha
  | _ => exact ha

theorem kop_undrawn {o : KO} {d : Option Nat} {Q : Post} {g : Slots} {h : Heap} {c : Nat} (hk : kop C d (o.drawn hint) Q g h c) : kop C d o Q g h c := by
  have c0 : ∀ {f : KV} {as : List KV}, kop C d (.call0 f as) Q g h c → kop C d (.call f as) Q g h c := by
    intro f as hk
    obtain ⟨r, ⟨fid, capt, own, h1, h2, h6, h3, h4⟩, h5⟩ := hk
    refine ⟨fid, capt, h1, [], [], own, (fun r' o' => r' = r ∧ o' = []), by rw [expL_free h3]; exact h2, rfl, .nil, fun a ha => expOk_free (h3 a ha), fun _ hb => (by cases hb), h4, fun r' o' he => ?_⟩
    obtain ⟨e1, e2⟩ := he
    subst e1; subst e2
    exact ⟨Nat.le_refl _, fun _ hb => (by cases hb), fun _ _ hb => (by cases hb), by rw [hcall_nil, h6]; exact h5⟩
  have ch : ∀ {f : KV} {as : List KV}, kop C d (.callh f as) Q g h c → kop C d (.call f as) Q g h c := by
    intro f as hk
    obtain ⟨r, h', ⟨fid, capt, own, os, obs, obs', k1, k2, k3, k4, k5, k6, k7, k8, k9, k10, k11, k12, rfl⟩, h5⟩ := hk
    have hlen : obs.length = os.length := by have := congrArg List.length k3; simpa using this.symm
    refine ⟨fid, capt, k1, os, obs, own, (fun r' o' => r' = r ∧ o' = obs'), k2, k3, k4, fun a ha => (k7 a ha).1, k8, k10, fun r' o' he => ?_⟩
    obtain ⟨e1, e2⟩ := he
    subst e1; subst e2
    have e3 : nclk c os o' = c := by unfold nclk; rw [if_neg (by omega)]
    exact ⟨by omega, k9, k11, by rw [hcall_same (by omega), k12, e3]; exact h5⟩
  cases o
  case call f as =>
    cases f with
    | f n =>
      simp only [KO.drawn] at hk
      split at hk
      · exact ch hk
      · exact c0 hk
    | t n => exact c0 hk
    | c v => exact c0 hk
    | bad => exact c0 hk
  all_goals exact hk
theorem kops_undrawn {o : KOp} {r : List KOp} {Q : Post} {g : Slots} {h : Heap} {c : Nat} (hk : kops C (o.drawn hint :: r) Q g h c) : kops C (o :: r) Q g h c := by
  unfold kops at *
  have e1 : (o.drawn hint).g = o.g := rfl
  have e2 : (o.drawn hint).d = o.d := rfl
  rw [e1, e2] at hk
  cases hg : o.g with
  | none => rw [hg] at hk; exact kop_undrawn hk
  | some tw =>
    obtain ⟨t, w⟩ := tw
    rw [hg] at hk
    obtain ⟨x, h1, h2, h3⟩ := hk
    exact ⟨x, h1, fun e => kop_undrawn (h2 e), h3⟩
theorem drawn_plain (o : KOp) : (o.drawn hint).plain := by
  intro f as h
  have h2 : o.o.drawn hint = .call f as := h
  unfold KO.drawn at h2
  split at h2
  · split at h2 <;> cases h2
  · cases h2
  · rename_i h3; exact h3 _ _ h2

theorem head_ok (hC : ConOk P C) {ops : Array Oper} {o : Oper} {r : List KOp} {Q : Post} {K : Act → World → Prop} {QQ : Exit → Act → World → Prop} (hK : ∀ {g : Slots} {h : Heap} {clk : Nat} {a : Act} {w : World}, Rel I g h clk a w → kops C r Q g h clk → K a w)
    {g : Slots} {h : Heap} {clk : Nat} {a : Act} {w : World} (R : Rel I g h clk a w) (hk : kops C (cop P I.n ops o :: r) Q g h clk) :
    if Region.wanted o (yielded ops a.tmps) = true then o.wp P a w K QQ ∨ (o.asks P a w ∧ LetsOut QQ) else K (a.put o.dst Go.undef) w := by
  have done : ∀ {g h clk a w}, Rel I g h clk a w → kop C (cop P I.n ops o).d (cop P I.n ops o).o (kops C r Q) g h clk → o.wp P a w K QQ := by
    intro g h clk a w R hk
    by_cases hd : o.dst.all (· < I.n) = true
    · have e1 : (cop P I.n ops o).o = co P o.op := by simp only [cop]; rw [if_pos hd]
      rw [e1] at hk
      exact kop_ok hC R hd hk (fun g h clk a w hq R => hK R hq)
    · have e1 : (cop P I.n ops o).o = .bad := by simp only [cop]; rw [if_neg hd]
      rw [e1] at hk
      obtain ⟨p, v, h1, _⟩ := hk
      cases h1
  unfold kops at hk
  cases hgd : o.guard with
  | none =>
    have hw : Region.wanted o (yielded ops a.tmps) = true := by unfold Region.wanted; rw [hgd]
    rw [if_pos hw]
    have e1 : (cop P I.n ops o).g = none := by simp [cop, hgd]
    rw [e1] at hk
    exact .inl (done R hk)
  | some jw =>
    obtain ⟨j, wt⟩ := jw
    have e1 : (cop P I.n ops o).g = some (((ops[j]?).bind (·.dst)).getD I.n, wt) := by simp [cop, hgd]
    rw [e1] at hk
    obtain ⟨x, hx, h1, h2⟩ := hk
    obtain ⟨κ, H, E, hg⟩ := R.st
    have hy := yielded_ok hg R.sz hx
    have hw : Region.wanted o (yielded ops a.tmps) = (x == wt) := by
      unfold Region.wanted; rw [hgd]; simp only [hy]; cases x <;> cases wt <;> rfl
    rw [hw]
    by_cases hxw : x = wt
    · subst hxw
      simp only [beq_self_eq_true, if_true]
      exact .inl (done (R.slot hx) (h1 rfl))
    · have hxn : x = !wt := by cases x <;> cases wt <;> simp_all
      have : (x == wt) = false := by simpa using hxw
      rw [this]
      simp only [Bool.false_eq_true, if_false]
      have R2 := R.slot hx
      rw [hxn] at R2
      exact hK (R2.putU o.dst) (h2 hxn)

def opAt (P : Program) (hint : Nat → Bool) (n : Nat) (ops : Array Oper) (i : Nat) : KOp := ((((ops.toList.map (cop P n ops)).map (KOp.drawn hint))[i]?).getD ⟨none, none, .bad⟩)
theorem opAt_some {n : Nat} {ops : Array Oper} {i : Nat} {o : Oper} (ho : ops[i]? = some o) : opAt P hint n ops i = (cop P n ops o).drawn hint := by
  unfold opAt
  simp [ho]
theorem opAt_plain {n : Nat} {ops : Array Oper} (i : Nat) : (opAt P hint n ops i).plain := by
  unfold opAt
  cases h : (((ops.toList.map (cop P n ops)).map (KOp.drawn hint))[i]?) with
  | none => intro f as hh; cases hh
  | some o =>
    have := List.mem_of_getElem? h
    simp only [List.mem_map] at this
    obtain ⟨y, _, rfl⟩ := this
    exact drawn_plain y

theorem waits_listed {w : List (List Nat)} {listed : Array Bool} (hcl : ∀ j, listed.getD j false = true → ∀ e ∈ (w[j]?).getD [], listed.getD e false = true) : ∀ (f i x : Nat), waitsT w f i x = true → (∀ e ∈ (w[i]?).getD [], listed.getD e false = true) → listed.getD x false = true
  | 0, i, x, h, _ => by simp [waitsT] at h
  | f + 1, i, x, h, hi => by
    unfold waitsT at h
    rw [List.any_eq_true] at h
    obtain ⟨e, he, h2⟩ := h
    have hl := hi e he
    rw [Bool.or_eq_true] at h2
    rcases h2 with h2 | h2
    · have : e = x := by simpa using h2
      rw [← this]; exact hl
    · exact waits_listed hcl f e x h2 (hcl e hl)

theorem edges_mem {ops : Array Oper} {i : Nat} {o : Oper} (ho : ops[i]? = some o) {e : Nat} : e ∈ ((edges ops)[i]?).getD [] ↔ ∃ ed ∈ o.after, Region.binds .any ed = true ∧ ed.on = e := by
  unfold edges
  simp only [List.getElem?_map, Array.getElem?_toList, ho, Option.map_some, Option.getD_some, List.mem_filterMap, Array.mem_toList_iff]
  constructor
  · rintro ⟨ed, h1, h2⟩
    split at h2
    · rename_i hb; cases h2; exact ⟨ed, h1, hb, rfl⟩
    · cases h2
  · rintro ⟨ed, h1, hb, rfl⟩
    exact ⟨ed, h1, by rw [if_pos hb]⟩

theorem any_ok (hC : ConOk P C) {ops : Array Oper} {Q : Post} {QQ : Exit → Act → World → Prop} (hK : Lands C I Q (QQ .normal))
    (hd : drawOk ((ops.toList.map (cop P I.n ops)).map (KOp.drawn hint)) (edges ops) = true) :
    ∀ (fuel : Nat) (listed : Array Bool) (ord : List Nat) {g : Slots} {h : Heap} {clk : Nat} {a : Act} {w : World}, ord.length = fuel → ord.Pairwise (· < ·) → (∀ i, i ∈ ord ↔ i < ops.size ∧ listed.getD i false = false) → listed.size = ops.size →
      (∀ j, listed.getD j false = true → ∀ e ∈ ((edges ops)[j]?).getD [], listed.getD e false = true) → Rel I g h clk a w → kops C (ord.map (opAt P hint I.n ops)) Q g h clk → wpAny P .any ops QQ fuel listed a w := by
  have hlen : ((ops.toList.map (cop P I.n ops)).map (KOp.drawn hint)).length = ops.size := by simp
  have hall : ∀ i, i < ops.size → (∀ e ∈ ((edges ops)[i]?).getD [], e < i) ∧ ∀ x, x < i → waitsT (edges ops) ops.size i x = true ∨ apartK (opAt P hint I.n ops x) (opAt P hint I.n ops i) = true := by
    intro i hi
    unfold drawOk at hd
    rw [List.all_eq_true] at hd
    have h1 := hd i (by rw [hlen]; exact List.mem_range.2 hi)
    simp only [Bool.and_eq_true, List.all_eq_true, decide_eq_true_eq, List.mem_range, Bool.or_eq_true] at h1
    refine ⟨fun e he => h1.1 e he, fun x hx => ?_⟩
    rcases h1.2 x hx with h2 | h2
    · rw [hlen] at h2; exact .inl h2
    · refine .inr ?_
      unfold opAt
      split at h2
      · rename_i a b ha hb; rw [ha, hb]; exact h2
      · cases h2
  have rdy : ∀ {listed : Array Bool} {i : Nat}, listed.size = ops.size → i ∈ Region.ready .any ops listed → i < ops.size ∧ listed.getD i false = false ∧ ∀ e ∈ ((edges ops)[i]?).getD [], listed.getD e false = true := by
    intro listed i hs hi
    obtain ⟨h1, o, ho, h2⟩ := mem_ready.1 hi
    refine ⟨(Array.getElem?_eq_some_iff.1 ho).1, getD_both h1, fun e he => ?_⟩
    obtain ⟨ed, h3, h4, rfl⟩ := (edges_mem ho).1 he
    exact h2 ed h3 h4
  intro fuel
  induction fuel with
  | zero =>
    intro listed ord g h clk a w hl _ hm hs _ R hk
    have : ord = [] := List.eq_nil_of_length_eq_zero hl
    subst this
    refine ⟨?_, hK _ _ _ _ _ hk R⟩
    cases hr : Region.ready .any ops listed with
    | nil => rfl
    | cons i r =>
      have := rdy hs (i := i) (by rw [hr]; exact List.mem_cons_self)
      exact absurd ((hm i).2 ⟨this.1, this.2.1⟩) (by simp)
  | succ fuel ih =>
    intro listed ord g h clk a w hl hp hm hs hcl R hk
    refine ⟨fun hr => ?_, fun i hi => ?_⟩
    · cases ord with
      | nil => simp at hl
      | cons k r =>
        exfalso
        have hk1 := (hm k).1 List.mem_cons_self
        have hin : k ∈ Region.ready .any ops listed := by
          obtain ⟨o, ho⟩ : ∃ o, ops[k]? = some o := ⟨_, Array.getElem?_eq_getElem hk1.1⟩
          refine mem_ready.2 ⟨getD_in (by omega) hk1.2, o, ho, fun ed hed hb => ?_⟩
          have hlt := (hall k hk1.1).1 ed.on ((edges_mem ho).2 ⟨ed, hed, hb, rfl⟩)
          cases hq : listed.getD ed.on false with
          | true => rfl
          | false =>
            have := (hm ed.on).2 ⟨by omega, hq⟩
            rcases List.mem_cons.1 this with h1 | h1
            · omega
            · have := (List.pairwise_cons.1 hp).1 _ h1; omega
        rw [hr] at hin; cases hin
    · obtain ⟨hi1, hi2, hi3⟩ := rdy hs hi
      obtain ⟨o, ho⟩ : ∃ o, ops[i]? = some o := ⟨_, Array.getElem?_eq_getElem hi1⟩
      obtain ⟨pre, post, rfl⟩ := List.append_of_mem ((hm i).2 ⟨hi1, hi2⟩)
      rw [List.map_append, List.map_cons] at hk
      have hpre : ∀ x ∈ pre, x < i := fun x hx => (List.pairwise_append.1 hp).2.2 x hx i List.mem_cons_self
      have hk2 := to_front (opAt_plain (hint := hint) i) _ _ (fun y hy => by
        obtain ⟨x, hx, rfl⟩ := List.mem_map.1 hy
        refine ⟨opAt_plain x, ?_⟩
        rcases (hall i hi1).2 x (hpre x hx) with h1 | h1
        · have h2 := waits_listed hcl _ _ _ h1 hi3
          have h3 := ((hm x).1 (List.mem_append_left _ hx)).2
          rw [h2] at h3; cases h3
        · exact h1) hk
      rw [opAt_some ho] at hk2
      have hk3 := kops_undrawn hk2
      unfold wpOp
      simp only [ho]
      refine head_ok hC (Q := Q) (fun {g h clk a w} R hk => ?_) R hk3
      refine ih (listed.setIfInBounds i true) (pre ++ post) (by simp at hl ⊢; omega) ?_ (fun j => ?_) (by simpa using hs) (fun j hj e he => ?_) R (by rw [List.map_append]; exact hk)
      · exact List.Pairwise.sublist (by simp) hp
      · have hnd : i ∉ pre ∧ i ∉ post := ⟨fun hx => Nat.lt_irrefl _ (hpre i hx), fun hx => Nat.lt_irrefl _ ((List.pairwise_cons.1 (List.pairwise_append.1 hp).2.1).1 i hx)⟩
        have h1 := hm j
        by_cases hji : i = j
        · subst hji
          constructor
          · intro hx
            rcases List.mem_append.1 hx with h2 | h2
            · exact absurd h2 hnd.1
            · exact absurd h2 hnd.2
          · rintro ⟨_, h2⟩
            have : (listed.setIfInBounds i true).getD i false = true := by
              rw [Array.getD_eq_getD_getElem?, Array.getElem?_setIfInBounds_self_of_lt (by omega)]; rfl
            rw [this] at h2; cases h2
        · rw [getD_set_ne false hji]
          rw [← h1]
          simp only [List.mem_append, List.mem_cons]
          constructor
          · rintro (h2 | h2)
            · exact .inl h2
            · exact .inr (.inr h2)
          · rintro (h2 | h2 | h2)
            · exact .inl h2
            · exact absurd h2.symm hji
            · exact .inr h2
      · by_cases hji : i = j
        · subst hji; exact getD_set_true (hi3 e he)
        · rw [getD_set_ne false hji] at hj
          exact getD_set_true (hcl j hj e he)

theorem Rel.drew {g : Slots} {h : Heap} {clk : Nat} {a : Act} {w : World} (R : Rel I g h clk a w) : Rel I g h clk a { w with drawn := w.drawn + 1 } := by
  obtain ⟨κ, H, E, hg⟩ := R.st
  have E1 : Ext w κ h clk w.drew κ h clk := Ext.same rfl
  exact ⟨R.df, R.sz, κ, H.drew, E.trans E1, fun t => (hg t).ext E1⟩

theorem draw_ok (hC : ConOk P C) (hm : P.follows .mixedOrders = true) {id : Nat} {ops : Array Oper} {Q : Post} {QQ : Exit → Act → World → Prop} (hK : Lands C I Q (QQ .normal)) (hd : drawOk ((ops.toList.map (cop P I.n ops)).map (KOp.drawn hint)) (edges ops) = true)
    {g : Slots} {h : Heap} {clk : Nat} {a : Act} {w : World} (R : Rel I g h clk a w) (hk : kops C ((ops.toList.map (cop P I.n ops)).map (KOp.drawn hint)) Q g h clk) : (Code.region id ops true).wp P QQ a w := by
  refine wp_region_any hm (any_ok hC hK hd ops.size _ (List.range ops.size) (by simp) List.pairwise_lt_range (fun i => ?_) (by simp) (fun j hj => ?_) R.drew ?_)
  · rw [List.mem_range]
    exact ⟨fun hi => ⟨hi, getD_replicate_false _ _⟩, fun hi => hi.1⟩
  · rw [getD_replicate_false] at hj; cases hj
  · have e : (List.range ops.size).map (opAt P hint I.n ops) = (ops.toList.map (cop P I.n ops)).map (KOp.drawn hint) := by
      apply List.ext_getElem?
      intro i
      rw [List.getElem?_map]
      by_cases hi : i < ops.size
      · rw [List.getElem?_range hi, Option.map_some, opAt]
        have : i < ((ops.toList.map (cop P I.n ops)).map (KOp.drawn hint)).length := by simpa using hi
        rw [List.getElem?_eq_getElem this]; rfl
      · rw [List.getElem?_eq_none (by simpa using hi), List.getElem?_eq_none (by simpa using hi)]; rfl
    rw [e]; exact hk
end Go.AM
