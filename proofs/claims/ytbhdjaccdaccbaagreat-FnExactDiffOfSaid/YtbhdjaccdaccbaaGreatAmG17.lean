/- Regions whose order is drawn. No condition. -/
import Derived.Test.YtbhdjaccdaccbaaGreatAmG16
import Derived.StillTail
import Derived.Test.YtbhdjaccdaccbaaGreatAmG02
set_option linter.all false
set_option linter.unusedSimpArgs false
set_option linter.unusedVariables false
set_option linter.deprecated false
/-! Draw3 -/
section
namespace Go.AM
variable {P : Program} {I : Ini} {C : Con} {m : Nat} {hint : Nat → Nat}

theorem expA_free {h : Heap} {a : AV} (ha : a.free = true) : expA h [] a = a := by
  have pure : ∀ x : AV, x.pure = true → expA h [] x = x := fun x hx => by cases x <;> first | (simp [AV.pure] at hx; done) | simp [expA]
  have list : ∀ l : List AV, l.all AV.pure = true → expL h [] l = l := by
    intro l
    induction l with
    | nil => intro _; simp [expL]
    | cons x r ih => intro hl; simp only [List.all_cons, Bool.and_eq_true] at hl; rw [expL, pure x hl.1, ih hl.2]
  cases a with
  | agg cs => rw [expA, list cs ha]
  | tup cs => rw [expA, list cs ha]
  | fn f cs => rw [expA, list cs ha]
  | _ => exact pure _ ha
theorem expL_free {h : Heap} : ∀ {l : List AV}, (∀ a ∈ l, a.free = true) → expL h [] l = l
  | [], _ => by simp [expL]
  | a :: r, hl => by rw [expL, expA_free (hl a List.mem_cons_self), expL_free fun b hb => hl b (List.mem_cons_of_mem _ hb)]
theorem expOk_free {h : Heap} {a : AV} (ha : a.free = true) : ExpOk h [] a := by
  have one : ∀ c : AV, c.pure = true → (match c with
      | .sl o v off len _ => match ([] : List Rid).idxOf? o, cur h o v with
        | none, some ob => Pure ob.es ∧ off + len ≤ ob.es.length
        | some _, some _ => True
        | _, none => False
      | .ptr o v _ _ => match ([] : List Rid).idxOf? o, cur h o v with
        | some _, some _ => True
        | _, _ => False
      | c => c.pure = true) := fun c hc => by cases c <;> first | (simp [AV.pure] at hc; done) | exact hc
  cases a with
  | agg cs => exact fun c hc => one c (List.all_eq_true.1 ha c hc)
  | tup cs => exact fun c hc => one c (List.all_eq_true.1 ha c hc)
  | fn f cs => exact fun c hc => one c (List.all_eq_true.1 ha c hc)
  | ptr _ _ _ _ => simp [AV.free, AV.pure] at ha
  | sl _ _ _ _ _ => simp [AV.free, AV.pure] at ha
  | _ => exact ha

theorem kop_undrawn (hcp : ∀ f z es, C.cp f z es → C.c f [.dat z es] [] true (fun r o => r = .sl (.p 0) 1 0 es.length none ∧ o = [{ ver := 1, es := es, esz := z }])) {o : KO} {d : Option Nat} {Q : Post} {g : Slots} {h : Heap} {c : Nat} (hk : kop C d (o.drawn m hint) Q g h c) : kop C d o Q g h c := by
  have c0 : ∀ {f : KV} {as : List KV}, kop C d (.call0 f as) Q g h c → kop C d (.call f as) Q g h c := by
    intro f as hk
    obtain ⟨r, ⟨fid, capt, own, h1, h2, h6, h3, h4⟩, h5⟩ := hk
    refine .inl ⟨fid, capt, h1, [], [], own, (fun r' o' => r' = r ∧ o' = []), by rw [expL_free h3]; exact h2, rfl, .nil, fun a ha => expOk_free (h3 a ha), fun _ hb => (by cases hb), h4, fun r' o' he => ?_⟩
    obtain ⟨e1, e2⟩ := he
    subst e1; subst e2
    exact ⟨Nat.le_refl _, fun _ hb => (by cases hb), fun _ _ hb => (by cases hb), by rw [hcall_nil, h6]; exact h5⟩
  have cg : ∀ {f : KV} {as : List KV}, kop C d (.callg f as) Q g h c → kop C d (.call f as) Q g h c := by
    intro f as hk
    obtain ⟨r, h', ⟨fid, capt, own, os, obs, obs', k1, k2, k3, k4, k5, k6, k7, k8, k9, k10, k11, k12, rfl⟩, h5⟩ := hk
    have hlen : obs.length = os.length := by have := congrArg List.length k3; simpa using this.symm
    refine .inl ⟨fid, capt, k1, os, obs, own, (fun r' o' => r' = r ∧ o' = obs'), k2, k3, k4, fun a ha => (k7 a ha).1, k8, k10, fun r' o' he => ?_⟩
    obtain ⟨e1, e2⟩ := he
    subst e1; subst e2
    have e3 : nclk c os o' = c := by unfold nclk; rw [if_neg (by omega)]
    exact ⟨by omega, k9, k11, by rw [hcall_same (by omega), k12, e3]; exact h5⟩
  have ch : ∀ {f : KV} {as : List KV}, kop C d (.callh f as) Q g h c → kop C d (.call f as) Q g h c := by
    intro f as hk
    obtain ⟨r, h', ⟨fid, capt, own, os, obs, obs', k1, k2, k3, k4, k5, k6, k7, k8, k9, k10, k11, k12, rfl⟩, h5⟩ := hk
    have hlen : obs.length = os.length := by have := congrArg List.length k3; simpa using this.symm
    refine .inl ⟨fid, capt, k1, os, obs, own, (fun r' o' => r' = r ∧ o' = obs'), k2, k3, k4, fun a ha => (k7 a ha).1, k8, k10, fun r' o' he => ?_⟩
    obtain ⟨e1, e2⟩ := he
    subst e1; subst e2
    have e3 : nclk c os o' = c := by unfold nclk; rw [if_neg (by omega)]
    exact ⟨by omega, k9, k11, by rw [hcall_same (by omega), k12, e3]; exact h5⟩
  have mk : ∀ {o : KO}, o.makes = true → kop C d (.mk4 o) Q g h c → kop C d o Q g h c := by
    intro o ho hk
    obtain ⟨t, p, val, h', h1, h2, h3, h4, h5⟩ := hk c
    cases o <;> simp only [KO.makes] at ho <;> first | (cases ho; done) | exact ⟨t, p, val, h', c + 1, h1, h2, h3, h5⟩
  have cc : ∀ {f : Nat} {as : List KV}, kop C d (.callc f as) Q g h c → kop C d (.call (.f f) as) Q g h c := by
    rintro f as ⟨t, z, es, rfl, h2, h3, h4, h5, h6⟩
    refine .inl ⟨f, [], rfl, [], [], true, (fun r o => r = .sl (.p 0) 1 0 es.length none ∧ o = [{ ver := 1, es := es, esz := z }]), ?_, rfl, .nil, ?_, (fun _ hb => by cases hb), .inl rfl, ?_⟩
    · rw [h2]; simp only [List.append_nil, expL, expA]
      exact hcp _ _ _ h3
    · rw [h2]
      intro a ha
      simp at ha; subst ha; rfl
    · rintro r o' ⟨rfl, rfl⟩
      refine ⟨by simp, fun b hb => ?_, fun _ b hb => ?_, ?_⟩
      · simp at hb; subst hb; exact h4
      · simp at hb; subst hb; exact .inl trivial
      · rw [hcall_new]
        have := h6 c
        simpa [impA, nclk, updO] using this
  have cv : ∀ {f : KV} {as : List KV}, kop C d (.callv f as) Q g h c → kop C d (.call f as) Q g h c := by
    intro f as hk
    obtain ⟨r, ⟨fid, capt, own, h1, h2, h6, h3, h4⟩, h5⟩ := hk
    refine .inl ⟨fid, capt, h1, [], [], own, (fun r' o' => r' = r ∧ o' = []), h2, rfl, .nil, h3, fun _ hb => (by cases hb), h4, fun r' o' he => ?_⟩
    obtain ⟨e1, e2⟩ := he
    subst e1; subst e2
    exact ⟨Nat.le_refl _, fun _ hb => (by cases hb), fun _ _ hb => (by cases hb), by rw [hcall_nil, h6]; exact h5⟩
  have cn : ∀ {f : KV} {as : List KV}, kop C d (.calln f as) Q g h c → kop C d (.call f as) Q g h c := by
    intro f as hk
    obtain ⟨t, r, o', rfl, ⟨fid, capt, own, h1, h2, h4, h5, h6, h7⟩, h8, h9⟩ := hk c
    refine .inl ⟨fid, capt, h1, [], [], own, (fun r' o2 => r' = r ∧ o2 = o'), h2, rfl, .nil, h4, fun _ hb => (by cases hb), h7, fun r' o2 he => ?_⟩
    obtain ⟨e1, e2⟩ := he
    subst e1; subst e2
    refine ⟨Nat.zero_le _, h5, h6, ?_⟩
    rw [hcall_news]; exact h9
  cases o
  case call f as =>
    cases f with
    | f n =>
      simp only [KO.drawn] at hk
      split at hk
      · exact ch hk
      · exact cg hk
      · exact cc hk
      · exact cv hk
      · exact cn hk
      · exact c0 hk
    | t n => exact c0 hk
    | c v => exact c0 hk
    | g v => exact c0 hk
    | bad => exact c0 hk
  case eqn n x y => exact .inl hk
  case gh => obtain ⟨p, v, h1, _⟩ := hk; cases h1
  case load a n x =>
    simp only [KO.drawn] at hk
    split at hk
    · obtain ⟨p, v, h1, h2, h3⟩ := hk
      simp only [kv] at h1
      unfold ldA at h1
      split at h1
      · next ea =>
        split at h1
        · exact ⟨p, v, by simp only [kv]; rw [ea]; exact h1, h2, h3⟩
        · cases h1
      · cases h1
    · exact hk
  case store n a x =>
    simp only [KO.drawn] at hk
    split at hk
    · obtain ⟨p, h', h1, h2, h3⟩ := hk
      unfold stA at h1
      split at h1
      · next ea =>
        split at h1
        · exact ⟨p, h', by rw [ea]; exact h1, h2, h3⟩
        · cases h1
      · cases h1
    · exact hk
  all_goals first
    | exact hk
    | (simp only [KO.drawn] at hk
       split at hk
       · exact mk rfl hk
       · exact hk)
    | (simp only [KO.drawn, KO.makes, and_false, Bool.false_eq_true, if_false] at hk; exact hk)
theorem kops_undrawn (hcp : ∀ f z es, C.cp f z es → C.c f [.dat z es] [] true (fun r o => r = .sl (.p 0) 1 0 es.length none ∧ o = [{ ver := 1, es := es, esz := z }])) {o : KOp} {r : List KOp} {Q : Post} {g : Slots} {h : Heap} {c : Nat} (hk : kops C (o.drawn m hint :: r) Q g h c) : kops C (o :: r) Q g h c := by
  unfold kops at *
  have e1 : (o.drawn m hint).g = o.g := rfl
  have e2 : (o.drawn m hint).d = o.d := rfl
  rw [e1, e2] at hk
  cases hg : o.g with
  | none => rw [hg] at hk; exact kop_undrawn hcp hk
  | some tw =>
    obtain ⟨t, w⟩ := tw
    rw [hg] at hk
    obtain ⟨x, h1, h2, h3⟩ := hk
    exact ⟨x, h1, fun e => kop_undrawn hcp (h2 e), h3⟩
theorem drawn_ko (o : KO) : (∀ f as, o.drawn m hint ≠ .call f as) ∧ (o.drawn m hint).eqn? = false := by
  cases o
  case call f as =>
    cases f with
    | f n => simp only [KO.drawn]; split <;> exact ⟨fun _ _ h => (by cases h), rfl⟩
    | _ => exact ⟨fun _ _ h => (by cases h), rfl⟩
  case eqn => exact ⟨fun _ _ h => (by cases h), rfl⟩
  case gh => exact ⟨fun _ _ h => (by cases h), rfl⟩
  all_goals (simp only [KO.drawn]; split <;> exact ⟨fun _ _ h => (by cases h), rfl⟩)
theorem drawn_plain (o : KOp) : (o.drawn m hint).plain := drawn_ko o.o

theorem head_ok (hC : ConOk P C) {rd : Option Nat} {ops : Array Oper} {o : Oper} {r : List KOp} {Q : Post} {K : Act → World → Prop} {QQ : Exit → Act → World → Prop} (hK : ∀ {g : Slots} {h : Heap} {clk : Nat} {a : Act} {w : World}, Rel I g h clk a w → kops C r Q g h clk → K a w)
    {g : Slots} {h : Heap} {clk : Nat} {a : Act} {w : World} (R : Rel I g h clk a w) (hk : kops C (cop P I.n ops o :: r) Q g h clk) :
    if Region.wanted o (yielded ops a.tmps) = true then o.wpIn (Fw rd) 0 P a w K QQ else (∀ f, o.about P w a.eval = some f → (Fw rd).fn f) ∧ K (a.put o.dst Go.undef) w := by
  have done : ∀ {g h clk a w}, Rel I g h clk a w → kop C (cop P I.n ops o).d (cop P I.n ops o).o (kops C r Q) g h clk → o.wpIn (Fw rd) 0 P a w K QQ := by
    intro g h clk a w R hk
    by_cases hd : o.dst.all (· < I.n) = true
    · have e1 : (cop P I.n ops o).o = co P o.op := by simp only [cop]; rw [if_pos hd]
      rw [e1] at hk
      exact wpIn_of_wp (fun cc hcc => by rw [co_defer hcc] at hk; exact kop_bad hk) (kop_ok hC R hd hk (fun g h clk a w hq R => hK R hq))
    · have e1 : (cop P I.n ops o).o = .bad := by simp only [cop]; rw [if_neg hd]
      rw [e1] at hk
      obtain ⟨p, v, h1, _⟩ := hk
      cases h1
  unfold kops at hk
  cases hgd : o.guard with
  | none =>
    have hw : Region.wanted o (yielded ops a.tmps) = true := by unfold Region.wanted; rw [hgd]
    rw [if_pos hw]
    have e1 : (cop P I.n ops o).g = none := by simp [cop, hgd]
    rw [e1] at hk
    exact done R hk
  | some jw =>
    obtain ⟨j, wt⟩ := jw
    have e1 : (cop P I.n ops o).g = some (((ops[j]?).bind (·.dst)).getD I.n, wt) := by simp [cop, hgd]
    rw [e1] at hk
    obtain ⟨x, hx, h1, h2⟩ := hk
    obtain ⟨κ, H, E, hg⟩ := R.st
    have hy := yielded_ok hg R.sz hx
    have hw : Region.wanted o (yielded ops a.tmps) = (x == wt) := by
      unfold Region.wanted; rw [hgd]; exact hy
    rw [hw]
    by_cases hxw : x = wt
    · subst hxw
      simp only [beq_self_eq_true, if_true]
      exact done R (h1 rfl)
    · have hxn : x = !wt := by cases x <;> cases wt <;> simp_all
      have : (x == wt) = false := by simpa using hxw
      rw [this]
      simp only [Bool.false_eq_true, if_false]
      exact ⟨fun _ _ => trivial, hK (R.putU o.dst) (h2 hxn)⟩

def opAt (P : Program) (m : Nat) (hint : Nat → Nat) (n : Nat) (ops : Array Oper) (i : Nat) : KOp := ((((ops.toList.map (cop P n ops)).map (KOp.drawn m hint))[i]?).getD ⟨none, none, .bad⟩)
theorem opAt_some {n : Nat} {ops : Array Oper} {i : Nat} {o : Oper} (ho : ops[i]? = some o) : opAt P m hint n ops i = (cop P n ops o).drawn m hint := by
  unfold opAt
  simp [ho]
theorem opAt_plain {n : Nat} {ops : Array Oper} (i : Nat) : (opAt P m hint n ops i).plain := by
  unfold opAt
  cases h : (((ops.toList.map (cop P n ops)).map (KOp.drawn m hint))[i]?) with
  | none => exact ⟨fun f as hh => (by cases hh), rfl⟩
  | some o =>
    have := List.mem_of_getElem? h
    simp only [List.mem_map] at this
    obtain ⟨y, _, rfl⟩ := this
    exact drawn_plain y

theorem waits_listed {w : List (List Nat)} {listed : Array Bool} (hcl : ∀ j, listed.getD j false = true → ∀ e ∈ (w[j]?).getD [], listed.getD e false = true) : ∀ (f i x : Nat), waitsT w f i x = true → (∀ e ∈ (w[i]?).getD [], listed.getD e false = true) → listed.getD x false = true
  | 0, i, x, h, _ => by simp [waitsT] at h
  | f + 1, i, x, h, hi => by
    unfold waitsT at h
    rw [List.any_eq_true] at h
    obtain ⟨e, he, h2⟩ := h
    have hl := hi e he
    rw [Bool.or_eq_true] at h2
    rcases h2 with h2 | h2
    · have : e = x := by simpa using h2
      rw [← this]; exact hl
    · exact waits_listed hcl f e x h2 (hcl e hl)

theorem edges_mem {ops : Array Oper} {i : Nat} {o : Oper} (ho : ops[i]? = some o) {e : Nat} : e ∈ ((edges ops)[i]?).getD [] ↔ ∃ ed ∈ o.after, Region.binds .any ed = true ∧ ed.on = e := by
  unfold edges
  simp only [List.getElem?_map, Array.getElem?_toList, ho, Option.map_some, Option.getD_some, List.mem_filterMap, Array.mem_toList_iff]
  constructor
  · rintro ⟨ed, h1, h2⟩
    split at h2
    · rename_i hb; cases h2; exact ⟨ed, h1, hb, rfl⟩
    · cases h2
  · rintro ⟨ed, h1, hb, rfl⟩
    exact ⟨ed, h1, by rw [if_pos hb]⟩

theorem any_ok (hC : ConOk P C) {rd : Option Nat} {ops : Array Oper} {Q : Post} {QQ : Exit → Act → World → Prop} (hK : Lands C I Q (QQ .normal))
    (hd : drawOk ((ops.toList.map (cop P I.n ops)).map (KOp.drawn m hint)) (edges ops) = true) :
    ∀ (fuel : Nat) (listed : Array Bool) (ord : List Nat) {g : Slots} {h : Heap} {clk : Nat} {a : Act} {w : World}, ord.length = fuel → ord.Pairwise (· < ·) → (∀ i, i ∈ ord ↔ i < ops.size ∧ listed.getD i false = false) → listed.size = ops.size →
      (∀ j, listed.getD j false = true → ∀ e ∈ ((edges ops)[j]?).getD [], listed.getD e false = true) → Rel I g h clk a w → kops C (ord.map (opAt P m hint I.n ops)) Q g h clk → wpAnyIn (Fw rd) 0 P .any ops QQ fuel listed a w := by
  have hlen : ((ops.toList.map (cop P I.n ops)).map (KOp.drawn m hint)).length = ops.size := by simp
  have hall : ∀ i, i < ops.size → (∀ e ∈ ((edges ops)[i]?).getD [], e < i) ∧ ∀ x, x < i → waitsT (edges ops) ops.size i x = true ∨ apartK (opAt P m hint I.n ops x) (opAt P m hint I.n ops i) = true := by
    intro i hi
    unfold drawOk at hd
    rw [List.all_eq_true] at hd
    have h1 := hd i (by rw [hlen]; exact List.mem_range.2 hi)
    simp only [Bool.and_eq_true, List.all_eq_true, decide_eq_true_eq, List.mem_range, Bool.or_eq_true] at h1
    refine ⟨fun e he => h1.1 e he, fun x hx => ?_⟩
    rcases h1.2 x hx with h2 | h2
    · rw [hlen] at h2; exact .inl h2
    · refine .inr ?_
      unfold opAt
      split at h2
      · rename_i a b ha hb; rw [ha, hb]; exact h2
      · cases h2
  have rdy : ∀ {listed : Array Bool} {i : Nat}, listed.size = ops.size → i ∈ Region.ready .any ops listed → i < ops.size ∧ listed.getD i false = false ∧ ∀ e ∈ ((edges ops)[i]?).getD [], listed.getD e false = true := by
    intro listed i hs hi
    obtain ⟨h1, o, ho, h2⟩ := mem_ready.1 hi
    refine ⟨(Array.getElem?_eq_some_iff.1 ho).1, getD_both h1, fun e he => ?_⟩
    obtain ⟨ed, h3, h4, rfl⟩ := (edges_mem ho).1 he
    exact h2 ed h3 h4
  intro fuel
  induction fuel with
  | zero =>
    intro listed ord g h clk a w hl _ hm hs _ R hk
    have : ord = [] := List.eq_nil_of_length_eq_zero hl
    subst this
    refine ⟨?_, hK _ _ _ _ _ hk R⟩
    cases hr : Region.ready .any ops listed with
    | nil => rfl
    | cons i r =>
      have := rdy hs (i := i) (by rw [hr]; exact List.mem_cons_self)
      exact absurd ((hm i).2 ⟨this.1, this.2.1⟩) (by simp)
  | succ fuel ih =>
    intro listed ord g h clk a w hl hp hm hs hcl R hk
    refine ⟨fun hr => ?_, fun i hi => ?_⟩
    · cases ord with
      | nil => simp at hl
      | cons k r =>
        exfalso
        have hk1 := (hm k).1 List.mem_cons_self
        have hin : k ∈ Region.ready .any ops listed := by
          obtain ⟨o, ho⟩ : ∃ o, ops[k]? = some o := ⟨_, Array.getElem?_eq_getElem hk1.1⟩
          refine mem_ready.2 ⟨getD_in (by omega) hk1.2, o, ho, fun ed hed hb => ?_⟩
          have hlt := (hall k hk1.1).1 ed.on ((edges_mem ho).2 ⟨ed, hed, hb, rfl⟩)
          cases hq : listed.getD ed.on false with
          | true => rfl
          | false =>
            have := (hm ed.on).2 ⟨by omega, hq⟩
            rcases List.mem_cons.1 this with h1 | h1
            · omega
            · have := (List.pairwise_cons.1 hp).1 _ h1; omega
        rw [hr] at hin; cases hin
    · obtain ⟨hi1, hi2, hi3⟩ := rdy hs hi
      obtain ⟨o, ho⟩ : ∃ o, ops[i]? = some o := ⟨_, Array.getElem?_eq_getElem hi1⟩
      obtain ⟨pre, post, rfl⟩ := List.append_of_mem ((hm i).2 ⟨hi1, hi2⟩)
      rw [List.map_append, List.map_cons] at hk
      have hpre : ∀ x ∈ pre, x < i := fun x hx => (List.pairwise_append.1 hp).2.2 x hx i List.mem_cons_self
      have hk2 := to_front (opAt_plain (m := m) (hint := hint) i) _ _ (fun y hy => by
        obtain ⟨x, hx, rfl⟩ := List.mem_map.1 hy
        refine ⟨opAt_plain x, ?_⟩
        rcases (hall i hi1).2 x (hpre x hx) with h1 | h1
        · have h2 := waits_listed hcl _ _ _ h1 hi3
          have h3 := ((hm x).1 (List.mem_append_left _ hx)).2
          rw [h2] at h3; cases h3
        · exact h1) hk
      rw [opAt_some ho] at hk2
      have hk3 := kops_undrawn hC.2.2 hk2
      unfold wpOpIn
      simp only [ho]
      refine head_ok hC (Q := Q) (fun {g h clk a w} R hk => ?_) R hk3
      refine ih (listed.setIfInBounds i true) (pre ++ post) (by simp at hl ⊢; omega) ?_ (fun j => ?_) (by simpa using hs) (fun j hj e he => ?_) R (by rw [List.map_append]; exact hk)
      · exact List.Pairwise.sublist (by simp) hp
      · have hnd : i ∉ pre ∧ i ∉ post := ⟨fun hx => Nat.lt_irrefl _ (hpre i hx), fun hx => Nat.lt_irrefl _ ((List.pairwise_cons.1 (List.pairwise_append.1 hp).2.1).1 i hx)⟩
        have h1 := hm j
        by_cases hji : i = j
        · subst hji
          constructor
          · intro hx
            rcases List.mem_append.1 hx with h2 | h2
            · exact absurd h2 hnd.1
            · exact absurd h2 hnd.2
          · rintro ⟨_, h2⟩
            have : (listed.setIfInBounds i true).getD i false = true := by
              rw [Array.getD_eq_getD_getElem?, Array.getElem?_setIfInBounds_self_of_lt (by omega)]; rfl
            rw [this] at h2; cases h2
        · rw [getD_set_ne false hji]
          rw [← h1]
          simp only [List.mem_append, List.mem_cons]
          constructor
          · rintro (h2 | h2)
            · exact .inl h2
            · exact .inr (.inr h2)
          · rintro (h2 | h2 | h2)
            · exact .inl h2
            · exact absurd h2.symm hji
            · exact .inr h2
      · by_cases hji : i = j
        · subst hji; exact getD_set_true (hi3 e he)
        · rw [getD_set_ne false hji] at hj
          exact getD_set_true (hcl j hj e he)

theorem Rel.drew {g : Slots} {h : Heap} {clk : Nat} {a : Act} {w : World} (R : Rel I g h clk a w) : Rel I g h clk a { w with drawn := w.drawn + 1 } := by
  obtain ⟨κ, H, E, hg⟩ := R.st
  have E1 : Ext w κ h clk w.drew κ h clk := Ext.same rfl
  exact ⟨R.df, R.sz, κ, H.drew, E.trans E1, fun t => (hg t).ext E1⟩

theorem draw_ok (hC : ConOk P C) {rd : Option Nat} (hm : P.follows .mixedOrders = true) {id : Nat} {ops : Array Oper} {Q : Post} {QQ : Exit → Act → World → Prop} (hK : Lands C I Q (QQ .normal)) (hd : drawOk ((ops.toList.map (cop P I.n ops)).map (KOp.drawn m hint)) (edges ops) = true)
    {g : Slots} {h : Heap} {clk : Nat} {a : Act} {w : World} (R : Rel I g h clk a w) (hk : kops C ((ops.toList.map (cop P I.n ops)).map (KOp.drawn m hint)) Q g h clk) : (Code.region id ops true).wpIn (Fw rd) 0 P QQ a w := by
  refine wpIn_region_any hm (any_ok hC hK hd ops.size _ (List.range ops.size) (by simp) List.pairwise_lt_range (fun i => ?_) (by simp) (fun j hj => ?_) R.drew ?_)
  · rw [List.mem_range]
    exact ⟨fun hi => ⟨hi, getD_replicate_false _ _⟩, fun hi => hi.1⟩
  · rw [getD_replicate_false] at hj; cases hj
  · have e : (List.range ops.size).map (opAt P m hint I.n ops) = (ops.toList.map (cop P I.n ops)).map (KOp.drawn m hint) := by
      apply List.ext_getElem?
      intro i
      rw [List.getElem?_map]
      by_cases hi : i < ops.size
      · rw [List.getElem?_range hi, Option.map_some, opAt]
        have : i < ((ops.toList.map (cop P I.n ops)).map (KOp.drawn m hint)).length := by simpa using hi
        rw [List.getElem?_eq_getElem this]; rfl
      · rw [List.getElem?_eq_none (by simpa using hi), List.getElem?_eq_none (by simpa using hi)]; rfl
    rw [e]; exact hk
end Go.AM
end
/-! Code4 -/
section
namespace Go.AM
variable {P : Program} {I : Ini} {C : Con}

theorem cond_ok {c : Operand} {A B : K} {Q : Ex → Post} {g : Slots} {h : Heap} {clk : Nat} {a : Act} {w : World} (R : Rel I g h clk a w) (hk : kwp C (.cond (cv c) A B) Q g h clk) :
    ∃ x g', a.eval c = .bool x ∧ Rel I g' h clk a w ∧ (x = true → kwp C A Q g' h clk) ∧ (x = false → kwp C B Q g' h clk) := by
  obtain ⟨κ, H, E, hg⟩ := R.st
  have hev : VR w κ h clk (ev g (cv c)) (a.eval c) := ev_ok H.here hg c
  cases c with
  | tmp t =>
    obtain ⟨x, hx, h1, h2⟩ := hk
    have hx' : ev g (cv (.tmp t)) = .b x := hx
    rw [hx'] at hev
    refine ⟨x, upd g t (.b x), hev.of_b, R.slot hx, fun e => ?_, fun e => ?_⟩
    · subst e; exact h1 rfl
    · subst e; exact h2 rfl
  | const v =>
    obtain ⟨x, hx, h1, h2⟩ := hk
    rw [show ev g (cv (.const v)) = .b x from hx] at hev
    exact ⟨x, g, hev.of_b, R, h1, h2⟩
  | func f =>
    obtain ⟨x, hx, _⟩ := hk
    cases hx
  | global f =>
    obtain ⟨x, hx, _⟩ := hk
    cases hx

theorem least_ex (p : Nat → Prop) : ∀ n, p n → ∃ m, p m ∧ ∀ k, p k → m ≤ k := by
  intro n
  induction n using Nat.strongRecOn with
  | _ n ih =>
    intro hn
    by_cases hq : ∃ k, k < n ∧ p k
    · obtain ⟨k, hk, hp⟩ := hq; exact ih k hk hp
    · exact ⟨n, hn, fun k hk => Nat.le_of_not_lt fun hl => hq ⟨k, hl, hk⟩⟩
open Classical in
noncomputable def least (p : Nat → Prop) : Nat := if h : ∃ m, p m ∧ ∀ k, p k → m ≤ k then Classical.choose h else 0
theorem least_spec {p : Nat → Prop} (h : ∃ n, p n) : p (least p) ∧ ∀ k, p k → least p ≤ k := by
  obtain ⟨n, hn⟩ := h
  have h2 := least_ex p n hn
  unfold least
  rw [dif_pos h2]
  exact Classical.choose_spec h2

theorem kwp_ok (hC : ConOk P C) {rd : Option Nat} (hmix : P.follows .mixedOrders = true) (hint : Nat → Nat) : ∀ (c : Code) (k : K), comp P I.n hint c = k.strip → drawsOk (comp P I.n hint c) = true → ∀ {Q : Ex → Post} {QQ : Exit → Act → World → Prop} {g : Slots} {h : Heap} {clk : Nat} {a : Act} {w : World},
    Meets C I Q QQ → Rel I g h clk a w → kwp C k Q g h clk → c.wpIn (Fw rd) 0 P QQ a w := by
  intro c
  induction c with
  | skip =>
    intro k hs hd Q QQ g h clk a w M R hk
    cases k <;> simp only [comp, K.strip] at hs <;> try cases hs
    exact wpIn_skip (M.1 _ _ _ _ _ hk R)
  | region id ops d =>
    intro k hs hd Q QQ g h clk a w M R hk
    cases d with
    | true =>
      have e : comp P I.n hint (.region id ops true) = K.dreg (drawnL hint (ops.toList.map (cop P I.n ops)) (edges ops)) (edges ops) := rfl
      rw [e] at hs hd
      cases k <;> simp only [K.strip] at hs <;> try cases hs
      exact draw_ok hC hmix M.1 hd R hk
    | false =>
      have e : comp P I.n hint (.region id ops false) = K.reg (ops.toList.map (cop P I.n ops)) := rfl
      rw [e] at hs
      cases k <;> simp only [K.strip] at hs <;> try (cases hs; done)
      simp only [K.reg.injEq] at hs
      exact wpIn_region_list (kops_ok hC M.1 _ ops.toList hs.symm R hk)
  | seq x y ihx ihy =>
    intro k hs hd Q QQ g h clk a w M R hk
    cases k <;> simp only [comp, K.strip] at hs <;> try (cases hs; done)
    rename_i kx ky
    simp only [K.seq.injEq] at hs
    simp only [comp, drawsOk, Bool.and_eq_true] at hd
    refine wpIn_seq (ihx kx hs.1 hd.1 (Q := Ex.then (kwp C ky Q) Q) ⟨fun g h clk a w hq R => ihy ky hs.2 hd.2 M R hq, fun id => M.2.1 id, M.2.2⟩ R hk)
  | cond c x y ihx ihy =>
    intro k hs hd Q QQ g h clk a w M R hk
    cases k <;> simp only [comp, K.strip] at hs <;> try (cases hs; done)
    rename_i kc kx ky
    simp only [K.cond.injEq] at hs
    obtain ⟨rfl, hs⟩ := hs
    obtain ⟨b, g', hb, R', h1, h2⟩ := cond_ok R hk
    simp only [comp, drawsOk, Bool.and_eq_true] at hd
    exact wpIn_cond_split hb (fun e => ihx kx hs.1 hd.1 M R' (h1 e)) (fun e => ihy ky hs.2 hd.2 M R' (h2 e))
  | block id x ih =>
    intro k hs hd Q QQ g h clk a w M R hk
    cases k <;> simp only [comp, K.strip] at hs <;> try (cases hs; done)
    rename_i id' kx
    simp only [K.block.injEq] at hs
    obtain ⟨rfl, hs⟩ := hs
    refine wpIn_block (ih kx hs hd (Q := Ex.inBlock id Q) ⟨M.1, fun j g h clk a w hq R => ?_, M.2.2⟩ R hk)
    simp only [Ex.inBlock] at hq
    simp only [Exit.inBlock]
    split at hq
    · rename_i e; rw [if_pos e]; exact M.1 _ _ _ _ _ hq R
    · rename_i e; rw [if_neg e]; exact M.2.1 j _ _ _ _ _ hq R
  | loop x ih =>
    intro k hs hd Q QQ g h clk a w M R hk
    cases k <;> simp only [comp, K.strip] at hs <;> try (cases hs; done)
    rename_i kx
    simp only [K.loop.injEq] at hs
    obtain ⟨J, μ, h0, hr⟩ := hk
    let T : Act → World → Nat → Prop := fun a w m => ∃ g h clk, J g h clk ∧ Rel I g h clk a w ∧ μ g h clk = m
    refine wpIn_loop (fun a w => ∃ m, T a w m) (fun a w => least (T a w)) ⟨_, g, h, clk, h0, R, rfl⟩ fun a w hI => ?_
    obtain ⟨⟨g1, h1, c1, hJ, R1, hm⟩, _⟩ := least_spec hI
    refine ih kx hs hd (Q := Ex.then (fun g' h' c' => J g' h' c' ∧ μ g' h' c' < μ g1 h1 c1) Q) ⟨fun g h clk a w hq R => ?_, fun id => M.2.1 id, M.2.2⟩ R1 (hr _ _ _ hJ)
    have hx : T a w (μ g h clk) := ⟨g, h, clk, hq.1, R, rfl⟩
    refine ⟨⟨_, hx⟩, ?_⟩
    rw [← hm]
    exact Nat.lt_of_le_of_lt ((least_spec ⟨_, hx⟩).2 _ hx) hq.2
  | exit id =>
    intro k hs hd Q QQ g h clk a w M R hk
    cases k <;> simp only [comp, K.strip] at hs <;> try (cases hs; done)
    simp only [K.exit.injEq] at hs
    subst hs
    exact wpIn_exit (M.2.1 id _ _ _ _ _ hk R)
  | ret =>
    intro k hs hd Q QQ g h clk a w M R hk
    cases k <;> simp only [comp, K.strip] at hs <;> try cases hs
    exact wpIn_ret (M.2.2 _ _ _ _ _ hk R)
  | _ =>
    intro k hs hd Q QQ g h clk a w M R hk
    cases k <;> simp only [comp, K.strip] at hs <;> try (cases hs; done)
    exact hk.elim
end Go.AM
end
/-! Fun1 -/
section
namespace Go.AM
variable {P : Program}

mutual
/-- A result, as the contract names it: 'ren' are the objects that come back. -/
def retA (h : Heap) (ren : List Rid) (n : Nat) : AV → AV
  | .ptr o v e c => match ren.idxOf? o, cur h o v with
    | some k, some _ => .ptr (.p (n + k)) 1 e c
    | _, _ => .undef
  | .sl o v off len cap => match ren.idxOf? o, cur h o v with
    | some k, some _ => .sl (.p (n + k)) 1 off len cap
    | none, some ob => .dat ob.esz (sub ob.es off len)
    | _, _ => .undef
  | .agg cs => .agg (retL h ren n cs)
  | .tup cs => .tup (retL h ren n cs)
  | .fn f cs => .fn f (retL h ren n cs)
  | v => v
def retL (h : Heap) (ren : List Rid) (n : Nat) : List AV → List AV
  | [] => []
  | v :: r => retA h ren n v :: retL h ren n r
end
mutual
/-- A result that lives on: what is left of it is new, or may be read. -/
def ResOk (h : Heap) (ren : List Rid) (own : Bool) : AV → Prop
  | .agg cs => ResL h ren own cs
  | .tup cs => ResL h ren own cs
  | .sl o v off len _ => ∃ ob, cur h o v = some ob ∧ (o ∈ ren ∨ (o.isP = false ∧ o ∉ ren ∧ Pure ob.es ∧ off + len ≤ ob.es.length ∧ (own = true → ob.own ∨ Flat ob.es)))
  | .ptr o v _ _ => o ∈ ren ∧ ∃ ob, cur h o v = some ob
  | .dat _ es => own = true → es = []
  | .b _ | .i _ _ | .s _ | .nilp | .nils | .nilf | .undef => True
  | _ => False
def ResL (h : Heap) (ren : List Rid) (own : Bool) : List AV → Prop
  | [] => True
  | x :: r => ResOk h ren own x ∧ ResL h ren own r
end
theorem ResL_get {h : Heap} {ren : List Rid} {own : Bool} : ∀ {cs : List AV} {j : Nat} {x : AV}, ResL h ren own cs → cs[j]? = some x → ResOk h ren own x
  | [], j, x, _, hx => by simp at hx
  | c :: r, 0, x, hr, hx => by simp at hx; rw [ResL] at hr; exact hx ▸ hr.1
  | c :: r, j + 1, x, hr, hx => by rw [ResL] at hr; exact ResL_get hr.2 (by simpa using hx)
theorem retL_get {h : Heap} {ren : List Rid} {n : Nat} : ∀ (l : List AV) (j : Nat), (retL h ren n l)[j]? = (l[j]?).map (retA h ren n)
  | [], j => by simp [retL]
  | x :: r, 0 => by simp [retL]
  | x :: r, j + 1 => by simp [retL, retL_get r j]
theorem retL_len {h : Heap} {ren : List Rid} {n : Nat} : ∀ (l : List AV), (retL h ren n l).length = l.length
  | [] => by simp [retL]
  | x :: r => by simp [retL, retL_len r]

/-- The objects at the end: those that were handed over, then those that come back. -/
def srcs (n : Nat) (ren : List Rid) : List Rid := (List.range n).map .p ++ ren
structure FinR (obs : List Ob) (ren : List Rid) (obs' : List Ob) (h : Heap) : Prop where
  nd : ren.Nodup
  np : ∀ o ∈ ren, o.isP = false
  len : obs'.length = obs.length + ren.length
  at_ : ∀ (k : Nat) ob, obs'[k]? = some ob → Pure ob.es ∧ ∃ b q, ((q ↔ b.own) ∨ Flat b.es) ∧
    ((k < obs.length ∧ h (.p k) = some b ∧ b.ver = 0 ∧ ob = { b with own := q }) ∨ (obs.length ≤ k ∧ ∃ o, ren[k - obs.length]? = some o ∧ h o = some b ∧ ob = { b with ver := 1, own := q }))

theorem srcs_lt {n k : Nat} {ren : List Rid} (h : k < n) : (srcs n ren)[k]? = some (.p k) := by
  unfold srcs; rw [List.getElem?_append_left (by simpa using h)]; simp [h]
theorem srcs_ge {n k : Nat} {ren : List Rid} (h : n ≤ k) : (srcs n ren)[k]? = ren[k - n]? := by
  unfold srcs; rw [List.getElem?_append_right (by simpa using h)]; simp

section
variable {w0 w : World} {κ κ0 : Cfg} {h h0 : Heap} {clk : Nat} {P0 : Bs} {obs obs' : List Ob} {ren : List Rid}

theorem FinR.src (F : FinR obs ren obs' h) {k : Nat} {ob : Ob} (hk : obs'[k]? = some ob) :
    ∃ o b, (srcs obs.length ren)[k]? = some o ∧ h o = some b ∧ ob.es = b.es ∧ ob.esz = b.esz ∧ ((ob.own ↔ b.own) ∨ Flat b.es) ∧ ob.ver < 2 := by
  obtain ⟨_, b, q, hq, ⟨h1, h2, h3, rfl⟩ | ⟨h1, o, h2, h3, rfl⟩⟩ := F.at_ k ob hk
  · exact ⟨_, b, srcs_lt h1, h2, rfl, rfl, hq, by simp [h3]⟩
  · exact ⟨o, b, by rw [srcs_ge h1]; exact h2, h3, rfl, rfl, hq, by simp⟩
theorem FinR.inj (F : FinR obs ren obs' h) {k k' : Nat} {o : Rid} (hk : (srcs obs.length ren)[k]? = some o) (hk' : (srcs obs.length ren)[k']? = some o) : k = k' := by
  have no : ∀ {k k' : Nat}, k < obs.length → obs.length ≤ k' → (srcs obs.length ren)[k]? = some o → (srcs obs.length ren)[k']? = some o → False := by
    intro k k' h1 h2 h3 h4
    rw [srcs_lt h1] at h3; rw [srcs_ge h2] at h4
    cases h3
    have := F.np _ (List.mem_of_getElem? h4)
    simp [Rid.isP] at this
  by_cases h1 : k < obs.length <;> by_cases h2 : k' < obs.length
  · rw [srcs_lt h1] at hk; rw [srcs_lt h2] at hk'; cases hk; cases hk'; rfl
  · exact (no h1 (by omega) hk hk').elim
  · exact (no h2 (by omega) hk' hk).elim
  · rw [srcs_ge (by omega)] at hk hk'
    have e1 := idx_nodup F.nd hk; rw [idx_nodup F.nd hk'] at e1
    have := Option.some.inj e1; omega

theorem X_ret (F : FinR obs ren obs' h) (b : Nat) (hb : κ.X h w b) : (κ.down (srcs obs.length ren) κ.A).X (objs obs') w b := by
  refine ⟨hb.1, hb.2.1, fun u ou hu hf => ?_⟩
  obtain ⟨k, rfl, hk⟩ := cur_objs hu
  obtain ⟨o, b', h1, h2, _⟩ := F.src hk
  rw [down_foot h1] at hf
  exact hb.2.2 o b' h2 hf

theorem HR_ret (H : HR w0 P0 w κ h clk) (F : FinR obs ren obs' h) : HR w0 P0 w (κ.down (srcs obs.length ren) κ.A) (objs obs') 2 := by
  refine ⟨fun u ou hu => ?_, fun u u' ou ou' b hu hu' hne hf hf' => ?_, fun u ou b hu hf => ?_, H.os, H.tape, H.output, H.size, H.old, H.free, H.glob⟩
  · obtain ⟨k, rfl, hk⟩ := cur_objs hu
    obtain ⟨o, b, h1, h2, e1, e2, e3, hv⟩ := F.src hk
    have R := H.ob o b h2
    have eι : (κ.down (srcs obs.length ren) κ.A).ι (.p k) = κ.ι o := by simp [Cfg.down, h1]
    refine ⟨hv, by rw [e1, e2]; exact R.esz, fun hne => ⟨⟨o, h1, (R.blk (by rw [← e1]; exact hne)).1⟩, by rw [eι, e1, e2]; exact (R.blk (by rw [← e1]; exact hne)).2⟩, fun e j x hx => ?_, fun e j b hb => ?_, fun e j e' j' b hb hb' => ?_⟩
    · rw [e1] at hx
      obtain ⟨v, h3, h4⟩ := R.cells e j x hx
      have ea : (κ.down (srcs obs.length ren) κ.A).addr (.p k) ou.esz e j = κ.addr o b.esz e j := by simp [Cfg.addr, eι, e2]
      refine ⟨v, by rw [← h3]; exact congrArg _ ea, ?_⟩
      obtain ⟨c, hc1, hc2⟩ : ∃ c ∈ b.es, x ∈ c := by
        unfold cellOf at hx
        cases he : b.es[e]? with
        | none => rw [he] at hx; cases hx
        | some c => rw [he] at hx; exact ⟨c, List.mem_of_getElem? he, List.mem_of_getElem? hx⟩
      have hpx : x.pure = true := by
        have := (F.at_ k ou hk).1
        rw [e1] at this
        exact this c hc1 x hc2
      cases x with
      | dat z es =>
        rcases e3 with e3 | e3
        · exact ⟨fun ho => (h4.1 (e3.1 ho)).frame (fun b hb => ⟨o, h1, hb⟩) (fun _ _ => rfl), fun ho => (h4.2 (fun k => ho (e3.2 k))).frame (X_ret F) (fun _ _ => rfl)⟩
        · have := e3 c hc1 _ hc2; simp [AV.isDat] at this
      | b _ => exact .ro _ _ (pure_ro hpx h4 (X_ret F))
      | i _ _ => exact .ro _ _ (pure_ro hpx h4 (X_ret F))
      | s _ => exact .ro _ _ (pure_ro hpx h4 (X_ret F))
      | nilp => exact .ro _ _ (pure_ro hpx h4 (X_ret F))
      | nils => exact .ro _ _ (pure_ro hpx h4 (X_ret F))
      | nilf => exact .ro _ _ (pure_ro hpx h4 (X_ret F))
      | undef => exact .ro _ _ (pure_ro hpx h4 (X_ret F))
      | _ => simp [AV.pure] at hpx
    · obtain ⟨o', h5, h6⟩ := hb
      rw [h1] at h5; cases h5
      rw [eι]; exact R.sep e j b h6
    · obtain ⟨o1, h5, h6⟩ := hb
      obtain ⟨o2, h7, h8⟩ := hb'
      rw [h1] at h5 h7; cases h5; cases h7
      exact R.disj e j e' j' b h6 h8
  · obtain ⟨k, rfl, hk⟩ := cur_objs hu
    obtain ⟨k', rfl, hk'⟩ := cur_objs hu'
    obtain ⟨o, b1, h1, h2, _⟩ := F.src hk
    obtain ⟨o', b2, h3, h4, _⟩ := F.src hk'
    rw [down_foot h1] at hf; rw [down_foot h3] at hf'
    refine H.apart o o' b1 b2 b h2 h4 (fun he => hne ?_) hf hf'
    subst he
    rw [F.inj h1 h3]
  · obtain ⟨k, rfl, hk⟩ := cur_objs hu
    obtain ⟨o, b1, h1, h2, _⟩ := F.src hk
    rw [down_foot h1] at hf
    exact H.base o b1 b h2 hf

theorem Ext_ret (E : Ext w0 κ0 (objs obs) 1 w κ h clk) (F : FinR obs ren obs' h) : Ext w0 κ0 (objs obs) 1 w (κ.down (srcs obs.length ren) κ.A) (objs obs') 2 := by
  refine ⟨by omega, fun o v ob' hv hc => ?_, fun b hb => ⟨X_ret F b (E.hX b hb).1, (E.hX b hb).2⟩, E.hA⟩
  obtain ⟨h1, h2⟩ := cur_some hc
  obtain ⟨k, rfl, hk⟩ := cur_objs h1
  obtain ⟨_, b, q, _, ⟨q1, q2, q3, rfl⟩ | ⟨_, o, _, _, rfl⟩⟩ := F.at_ k ob' hk
  · have hcur : cur h (.p k) v = some b := by unfold cur; rw [q2]; simp at h2; simp [h2]
    obtain ⟨ob, a1, a2, a3, a4, a5, a6⟩ := E.hcur (.p k) v b hv hcur
    have eι : (κ.down (srcs obs.length ren) κ.A).ι (.p k) = κ.ι (.p k) := by simp [Cfg.down, srcs_lt q1]
    exact ⟨ob, a1, by rw [eι]; exact a2, a3, a4, fun hr => ⟨_, srcs_lt q1, a5 hr⟩, a6⟩
  · simp only at h2; omega

theorem res_ok {own : Bool} (H : HR w0 P0 w κ h clk) (F : FinR obs ren obs' h) :
    ∀ {x : AV} {v : Value}, VR w κ h clk x v → ResOk h ren own x → Rs w (κ.down (srcs obs.length ren) κ.A) obs' obs.length (fun b => (κ.down (srcs obs.length ren) κ.A).X (objs obs') w b ∧ (own = true → w0.heap.size ≤ b ∨ P0 b)) (retA h ren obs.length x) v := by
  intro x v hv
  have frame : ∀ {y : AV} {u : Value}, VR w κ h clk y u → y.pure = true → y.isDat = false → ∀ {X : Bs}, Ro w X y u := by
    intro y u hy h1 h2 X
    cases hy with
    | ro _ _ hr => cases hr <;> first | exact .b _ | exact .i _ _ | exact .s _ | exact .nilp | exact .nils | exact .nilf | exact .undef _ | simp [AV.isDat] at h2 | simp [AV.pure] at h1
    | _ => simp [AV.pure] at h1
  have back : ∀ {o : Rid} {k : Nat} {ob : Ob}, ren.idxOf? o = some k → h o = some ob → (∃ q, obs'[obs.length + k]? = some { ob with ver := 1, own := q }) ∧ (κ.down (srcs obs.length ren) κ.A).ι (.p (obs.length + k)) = κ.ι o ∧ (κ.re o → (κ.down (srcs obs.length ren) κ.A).re (.p (obs.length + k))) := by
    intro o k ob hi ho
    have hk := idx_some hi
    have hlt : obs.length + k < obs'.length := by rw [F.len]; have := (List.getElem?_eq_some_iff.1 hk).1; omega
    have h1 := List.getElem?_eq_getElem hlt
    obtain ⟨_, b, q, _, ⟨q1, _⟩ | ⟨_, o', h2, h3, h4⟩⟩ := F.at_ _ _ h1
    · omega
    · have e1 : obs.length + k - obs.length = k := by omega
      rw [e1, hk] at h2; cases h2
      rw [ho] at h3; cases h3
      have hs : (srcs obs.length ren)[obs.length + k]? = some o := by rw [srcs_ge (by omega), e1]; exact hk
      exact ⟨⟨q, by rw [h1, h4]⟩, by simp [Cfg.down, hs], fun hr => ⟨o, hs, hr⟩⟩
  induction hv with
  | agg cs vs hl hr ih =>
    intro hk
    rw [retA]; rw [ResOk] at hk
    refine .agg _ _ (by rw [retL_len]; exact hl) fun j y hy => ?_
    rw [retL_get] at hy
    cases hc : cs[j]? with
    | none => rw [hc] at hy; cases hy
    | some c => rw [hc] at hy; simp only [Option.map_some, Option.some.injEq] at hy; subst hy; exact ih j c hc (ResL_get hk hc)
  | tup cs vs hl hr ih =>
    intro hk
    rw [retA]; rw [ResOk] at hk
    refine .tup _ _ (by rw [retL_len]; exact hl) fun j y hy => ?_
    rw [retL_get] at hy
    cases hc : cs[j]? with
    | none => rw [hc] at hy; cases hy
    | some c => rw [hc] at hy; simp only [Option.map_some, Option.some.injEq] at hy; subst hy; exact ih j c hc (ResL_get hk hc)
  | fn _ _ _ _ _ => intro hk; simp [ResOk] at hk
  | eptr _ _ _ _ _ _ _ _ => intro hk; simp [ResOk] at hk
  | ptr o ver e c v hs hlt hpp =>
    intro hk
    rw [ResOk] at hk
    obtain ⟨hm, ob, hc⟩ := hk
    cases hi : ren.idxOf? o with
    | none => exact absurd hm (idx_none hi)
    | some k =>
      have e1 : retA h ren obs.length (.ptr o ver e c) = .ptr (.p (obs.length + k)) 1 e c := by simp only [retA, hi, hc]
      rw [e1]
      obtain ⟨⟨q, h1⟩, h2, h3⟩ := back hi (cur_some hc).1
      have e2 : v = .pointer (some ((κ.down (srcs obs.length ren) κ.A).addr (.p (obs.length + k)) ob.esz e c)) := by
        rw [hpp ob hc]; simp [Cfg.addr, h2]
      rw [e2]
      exact .ptr _ _ _ { ob with ver := 1, own := q } (by omega) h1
  | ro x v hr =>
    intro hk
    have hx : retA h ren obs.length x = x := by cases hr <;> simp [retA]
    rw [hx]
    cases hr with
    | b x => exact .ro _ _ (.b x)
    | i k n => exact .ro _ _ (.i k n)
    | s l => exact .ro _ _ (.s l)
    | nilp => exact .ro _ _ .nilp
    | nils => exact .ro _ _ .nils
    | nilf => exact .ro _ _ .nilf
    | undef v => exact .ro _ _ (.undef v)
    | dat0 z a c => exact .ro _ _ (.dat0 z a c)
    | dat es blk off cap esz val hX hl hz hc hr =>
      rw [ResOk] at hk
      cases ho : own with
      | true =>
        have he := hk ho
        subst he
        exact .ro _ _ (.dat0 _ _ _)
      | false =>
        refine .ro _ _ ?_
        have hr2 : Ro w (κ.X h w) (.dat esz es) (.slice (some (Go.AM.at_ blk off)) es.length cap) := .dat es blk off cap esz val hX hl hz hc hr
        exact hr2.frame (fun b hb => ⟨X_ret F b hb, fun q => by cases q⟩) (fun _ _ => rfl)
  | sl o ver off len cap v hsl hlt hpp =>
    intro hk
    rw [ResOk] at hk
    obtain ⟨ob, hc, hk⟩ := hk
    have ho := (cur_some hc).1
    cases hi : ren.idxOf? o with
    | some k =>
      have e1 : retA h ren obs.length (.sl o ver off len cap) = .sl (.p (obs.length + k)) 1 off len cap := by simp only [retA, hi, hc]
      rw [e1]
      obtain ⟨⟨q, h1⟩, h2, h3⟩ := back hi ho
      refine .sl _ _ _ _ _ _ (by omega) h1 ?_
      rcases hpp ob hc with ⟨q1, q2, q3⟩ | ⟨rc, q1, q2, q3, q4, q5, q6, q7⟩
      · exact .inl ⟨q1, q2, q3⟩
      · refine .inr ⟨rc, h3 q1, ?_, q3, q4, q5, q6, by rw [h2]; exact q7⟩
        rw [q2]; simp [Cfg.addr, h2]
    | none =>
      obtain ⟨hisP, hnr, hpure, hle, hown⟩ : o.isP = false ∧ o ∉ ren ∧ Pure ob.es ∧ off + len ≤ ob.es.length ∧ (own = true → ob.own ∨ Flat ob.es) := by
        rcases hk with q | q
        · exact absurd q (idx_none hi)
        · exact q
      have e1 : retA h ren obs.length (.sl o ver off len cap) = .dat ob.esz (sub ob.es off len) := by simp only [retA, hi, hc]
      rw [e1]
      have R := H.ob o ob ho
      have hfoot : ∀ b, κ.foot o b → (κ.down (srcs obs.length ren) κ.A).X (objs obs') w b ∧ (own = true → w0.heap.size ≤ b ∨ P0 b) := fun b hb => by
        obtain ⟨h3, h4⟩ := H.base o ob b ho hb
        refine ⟨⟨h4, H.free b h3, fun u ou hu hf => ?_⟩, fun _ => h3⟩
        obtain ⟨k, rfl, hk⟩ := cur_objs hu
        obtain ⟨o', b1, h1, h2, _⟩ := F.src hk
        rw [down_foot h1] at hf
        have hne : o ≠ o' := by
          intro he; subst he
          by_cases hl : k < obs.length
          · rw [srcs_lt hl] at h1; cases h1; simp [Rid.isP] at hisP
          · rw [srcs_ge (by omega)] at h1; exact hnr (List.mem_of_getElem? h1)
        exact H.apart o o' ob b1 b ho h2 hne hb hf
      rcases hpp ob hc with ⟨rfl, ⟨a, rfl⟩, _⟩ | ⟨rc, hre, rfl, hoff, hlr, _⟩
      · rw [sub_zero (by omega)]; exact .ro _ _ (.dat0 _ a 0)
      · have hslen := sub_length hoff
        have key : ∀ e j x, cellOf (sub ob.es off len) e j = some x → ∃ u, w.cell? (κ.addr o ob.esz (off + e) j) = some u ∧ Ro w (fun b => (κ.down (srcs obs.length ren) κ.A).X (objs obs') w b ∧ (own = true → w0.heap.size ≤ b ∨ P0 b)) x u := by
          intro e j x hxc
          obtain ⟨_, hx2⟩ := sub_cell hoff hxc
          obtain ⟨u, h3, h4⟩ := R.cells _ _ _ hx2
          refine ⟨u, h3, ?_⟩
          obtain ⟨c, hc1, hc2⟩ : ∃ c ∈ ob.es, x ∈ c := by
            unfold cellOf at hx2
            cases he : ob.es[off + e]? with
            | none => rw [he] at hx2; cases hx2
            | some c => rw [he] at hx2; exact ⟨c, List.mem_of_getElem? he, List.mem_of_getElem? hx2⟩
          have hpx := hpure c hc1 x hc2
          cases x with
          | dat z es =>
            by_cases ho' : ob.own
            · exact (h4.1 ho').ro fun b hb => hfoot b (.inr ⟨_, _, hb⟩)
            · refine (h4.2 ho').frame (fun b hb => ⟨X_ret F b hb, fun q => ?_⟩) (fun _ _ => rfl)
              rcases hown q with q1 | q1
              · exact absurd q1 ho'
              · have := q1 c hc1 _ hc2; simp [AV.isDat] at this
          | b _ => exact frame h4 rfl rfl
          | i _ _ => exact frame h4 rfl rfl
          | s _ => exact frame h4 rfl rfl
          | nilp => exact frame h4 rfl rfl
          | nils => exact frame h4 rfl rfl
          | nilf => exact frame h4 rfl rfl
          | undef => exact frame h4 rfl rfl
          | _ => simp [AV.pure] at hpx
        have := Ro.dat (w := w) (X := fun b => (κ.down (srcs obs.length ren) κ.A).X (objs obs') w b ∧ (own = true → w0.heap.size ≤ b ∨ P0 b)) (sub ob.es off len) (κ.ι o).1 ((κ.ι o).2 + off * ob.esz) rc ob.esz (fun e j => (w.cell? (κ.addr o ob.esz (off + e) j)).getD Go.undef)
          (hfoot _ (.inl ⟨hre, rfl⟩)) (by rw [hslen]; exact hlr) (fun e he => R.esz e (sub_mem he))
          (fun e j x hxc => by
            obtain ⟨u, h3, _⟩ := key e j x hxc
            rw [h3]
            show _ = some u
            rw [← h3, Cfg.addr]; congr 2
            rw [Nat.add_mul]; omega)
          (fun e j x hxc => by
            obtain ⟨u, h3, h4⟩ := key e j x hxc
            rw [h3]; exact h4)
        rw [hslen] at this
        refine .ro _ _ ?_
        simpa [Cfg.addr] using this
end

/-- Where a function leaves its results. -/
def resT (fn : Func) : Option (List Nat) := fn.results.toList.mapM fun | .tmp t => some t | _ => none
def resV (g : Slots) : List Nat → AV
  | [t] => g t
  | ts => .tup (ts.map g)

/-- What a walk has to end in. -/
def FinA (ts : List Nat) (obs : List Ob) (r : AV) (own : Bool) (obs' : List Ob) (g : Slots) (h : Heap) : Prop :=
  ∃ ren, FinR obs ren obs' h ∧ retA h ren obs.length (resV g ts) = r ∧ ResOk h ren own (resV g ts)
/-- A result that comes back as one object. -/
theorem FinA_one {ts : List Nat} {obs : List Ob} {r : AV} {own : Bool} {g : Slots} {h : Heap} (o : Rid) (b ob : Ob) (ho : o.isP = false) (hb : h o = some b) (hob : ob = { b with ver := 1, own := ob.own }) (hf : (ob.own ↔ b.own) ∨ Flat b.es) (hp : Pure b.es)
    (hps : ∀ (k : Nat) x, obs[k]? = some x → Pure x.es ∧ h (.p k) = some x ∧ x.ver = 0) (h1 : retA h [o] obs.length (resV g ts) = r) (h2 : ResOk h [o] own (resV g ts)) : FinA ts obs r own (obs ++ [ob]) g h := by
  refine ⟨[o], ⟨by simp, fun u hu => by simp at hu; subst hu; exact ho, by simp, fun k x hk => ?_⟩, h1, h2⟩
  by_cases hl : k < obs.length
  · rw [List.getElem?_append_left hl] at hk
    obtain ⟨a1, a2, a3⟩ := hps k x hk
    exact ⟨a1, x, x.own, .inl Iff.rfl, .inl ⟨hl, a2, a3, rfl⟩⟩
  · rw [List.getElem?_append_right (by omega)] at hk
    have hk0 : k - obs.length = 0 := by
      have := (List.getElem?_eq_some_iff.1 hk).1; simp at this; omega
    rw [hk0] at hk
    simp only [List.getElem?_cons_zero, Option.some.injEq] at hk
    subst hk
    exact ⟨by rw [hob]; exact hp, b, ob.own, hf, .inr ⟨by omega, o, by rw [hk0]; rfl, hb, hob⟩⟩
def FinQ (ts : List Nat) (obs : List Ob) (own : Bool) (Φ : AV → List Ob → Prop) (g : Slots) (h : Heap) : Prop := ∃ r obs', Φ r obs' ∧ FinA ts obs r own obs' g h
def FinP (ts : List Nat) (obs : List Ob) (own : Bool) (Φ : AV → List Ob → Prop) : Ex → Post
  | .normal | .ret => fun g h _ => FinQ ts obs own Φ g h
  | .exit _ => fun _ _ _ => False
def FinB (ts : List Nat) (obs : List Ob) (r : AV) (own : Bool) (obs' : List Ob) (g : Slots) (h : Heap) : Prop := FinQ ts obs own (fun r' o' => r' = r ∧ o' = obs') g h
theorem FinA.b {ts : List Nat} {obs : List Ob} {r : AV} {own : Bool} {obs' : List Ob} {g : Slots} {h : Heap} (k : FinA ts obs r own obs' g h) : FinB ts obs r own obs' g h := ⟨r, obs', ⟨rfl, rfl⟩, k⟩
theorem FinA.q {ts : List Nat} {obs : List Ob} {r : AV} {own : Bool} {obs' : List Ob} {g : Slots} {h : Heap} {Φ : AV → List Ob → Prop} (k : FinA ts obs r own obs' g h) (hΦ : Φ r obs') : FinQ ts obs own Φ g h := ⟨r, obs', hΦ, k⟩
theorem FinA_obs {ts : List Nat} {obs : List Ob} {r : AV} {own : Bool} {obs' : List Ob} {g : Slots} {h : Heap} (h1 : retA h [] obs.length (resV g ts) = r) (h2 : ResOk h [] own (resV g ts)) (h3 : obs'.length = obs.length)
    (h4 : ∀ (k : Nat) ob, obs'[k]? = some ob → Pure ob.es ∧ ∃ q, (Flat ob.es ∨ (q ↔ ob.own)) ∧ h (.p k) = some { ob with own := q } ∧ ob.ver = 0) : FinA ts obs r own obs' g h :=
  ⟨[], ⟨.nil, (fun o ho => by cases ho), (by simpa using h3), fun k ob hk => by
    obtain ⟨a1, q, a2, a3, a4⟩ := h4 k ob hk
    exact ⟨a1, { ob with own := q }, ob.own, a2.symm.imp (fun e => e.symm) id, .inl ⟨by rw [← h3]; exact (List.getElem?_eq_some_iff.1 hk).1, a3, a4, rfl⟩⟩⟩, h1, h2⟩
theorem FinA_val {ts : List Nat} {r : AV} {own : Bool} {g : Slots} {h : Heap} (h1 : retA h [] 0 (resV g ts) = r) (h2 : ResOk h [] own (resV g ts)) : FinA ts [] r own [] g h :=
  FinA_obs h1 h2 rfl (fun k ob hk => by simp at hk)

theorem Fin_obs {ts : List Nat} {obs : List Ob} {r : AV} {own : Bool} {obs' : List Ob} {g : Slots} {h : Heap} (h1 : retA h [] obs.length (resV g ts) = r) (h2 : ResOk h [] own (resV g ts)) (h3 : obs'.length = obs.length)
    (h4 : ∀ (k : Nat) ob, obs'[k]? = some ob → Pure ob.es ∧ ∃ q, (Flat ob.es ∨ (q ↔ ob.own)) ∧ h (.p k) = some { ob with own := q } ∧ ob.ver = 0) : FinB ts obs r own obs' g h := (FinA_obs h1 h2 h3 h4).b
theorem Fin_val {ts : List Nat} {r : AV} {own : Bool} {g : Slots} {h : Heap} (h1 : retA h [] 0 (resV g ts) = r) (h2 : ResOk h [] own (resV g ts)) : FinB ts [] r own [] g h := (FinA_val h1 h2).b
theorem Fin_one {ts : List Nat} {obs : List Ob} {r : AV} {own : Bool} {g : Slots} {h : Heap} (o : Rid) (b ob : Ob) (ho : o.isP = false) (hb : h o = some b) (hob : ob = { b with ver := 1, own := ob.own }) (hf : (ob.own ↔ b.own) ∨ Flat b.es) (hp : Pure b.es)
    (hps : ∀ (k : Nat) x, obs[k]? = some x → Pure x.es ∧ h (.p k) = some x ∧ x.ver = 0) (h1 : retA h [o] obs.length (resV g ts) = r) (h2 : ResOk h [o] own (resV g ts)) : FinB ts obs r own (obs ++ [ob]) g h := (FinA_one o b ob ho hb hob hf hp hps h1 h2).b
def resVal (tm : Array Value) : List Nat → Value
  | [t] => tm.getD t Go.undef
  | ts => .tuple (ts.map (fun t => tm.getD t Go.undef)).toArray
theorem results_run {fn : Func} {ts : List Nat} (hr : resT fn = some ts) (tm : Array Value) (w : World) : (results fn tm).run P w = .ok (resVal tm ts) w := by
  have key : ∀ (l : List ResultVar) (ts : List Nat), (l.mapM fun | .tmp t => some t | _ => none) = some ts → l = ts.map .tmp := by
    intro l
    induction l with
    | nil => intro ts h; simp at h; subst h; rfl
    | cons x r ih =>
      intro ts h
      rw [List.mapM_cons] at h
      cases x with
      | tmp t =>
        simp only [Option.bind_eq_bind, Option.bind_some] at h
        cases hr : (r.mapM fun | .tmp t => some t | _ => none : Option (List Nat)) with
        | none => rw [hr] at h; cases h
        | some q => rw [hr] at h; simp at h; subst h; rw [ih q hr]; rfl
      | cell _ _ => simp at h
  have e1 : fn.results = (ts.map ResultVar.tmp).toArray := by
    have := key _ _ hr
    rw [← this]
  have run : ∀ (ts : List Nat), ((ts.map ResultVar.tmp).mapM (fun r : ResultVar => (match r with
    | .tmp t => pure (tm.getD t Go.undef)
    | .cell a t => do loadVar t (← asAddr (tm.getD a Go.undef)) : Sem Value))).run P w = .ok (ts.map fun t => tm.getD t Go.undef) w := by
    intro ts
    induction ts with
    | nil => rfl
    | cons t r ih => simp only [List.map_cons, List.mapM_cons, Sem.run_bind, Sem.run_pure, Result.andThen, ih]
  unfold results
  rw [e1, List.mapM_toArray]
  simp only [Sem.run_bind, bind_map_left]
  have h2 := run ts
  erw [h2]
  simp only [Result.andThen, Sem.run_pure]
  match ts with
  | [] => rfl
  | [t] => rfl
  | t :: u :: r => simp [resVal]

theorem resV_ok {w : World} {κ : Cfg} {h : Heap} {clk : Nat} {g : Slots} {tm : Array Value} (hg : ∀ t, VR w κ h clk (g t) (tm.getD t Go.undef)) : ∀ ts, VR w κ h clk (resV g ts) (resVal tm ts)
  | [] => .tup _ _ (by simp) (fun j x hx => by simp at hx)
  | [t] => hg t
  | t :: u :: r => .tup _ _ (by simp) (fun j x hx => by
    simp only [List.getElem?_map, Option.map_eq_some_iff] at hx
    obtain ⟨s, hs, rfl⟩ := hx
    have : (((t :: u :: r).map (fun t => tm.getD t Go.undef)).toArray).getD j Go.undef = tm.getD s Go.undef := by
      rw [Array.getD_eq_getD_getElem?]; simp only [List.getElem?_toArray, List.getElem?_map, hs, Option.map_some, Option.getD_some]
    rw [this]; exact hg s)

/-- The slots at the beginning. -/
def slots0 (args : List AV) : Slots := fun t => (args[t]?).getD .undef

theorem callFunc_run {fid : Nat} {fn : Func} (hf : P.funcs[fid]? = some fn) (hn : (fn.name == "runtime.NumGoroutine") = false) (hb : fn.body.isSome = true) (vs : Array Value) (w : World) : (callFunc fid vs).run P w = .ok (.enter fid vs) w := by
  have hb2 : fn.body.isNone = false := by cases h : fn.body <;> simp_all
  have hp : (program : Sem Program).run P w = .ok P w := rfl
  unfold callFunc
  simp only [Sem.run_bind, hp, Result.andThen, hf, hn, hb2, Bool.false_eq_true, if_false, Sem.run_pure]

/-- From a walk to a contract. -/
theorem holds_of {C : Con} (hC : ConOk P C) (hmix : P.follows .mixedOrders = true) {fid : Nat} {fn : Func} {c : Code} {k : K} {ts : List Nat} {args : List AV} {obs : List Ob} {own : Bool} {Φ : AV → List Ob → Prop} (hint : Nat → Nat)
    (hf : P.funcs[fid]? = some fn) (hn : (fn.name == "runtime.NumGoroutine") = false) (hb : fn.body = some c) (hr : resT fn = some ts) (hcomp : comp P fn.ntmps hint c = k.strip) (hdr : drawsOk k.strip = true) (hl : args.length ≤ fn.ntmps)
    (hk : RunK C k (.done (FinP ts obs own Φ)) (slots0 args) (objs obs) 1) : Holds P fid args obs own Φ := by
  refine ⟨callFunc_run hf hn (by rw [hb]; rfl), fun w κ vs P0 H hP hlen hv => calls_of_wp hf hb ?_⟩
  have E0 : Ext w κ (objs obs) 1 w κ (objs obs) 1 := Ext.same rfl
  let I : Ini := ⟨w, P0, w, κ, objs obs, 1, fn.ntmps, []⟩
  have R : Rel I (slots0 args) (objs obs) 1 { tmps := vs ++ Array.replicate (fn.ntmps - vs.size) Go.undef, defers := [] } w := by
    refine ⟨rfl, by simp [I]; omega, κ, H, E0, fun t => ?_⟩
    unfold slots0
    by_cases ht : t < args.length
    · rw [List.getElem?_eq_getElem ht, Option.getD_some]
      have := hv t _ (List.getElem?_eq_getElem ht)
      rw [Array.getD_eq_getD_getElem?] at this ⊢
      rw [Array.getElem?_append_left (by omega)]; exact this
    · rw [List.getElem?_eq_none (by omega), Option.getD_none]; exact .undef _
  have fin : Lands C I (FinP ts obs own Φ .normal) (fun a w' => a.defers = [] ∧ ∃ v, (results fn a.tmps).run P w' = .ok v w' ∧
      ∃ r obs' κ' clk', Φ r obs' ∧ HR w P0 w' κ' (objs obs') clk' ∧ Ext w κ (objs obs) 1 w' κ' (objs obs') clk' ∧ (∀ (k : Nat) ob, obs'[k]? = some ob → k < obs.length → ob.ver = 0) ∧ Rs w' κ' obs' obs.length (fun b => κ'.X (objs obs') w' b ∧ (own = true → w.heap.size ≤ b ∨ P0 b)) r v) := by
    rintro g h clk a w' ⟨r, obs', hΦ, ren, F, h1, h2⟩ R
    obtain ⟨κ', H', E', hg⟩ := R.st
    refine ⟨R.df, _, results_run hr _ _, r, obs', _, 2, hΦ, HR_ret H' F, Ext_ret E' F, fun k ob hk hl => ?_, ?_⟩
    · obtain ⟨_, b, q, _, ⟨_, _, h5, rfl⟩ | ⟨h5, _⟩⟩ := F.at_ k ob hk
      · exact h5
      · omega
    · rw [← h1]
      exact res_ok H' F (resV_ok hg ts) h2
  refine (wpIn_wide (n := 0)).1 (kwp_ok (I := I) (rd := none) hC hmix hint c k hcomp (by rw [show I.n = fn.ntmps from rfl, hcomp]; exact hdr) (Q := FinP ts obs own Φ) ⟨?_, fun id => fun _ _ _ _ _ hq _ => hq.elim, ?_⟩ R hk)
  · intro g h clk a w' hq R
    obtain ⟨h1, v, h2, h3⟩ := fin g h clk a w' hq R
    exact ⟨h1, v, h2, h3⟩
  · intro g h clk a w' hq R
    obtain ⟨h1, v, h2, h3⟩ := fin g h clk a w' hq R
    exact ⟨h1, v, h2, h3⟩

/-- What a walk has to end in, where it went on in the caller's heap. -/
def FinX (ts : List Nat) (Q : AV → Heap → Nat → Prop) : Ex → Post
  | .normal | .ret => fun g h c => Q (resV g ts) h c
  | .exit _ => fun _ _ _ => False
/-- From a walk in the caller's heap to a contract. -/
theorem holdsx_of {C : Con} (hC : ConOk P C) (hmix : P.follows .mixedOrders = true) {fid : Nat} {fn : Func} {c : Code} {k : K} {ts : List Nat} {args : List AV} {h0 : Heap} {clk0 : Nat} {Q : AV → Heap → Nat → Prop} (hint : Nat → Nat)
    (hf : P.funcs[fid]? = some fn) (hn : (fn.name == "runtime.NumGoroutine") = false) (hb : fn.body = some c) (hr : resT fn = some ts) (hcomp : comp P fn.ntmps hint c = k.strip) (hdr : drawsOk k.strip = true) (hl : args.length ≤ fn.ntmps)
    (hk : RunK C k (.done (FinX ts Q)) (slots0 args) h0 clk0) : HoldsX P fid args h0 clk0 Q := by
  intro w0 P0 w κ vs H hlen hv
  refine .inl ⟨callFunc_run hf hn (by rw [hb]; rfl) _ _, calls_of_wp hf hb ?_⟩
  have E0 : Ext w κ h0 clk0 w κ h0 clk0 := Ext.same rfl
  let I : Ini := ⟨w0, P0, w, κ, h0, clk0, fn.ntmps, []⟩
  have R : Rel I (slots0 args) h0 clk0 { tmps := vs ++ Array.replicate (fn.ntmps - vs.size) Go.undef, defers := [] } w := by
    refine ⟨rfl, by simp [I]; omega, κ, H, E0, fun t => ?_⟩
    unfold slots0
    by_cases ht : t < args.length
    · rw [List.getElem?_eq_getElem ht, Option.getD_some]
      have := hv t _ (List.getElem?_eq_getElem ht)
      rw [Array.getD_eq_getD_getElem?] at this ⊢
      rw [Array.getElem?_append_left (by omega)]; exact this
    · rw [List.getElem?_eq_none (by omega), Option.getD_none]; exact .undef _
  have fin : Lands C I (FinX ts Q .normal) (fun a w' => a.defers = [] ∧ ∃ v, (results fn a.tmps).run P w' = .ok v w' ∧
      ∃ r h' κ' clk', Q r h' clk' ∧ HR w0 P0 w' κ' h' clk' ∧ Ext w κ h0 clk0 w' κ' h' clk' ∧ VR w' κ' h' clk' r v) := by
    rintro g h clk a w' hq R
    obtain ⟨κ', H', E', hg⟩ := R.st
    exact ⟨R.df, _, results_run hr _ _, _, h, κ', clk, hq, H', E', resV_ok hg ts⟩
  refine (wpIn_wide (n := 0)).1 (kwp_ok (I := I) (rd := none) hC hmix hint c k hcomp (by rw [show I.n = fn.ntmps from rfl, hcomp]; exact hdr) (Q := FinX ts Q) ⟨?_, fun id => fun _ _ _ _ _ hq _ => hq.elim, ?_⟩ R hk)
  · intro g h clk a w' hq R
    obtain ⟨h1, v, h2, h3⟩ := fin g h clk a w' hq R
    exact ⟨h1, v, h2, h3⟩
  · intro g h clk a w' hq R
    obtain ⟨h1, v, h2, h3⟩ := fin g h clk a w' hq R
    exact ⟨h1, v, h2, h3⟩
end Go.AM
end
/-! Fun2 -/
section
namespace Go.AM
variable {P : Program}
end Go.AM
end
/-! Fun3 -/
section
namespace Go.AM
variable {P : Program}
/-- Where a result lies: in a temporary, or in the cell that a temporary points to. -/
abbrev RS := Nat × Option (Bool × Nat)
def resC (P : Program) (fn : Func) : Option (List RS) := fn.results.toList.mapM fun
  | .tmp t => some (t, none)
  | .cell a t => if (P.info? t).isSome && (P.underlying t).isSome && (isAggT P t || P.cellsOf t == 1) then some (a, some (isAggT P t, P.cellsOf t)) else none
def resE (h : Heap) (g : Slots) : RS → PV
  | (t, none) => yes (g t)
  | (a, some (agg, n)) => loadF h agg n (g a)
def resM (h : Heap) (g : Slots) : List RS → Option (Prop × List AV)
  | [] => some (True, [])
  | x :: r => (resE h g x).bind fun (p, v) => (resM h g r).bind fun (q, l) => some (p ∧ q, v :: l)
def resOne : List AV → AV
  | [v] => v
  | l => .tup l
def valOne : List Value → Value
  | [v] => v
  | l => .tuple l.toArray
/-- What a walk has to end in. -/
def FinC (cs : List RS) (obs : List Ob) (own : Bool) (Φ : AV → List Ob → Prop) : Ex → Post
  | .normal | .ret => fun g h _ => ∃ p l, resM h g cs = some (p, l) ∧ p ∧ ∃ r obs', Φ r obs' ∧ ∃ ren, FinR obs ren obs' h ∧ retA h ren obs.length (resOne l) = r ∧ ResOk h ren own (resOne l)
  | .exit _ => fun _ _ _ => False
theorem finC_val {cs : List RS} {own : Bool} {r : AV} {g : Slots} {h : Heap} {p : Prop} {l : List AV} (h0 : resM h g cs = some (p, l)) (hp : p) (h1 : retA h [] 0 (resOne l) = r) (h2 : ResOk h [] own (resOne l)) : ∃ p l, resM h g cs = some (p, l) ∧ p ∧ ∃ r' obs', (r' = r ∧ obs' = []) ∧ ∃ ren, FinR [] ren obs' h ∧ retA h ren 0 (resOne l) = r' ∧ ResOk h ren own (resOne l) :=
  ⟨p, l, h0, hp, r, [], ⟨rfl, rfl⟩, [], ⟨.nil, (by simp), rfl, (fun k ob hk => by simp at hk)⟩, h1, h2⟩
section
variable {w : World} {κ : Cfg} {h : Heap} {clk : Nat}
theorem cellR_ok {t : TypeId} {agg : Bool} {n : Nat} {a : AV} {va : Value} {p : Prop} {v : AV} (hO : ∀ o ob, h o = some ob → ObR w κ h clk o ob)
    (hi : (P.info? t).isSome = true) (hu : (P.underlying t).isSome = true) (hz : isAggT P t = agg) (hn : P.cellsOf t = n) (h1 : agg = false → n = 1)
    (ha : VR w κ h clk a va) (hk : loadF h agg n a = some (p, v)) (hp : p) : ∃ u, (do loadVar t (← asAddr va) : Sem Value).run P w = .ok u w ∧ VR w κ h clk v u := by
  obtain ⟨u, hr, hv⟩ := load_ok (P := P) hO hi hu hz hn h1 ha hk hp
  refine ⟨u, ?_, hv⟩
  have : ∃ ad, va = .pointer (some ad) := by
    unfold loadF at hk
    split at hk
    · rename_i o ver e c
      cases hc : cur h o ver with
      | none => rw [hc] at hk; cases hk
      | some ob => exact ⟨_, ha.of_ptr hc⟩
    · obtain ⟨blk, off, val, e2, _⟩ := ha.of_eptr
      exact ⟨_, e2⟩
    · cases hk
  obtain ⟨ad, rfl⟩ := this
  simp only [Instr.loadAt, Instr.sureAddr, Sem.run_bind, Sem.run_pure, Result.andThen] at hr
  simp only [asAddr, Sem.run_bind, Sem.run_pure, Result.andThen]
  exact hr
theorem resM_run {fn : Func} {cs : List RS} (hr : resC P fn = some cs) {g : Slots} {tm : Array Value} (hO : ∀ o ob, h o = some ob → ObR w κ h clk o ob) (hg : ∀ t, VR w κ h clk (g t) (tm.getD t Go.undef)) {p : Prop} {l : List AV} (hm : resM h g cs = some (p, l)) (hp : p) :
    ∃ us : List Value, (results fn tm).run P w = .ok (valOne us) w ∧ l.length = us.length ∧ ∀ (j : Nat) x, l[j]? = some x → VR w κ h clk x (us[j]?.getD Go.undef) := by
  have key : ∀ (rs : List ResultVar) (cs : List RS) (p : Prop) (l : List AV), (rs.mapM fun
      | .tmp t => some (t, none)
      | .cell a t => if (P.info? t).isSome && (P.underlying t).isSome && (isAggT P t || P.cellsOf t == 1) then some (a, some (isAggT P t, P.cellsOf t)) else none) = some cs → resM h g cs = some (p, l) → p →
      ∃ us : List Value, (rs.mapM (fun r : ResultVar => (match r with
        | .tmp t => pure (tm.getD t Go.undef)
        | .cell a t => do loadVar t (← asAddr (tm.getD a Go.undef)) : Sem Value))).run P w = .ok us w ∧ l.length = us.length ∧ ∀ (j : Nat) x, l[j]? = some x → VR w κ h clk x (us[j]?.getD Go.undef) := by
    intro rs
    induction rs with
    | nil =>
      intro cs p l h1 h2 h3
      simp at h1; subst h1
      simp only [resM, Option.some.injEq, Prod.mk.injEq] at h2
      obtain ⟨rfl, rfl⟩ := h2
      exact ⟨[], rfl, rfl, fun j x hx => by simp at hx⟩
    | cons r rs ih =>
      intro cs p l h1 h2 h3
      rw [List.mapM_cons] at h1
      simp only [Option.bind_eq_bind, Option.bind_eq_some_iff] at h1
      obtain ⟨c, hc, cs', hcs, hcc⟩ := h1
      simp only [Option.pure_def, Option.some.injEq] at hcc
      subst hcc
      simp only [resM, Option.bind_eq_some_iff, Prod.exists] at h2
      obtain ⟨p1, v, hv, q, l', hl', hpl⟩ := h2
      simp only [Option.some.injEq, Prod.mk.injEq] at hpl
      obtain ⟨rfl, rfl⟩ := hpl
      obtain ⟨us, hu1, hu2, hu3⟩ := ih cs' q l' hcs hl' h3.2
      have head : ∃ u, (match r with
        | .tmp t => pure (tm.getD t Go.undef)
        | .cell a t => do loadVar t (← asAddr (tm.getD a Go.undef)) : Sem Value).run P w = .ok u w ∧ VR w κ h clk v u := by
        cases r with
        | tmp t =>
          simp only [Option.some.injEq] at hc; subst hc
          simp only [resE, yes, Option.some.injEq, Prod.mk.injEq] at hv
          obtain ⟨_, rfl⟩ := hv
          exact ⟨_, rfl, hg t⟩
        | cell a t =>
          simp only at hc
          split at hc
          · rename_i hcond
            simp only [Bool.and_eq_true, Bool.or_eq_true, beq_iff_eq] at hcond
            simp only [Option.some.injEq] at hc; subst hc
            exact cellR_ok hO hcond.1.1 hcond.1.2 rfl rfl (fun hh => by rcases hcond.2 with h5 | h5 <;> simp_all) (hg a) hv h3.1
          · cases hc
      obtain ⟨u, hu4, hu5⟩ := head
      refine ⟨u :: us, ?_, by simp [hu2], fun j x hx => ?_⟩
      · rw [List.mapM_cons]
        simp only [Sem.run_bind]
        erw [hu4]
        simp only [Result.andThen]
        erw [hu1]
        rfl
      · cases j with
        | zero => simp at hx; subst hx; exact hu5
        | succ j => simpa using hu3 j x (by simpa using hx)
  obtain ⟨us, h1, h2, h3⟩ := key fn.results.toList cs p l hr hm hp
  refine ⟨us, ?_, h2, h3⟩
  have e1 : fn.results = fn.results.toList.toArray := by simp
  unfold results
  rw [e1, List.mapM_toArray]
  simp only [Sem.run_bind, bind_map_left]
  erw [h1]
  simp only [Result.andThen, Sem.run_pure]
  match us with
  | [] => rfl
  | [u] => rfl
  | u :: u2 :: r => simp [valOne]
theorem resOne_ok {l : List AV} {us : List Value} (hl : l.length = us.length) (hr : ∀ (j : Nat) x, l[j]? = some x → VR w κ h clk x (us[j]?.getD Go.undef)) : VR w κ h clk (resOne l) (valOne us) := by
  match l, us, hl, hr with
  | [], [], _, _ => exact .tup _ _ rfl (fun j x hx => by simp at hx)
  | [x], [u], _, hr => exact hr 0 x rfl
  | x :: y :: r, u :: u2 :: s, hl, hr =>
    refine .tup _ _ (by simpa using hl) (fun j z hz => ?_)
    have := hr j z hz
    rw [Array.getD_eq_getD_getElem?]
    simpa using this
end
/-- From a walk to a contract, where results lie in cells. -/
theorem holdsc_of {C : Con} (hC : ConOk P C) (hmix : P.follows .mixedOrders = true) {fid : Nat} {fn : Func} {c : Code} {k : K} {cs : List RS} {args : List AV} {obs : List Ob} {own : Bool} {Φ : AV → List Ob → Prop} (hint : Nat → Nat)
    (hf : P.funcs[fid]? = some fn) (hn : (fn.name == "runtime.NumGoroutine") = false) (hb : fn.body = some c) (hr : resC P fn = some cs) (hcomp : comp P fn.ntmps hint c = k.strip) (hdr : drawsOk k.strip = true) (hl : args.length ≤ fn.ntmps)
    (hk : RunK C k (.done (FinC cs obs own Φ)) (slots0 args) (objs obs) 1) : Holds P fid args obs own Φ := by
  refine ⟨callFunc_run hf hn (by rw [hb]; rfl), fun w κ vs P0 H hP hlen hv => calls_of_wp hf hb ?_⟩
  have E0 : Ext w κ (objs obs) 1 w κ (objs obs) 1 := Ext.same rfl
  let I : Ini := ⟨w, P0, w, κ, objs obs, 1, fn.ntmps, []⟩
  have R : Rel I (slots0 args) (objs obs) 1 { tmps := vs ++ Array.replicate (fn.ntmps - vs.size) Go.undef, defers := [] } w := by
    refine ⟨rfl, by simp [I]; omega, κ, H, E0, fun t => ?_⟩
    unfold slots0
    by_cases ht : t < args.length
    · rw [List.getElem?_eq_getElem ht, Option.getD_some]
      have := hv t _ (List.getElem?_eq_getElem ht)
      rw [Array.getD_eq_getD_getElem?] at this ⊢
      rw [Array.getElem?_append_left (by omega)]; exact this
    · rw [List.getElem?_eq_none (by omega), Option.getD_none]; exact .undef _
  have fin : Lands C I (FinC cs obs own Φ .normal) (fun a w' => a.defers = [] ∧ ∃ v, (results fn a.tmps).run P w' = .ok v w' ∧
      ∃ r obs' κ' clk', Φ r obs' ∧ HR w P0 w' κ' (objs obs') clk' ∧ Ext w κ (objs obs) 1 w' κ' (objs obs') clk' ∧ (∀ (k : Nat) ob, obs'[k]? = some ob → k < obs.length → ob.ver = 0) ∧ Rs w' κ' obs' obs.length (fun b => κ'.X (objs obs') w' b ∧ (own = true → w.heap.size ≤ b ∨ P0 b)) r v) := by
    rintro g h clk a w' ⟨p, l, hm, hp, r, obs', hΦ, ren, F, h1, h2⟩ R
    obtain ⟨κ', H', E', hg⟩ := R.st
    obtain ⟨us, e1, e2, e3⟩ := resM_run hr H'.ob hg hm hp
    refine ⟨R.df, _, e1, r, obs', _, 2, hΦ, HR_ret H' F, Ext_ret E' F, fun k ob hk hl => ?_, ?_⟩
    · obtain ⟨_, b, q, _, ⟨_, _, h5, rfl⟩ | ⟨h5, _⟩⟩ := F.at_ k ob hk
      · exact h5
      · omega
    · rw [← h1]
      exact res_ok H' F (resOne_ok e2 e3) h2
  refine (wpIn_wide (n := 0)).1 (kwp_ok (I := I) (rd := none) hC hmix hint c k hcomp (by rw [show I.n = fn.ntmps from rfl, hcomp]; exact hdr) (Q := FinC cs obs own Φ) ⟨?_, fun id => fun _ _ _ _ _ hq _ => hq.elim, ?_⟩ R hk)
  · intro g h clk a w' hq R
    obtain ⟨h1, v, h2, h3⟩ := fin g h clk a w' hq R
    exact ⟨h1, v, h2, h3⟩
  · intro g h clk a w' hq R
    obtain ⟨h1, v, h2, h3⟩ := fin g h clk a w' hq R
    exact ⟨h1, v, h2, h3⟩
end Go.AM
end
/-! Fun4 -/
section
namespace Go.AM
variable {P : Program}
/-- What may be told of a result instead: of nil, that it is empty. -/
inductive Le : AV → AV → Prop
  | refl (x : AV) : Le x x
  | nils (z : Nat) : Le .nils (.dat z [])
  | agg (cs ds : List AV) (hl : cs.length = ds.length) (h : ∀ (j : Nat) x y, cs[j]? = some x → ds[j]? = some y → Le x y) : Le (.agg cs) (.agg ds)
  | tup (cs ds : List AV) (hl : cs.length = ds.length) (h : ∀ (j : Nat) x y, cs[j]? = some x → ds[j]? = some y → Le x y) : Le (.tup cs) (.tup ds)
theorem Rs.le {w : World} {κ : Cfg} {obs : List Ob} {n : Nat} {X : Bs} {x y : AV} (hle : Le x y) : ∀ {v : Value}, Rs w κ obs n X x v → Rs w κ obs n X y v := by
  induction hle with
  | refl x => exact fun h => h
  | nils z =>
    intro v h
    cases h with
    | ro _ _ hr => cases hr; exact .ro _ _ (.dat0 _ _ _)
  | agg cs ds hl h ih =>
    intro v hv
    cases hv with
    | ro _ _ hr => cases hr
    | agg _ vs hl2 hr =>
      refine .agg _ _ (by rw [← hl]; exact hl2) fun j y hy => ?_
      have hj : j < cs.length := by rw [hl]; exact (List.getElem?_eq_some_iff.1 hy).1
      exact ih j _ y (List.getElem?_eq_getElem hj) hy (hr j _ (List.getElem?_eq_getElem hj))
  | tup cs ds hl h ih =>
    intro v hv
    cases hv with
    | ro _ _ hr => cases hr
    | tup _ vs hl2 hr =>
      refine .tup _ _ (by rw [← hl]; exact hl2) fun j y hy => ?_
      have hj : j < cs.length := by rw [hl]; exact (List.getElem?_eq_some_iff.1 hy).1
      exact ih j _ y (List.getElem?_eq_getElem hj) hy (hr j _ (List.getElem?_eq_getElem hj))
theorem Holds.weak {fid : Nat} {args : List AV} {obs : List Ob} {own : Bool} {Φ Φ2 : AV → List Ob → Prop} (h : Holds P fid args obs own Φ) (hw : ∀ r o', Φ r o' → ∃ r2, Le r r2 ∧ Φ2 r2 o') : Holds P fid args obs own Φ2 := by
  refine ⟨h.1, fun w κ vs P0 H hP hl hv => (h.2 w κ vs P0 H hP hl hv).mono fun e w' he => ?_⟩
  cases e with
  | returned v =>
    obtain ⟨r, obs', κ', clk', h1, h2, h3, h4, h5⟩ := he
    obtain ⟨r2, hle, h6⟩ := hw r obs' h1
    exact ⟨r2, obs', κ', clk', h6, h2, h3, h4, h5.le hle⟩
  | panicked _ => exact he
  | outgrown => exact he
end Go.AM
end
