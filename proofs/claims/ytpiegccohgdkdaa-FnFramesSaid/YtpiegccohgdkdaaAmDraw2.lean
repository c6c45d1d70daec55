/- Operations change places: the exchange. No condition. -/
import Derived.Test.YtpiegccohgdkdaaAmDraw1
import Derived.Test.YtpiegccohgdkdaaAmCall1
set_option linter.all false
set_option linter.unusedSimpArgs false
set_option linter.unusedVariables false
set_option linter.deprecated false
namespace Go.AM
variable {P : Program} {C : Con}

theorem Sd_congr {o : KOp} {g g' : Slots} {h : Heap} {c : Nat} {v : AV} {h' : Heap} {c' : Nat} (hx : ∀ t ∈ o.reads, g t = g' t) (hw : Sd C o g h c v h' c') : Sd C o g' h c v h' c' := by
  unfold Sd KOp.reads at *
  cases hg : o.g with
  | none => rw [hg] at hw; exact Wd_congr (fun t ht => hx t (by simp [ht])) hw
  | some tw =>
    obtain ⟨t, w⟩ := tw
    rw [hg] at hw hx
    obtain ⟨x, h1, h2, h3⟩ := hw
    exact ⟨x, by rw [← h1]; exact (hx t (by simp)).symm, fun e => Wd_congr (fun t ht => hx t (by simp [ht])) (h2 e), h3⟩

theorem Wd_free {d : Option Nat} {o : KO} (ho : o.cls = 0) {g : Slots} {h : Heap} {c : Nat} {v : AV} {h' : Heap} {c' : Nat} (hw : Wd C d o g h c v h' c') : h' = h ∧ c' = c ∧ ∀ h2 c2, Wd C d o g h2 c2 v h2 c2 := by
  cases o <;> first
    | (simp [KO.cls] at ho; done)
    | (obtain ⟨p, h1, h2, rfl, rfl⟩ := hw; exact ⟨rfl, rfl, fun h2' c2 => ⟨p, h1, h2, rfl, rfl⟩⟩)
    | (obtain ⟨h1, rfl, rfl⟩ := hw; exact ⟨rfl, rfl, fun h2 c2 => ⟨h1, rfl, rfl⟩⟩)
theorem Wd_read {d : Option Nat} {o : KO} (ho : o.cls = 1) {g : Slots} {h : Heap} {c : Nat} {v : AV} {h' : Heap} {c' : Nat} (hw : Wd C d o g h c v h' c') : h' = h ∧ c' = c := by
  cases o <;> first
    | (simp [KO.cls] at ho; done)
    | (obtain ⟨p, h1, h2, rfl, rfl⟩ := hw; exact ⟨rfl, rfl⟩)
theorem Sd_free {o : KOp} (ho : o.o.cls = 0) {g : Slots} {h : Heap} {c : Nat} {v : AV} {h' : Heap} {c' : Nat} (hw : Sd C o g h c v h' c') : h' = h ∧ c' = c ∧ ∀ h2 c2, Sd C o g h2 c2 v h2 c2 := by
  unfold Sd at *
  cases hg : o.g with
  | none => rw [hg] at hw; exact Wd_free ho hw
  | some tw =>
    obtain ⟨t, w⟩ := tw
    rw [hg] at hw
    obtain ⟨x, h1, h2, h3⟩ := hw
    by_cases e : x = w
    · obtain ⟨q1, q2, q3⟩ := Wd_free ho (h2 e)
      exact ⟨q1, q2, fun h4 c4 => ⟨x, h1, fun _ => q3 h4 c4, fun e2 => by subst e; cases x <;> simp at e2⟩⟩
    · have e2 : x = !w := by cases x <;> cases w <;> simp_all
      obtain ⟨rfl, rfl, rfl⟩ := h3 e2
      exact ⟨rfl, rfl, fun h4 c4 => ⟨x, h1, fun e3 => absurd e3 e, fun _ => ⟨rfl, rfl, rfl⟩⟩⟩
theorem Sd_read {o : KOp} (ho : o.o.cls = 1) {g : Slots} {h : Heap} {c : Nat} {v : AV} {h' : Heap} {c' : Nat} (hw : Sd C o g h c v h' c') : h' = h ∧ c' = c := by
  unfold Sd at *
  cases hg : o.g with
  | none => rw [hg] at hw; exact Wd_read ho hw
  | some tw =>
    obtain ⟨t, w⟩ := tw
    rw [hg] at hw
    obtain ⟨x, h1, h2, h3⟩ := hw
    by_cases e : x = w
    · exact Wd_read ho (h2 e)
    · have e2 : x = !w := by cases x <;> cases w <;> simp_all
      exact ⟨(h3 e2).2.1, (h3 e2).2.2⟩

theorem hcall_same {h : Heap} {os : List Rid} {obs : List Ob} (hl : obs.length = os.length) (t c : Nat) : hcall h os obs t c = hcall h os obs 0 0 := by
  have e : ∀ t u, tgt os t obs.length u = os.idxOf? u := by
    intro t u
    cases u with
    | r t' j => show (if t' = t ∧ os.length + j < obs.length then _ else _) = _; rw [if_neg (by omega)]
    | p _ => rfl
    | l _ => rfl
  funext u
  unfold hcall
  rw [e, e]
  cases hk : os.idxOf? u with
  | none => rfl
  | some k => simp only [(List.getElem?_eq_some_iff.1 (idx_some hk)).1, if_true]
/-- Heaps that are alike, but for what was made here. -/
def Alike (h h2 : Heap) : Prop := ∀ o, o.isL = false → h2 o = h o
theorem cur_alike {h h2 : Heap} (ha : Alike h h2) {o : Rid} (ho : o.isL = false) (v : Nat) : cur h2 o v = cur h o v := by unfold cur; rw [ha o ho]
theorem ExpOk_free {h : Heap} {os : List Rid} {a : AV} (ha : a.free = true) : ExpOk h os a := by
  have one : ∀ c : AV, c.pure = true → (match c with
      | .sl o v off len _ => match os.idxOf? o, cur h o v with
        | none, some ob => Pure ob.es ∧ off + len ≤ ob.es.length
        | some _, some _ => True
        | _, none => False
      | .ptr o v _ _ => match os.idxOf? o, cur h o v with
        | some _, some _ => True
        | _, _ => False
      | c => c.pure = true) := fun c hc => by cases c <;> first | (simp [AV.pure] at hc; done) | exact hc
  cases a with
  | agg cs => exact fun c hc => one c (List.all_eq_true.1 ha c hc)
  | tup cs => exact fun c hc => one c (List.all_eq_true.1 ha c hc)
  | fn f cs => exact fun c hc => one c (List.all_eq_true.1 ha c hc)
  | ptr _ _ _ _ => simp [AV.free, AV.pure] at ha
  | sl _ _ _ _ _ => simp [AV.free, AV.pure] at ha
  | _ => exact ha
theorem expA_free2 {h : Heap} {os : List Rid} {a : AV} (ha : a.free = true) : expA h os a = a := by
  have pure : ∀ x : AV, x.pure = true → expA h os x = x := fun x hx => by cases x <;> first | (simp [AV.pure] at hx; done) | simp [expA]
  have list : ∀ l : List AV, l.all AV.pure = true → expL h os l = l := by
    intro l
    induction l with
    | nil => intro _; simp [expL]
    | cons x r ih => intro hl; simp only [List.all_cons, Bool.and_eq_true] at hl; rw [expL, pure x hl.1, ih hl.2]
  cases a with
  | agg cs => rw [expA, list cs ha]
  | tup cs => rw [expA, list cs ha]
  | fn f cs => rw [expA, list cs ha]
  | _ => exact pure _ ha
theorem kcallh_alike {f : AV} {args : List AV} {r : AV} {h h1 : Heap} (hk : kcallh C f args r h h1) : ∃ os obs', obs'.length = os.length ∧ (∀ o ∈ os, o.isL = false) ∧ h1 = hcall h os obs' 0 0 ∧ ∀ h2, Alike h h2 → kcallh C f args r h2 (hcall h2 os obs' 0 0) := by
  obtain ⟨fid, capt, own, os, obs, obs', k1, k2, k3, k4, k5, k6, k7, k8, k9, k10, k11, k12, k13⟩ := hk
  have hlen : obs.length = os.length := by have := congrArg List.length k3; simpa using this.symm
  refine ⟨os, obs', by omega, k5, k13, fun h2 ha => ?_⟩
  have e1 : ∀ a ∈ args ++ capt, expA h2 os a = expA h os a ∧ ExpOk h2 os a := by
    intro a hm
    obtain ⟨q1, q2⟩ := k7 a hm
    rcases q2 with q2 | q2
    · exact ⟨by rw [expA_free2 q2, expA_free2 q2], ExpOk_free q2⟩
    · cases a with
      | ptr o v e c =>
        have hc := cur_alike ha (k5 o q2) v
        exact ⟨by simp only [expA, hc], by simp only [ExpOk, hc] at q1 ⊢; exact q1⟩
      | sl o v off len cap =>
        have hc := cur_alike ha (k5 o q2) v
        exact ⟨by simp only [expA, hc], by simp only [ExpOk, hc] at q1 ⊢; exact q1⟩
      | _ => exact q2.elim
  have e2 : ∀ l : List AV, (∀ a ∈ l, expA h2 os a = expA h os a) → expL h2 os l = expL h os l := by
    intro l
    induction l with
    | nil => intro _; simp [expL]
    | cons x r ih => intro hl; rw [expL, expL, hl x List.mem_cons_self, ih fun b hb => hl b (List.mem_cons_of_mem _ hb)]
  refine ⟨fid, capt, own, os, obs, obs', k1, by rw [e2 _ fun a hm => (e1 a hm).1]; exact k2, ?_, k4, k5, k6, fun a hm => ⟨(e1 a hm).2, (k7 a hm).2⟩, k8, k9, k10, k11, k12, rfl⟩
  rw [← k3]
  exact List.map_congr_left fun o ho => by rw [ha o (k5 o ho)]
theorem Sd_callh {o : KOp} (ho : o.o.cls = 3) {g : Slots} {h : Heap} {c : Nat} {v : AV} {h' : Heap} {c' : Nat} (hw : Sd C o g h c v h' c') :
    c' = c ∧ ((∃ os obs', obs'.length = os.length ∧ (∀ o ∈ os, o.isL = false) ∧ h' = hcall h os obs' 0 0 ∧ ∀ h2 c2, Alike h h2 → Sd C o g h2 c2 v (hcall h2 os obs' 0 0) c2) ∨ (h' = h ∧ ∀ h2 c2, Sd C o g h2 c2 v h2 c2)) := by
  have w : Wd C o.d o.o g h c v h' c' → c' = c ∧ ∃ os obs', obs'.length = os.length ∧ (∀ o ∈ os, o.isL = false) ∧ h' = hcall h os obs' 0 0 ∧ ∀ h2 c2, Alike h h2 → Wd C o.d o.o g h2 c2 v (hcall h2 os obs' 0 0) c2 := by
    intro hw
    cases hoo : o.o <;> rw [hoo] at ho hw <;> first
      | (simp [KO.cls] at ho; done)
      | (obtain ⟨hk, rfl⟩ := hw
         obtain ⟨os, obs', q1, q2, q3, q4⟩ := kcallh_alike hk
         exact ⟨rfl, os, obs', q1, q2, q3, fun h2 c2 ha => ⟨q4 h2 ha, rfl⟩⟩)
  unfold Sd at *
  cases hg : o.g with
  | none =>
    rw [hg] at hw
    obtain ⟨q1, os, obs', q2, q3, q4, q5⟩ := w hw
    exact ⟨q1, .inl ⟨os, obs', q2, q3, q4, q5⟩⟩
  | some tw =>
    obtain ⟨t, ww⟩ := tw
    rw [hg] at hw
    obtain ⟨x, h1, h2, h3⟩ := hw
    by_cases e : x = ww
    · obtain ⟨q1, os, obs', q2, q3, q4, q5⟩ := w (h2 e)
      exact ⟨q1, .inl ⟨os, obs', q2, q3, q4, fun h4 c4 ha => ⟨x, h1, fun _ => q5 h4 c4 ha, fun e2 => by subst e; cases x <;> simp at e2⟩⟩⟩
    · have e2 : x = !ww := by cases x <;> cases ww <;> simp_all
      obtain ⟨rfl, rfl, rfl⟩ := h3 e2
      exact ⟨rfl, .inr ⟨rfl, fun h4 c4 => ⟨x, h1, fun e3 => absurd e3 e, fun _ => ⟨rfl, rfl, rfl⟩⟩⟩⟩
theorem Sd_make {o : KOp} (ho : o.o.cls = 4) {g : Slots} {h : Heap} {c : Nat} {v : AV} {h' : Heap} {c' : Nat} (hw : Sd C o g h c v h' c') :
    (∃ t ob, h' = hup h (.l t) ob ∧ ∀ h2, Sd C o g h2 c v (hup h2 (.l t) ob) c') ∨ (h' = h ∧ c' = c ∧ ∀ h2 c2, Sd C o g h2 c2 v h2 c2) := by
  have w : Wd C o.d o.o g h c v h' c' → ∃ t ob, h' = hup h (.l t) ob ∧ ∀ h2, Wd C o.d o.o g h2 c v (hup h2 (.l t) ob) c' := by
    intro hw
    cases hoo : o.o <;> rw [hoo] at ho hw <;> first
      | (simp [KO.cls] at ho; done)
      | skip
    case alloc cs =>
      obtain ⟨t, p, hd, hk, hp⟩ := hw
      simp only [ke, allocF, Option.some.injEq, Prod.mk.injEq] at hk
      obtain ⟨rfl, rfl, rfl, rfl⟩ := hk
      exact ⟨t, _, rfl, fun h2 => ⟨t, _, hd, rfl, hp⟩⟩
    case bslice esz n z ps =>
      obtain ⟨t, p, hd, hk, hp⟩ := hw
      simp only [ke, bslF, Option.bind_eq_some_iff, Option.some.injEq, Prod.mk.injEq] at hk
      obtain ⟨cs, hf, rfl, rfl, rfl, rfl⟩ := hk
      exact ⟨t, _, rfl, fun h2 => ⟨t, _, hd, by simp only [ke, bslF, hf, Option.bind_some], hp⟩⟩
    case mks esz bytes z l cp =>
      obtain ⟨t, p, hd, hk, hp⟩ := hw
      simp only [ke, mksF, Option.bind_eq_some_iff, Option.some.injEq, Prod.mk.injEq] at hk
      obtain ⟨a, hf, b, hf2, rfl, rfl, rfl, rfl⟩ := hk
      exact ⟨t, _, rfl, fun h2 => ⟨t, _, hd, by simp only [ke, mksF, hf, hf2, Option.bind_some], hp⟩⟩
  unfold Sd at *
  cases hg : o.g with
  | none =>
    rw [hg] at hw
    exact .inl (w hw)
  | some tw =>
    obtain ⟨t, ww⟩ := tw
    rw [hg] at hw
    obtain ⟨x, h1, h2, h3⟩ := hw
    by_cases e : x = ww
    · obtain ⟨t', ob, q1, q2⟩ := w (h2 e)
      exact .inl ⟨t', ob, q1, fun h4 => ⟨x, h1, fun _ => q2 h4, fun e2 => by subst e; cases x <;> simp at e2⟩⟩
    · have e2 : x = !ww := by cases x <;> cases ww <;> simp_all
      obtain ⟨rfl, rfl, rfl⟩ := h3 e2
      exact .inr ⟨rfl, rfl, fun h4 c4 => ⟨x, h1, fun e3 => absurd e3 e, fun _ => ⟨rfl, rfl, rfl⟩⟩⟩
theorem hup_alike (h : Heap) (t : Nat) (ob : Ob) : Alike h (hup h (.l t) ob) := fun o ho => by
  unfold hup; rw [if_neg]; intro e; subst e; simp [Rid.isL] at ho
theorem hcall_hup {h : Heap} {os : List Rid} {obs : List Ob} (hl : obs.length = os.length) (hos : ∀ o ∈ os, o.isL = false) (t : Nat) (ob : Ob) : hcall (hup h (.l t) ob) os obs 0 0 = hup (hcall h os obs 0 0) (.l t) ob := by
  have e : ∀ u, tgt os 0 obs.length u = os.idxOf? u := by
    intro u
    cases u with
    | r t' j => show (if t' = 0 ∧ os.length + j < obs.length then _ else _) = _; rw [if_neg (by omega)]
    | p _ => rfl
    | l _ => rfl
  funext u
  unfold hcall hup
  rw [e]
  by_cases hu : u = .l t
  · subst hu
    cases hk : os.idxOf? (.l t) with
    | none => simp
    | some k => have := hos _ (List.mem_of_getElem? (idx_some hk)); simp [Rid.isL] at this
  · simp only [hu, if_false, e]

theorem updO_ne {g : Slots} {d : Option Nat} {v : AV} {t : Nat} (hd : d ≠ some t) : updO g d v t = g t := by
  cases d with
  | none => rfl
  | some s => simp only [updO, upd]; rw [if_neg (fun e => hd (by rw [e]))]
theorem updO_comm {g : Slots} {d e : Option Nat} {v u : AV} (hd : ∀ s, d = some s → e ≠ some s) : updO (updO g d v) e u = updO (updO g e u) d v := by
  cases d with
  | none => rfl
  | some s =>
    cases e with
    | none => rfl
    | some t =>
      have : t ≠ s := fun h => hd s rfl (by rw [h])
      funext x
      simp only [updO, upd]
      by_cases h1 : x = t
      · subst h1; rw [if_pos rfl, if_neg this, if_pos rfl]
      · rw [if_neg h1, if_neg h1]

theorem apart_spec {x y : KOp} (h : apartK x y = true) : (∀ s, x.d = some s → s ∉ y.reads ∧ y.d ≠ some s) ∧ (∀ s, y.d = some s → s ∉ x.reads) ∧ (x.o.cls = 0 ∨ y.o.cls = 0 ∨ (x.o.cls = 1 ∧ y.o.cls = 1) ∨ (x.o.cls = 3 ∧ y.o.cls = 4) ∨ (x.o.cls = 4 ∧ y.o.cls = 3)) := by
  simp only [apartK, Bool.and_eq_true, Bool.or_eq_true, beq_iff_eq] at h
  obtain ⟨⟨h1, h2⟩, h3⟩ := h
  refine ⟨fun s hs => ?_, fun s hs => ?_, ?_⟩
  · rw [hs] at h1
    simp at h1
    exact ⟨h1.1, fun e => h1.2 e⟩
  · rw [hs] at h2
    simpa using h2
  · rcases h3 with (((h3 | h3) | h3) | h3) | h3
    · exact .inl h3
    · exact .inr (.inl h3)
    · exact .inr (.inr (.inl h3))
    · exact .inr (.inr (.inr (.inl h3)))
    · exact .inr (.inr (.inr (.inr h3)))

theorem exchange {x i : KOp} (ha : apartK x i = true) {g : Slots} {h h1 h2 : Heap} {c c1 c2 : Nat} {v u : AV} (hx : Sd C x g h c v h1 c1) (hi : Sd C i (updO g x.d v) h1 c1 u h2 c2) :
    ∃ h1' c1', Sd C i g h c u h1' c1' ∧ Sd C x (updO g i.d u) h1' c1' v h2 c2 ∧ updO (updO g x.d v) i.d u = updO (updO g i.d u) x.d v := by
  obtain ⟨a1, a2, a3⟩ := apart_spec ha
  have e := updO_comm (g := g) (v := v) (u := u) (d := x.d) (e := i.d) (fun s hs => (a1 s hs).2)
  have ri : ∀ t ∈ i.reads, updO g x.d v t = g t := fun t ht => updO_ne fun hd => (a1 t hd).1 ht
  have rx : ∀ t ∈ x.reads, g t = updO g i.d u t := fun t ht => (updO_ne fun hd => a2 t hd ht).symm
  have hi' := Sd_congr ri hi
  rcases a3 with a3 | a3 | ⟨a3, a4⟩ | ⟨a3, a4⟩ | ⟨a3, a4⟩
  · obtain ⟨rfl, rfl, hf⟩ := Sd_free a3 hx
    exact ⟨h2, c2, hi', Sd_congr rx (hf h2 c2), e⟩
  · obtain ⟨rfl, rfl, hf⟩ := Sd_free a3 hi'
    exact ⟨h, c, hf h c, Sd_congr rx hx, e⟩
  · obtain ⟨rfl, rfl⟩ := Sd_read a3 hx
    obtain ⟨rfl, rfl⟩ := Sd_read a4 hi'
    exact ⟨_, _, hi', Sd_congr rx hx, e⟩
  · obtain ⟨rfl, q⟩ := Sd_callh a3 hx
    rcases Sd_make a4 hi' with ⟨t, ob, rfl, m1⟩ | ⟨rfl, rfl, m1⟩
    · rcases q with ⟨os, obs', q1, q2, rfl, q3⟩ | ⟨rfl, q3⟩
      · refine ⟨hup h (.l t) ob, c2, m1 h, ?_, e⟩
        have := q3 (hup h (.l t) ob) c2 (hup_alike h t ob)
        rw [hcall_hup q1 q2] at this
        exact Sd_congr rx this
      · exact ⟨_, c2, m1 _, Sd_congr rx (q3 _ _), e⟩
    · exact ⟨h, _, m1 h _, Sd_congr rx hx, e⟩
  · obtain ⟨rfl, q⟩ := Sd_callh a4 hi'
    rcases Sd_make a3 hx with ⟨t, ob, rfl, m1⟩ | ⟨rfl, rfl, m1⟩
    · rcases q with ⟨os, obs', q1, q2, rfl, q3⟩ | ⟨rfl, q3⟩
      · have ha : Alike (hup h (.l t) ob) h := fun o ho => (hup_alike h t ob o ho).symm
        refine ⟨hcall h os obs' 0 0, c, q3 h c ha, ?_, e⟩
        rw [hcall_hup q1 q2]
        exact Sd_congr rx (m1 _)
      · exact ⟨h, c, q3 h c, Sd_congr rx (m1 h), e⟩
    · exact ⟨h2, _, hi', Sd_congr rx (m1 _ _), e⟩

theorem to_front {i : KOp} (hi : i.plain) {Q : Post} : ∀ (pre post : List KOp), (∀ x ∈ pre, x.plain ∧ apartK x i = true) → ∀ {g : Slots} {h : Heap} {c : Nat}, kops C (pre ++ i :: post) Q g h c → kops C (i :: (pre ++ post)) Q g h c
  | [], post, _, g, h, c, hk => hk
  | x :: pre, post, hp, g, h, c, hk => by
    obtain ⟨hx1, hx2⟩ := hp x List.mem_cons_self
    rw [List.cons_append] at hk
    obtain ⟨v, h1, c1, s1, hk⟩ := (kops_iff hx1).1 hk
    have ih := to_front hi pre post (fun y hy => hp y (List.mem_cons_of_mem _ hy)) hk
    obtain ⟨u, h2, c2, s2, hk⟩ := (kops_iff hi).1 ih
    obtain ⟨h1', c1', s3, s4, e⟩ := exchange hx2 s1 s2
    rw [e] at hk
    refine (kops_iff hi).2 ⟨u, h1', c1', s3, ?_⟩
    rw [List.cons_append]
    exact (kops_iff hx1).2 ⟨v, h2, c2, s4, hk⟩
end Go.AM
