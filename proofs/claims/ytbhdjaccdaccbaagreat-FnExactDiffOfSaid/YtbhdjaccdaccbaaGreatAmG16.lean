/- Operations change places: the exchange. No condition. -/
import Derived.Test.YtbhdjaccdaccbaaGreatAmG15
import Derived.Test.YtbhdjaccdaccbaaGreatAmG13
set_option linter.all false
set_option linter.unusedSimpArgs false
set_option linter.unusedVariables false
set_option linter.deprecated false
/-! Draw2 -/
section
namespace Go.AM
variable {P : Program} {C : Con}

theorem Sd_congr {o : KOp} {ν : Nat} {g g' : Slots} {h : Heap} {c : Nat} {v : AV} {h' : Heap} {c' : Nat} (hx : ∀ t ∈ o.reads, g t = g' t) (hw : Sd C o ν g h c v h' c') : Sd C o ν g' h c v h' c' := by
  unfold Sd KOp.reads at *
  cases hg : o.g with
  | none => rw [hg] at hw; exact Wd_congr (fun t ht => hx t (by simp [ht])) hw
  | some tw =>
    obtain ⟨t, w⟩ := tw
    rw [hg] at hw hx
    obtain ⟨x, h1, h2, h3⟩ := hw
    exact ⟨x, by rw [← h1]; exact congrArg _ (hx t (by simp)).symm, fun e => Wd_congr (fun t ht => hx t (by simp [ht])) (h2 e), h3⟩

theorem mk4_cls (o : KO) : 8 ≤ (KO.mk4 o).cls := by cases o <;> simp [KO.cls]
theorem Wd_free {d : Option Nat} {o : KO} {ν : Nat} (ho : o.cls = 0 ∨ o.cls = 7) {g : Slots} {h : Heap} {c : Nat} {v : AV} {h' : Heap} {c' : Nat} (hw : Wd C d o ν g h c v h' c') : h' = h ∧ c' = c ∧ ∀ h2 c2, Wd C d o ν g h2 c2 v h2 c2 := by
  cases o <;> first
    | (simp [KO.cls] at ho; done)
    | (rename_i q; have hq := mk4_cls q; omega)
    | (obtain ⟨p, h1, h2, rfl, rfl⟩ := hw; exact ⟨rfl, rfl, fun h2' c2 => ⟨p, h1, h2, rfl, rfl⟩⟩)
    | (obtain ⟨h1, rfl, rfl⟩ := hw; exact ⟨rfl, rfl, fun h2 c2 => ⟨h1, rfl, rfl⟩⟩)
theorem Wd_read {d : Option Nat} {o : KO} {ν : Nat} (ho : o.cls = 1 ∨ o.cls = 5) {g : Slots} {h : Heap} {c : Nat} {v : AV} {h' : Heap} {c' : Nat} (hw : Wd C d o ν g h c v h' c') : h' = h ∧ c' = c := by
  cases o <;> first
    | (simp [KO.cls] at ho; done)
    | (rename_i q; have hq := mk4_cls q; omega)
    | (obtain ⟨p, h1, h2, rfl, rfl⟩ := hw; exact ⟨rfl, rfl⟩)
    | (obtain ⟨h1, rfl, rfl⟩ := hw; exact ⟨rfl, rfl⟩)
theorem Sd_free {o : KOp} {ν : Nat} (ho : o.o.cls = 0 ∨ o.o.cls = 7) {g : Slots} {h : Heap} {c : Nat} {v : AV} {h' : Heap} {c' : Nat} (hw : Sd C o ν g h c v h' c') : h' = h ∧ c' = c ∧ ∀ h2 c2, Sd C o ν g h2 c2 v h2 c2 := by
  unfold Sd at *
  cases hg : o.g with
  | none => rw [hg] at hw; exact Wd_free ho hw
  | some tw =>
    obtain ⟨t, w⟩ := tw
    rw [hg] at hw
    obtain ⟨x, h1, h2, h3⟩ := hw
    by_cases e : x = w
    · obtain ⟨q1, q2, q3⟩ := Wd_free ho (h2 e)
      exact ⟨q1, q2, fun h4 c4 => ⟨x, h1, fun _ => q3 h4 c4, fun e2 => by subst e; cases x <;> simp at e2⟩⟩
    · have e2 : x = !w := by cases x <;> cases w <;> simp_all
      obtain ⟨rfl, rfl, rfl⟩ := h3 e2
      exact ⟨rfl, rfl, fun h4 c4 => ⟨x, h1, fun e3 => absurd e3 e, fun _ => ⟨rfl, rfl, rfl⟩⟩⟩
theorem Sd_read {o : KOp} {ν : Nat} (ho : o.o.cls = 1 ∨ o.o.cls = 5) {g : Slots} {h : Heap} {c : Nat} {v : AV} {h' : Heap} {c' : Nat} (hw : Sd C o ν g h c v h' c') : h' = h ∧ c' = c := by
  unfold Sd at *
  cases hg : o.g with
  | none => rw [hg] at hw; exact Wd_read ho hw
  | some tw =>
    obtain ⟨t, w⟩ := tw
    rw [hg] at hw
    obtain ⟨x, h1, h2, h3⟩ := hw
    by_cases e : x = w
    · exact Wd_read ho (h2 e)
    · have e2 : x = !w := by cases x <;> cases w <;> simp_all
      exact ⟨(h3 e2).2.1, (h3 e2).2.2⟩

theorem hcall_same {h : Heap} {os : List Rid} {obs : List Ob} (hl : obs.length = os.length) (t c : Nat) : hcall h os obs t c = hcall h os obs 0 0 := by
  have e : ∀ t u, tgt os t obs.length u = os.idxOf? u := by
    intro t u
    cases u with
    | r t' j => show (if t' = t ∧ os.length + j < obs.length then _ else _) = _; rw [if_neg (by omega)]
    | p _ => rfl
    | l _ => rfl
  funext u
  unfold hcall
  rw [e, e]
  cases hk : os.idxOf? u with
  | none => rfl
  | some k => simp only [(List.getElem?_eq_some_iff.1 (idx_some hk)).1, if_true]
/-- Heaps that are alike, but for what was made here. -/
def Alike (h h2 : Heap) : Prop := ∀ o, o.isL = false → h2 o = h o
theorem cur_alike {h h2 : Heap} (ha : Alike h h2) {o : Rid} (ho : o.isL = false) (v : Nat) : cur h2 o v = cur h o v := by unfold cur; rw [ha o ho]
theorem ExpOk_free {h : Heap} {os : List Rid} {a : AV} (ha : a.free = true) : ExpOk h os a := by
  have one : ∀ c : AV, c.pure = true → (match c with
      | .sl o v off len _ => match os.idxOf? o, cur h o v with
        | none, some ob => Pure ob.es ∧ off + len ≤ ob.es.length
        | some _, some _ => True
        | _, none => False
      | .ptr o v _ _ => match os.idxOf? o, cur h o v with
        | some _, some _ => True
        | _, _ => False
      | c => c.pure = true) := fun c hc => by cases c <;> first | (simp [AV.pure] at hc; done) | exact hc
  cases a with
  | agg cs => exact fun c hc => one c (List.all_eq_true.1 ha c hc)
  | tup cs => exact fun c hc => one c (List.all_eq_true.1 ha c hc)
  | fn f cs => exact fun c hc => one c (List.all_eq_true.1 ha c hc)
  | ptr _ _ _ _ => simp [AV.free, AV.pure] at ha
  | sl _ _ _ _ _ => simp [AV.free, AV.pure] at ha
  | _ => exact ha
theorem expA_free2 {h : Heap} {os : List Rid} {a : AV} (ha : a.free = true) : expA h os a = a := by
  have pure : ∀ x : AV, x.pure = true → expA h os x = x := fun x hx => by cases x <;> first | (simp [AV.pure] at hx; done) | simp [expA]
  have list : ∀ l : List AV, l.all AV.pure = true → expL h os l = l := by
    intro l
    induction l with
    | nil => intro _; simp [expL]
    | cons x r ih => intro hl; simp only [List.all_cons, Bool.and_eq_true] at hl; rw [expL, pure x hl.1, ih hl.2]
  cases a with
  | agg cs => rw [expA, list cs ha]
  | tup cs => rw [expA, list cs ha]
  | fn f cs => rw [expA, list cs ha]
  | _ => exact pure _ ha
theorem kcallh_alike {f : AV} {args : List AV} {r : AV} {h h1 : Heap} (hk : kcallh C false f args r h h1) : ∃ os obs', obs'.length = os.length ∧ (∀ o ∈ os, o.isL = false) ∧ h1 = hcall h os obs' 0 0 ∧ ∀ h2, Alike h h2 → kcallh C false f args r h2 (hcall h2 os obs' 0 0) := by
  obtain ⟨fid, capt, own, os, obs, obs', k1, k2, k3, k4, k5, k6, k7, k8, k9, k10, k11, k12, k13⟩ := hk
  have k5' := k5
  replace k5 := k5.resolve_left (by simp)
  have hlen : obs.length = os.length := by have := congrArg List.length k3; simpa using this.symm
  refine ⟨os, obs', by omega, k5, k13, fun h2 ha => ?_⟩
  have e1 : ∀ a ∈ args ++ capt, expA h2 os a = expA h os a ∧ ExpOk h2 os a := by
    intro a hm
    obtain ⟨q1, q2⟩ := k7 a hm
    rcases q2 with q2 | q2
    · exact ⟨by rw [expA_free2 q2, expA_free2 q2], ExpOk_free q2⟩
    · cases a with
      | ptr o v e c =>
        have hc := cur_alike ha (k5 o q2) v
        exact ⟨by simp only [expA, hc], by simp only [ExpOk, hc] at q1 ⊢; exact q1⟩
      | sl o v off len cap =>
        have hc := cur_alike ha (k5 o q2) v
        exact ⟨by simp only [expA, hc], by simp only [ExpOk, hc] at q1 ⊢; exact q1⟩
      | _ => exact q2.elim
  have e2 : ∀ l : List AV, (∀ a ∈ l, expA h2 os a = expA h os a) → expL h2 os l = expL h os l := by
    intro l
    induction l with
    | nil => intro _; simp [expL]
    | cons x r ih => intro hl; rw [expL, expL, hl x List.mem_cons_self, ih fun b hb => hl b (List.mem_cons_of_mem _ hb)]
  refine ⟨fid, capt, own, os, obs, obs', k1, by rw [e2 _ fun a hm => (e1 a hm).1]; exact k2, ?_, k4, k5', k6, fun a hm => ⟨(e1 a hm).2, (k7 a hm).2⟩, k8, k9, k10, k11, k12, rfl⟩
  rw [← k3]
  exact List.map_congr_left fun o ho => by rw [ha o (k5 o ho)]
theorem Sd_callh {o : KOp} {ν : Nat} (ho : o.o.cls = 3) {g : Slots} {h : Heap} {c : Nat} {v : AV} {h' : Heap} {c' : Nat} (hw : Sd C o ν g h c v h' c') :
    c' = c ∧ ((∃ os obs', obs'.length = os.length ∧ (∀ o ∈ os, o.isL = false) ∧ h' = hcall h os obs' 0 0 ∧ ∀ h2 c2, Alike h h2 → Sd C o ν g h2 c2 v (hcall h2 os obs' 0 0) c2) ∨ (h' = h ∧ ∀ h2 c2, Sd C o ν g h2 c2 v h2 c2)) := by
  have w : Wd C o.d o.o ν g h c v h' c' → c' = c ∧ ∃ os obs', obs'.length = os.length ∧ (∀ o ∈ os, o.isL = false) ∧ h' = hcall h os obs' 0 0 ∧ ∀ h2 c2, Alike h h2 → Wd C o.d o.o ν g h2 c2 v (hcall h2 os obs' 0 0) c2 := by
    intro hw
    cases hoo : o.o <;> rw [hoo] at ho hw <;> first
      | (simp [KO.cls] at ho; done)
      | (rename_i q; have hq := mk4_cls q; omega)
      | (obtain ⟨hk, rfl⟩ := hw
         obtain ⟨os, obs', q1, q2, q3, q4⟩ := kcallh_alike hk
         exact ⟨rfl, os, obs', q1, q2, q3, fun h2 c2 ha => ⟨q4 h2 ha, rfl⟩⟩)
  unfold Sd at *
  cases hg : o.g with
  | none =>
    rw [hg] at hw
    obtain ⟨q1, os, obs', q2, q3, q4, q5⟩ := w hw
    exact ⟨q1, .inl ⟨os, obs', q2, q3, q4, q5⟩⟩
  | some tw =>
    obtain ⟨t, ww⟩ := tw
    rw [hg] at hw
    obtain ⟨x, h1, h2, h3⟩ := hw
    by_cases e : x = ww
    · obtain ⟨q1, os, obs', q2, q3, q4, q5⟩ := w (h2 e)
      exact ⟨q1, .inl ⟨os, obs', q2, q3, q4, fun h4 c4 ha => ⟨x, h1, fun _ => q5 h4 c4 ha, fun e2 => by subst e; cases x <;> simp at e2⟩⟩⟩
    · have e2 : x = !ww := by cases x <;> cases ww <;> simp_all
      obtain ⟨rfl, rfl, rfl⟩ := h3 e2
      exact ⟨rfl, .inr ⟨rfl, fun h4 c4 => ⟨x, h1, fun e3 => absurd e3 e, fun _ => ⟨rfl, rfl, rfl⟩⟩⟩⟩
theorem Sd_make {o : KOp} {ν : Nat} (ho : o.o.cls = 4) {g : Slots} {h : Heap} {c : Nat} {v : AV} {h' : Heap} {c' : Nat} (hw : Sd C o ν g h c v h' c') :
    (∃ t ob, h' = hup h (.l t) ob ∧ ∀ h2, Sd C o ν g h2 c v (hup h2 (.l t) ob) c') ∨ (h' = h ∧ c' = c ∧ ∀ h2 c2, Sd C o ν g h2 c2 v h2 c2) := by
  have w : Wd C o.d o.o ν g h c v h' c' → ∃ t ob, h' = hup h (.l t) ob ∧ ∀ h2, Wd C o.d o.o ν g h2 c v (hup h2 (.l t) ob) c' := by
    intro hw
    cases hoo : o.o <;> rw [hoo] at ho hw <;> first
      | (simp [KO.cls] at ho; done)
      | (rename_i q; have hq := mk4_cls q; omega)
      | skip
    case alloc cs =>
      obtain ⟨t, p, hd, hk, hp⟩ := hw
      simp only [ke, allocF, Option.some.injEq, Prod.mk.injEq] at hk
      obtain ⟨rfl, rfl, rfl, rfl⟩ := hk
      exact ⟨t, _, rfl, fun h2 => ⟨t, _, hd, rfl, hp⟩⟩
    case bslice esz n z ps =>
      obtain ⟨t, p, hd, hk, hp⟩ := hw
      simp only [ke, bslF, Option.bind_eq_some_iff, Option.some.injEq, Prod.mk.injEq] at hk
      obtain ⟨cs, hf, rfl, rfl, rfl, rfl⟩ := hk
      exact ⟨t, _, rfl, fun h2 => ⟨t, _, hd, by simp only [ke, bslF, hf, Option.bind_some], hp⟩⟩
    case mks esz bytes z l cp =>
      obtain ⟨t, p, hd, hk, hp⟩ := hw
      simp only [ke, mksF, Option.bind_eq_some_iff, Option.some.injEq, Prod.mk.injEq] at hk
      obtain ⟨a, hf, b, hf2, rfl, rfl, rfl, rfl⟩ := hk
      exact ⟨t, _, rfl, fun h2 => ⟨t, _, hd, by simp only [ke, mksF, hf, hf2, Option.bind_some], hp⟩⟩
  unfold Sd at *
  cases hg : o.g with
  | none =>
    rw [hg] at hw
    exact .inl (w hw)
  | some tw =>
    obtain ⟨t, ww⟩ := tw
    rw [hg] at hw
    obtain ⟨x, h1, h2, h3⟩ := hw
    by_cases e : x = ww
    · obtain ⟨t', ob, q1, q2⟩ := w (h2 e)
      exact .inl ⟨t', ob, q1, fun h4 => ⟨x, h1, fun _ => q2 h4, fun e2 => by subst e; cases x <;> simp at e2⟩⟩
    · have e2 : x = !ww := by cases x <;> cases ww <;> simp_all
      obtain ⟨rfl, rfl, rfl⟩ := h3 e2
      exact .inr ⟨rfl, rfl, fun h4 c4 => ⟨x, h1, fun e3 => absurd e3 e, fun _ => ⟨rfl, rfl, rfl⟩⟩⟩
theorem hup_alike (h : Heap) (t : Nat) (ob : Ob) : Alike h (hup h (.l t) ob) := fun o ho => by
  unfold hup; rw [if_neg]; intro e; subst e; simp [Rid.isL] at ho
theorem hcall_hup {h : Heap} {os : List Rid} {obs : List Ob} (hl : obs.length = os.length) (hos : ∀ o ∈ os, o.isL = false) (t : Nat) (ob : Ob) : hcall (hup h (.l t) ob) os obs 0 0 = hup (hcall h os obs 0 0) (.l t) ob := by
  have e : ∀ u, tgt os 0 obs.length u = os.idxOf? u := by
    intro u
    cases u with
    | r t' j => show (if t' = 0 ∧ os.length + j < obs.length then _ else _) = _; rw [if_neg (by omega)]
    | p _ => rfl
    | l _ => rfl
  funext u
  unfold hcall hup
  rw [e]
  by_cases hu : u = .l t
  · subst hu
    cases hk : os.idxOf? (.l t) with
    | none => simp
    | some k => have := hos _ (List.mem_of_getElem? (idx_some hk)); simp [Rid.isL] at this
  · simp only [hu, if_false, e]

theorem kcallh_on {f : AV} {args : List AV} {r : AV} {h h1 : Heap} (hk : kcallh C false f args r h h1) : ∃ os obs', obs'.length = os.length ∧ (∀ o ∈ os, h o ≠ none) ∧ h1 = hcall h os obs' 0 0 ∧ ∀ h2, (∀ o ∈ os, h2 o = h o) → kcallh C false f args r h2 (hcall h2 os obs' 0 0) := by
  obtain ⟨fid, capt, own, os, obs, obs', k1, k2, k3, k4, k5, k6, k7, k8, k9, k10, k11, k12, k13⟩ := hk
  have hlen : obs.length = os.length := by have := congrArg List.length k3; simpa using this.symm
  refine ⟨os, obs', by omega, fun o ho hn => ?_, k13, fun h2 ha => ?_⟩
  · have h9 : (os.map fun o => (h o).map fun b => ({ b with ver := 0, fixed := true } : Ob))[os.idxOf o]? = some none := by
      rw [List.getElem?_map, List.getElem?_eq_getElem (List.idxOf_lt_length_of_mem ho), List.getElem_idxOf]; simp [hn]
    rw [k3, List.getElem?_map] at h9
    cases h10 : obs[os.idxOf o]? <;> rw [h10] at h9 <;> simp at h9
  have e1 : ∀ a ∈ args ++ capt, expA h2 os a = expA h os a ∧ ExpOk h2 os a := by
    intro a hm
    obtain ⟨q1, q2⟩ := k7 a hm
    rcases q2 with q2 | q2
    · exact ⟨by rw [expA_free2 q2, expA_free2 q2], ExpOk_free q2⟩
    · cases a with
      | ptr o v e c =>
        have hc : cur h2 o v = cur h o v := by unfold cur; rw [ha o q2]
        exact ⟨by simp only [expA, hc], by simp only [ExpOk, hc] at q1 ⊢; exact q1⟩
      | sl o v off len cap =>
        have hc : cur h2 o v = cur h o v := by unfold cur; rw [ha o q2]
        exact ⟨by simp only [expA, hc], by simp only [ExpOk, hc] at q1 ⊢; exact q1⟩
      | _ => exact q2.elim
  have e2 : ∀ l : List AV, (∀ a ∈ l, expA h2 os a = expA h os a) → expL h2 os l = expL h os l := by
    intro l
    induction l with
    | nil => intro _; simp [expL]
    | cons x r ih => intro hl; rw [expL, expL, hl x List.mem_cons_self, ih fun b hb => hl b (List.mem_cons_of_mem _ hb)]
  refine ⟨fid, capt, own, os, obs, obs', k1, by rw [e2 _ fun a hm => (e1 a hm).1]; exact k2, ?_, k4, k5, k6, fun a hm => ⟨(e1 a hm).2, (k7 a hm).2⟩, k8, k9, k10, k11, k12, rfl⟩
  rw [← k3]
  exact List.map_congr_left fun o ho => by rw [ha o ho]
theorem Sd_callh2 {o : KOp} {ν : Nat} (ho : o.o.cls = 3) {g : Slots} {h : Heap} {c : Nat} {v : AV} {h' : Heap} {c' : Nat} (hw : Sd C o ν g h c v h' c') :
    c' = c ∧ ((∃ os obs', obs'.length = os.length ∧ (∀ o ∈ os, h o ≠ none) ∧ h' = hcall h os obs' 0 0 ∧ ∀ h2 c2, (∀ o ∈ os, h2 o = h o) → Sd C o ν g h2 c2 v (hcall h2 os obs' 0 0) c2) ∨ (h' = h ∧ ∀ h2 c2, Sd C o ν g h2 c2 v h2 c2)) := by
  have w : Wd C o.d o.o ν g h c v h' c' → c' = c ∧ ∃ os obs', obs'.length = os.length ∧ (∀ o ∈ os, h o ≠ none) ∧ h' = hcall h os obs' 0 0 ∧ ∀ h2 c2, (∀ o ∈ os, h2 o = h o) → Wd C o.d o.o ν g h2 c2 v (hcall h2 os obs' 0 0) c2 := by
    intro hw
    cases hoo : o.o <;> rw [hoo] at ho hw <;> first
      | (simp [KO.cls] at ho; done)
      | (rename_i q; have hq := mk4_cls q; omega)
      | (obtain ⟨hk, rfl⟩ := hw
         obtain ⟨os, obs', q1, q2, q3, q4⟩ := kcallh_on hk
         exact ⟨rfl, os, obs', q1, q2, q3, fun h2 c2 ha => ⟨q4 h2 ha, rfl⟩⟩)
  unfold Sd at *
  cases hg : o.g with
  | none =>
    rw [hg] at hw
    obtain ⟨q1, os, obs', q2, q3, q4, q5⟩ := w hw
    exact ⟨q1, .inl ⟨os, obs', q2, q3, q4, q5⟩⟩
  | some tw =>
    obtain ⟨t, ww⟩ := tw
    rw [hg] at hw
    obtain ⟨x, h1, h2, h3⟩ := hw
    by_cases e : x = ww
    · obtain ⟨q1, os, obs', q2, q3, q4, q5⟩ := w (h2 e)
      exact ⟨q1, .inl ⟨os, obs', q2, q3, q4, fun h4 c4 ha => ⟨x, h1, fun _ => q5 h4 c4 ha, fun e2 => by subst e; cases x <;> simp at e2⟩⟩⟩
    · have e2 : x = !ww := by cases x <;> cases ww <;> simp_all
      obtain ⟨rfl, rfl, rfl⟩ := h3 e2
      exact ⟨rfl, .inr ⟨rfl, fun h4 c4 => ⟨x, h1, fun e3 => absurd e3 e, fun _ => ⟨rfl, rfl, rfl⟩⟩⟩⟩
theorem hcall_free {h : Heap} {os : List Rid} {obs : List Ob} (hl : obs.length = os.length) (hos : ∀ o ∈ os, h o ≠ none) {ρ : Rid} (hn : hcall h os obs 0 0 ρ = none) : ρ ∉ os ∧ h ρ = none := by
  have e : tgt os 0 obs.length ρ = os.idxOf? ρ := by
    cases ρ with
    | r t' j => show (if t' = 0 ∧ os.length + j < obs.length then _ else _) = _; rw [if_neg (by omega)]
    | p _ => rfl
    | l _ => rfl
  unfold hcall at hn
  rw [e] at hn
  cases hk : os.idxOf? ρ with
  | none => rw [hk] at hn; exact ⟨by simpa using hk, hn⟩
  | some k =>
    rw [hk] at hn
    have hk2 := idx_some hk
    have hlt : k < os.length := (List.getElem?_eq_some_iff.1 hk2).1
    have hm := hos _ (List.mem_of_getElem? hk2)
    cases hb : h ρ with
    | none => exact absurd hb hm
    | some b =>
      simp only [hlt, if_true, hb, Option.bind_some, List.getElem?_eq_getElem (show k < obs.length by omega), Option.map_some] at hn
      cases hn
theorem hcall_hup2 {h : Heap} {os : List Rid} {obs : List Ob} (hl : obs.length = os.length) {ρ : Rid} (hρ : ρ ∉ os) (ob : Ob) : hcall (hup h ρ ob) os obs 0 0 = hup (hcall h os obs 0 0) ρ ob := by
  have e : ∀ u, tgt os 0 obs.length u = os.idxOf? u := by
    intro u
    cases u with
    | r t' j => show (if t' = 0 ∧ os.length + j < obs.length then _ else _) = _; rw [if_neg (by omega)]
    | p _ => rfl
    | l _ => rfl
  funext u
  unfold hcall hup
  rw [e]
  by_cases hu : u = ρ
  · subst hu
    have : os.idxOf? u = none := by simpa using hρ
    simp [this]
  · simp only [hu, if_false, e]
theorem updO_ne {g : Slots} {d : Option Nat} {v : AV} {t : Nat} (hd : d ≠ some t) : updO g d v t = g t := by
  cases d with
  | none => rfl
  | some s => simp only [updO, upd]; rw [if_neg (fun e => hd (by rw [e]))]
theorem updO_comm {g : Slots} {d e : Option Nat} {v u : AV} (hd : ∀ s, d = some s → e ≠ some s) : updO (updO g d v) e u = updO (updO g e u) d v := by
  cases d with
  | none => rfl
  | some s =>
    cases e with
    | none => rfl
    | some t =>
      have : t ≠ s := fun h => hd s rfl (by rw [h])
      funext x
      simp only [updO, upd]
      by_cases h1 : x = t
      · subst h1; rw [if_pos rfl, if_neg this, if_pos rfl]
      · rw [if_neg h1, if_neg h1]

theorem live_cls {o : KO} (h : o.live = true) : o.cls = 1 := by cases o <;> first | rfl | (simp [KO.live] at h; done)
theorem apart_spec {x y : KOp} (h : apartK x y = true) : (∀ s, x.d = some s → s ∉ y.reads ∧ y.d ≠ some s) ∧ (∀ s, y.d = some s → s ∉ x.reads) ∧
    ((x.o.cls = 0 ∨ x.o.cls = 7) ∨ y.o.cls = 0 ∨ (y.o.cls = 7 ∧ x.o.cls < 8) ∨ ((x.o.cls = 1 ∨ x.o.cls = 5 ∨ x.o.cls = 8 ∨ x.o.cls = 9 ∨ x.o.cls = 11 ∨ x.o.cls = 3) ∧ y.o.cls = 8) ∨ ((x.o.cls = 8 ∨ x.o.cls = 9) ∧ y.o.cls = 1) ∨ ((x.o.cls = 1 ∨ x.o.cls = 5) ∧ (y.o.cls = 1 ∨ y.o.cls = 5)) ∨ (x.o.cls = 3 ∧ y.o.cls = 4) ∨ (x.o.cls = 4 ∧ y.o.cls = 3) ∨ (x.o.cls = 12 ∧ (y.o.cls = 3 ∨ y.o.cls = 8 ∨ y.o.cls = 12)) ∨ (x.o.live = true ∧ x.o.cls = 1 ∧ y.o.cls = 3) ∨ (x.o.cls = 12 ∧ y.o.cls = 13 ∧ y.o.lim ≤ x.o.lim)) := by
  simp only [apartK, Bool.and_eq_true, Bool.or_eq_true, beq_iff_eq, decide_eq_true_eq, Nat.ble_eq] at h
  obtain ⟨⟨h1, h2⟩, h3⟩ := h
  refine ⟨fun s hs => ?_, fun s hs => ?_, ?_⟩
  · rw [hs] at h1
    simp at h1
    exact ⟨h1.1, fun e => h1.2 e⟩
  · rw [hs] at h2
    simpa using h2
  · rcases h3 with ((((((((((h3 | h3) | h3) | h3) | h3) | h3) | h3) | h3) | h3) | h3) | h3) | h3
    · exact .inl (.inl h3)
    · exact .inr (.inl h3)
    · exact .inl (.inr h3)
    · exact .inr (.inr (.inl h3))
    · exact .inr (.inr (.inr (.inl ⟨by have := h3.1; omega, h3.2⟩)))
    · exact .inr (.inr (.inr (.inr (.inl h3))))
    · exact .inr (.inr (.inr (.inr (.inr (.inl h3)))))
    · exact .inr (.inr (.inr (.inr (.inr (.inr (.inl h3))))))
    · exact .inr (.inr (.inr (.inr (.inr (.inr (.inr (.inl h3)))))))
    · exact .inr (.inr (.inr (.inr (.inr (.inr (.inr (.inr (.inl ⟨h3.1, by have := h3.2; omega⟩))))))))
    · exact .inr (.inr (.inr (.inr (.inr (.inr (.inr (.inr (.inr (.inl ⟨h3.1, live_cls h3.1, h3.2⟩)))))))))
    · exact .inr (.inr (.inr (.inr (.inr (.inr (.inr (.inr (.inr (.inr ⟨h3.1.1, h3.1.2, h3.2⟩)))))))))
theorem Sd_live {x : KOp} (hx : x.o.live = true) {ν : Nat} {g : Slots} {h : Heap} {c : Nat} {v : AV} {h' : Heap} {c' : Nat} (hw : Sd C x ν g h c v h' c') :
    h' = h ∧ c' = c ∧ ∀ h2 c2, (∀ o v, cur h o v ≠ none → cur h2 o v ≠ none) → Sd C x ν g h2 c2 v h2 c2 := by
  have w : Wd C x.d x.o ν g h c v h' c' → h' = h ∧ c' = c ∧ ∀ h2 c2, (∀ o v, cur h o v ≠ none → cur h2 o v ≠ none) → Wd C x.d x.o ν g h2 c2 v h2 c2 := by
    intro hw
    cases hoo : x.o <;> rw [hoo] at hx hw <;> first | (simp [KO.live] at hx; done) | skip
    case fld off y =>
      obtain ⟨p, h1, h2, rfl, rfl⟩ := hw
      refine ⟨rfl, rfl, fun h2' c2 ha => ⟨p, ?_, h2, rfl, rfl⟩⟩
      simp only [kv] at h1 ⊢
      cases hy : ev g y <;> rw [hy] at h1 <;> simp only [fldF] at h1 ⊢ <;> first | exact h1 | skip
      rename_i o w e j
      cases hc : cur h' o w with
      | none => rw [hc] at h1; cases h1
      | some b =>
        rw [hc] at h1
        cases hc2 : cur h2' o w with
        | none => exact absurd hc2 (ha o w (by rw [hc]; simp))
        | some b2 => exact h1
    case len str y =>
      obtain ⟨p, h1, h2, rfl, rfl⟩ := hw
      refine ⟨rfl, rfl, fun h2' c2 ha => ⟨p, ?_, h2, rfl, rfl⟩⟩
      simp only [kv] at h1 ⊢
      cases hy : ev g y <;> rw [hy] at h1 <;> cases str <;> simp only [lenF] at h1 ⊢ <;> first | exact h1 | skip
      rename_i o w e j l
      cases hc : cur h' o w with
      | none => rw [hc] at h1; cases h1
      | some b =>
        rw [hc] at h1
        cases hc2 : cur h2' o w with
        | none => exact absurd hc2 (ha o w (by rw [hc]; simp))
        | some b2 => exact h1
  unfold Sd at *
  cases hg : x.g with
  | none => rw [hg] at hw; exact w hw
  | some tw =>
    rw [hg] at hw
    obtain ⟨b, h1, h2, h3⟩ := hw
    by_cases e : b = tw.2
    · obtain ⟨q1, q2, q3⟩ := w (h2 e)
      have ne : ¬ b = !tw.2 := by rw [e]; cases tw.2 <;> simp
      exact ⟨q1, q2, fun h5 c5 ha => ⟨b, h1, fun _ => q3 h5 c5 ha, fun e2 => absurd e2 ne⟩⟩
    · have e2 : b = !tw.2 := by cases b <;> cases h : tw.2 <;> simp_all
      obtain ⟨rfl, rfl, rfl⟩ := h3 e2
      exact ⟨rfl, rfl, fun h5 c5 _ => ⟨b, h1, fun e3 => absurd e3 e, fun _ => ⟨rfl, rfl, rfl⟩⟩⟩
theorem hcall_live {h : Heap} {os : List Rid} {obs : List Ob} (hl : obs.length = os.length) (o : Rid) (v : Nat) (hc : cur h o v ≠ none) : cur (hcall h os obs 0 0) o v ≠ none := by
  have e : tgt os 0 obs.length o = os.idxOf? o := by
    cases o with
    | r t' j => show (if t' = 0 ∧ os.length + j < obs.length then _ else _) = _; rw [if_neg (by omega)]
    | p _ => rfl
    | l _ => rfl
  unfold cur hcall at *
  rw [e]
  cases hk : os.idxOf? o with
  | none => exact hc
  | some k =>
    have hk2 := idx_some hk
    have hlt : k < os.length := (List.getElem?_eq_some_iff.1 hk2).1
    cases hb : h o with
    | none => rw [hb] at hc; exact absurd rfl hc
    | some b =>
      rw [hb] at hc
      simp only [hlt, if_true, Option.bind_some, List.getElem?_eq_getElem (show k < obs.length by omega), Option.map_some] at hc ⊢
      by_cases q : b.ver = v
      · simp [q]
      · simp [q] at hc
theorem exchange0 {x i : KOp} {ν μ : Nat} (ha : apartK x i = true) (hx8 : x.o.cls < 8) (hi8 : i.o.cls < 8) {g : Slots} {h h1 h2 : Heap} {c c1 c2 : Nat} {v u : AV} (hx : Sd C x ν g h c v h1 c1) (hi : Sd C i μ (updO g x.d v) h1 c1 u h2 c2) :
    ∃ h1' c1', Sd C i μ g h c u h1' c1' ∧ Sd C x ν (updO g i.d u) h1' c1' v h2 c2 := by
  obtain ⟨a1, a2, a3⟩ := apart_spec ha
  have ri : ∀ t ∈ i.reads, updO g x.d v t = g t := fun t ht => updO_ne fun hd => (a1 t hd).1 ht
  have rx : ∀ t ∈ x.reads, g t = updO g i.d u t := fun t ht => (updO_ne fun hd => a2 t hd ht).symm
  have hi' := Sd_congr ri hi
  rcases a3 with a3 | a3 | ⟨a3, _⟩ | ⟨_, a3⟩ | ⟨a3 | a3, _⟩ | ⟨a3, a4⟩ | ⟨a3, a4⟩ | ⟨a3, a4⟩ | ⟨a3, a4⟩ | ⟨a3, _, a4⟩ | ⟨a3, a4⟩
  · obtain ⟨rfl, rfl, hf⟩ := Sd_free a3 hx
    exact ⟨h2, c2, hi', Sd_congr rx (hf h2 c2)⟩
  · obtain ⟨rfl, rfl, hf⟩ := Sd_free (.inl a3) hi'
    exact ⟨h, c, hf h c, Sd_congr rx hx⟩
  · obtain ⟨rfl, rfl, hf⟩ := Sd_free (.inr a3) hi'
    exact ⟨h, c, hf h c, Sd_congr rx hx⟩
  · omega
  · omega
  · omega
  · obtain ⟨rfl, rfl⟩ := Sd_read a3 hx
    obtain ⟨rfl, rfl⟩ := Sd_read a4 hi'
    exact ⟨_, _, hi', Sd_congr rx hx⟩
  · obtain ⟨rfl, q⟩ := Sd_callh a3 hx
    rcases Sd_make a4 hi' with ⟨t, ob, rfl, m1⟩ | ⟨rfl, rfl, m1⟩
    · rcases q with ⟨os, obs', q1, q2, rfl, q3⟩ | ⟨rfl, q3⟩
      · refine ⟨hup h (.l t) ob, c2, m1 h, ?_⟩
        have := q3 (hup h (.l t) ob) c2 (hup_alike h t ob)
        rw [hcall_hup q1 q2] at this
        exact Sd_congr rx this
      · exact ⟨_, c2, m1 _, Sd_congr rx (q3 _ _)⟩
    · exact ⟨h, _, m1 h _, Sd_congr rx hx⟩
  · obtain ⟨rfl, q⟩ := Sd_callh a4 hi'
    rcases Sd_make a3 hx with ⟨t, ob, rfl, m1⟩ | ⟨rfl, rfl, m1⟩
    · rcases q with ⟨os, obs', q1, q2, rfl, q3⟩ | ⟨rfl, q3⟩
      · have ha : Alike (hup h (.l t) ob) h := fun o ho => (hup_alike h t ob o ho).symm
        refine ⟨hcall h os obs' 0 0, c, q3 h c ha, ?_⟩
        rw [hcall_hup q1 q2]
        exact Sd_congr rx (m1 _)
      · exact ⟨h, c, q3 h c, Sd_congr rx (m1 h)⟩
    · exact ⟨h2, _, hi', Sd_congr rx (m1 _ _)⟩
  · omega
  · obtain ⟨rfl, rfl, hf⟩ := Sd_live a3 hx
    obtain ⟨_, ⟨os, obs', q1, q2, rfl, _⟩ | ⟨rfl, _⟩⟩ := Sd_callh a4 hi'
    · exact ⟨_, _, hi', Sd_congr rx (hf _ _ fun o w hc => hcall_live q1 o w hc)⟩
    · exact ⟨_, _, hi', Sd_congr rx (hf _ _ fun o w hc => hc)⟩
  · omega

/-! operations that make memory of any version -/
theorem Sd_nu {o : KOp} (ho : o.o.cls < 8) {ν μ : Nat} {g : Slots} {h : Heap} {c : Nat} {v : AV} {h' : Heap} {c' : Nat} (hw : Sd C o ν g h c v h' c') : Sd C o μ g h c v h' c' := by
  have w : ∀ {d v h' c'}, Wd C d o.o ν g h c v h' c' → Wd C d o.o μ g h c v h' c' := by
    intro d v h' c' hw
    cases hoo : o.o <;> rw [hoo] at ho hw <;> first
      | exact hw
      | (rename_i q; have hq := mk4_cls q; omega)
      | (simp [KO.cls] at ho; done)
  unfold Sd at *
  cases hg : o.g with
  | none => rw [hg] at hw; exact w hw
  | some tw =>
    rw [hg] at hw
    obtain ⟨x, h1, h2, h3⟩ := hw
    exact ⟨x, h1, fun e => w (h2 e), h3⟩
/-- What is read of the heap. -/
def AV.rf : AV → Rid → Nat → Prop
  | .ptr o v _ _, o', v' => o' = o ∧ v' = v
  | .sl o v _ _ _, o', v' => o' = o ∧ v' = v
  | _, _, _ => False
def KO.rf (g : Slots) (k : KO) (o : Rid) (v : Nat) : Prop := match k with
  | .load _ _ x | .nilck x | .conv _ x | .slc _ x _ _ _ | .fld _ x | .idx _ x _ | .idxa _ _ x _ | .slca _ _ x _ _ | .len _ x | .cap x => (ev g x).rf o v
  | .eqt _ _ x y | .eqn _ x y => (ev g x).rf o v ∨ (ev g y).rf o v
  | _ => False
theorem kv_congr {y : KO} (hy : y.cls = 1) {g : Slots} {h h3 : Heap} (hc : ∀ o v, y.rf g o v → cur h3 o v = cur h o v) : kv h3 g y = kv h g y := by
  cases y <;> simp only [KO.cls] at hy <;> first | (omega; done) | (rename_i q; have hq := mk4_cls q; simp only [KO.cls] at hq; omega) | skip
  case load a n x => simp only [kv]; cases hx : ev g x <;> simp only [loadF]; rename_i o v e c; rw [hc o v (by simp [KO.rf, hx, AV.rf])]
  case nilck x => simp only [kv]; cases hx : ev g x <;> simp only [nilckF]; rename_i o v e c; rw [hc o v (by simp [KO.rf, hx, AV.rf])]
  case conv k x => simp only [kv]; cases hx : ev g x <;> cases k <;> simp only [convF]; rename_i o v e c l; rw [hc o v (by simp [KO.rf, hx, AV.rf])]
  case slc z x a b m => simp only [kv]; cases hx : ev g x <;> simp only [slcF]; rename_i o v e c l; rw [hc o v (by simp [KO.rf, hx, AV.rf])]
  case fld n x => simp only [kv]; cases hx : ev g x <;> simp only [fldF]; rename_i o v e c; rw [hc o v (by simp [KO.rf, hx, AV.rf])]
  case idx z x i => simp only [kv]; cases hx : ev g x <;> cases hi : ev g i <;> simp only [idxF]; rename_i o v e c l _ _; rw [hc o v (by simp [KO.rf, hx, AV.rf])]
  case idxa n z x i => simp only [kv]; cases hx : ev g x <;> cases hi : ev g i <;> simp only [idxaF]; rename_i o v e c _ _; rw [hc o v (by simp [KO.rf, hx, AV.rf])]
  case slca n z x a b =>
    simp only [kv]; cases hx : ev g x <;> simp only [slcaF]; rename_i o v e c
    cases e <;> cases c <;> simp only [slcaF]; rw [hc o v (by simp [KO.rf, hx, AV.rf])]
  case len b x => simp only [kv]; cases hx : ev g x <;> cases b <;> simp only [lenF]; rename_i o v e c l; rw [hc o v (by simp [KO.rf, hx, AV.rf])]
  case cap x => simp only [kv]; cases hx : ev g x <;> simp only [capF]; rename_i o v e c l; cases l <;> simp only [capF]; rw [hc o v (by simp [KO.rf, hx, AV.rf])]
  case eqt k b x y =>
    simp only [kv]
    cases hx : ev g x <;> cases hy : ev g y <;> cases k <;> simp only [eqtF] <;> (try rfl)
    all_goals first
      | (rename_i o v _ _; rw [hc o v (by simp [KO.rf, hx, hy, AV.rf])]; done)
      | (rename_i o v _ _ _; rw [hc o v (by simp [KO.rf, hx, hy, AV.rf])]; done)
  case eqn b x y =>
    simp only [kv]
    cases hx : ev g x <;> cases hy : ev g y <;> simp only [eqtF] <;> (try rfl)
    all_goals first
      | (rename_i o v _ _ _; rw [hc o v (by simp [KO.rf, hx, hy, AV.rf])]; done)
theorem kv_live {y : KO} (hy : y.cls = 1) {g : Slots} {h : Heap} {p : PV} (hk : kv h g y = p) (hp : p ≠ none) : ∀ o v, y.rf g o v → cur h o v ≠ none := by
  intro o v hr hn
  apply hp
  rw [← hk]
  cases y <;> simp only [KO.cls] at hy <;> first | (omega; done) | (rename_i q; have hq := mk4_cls q; simp only [KO.cls] at hq; omega) | skip
  all_goals simp only [KO.rf] at hr
  case load a n x => simp only [kv]; cases hx : ev g x <;> rw [hx] at hr <;> simp only [AV.rf] at hr <;> obtain ⟨rfl, rfl⟩ := hr <;> simp [loadF, hn]
  case nilck x => simp only [kv]; cases hx : ev g x <;> rw [hx] at hr <;> simp only [AV.rf] at hr <;> obtain ⟨rfl, rfl⟩ := hr <;> simp [nilckF, hn]
  case conv k x => simp only [kv]; cases hx : ev g x <;> rw [hx] at hr <;> simp only [AV.rf] at hr <;> obtain ⟨rfl, rfl⟩ := hr <;> cases k <;> simp [convF, hn]
  case slc z x a b m => simp only [kv]; cases hx : ev g x <;> rw [hx] at hr <;> simp only [AV.rf] at hr <;> obtain ⟨rfl, rfl⟩ := hr <;> simp [slcF, hn]
  case fld n x => simp only [kv]; cases hx : ev g x <;> rw [hx] at hr <;> simp only [AV.rf] at hr <;> obtain ⟨rfl, rfl⟩ := hr <;> simp [fldF, hn]
  case idx z x i => simp only [kv]; cases hx : ev g x <;> rw [hx] at hr <;> simp only [AV.rf] at hr <;> obtain ⟨rfl, rfl⟩ := hr <;> cases hi : ev g i <;> simp [idxF, hn]
  case idxa n z x i => simp only [kv]; cases hx : ev g x <;> rw [hx] at hr <;> simp only [AV.rf] at hr <;> obtain ⟨rfl, rfl⟩ := hr <;> cases hi : ev g i <;> simp [idxaF, hn]
  case slca n z x a b => simp only [kv]; cases hx : ev g x <;> rw [hx] at hr <;> simp only [AV.rf] at hr <;> obtain ⟨rfl, rfl⟩ := hr <;> (rename_i e c; cases e <;> cases c <;> simp [slcaF, hn])
  case len b x => simp only [kv]; cases hx : ev g x <;> rw [hx] at hr <;> simp only [AV.rf] at hr <;> obtain ⟨rfl, rfl⟩ := hr <;> cases b <;> simp [lenF, hn]
  case cap x => simp only [kv]; cases hx : ev g x <;> rw [hx] at hr <;> simp only [AV.rf] at hr <;> obtain ⟨rfl, rfl⟩ := hr <;> (rename_i l; cases l <;> simp [capF, hn])
  case eqt k b x y =>
    simp only [kv]
    rcases hr with hr | hr
    · cases hx : ev g x <;> rw [hx] at hr <;> simp only [AV.rf] at hr <;> obtain ⟨rfl, rfl⟩ := hr <;> cases hy : ev g y <;> cases k <;> simp [eqtF, hn]
    · cases hy : ev g y <;> rw [hy] at hr <;> simp only [AV.rf] at hr <;> obtain ⟨rfl, rfl⟩ := hr <;> cases hx : ev g x <;> cases k <;> simp [eqtF, hn]
  case eqn b x y =>
    simp only [kv]
    rcases hr with hr | hr
    · cases hx : ev g x <;> rw [hx] at hr <;> simp only [AV.rf] at hr <;> obtain ⟨rfl, rfl⟩ := hr <;> cases hy : ev g y <;> simp [eqtF, hn]
    · cases hy : ev g y <;> rw [hy] at hr <;> simp only [AV.rf] at hr <;> obtain ⟨rfl, rfl⟩ := hr <;> cases hx : ev g x <;> simp [eqtF, hn]
theorem Wd_1 {d : Option Nat} {y : KO} (hy : y.cls = 1) {ν : Nat} {g : Slots} {h : Heap} {c : Nat} {v : AV} {h' : Heap} {c' : Nat} : Wd C d y ν g h c v h' c' ↔ ∃ p, kv h g y = some (p, v) ∧ p ∧ h' = h ∧ c' = c := by
  cases y <;> first
    | exact Iff.rfl
    | (rename_i q; have hq := mk4_cls q; omega)
    | (simp [KO.cls] at hy; done)
/-- Read in two heaps that are alike but for one object, whose version differs: then it is read in any such heap. -/
theorem Sd_local {y : KOp} (hy : y.o.cls = 1) {ν μ : Nat} {g : Slots} {h h3 : Heap} {o : Rid} {b1 b2 : Ob} {c c2 c3 : Nat} {v1 v2 : AV} {a1 a2 : Heap} {e1 e2 : Nat} (hb : b1.ver ≠ b2.ver) (h1 : Sd C y ν g (hup h o b1) c v1 a1 e1) (h2 : Sd C y μ g (hup h o b2) c2 v2 a2 e2)
    (ha : ∀ u, u ≠ o → h3 u = h u) : Sd C y μ g h3 c3 v1 h3 c3 := by
  have w : Wd C y.d y.o ν g (hup h o b1) c v1 a1 e1 → Wd C y.d y.o μ g (hup h o b2) c2 v2 a2 e2 → Wd C y.d y.o μ g h3 c3 v1 h3 c3 := by
    intro h1 h2
    obtain ⟨p, q1, q2, _, _⟩ := (Wd_1 hy).1 h1
    obtain ⟨p', q1', _, _, _⟩ := (Wd_1 hy).1 h2
    have l1 := kv_live hy q1 (by simp)
    have l2 := kv_live hy q1' (by simp)
    refine (Wd_1 hy).2 ⟨p, ?_, q2, rfl, rfl⟩
    rw [← q1]
    refine kv_congr hy fun u vv hr => ?_
    have hu : u ≠ o := by
      intro hu; subst hu
      have m1 := l1 u vv hr
      have m2 := l2 u vv hr
      unfold cur at m1 m2
      rw [hup_at, if_pos rfl] at m1 m2
      simp only at m1 m2
      by_cases x1 : b1.ver = vv
      · by_cases x2 : b2.ver = vv
        · exact hb (x1.trans x2.symm)
        · rw [if_neg x2] at m2; exact m2 rfl
      · rw [if_neg x1] at m1; exact m1 rfl
    unfold cur; rw [ha u hu, hup_at, if_neg hu]
  unfold Sd at *
  cases hg : y.g with
  | none => rw [hg] at h1 h2; exact w h1 h2
  | some tw =>
    rw [hg] at h1 h2
    obtain ⟨x, p1, p2, p3⟩ := h1
    obtain ⟨x', p1', p2', p3'⟩ := h2
    rw [p1] at p1'; cases p1'
    exact ⟨x, p1, fun e => w (p2 e) (p2' e), fun e => ⟨(p3 e).1, rfl, rfl⟩⟩
theorem Sd_mono {y : KOp} (hy : y.o.cls = 1) {ν : Nat} {g : Slots} {h h3 : Heap} {c c3 : Nat} {v : AV} {a : Heap} {e : Nat} (h1 : Sd C y ν g h c v a e) (ha : ∀ u, h u ≠ none → h3 u = h u) : Sd C y ν g h3 c3 v h3 c3 := by
  have w : Wd C y.d y.o ν g h c v a e → Wd C y.d y.o ν g h3 c3 v h3 c3 := by
    intro h1
    obtain ⟨p, q1, q2, _, _⟩ := (Wd_1 hy).1 h1
    have l1 := kv_live hy q1 (by simp)
    refine (Wd_1 hy).2 ⟨p, ?_, q2, rfl, rfl⟩
    rw [← q1]
    refine kv_congr hy fun u vv hr => ?_
    have m1 := l1 u vv hr
    have hu : h u ≠ none := by intro hn; unfold cur at m1; rw [hn] at m1; exact m1 rfl
    unfold cur; rw [ha u hu]
  unfold Sd at *
  cases hg : y.g with
  | none => rw [hg] at h1; exact w h1
  | some tw =>
    rw [hg] at h1
    obtain ⟨x, p1, p2, p3⟩ := h1
    exact ⟨x, p1, fun e => w (p2 e), fun e => ⟨(p3 e).1, rfl, rfl⟩⟩
theorem Sd_det {y : KOp} (hy : y.o.cls = 0 ∨ y.o.cls = 1) {ν μ : Nat} {g : Slots} {h : Heap} {c c2 : Nat} {v1 v2 : AV} {a1 a2 : Heap} {e1 e2 : Nat} (h1 : Sd C y ν g h c v1 a1 e1) (h2 : Sd C y μ g h c2 v2 a2 e2) : v1 = v2 := by
  have w : Wd C y.d y.o ν g h c v1 a1 e1 → Wd C y.d y.o μ g h c2 v2 a2 e2 → v1 = v2 := by
    intro h1 h2
    have k : ∀ {ν c v a e}, Wd C y.d y.o ν g h c v a e → ∃ p, kv h g y.o = some (p, v) := by
      intro ν c v a e hw
      cases hoo : y.o <;> rw [hoo] at hy hw <;> first
        | (obtain ⟨p, q1, _⟩ := hw; exact ⟨p, q1⟩)
        | (rename_i q; have hq := mk4_cls q; omega)
        | (simp [KO.cls] at hy; done)
    obtain ⟨p, q1⟩ := k h1
    obtain ⟨p', q2⟩ := k h2
    rw [q1] at q2; simp at q2; exact q2.2
  unfold Sd at *
  cases hg : y.g with
  | none => rw [hg] at h1 h2; exact w h1 h2
  | some tw =>
    rw [hg] at h1 h2
    obtain ⟨x, p1, p2, p3⟩ := h1
    obtain ⟨x', p1', p2', p3'⟩ := h2
    rw [p1] at p1'; cases p1'
    by_cases e : x = tw.2
    · exact w (p2 e) (p2' e)
    · have e2 : x = !tw.2 := by cases x <;> cases h : tw.2 <;> simp_all
      rw [(p3 e2).1, (p3' e2).1]
/-- What makes memory of any version: where, what, and what comes of it. -/
structure Mk (C : Con) (o : KOp) (g : Slots) (ρ : Rid) (ob : Nat → Ob) (val : Nat → AV) : Prop where
  ver : ∀ ν, (ob ν).ver = ν
  go : ∀ ν h c, h ρ = none → Sd C o ν g h c (val ν) (hup h ρ (ob ν)) (c + 1)
  only : ∀ ν h c v h' c', Sd C o ν g h c v h' c' → h ρ = none ∧ v = val ν ∧ h' = hup h ρ (ob ν) ∧ c' = c + 1
theorem Sd_mk {o : KOp} (ho : o.o.cls = 8) {ν : Nat} {g : Slots} {h : Heap} {c : Nat} {v : AV} {h' : Heap} {c' : Nat} (hw : Sd C o ν g h c v h' c') :
    (∃ ρ ob val, Mk C o g ρ ob val) ∨ ((∀ ν h c, Sd C o ν g h c (.tup []) h c) ∧ ∀ ν h c v h' c', Sd C o ν g h c v h' c' → v = .tup [] ∧ h' = h ∧ c' = c) := by
  have w : Wd C o.d o.o ν g h c v h' c' → ∃ ρ, ∃ ob : Nat → Ob, ∃ val : Nat → AV, (∀ ν, (ob ν).ver = ν) ∧ (∀ ν h c, h ρ = none → Wd C o.d o.o ν g h c (val ν) (hup h ρ (ob ν)) (c + 1)) ∧ (∀ ν h c v h' c', Wd C o.d o.o ν g h c v h' c' → h ρ = none ∧ v = val ν ∧ h' = hup h ρ (ob ν) ∧ c' = c + 1) := by
    intro hw
    cases hoo : o.o <;> rw [hoo] at ho hw <;> first | (simp [KO.cls] at ho; done) | skip
    case callc f as =>
      obtain ⟨t, z, es, h1, h2, h3, h4, h5, rfl, rfl, rfl⟩ := hw
      refine ⟨.r t 0, fun ν => { ver := ν, es := es, esz := z }, fun ν => .sl (.r t 0) ν 0 es.length none, fun ν => rfl, fun ν h c hn => ⟨t, z, es, h1, h2, h3, h4, hn, rfl, rfl, rfl⟩, ?_⟩
      rintro ν h c v h' c' ⟨t', z', es', k1, k2, _, _, k5, rfl, rfl, rfl⟩
      rw [h1] at k1; cases k1
      rw [h2] at k2
      simp only [List.cons.injEq, AV.dat.injEq, and_true] at k2
      obtain ⟨rfl, rfl⟩ := k2
      exact ⟨k5, rfl, rfl, rfl⟩
    case mk4 q =>
      obtain ⟨t, p, h1, h2, h3, h4, rfl⟩ := hw
      cases q <;> simp only [KO.cls] at ho <;> simp only [ke] at h2 <;> first | (cases h2; done) | (omega; done) | skip
      case alloc cs =>
        simp only [allocF, Option.some.injEq, Prod.mk.injEq] at h2; obtain ⟨rfl, rfl, rfl, _⟩ := h2
        refine ⟨.l t, fun ν => { ver := ν, es := [cs], esz := cs.length, fixed := true, own := False }, fun ν => .ptr (.l t) ν 0 0, fun ν => rfl, fun ν h c hn => ⟨t, True, h1, rfl, trivial, hn, rfl⟩, ?_⟩
        rintro ν h c v h' c' ⟨t', p', k1, k2, k3, k4, rfl⟩
        rw [h1] at k1; cases k1
        simp only [ke, allocF, Option.some.injEq, Prod.mk.injEq] at k2; obtain ⟨_, rfl, rfl, _⟩ := k2
        exact ⟨k4, rfl, rfl, rfl⟩
      case box x =>
        simp only [boxF, Option.some.injEq, Prod.mk.injEq] at h2; obtain ⟨rfl, rfl, rfl, _⟩ := h2
        refine ⟨.l t, fun ν => { ver := ν, es := [(ev g x).cells], esz := (ev g x).cells.length, fixed := true, own := False }, fun ν => .ptr (.l t) ν 0 0, fun ν => rfl, fun ν h c hn => ⟨t, _, h1, rfl, h3, hn, rfl⟩, ?_⟩
        rintro ν h c v h' c' ⟨t', p', k1, k2, k3, k4, rfl⟩
        rw [h1] at k1; cases k1
        simp only [ke, boxF, Option.some.injEq, Prod.mk.injEq] at k2; obtain ⟨_, rfl, rfl, _⟩ := k2
        exact ⟨k4, rfl, rfl, rfl⟩
      case bslice esz n z ps =>
        simp only [bslF, Option.bind_eq_some_iff, Option.some.injEq, Prod.mk.injEq] at h2
        obtain ⟨cs, hf, rfl, rfl, rfl, _⟩ := h2
        refine ⟨.l t, fun ν => { ver := ν, es := chunk esz n cs, esz := esz, own := NoDat cs }, fun ν => .sl (.l t) ν 0 n (some n), fun ν => rfl, fun ν h c hn => ⟨t, _, h1, by simp only [ke, bslF, hf, Option.bind_some], h3, hn, rfl⟩, ?_⟩
        rintro ν h c v h' c' ⟨t', p', k1, k2, k3, k4, rfl⟩
        rw [h1] at k1; cases k1
        simp only [ke, bslF, hf, Option.bind_some, Option.some.injEq, Prod.mk.injEq] at k2; obtain ⟨_, rfl, rfl, _⟩ := k2
        exact ⟨k4, rfl, rfl, rfl⟩
      case mks esz bytes z l cp =>
        simp only [mksF, Option.bind_eq_some_iff, Option.some.injEq, Prod.mk.injEq] at h2
        obtain ⟨a, hf, b, hf2, rfl, rfl, rfl, _⟩ := h2
        refine ⟨.l t, fun ν => { ver := ν, es := List.replicate a.2.toNat z, esz := esz, own := NoDat z }, fun ν => .sl (.l t) ν 0 a.2.toNat none, fun ν => rfl, fun ν h c hn => ⟨t, _, h1, by simp only [ke, mksF, hf, hf2, Option.bind_some], h3, hn, rfl⟩, ?_⟩
        rintro ν h c v h' c' ⟨t', p', k1, k2, k3, k4, rfl⟩
        rw [h1] at k1; cases k1
        simp only [ke, mksF, hf, hf2, Option.bind_some, Option.some.injEq, Prod.mk.injEq] at k2; obtain ⟨_, rfl, rfl, _⟩ := k2
        exact ⟨k4, rfl, rfl, rfl⟩
  unfold Sd at hw
  cases hg : o.g with
  | none =>
    rw [hg] at hw
    obtain ⟨ρ, ob, val, q1, q2, q3⟩ := w hw
    exact .inl ⟨ρ, ob, val, q1, fun ν h c hn => by unfold Sd; rw [hg]; exact q2 ν h c hn, fun ν h c v h' c' hs => by unfold Sd at hs; rw [hg] at hs; exact q3 ν h c v h' c' hs⟩
  | some tw =>
    rw [hg] at hw
    obtain ⟨x, h1, h2, h3⟩ := hw
    by_cases e : x = tw.2
    · obtain ⟨ρ, ob, val, q1, q2, q3⟩ := w (h2 e)
      have ne : ¬ x = !tw.2 := by rw [e]; cases tw.2 <;> simp
      refine .inl ⟨ρ, ob, val, q1, fun ν h c hn => by unfold Sd; rw [hg]; exact ⟨x, h1, fun _ => q2 ν h c hn, fun e2 => absurd e2 ne⟩, fun ν h c v h' c' hs => ?_⟩
      unfold Sd at hs; rw [hg] at hs
      obtain ⟨x', k1, k2, _⟩ := hs
      rw [h1] at k1; cases k1
      exact q3 ν h c v h' c' (k2 e)
    · have e2 : x = !tw.2 := by cases x <;> cases h : tw.2 <;> simp_all
      refine .inr ⟨fun ν h c => by unfold Sd; rw [hg]; exact ⟨x, h1, fun e3 => absurd e3 e, fun _ => ⟨rfl, rfl, rfl⟩⟩, fun ν h c v h' c' hs => ?_⟩
      unfold Sd at hs; rw [hg] at hs
      obtain ⟨x', k1, _, k3⟩ := hs
      rw [h1] at k1; cases k1
      exact k3 e2
/-- What appends: to which object, what is there then. -/
structure Ap (C : Con) (x : KOp) (g : Slots) (h : Heap) (o : Rid) (ob : Nat → Ob) (val : Nat → AV) : Prop where
  ver : ∀ ν, (ob ν).ver = ν
  at_ : h o ≠ none
  go : ∀ ν h3 c, (∀ u, h u ≠ none → h3 u = h u) → Sd C x ν g h3 c (val ν) (hup h3 o (ob ν)) (c + 1)
  only : ∀ ν c v h' c', Sd C x ν g h c v h' c' → v = val ν ∧ h' = hup h o (ob ν) ∧ c' = c + 1
theorem srcF_live {h h3 : Heap} {esz : Nat} {x : AV} {r : Prop × List (List AV)} (hs : srcF h esz x = some r) (ha : ∀ u, h u ≠ none → h3 u = h u) : srcF h3 esz x = some r := by
  cases x <;> simp only [srcF] at hs ⊢ <;> first | exact hs | skip
  rename_i o v off len cap
  cases hc : cur h o v with
  | none => rw [hc] at hs; cases hs
  | some ob =>
    have h1 : h o ≠ none := by rw [(cur_some hc).1]; simp
    have : cur h3 o v = cur h o v := by unfold cur; rw [ha o h1]
    rw [this]; exact hs
theorem Sd_ap {x : KOp} (hx : x.o.cls = 9) {ν : Nat} {g : Slots} {h : Heap} {c : Nat} {v : AV} {h' : Heap} {c' : Nat} (hw : Sd C x ν g h c v h' c') :
    (∃ o ob val, Ap C x g h o ob val) ∨ ((∀ ν h c, Sd C x ν g h c (.tup []) h c) ∧ ∀ ν h c v h' c', Sd C x ν g h c v h' c' → v = .tup [] ∧ h' = h ∧ c' = c) := by
  have w : Wd C x.d x.o ν g h c v h' c' → ∃ o, ∃ ob : Nat → Ob, ∃ val : Nat → AV, (∀ ν, (ob ν).ver = ν) ∧ h o ≠ none ∧ (∀ ν h3 c, (∀ u, h u ≠ none → h3 u = h u) → Wd C x.d x.o ν g h3 c (val ν) (hup h3 o (ob ν)) (c + 1)) ∧ (∀ ν c v h' c', Wd C x.d x.o ν g h c v h' c' → v = val ν ∧ h' = hup h o (ob ν) ∧ c' = c + 1) := by
    intro hw
    cases hoo : x.o <;> rw [hoo] at hx hw <;> first | (simp [KO.cls] at hx; done) | skip
    rename_i q
    cases q <;> simp only [KO.cls] at hx <;> first | (omega; done) | skip
    rename_i esz bytes z s y
    obtain ⟨t, p, h1, h2, h3, h4, rfl⟩ := hw
    simp only [fr4] at h4
    cases hs : ev g s <;> rw [hs] at h4 <;> simp only [AV.isRef] at h4 <;> try (cases h4; done)
    rename_i o ver off len cap
    simp only [ke, appF, hs, Option.bind_eq_some_iff] at h2
    obtain ⟨⟨px, xs⟩, hsrc, ob, hcu, hif⟩ := h2
    have ho : h o ≠ none := by rw [(cur_some hcu).1]; simp
    by_cases hl : len = ob.es.length
    · rw [if_pos hl] at hif
      simp only [Option.some.injEq, Prod.mk.injEq] at hif
      obtain ⟨rfl, rfl, rfl, _⟩ := hif
      refine ⟨o, fun ν => { ob with ver := ν, es := ob.es ++ xs, own := ob.own ∧ Flat xs }, fun ν => .sl o ν 0 (len + xs.length) none, fun ν => rfl, ho, fun ν h3' c ha => ?_, fun ν c v h' c' => ?_⟩
      · have e1 : cur h3' o ver = some ob := by rw [← hcu]; unfold cur; rw [ha o ho]
        exact ⟨t, _, h1, by simp only [ke, appF, hs, srcF_live hsrc ha, e1, Option.bind_some, if_pos hl], h3, by simp only [fr4, hs, AV.isRef], rfl⟩
      · rintro ⟨t', p', k1, k2, k3, k4, rfl⟩
        rw [h1] at k1; cases k1
        simp only [ke, appF, hs, hsrc, hcu, Option.bind_some, if_pos hl, Option.some.injEq, Prod.mk.injEq] at k2
        obtain ⟨_, rfl, rfl, _⟩ := k2
        exact ⟨rfl, rfl, rfl⟩
    · rw [if_neg hl] at hif
      simp only [Option.some.injEq, Prod.mk.injEq] at hif
      omega
  unfold Sd at hw
  cases hg : x.g with
  | none =>
    rw [hg] at hw
    obtain ⟨o, ob, val, q1, q2, q3, q4⟩ := w hw
    exact .inl ⟨o, ob, val, q1, q2, fun ν h3 c ha => by unfold Sd; rw [hg]; exact q3 ν h3 c ha, fun ν c v h' c' hs => by unfold Sd at hs; rw [hg] at hs; exact q4 ν c v h' c' hs⟩
  | some tw =>
    rw [hg] at hw
    obtain ⟨b, h1, h2, h3⟩ := hw
    by_cases e : b = tw.2
    · obtain ⟨o, ob, val, q1, q2, q3, q4⟩ := w (h2 e)
      have ne : ¬ b = !tw.2 := by rw [e]; cases tw.2 <;> simp
      refine .inl ⟨o, ob, val, q1, q2, fun ν h3 c ha => by unfold Sd; rw [hg]; exact ⟨b, h1, fun _ => q3 ν h3 c ha, fun e2 => absurd e2 ne⟩, fun ν c v h' c' hs => ?_⟩
      unfold Sd at hs; rw [hg] at hs
      obtain ⟨b', k1, k2, _⟩ := hs
      rw [h1] at k1; cases k1
      exact q4 ν c v h' c' (k2 e)
    · have e2 : b = !tw.2 := by cases b <;> cases h : tw.2 <;> simp_all
      refine .inr ⟨fun ν h c => by unfold Sd; rw [hg]; exact ⟨b, h1, fun e3 => absurd e3 e, fun _ => ⟨rfl, rfl, rfl⟩⟩, fun ν h c v h' c' hs => ?_⟩
      unfold Sd at hs; rw [hg] at hs
      obtain ⟨b', k1, _, k3⟩ := hs
      rw [h1] at k1; cases k1
      exact k3 e2
theorem hup_comm {h : Heap} {o u : Rid} {a b : Ob} (hn : o ≠ u) : hup (hup h o a) u b = hup (hup h u b) o a := by
  funext x; unfold hup
  by_cases h1 : x = u
  · subst h1; rw [if_pos rfl, if_neg (fun e => hn e.symm), if_pos rfl]
  · by_cases h2 : x = o
    · subst h2; simp [h1]
    · simp [h1, h2]
/-- What is there stays as it is. -/
def Ext0 (h h3 : Heap) : Prop := ∀ u, h u ≠ none → h3 u = h u
theorem cur_ext {h h3 : Heap} (ha : Ext0 h h3) {o : Rid} {v : Nat} {ob : Ob} (hc : cur h o v = some ob) : cur h3 o v = some ob := by
  have h1 : h o ≠ none := by rw [(cur_some hc).1]; simp
  unfold cur at hc ⊢; rw [ha o h1]; exact hc
theorem exp_ext {h h3 : Heap} (ha : Ext0 h h3) {a : AV} (he : ExpOk h [] a) : expA h3 [] a = expA h [] a ∧ ExpOk h3 [] a := by
  have one : ∀ c : AV, (match c with
      | .sl o v off len _ => match ([] : List Rid).idxOf? o, cur h o v with
        | none, some ob => Pure ob.es ∧ off + len ≤ ob.es.length
        | some _, some _ => True
        | _, none => False
      | .ptr o v _ _ => match ([] : List Rid).idxOf? o, cur h o v with
        | some _, some _ => True
        | _, _ => False
      | c => c.pure = true) → expA h3 [] c = expA h [] c ∧ (match c with
      | .sl o v off len _ => match ([] : List Rid).idxOf? o, cur h3 o v with
        | none, some ob => Pure ob.es ∧ off + len ≤ ob.es.length
        | some _, some _ => True
        | _, none => False
      | .ptr o v _ _ => match ([] : List Rid).idxOf? o, cur h3 o v with
        | some _, some _ => True
        | _, _ => False
      | c => c.pure = true) := by
    intro c hc
    cases c with
    | sl o v off len cap =>
      simp only [List.idxOf?_nil] at hc ⊢
      cases h1 : cur h o v with
      | none => rw [h1] at hc; exact hc.elim
      | some ob => rw [h1] at hc; have h2 := cur_ext ha h1; simp only [expA, List.idxOf?_nil, h1, h2]; exact ⟨trivial, hc⟩
    | ptr o v e c => simp only [List.idxOf?_nil] at hc
    | agg _ => simp [AV.pure] at hc
    | tup _ => simp [AV.pure] at hc
    | fn _ _ => simp [AV.pure] at hc
    | eptr _ _ => simp [AV.pure] at hc
    | _ => exact ⟨by simp [expA], hc⟩
  have list : ∀ l : List AV, (∀ c ∈ l, match c with
      | .sl o v off len _ => match ([] : List Rid).idxOf? o, cur h o v with
        | none, some ob => Pure ob.es ∧ off + len ≤ ob.es.length
        | some _, some _ => True
        | _, none => False
      | .ptr o v _ _ => match ([] : List Rid).idxOf? o, cur h o v with
        | some _, some _ => True
        | _, _ => False
      | c => c.pure = true) → expL h3 [] l = expL h [] l := by
    intro l
    induction l with
    | nil => intro _; simp [expL]
    | cons x r ih => intro hl; rw [expL, expL, (one x (hl x List.mem_cons_self)).1, ih fun b hb => hl b (List.mem_cons_of_mem _ hb)]
  cases a with
  | agg cs => exact ⟨by rw [expA, expA, list cs he], fun c hc => (one c (he c hc)).2⟩
  | tup cs => exact ⟨by rw [expA, expA, list cs he], fun c hc => (one c (he c hc)).2⟩
  | fn f cs => exact ⟨by rw [expA, expA, list cs he], fun c hc => (one c (he c hc)).2⟩
  | sl o v off len cap => exact one _ he
  | ptr o v e c => exact one _ he
  | eptr _ _ => simp [ExpOk, AV.pure] at he

  | _ => exact ⟨by simp [expA], he⟩
theorem expL_ext {h h3 : Heap} (ha : Ext0 h h3) : ∀ {l : List AV}, (∀ a ∈ l, ExpOk h [] a) → expL h3 [] l = expL h [] l
  | [], _ => by simp [expL]
  | a :: r, hl => by rw [expL, expL, (exp_ext ha (hl a List.mem_cons_self)).1, expL_ext ha fun b hb => hl b (List.mem_cons_of_mem _ hb)]
theorem callv_ext {x : KOp} (hx : x.o.cls = 5) {ν : Nat} {g : Slots} {h h3 : Heap} {c c3 : Nat} {v : AV} {a : Heap} {e : Nat} (h1 : Sd C x ν g h c v a e) (ha : Ext0 h h3) : Sd C x ν g h3 c3 v h3 c3 := by
  have w : Wd C x.d x.o ν g h c v a e → Wd C x.d x.o ν g h3 c3 v h3 c3 := by
    intro hw
    cases hoo : x.o <;> rw [hoo] at hx hw <;> first | (simp [KO.cls] at hx; done) | (rename_i q; have hq := mk4_cls q; omega) | skip
    obtain ⟨⟨fid, capt, own, k1, k2, k3, k4, k5⟩, _, _⟩ := hw
    exact ⟨⟨fid, capt, own, k1, by rw [expL_ext ha k4]; exact k2, k3, fun a ha' => (exp_ext ha (k4 a ha')).2, k5⟩, rfl, rfl⟩
  unfold Sd at *
  cases hg : x.g with
  | none => rw [hg] at h1; exact w h1
  | some tw =>
    rw [hg] at h1
    obtain ⟨b, p1, p2, p3⟩ := h1
    exact ⟨b, p1, fun e => w (p2 e), fun e => ⟨(p3 e).1, rfl, rfl⟩⟩
theorem newObs_hup {t c : Nat} {ρ : Rid} {ob : Ob} : ∀ {obs : List Ob} {k : Nat} {h : Heap}, (∀ j, k ≤ j → j < k + obs.length → ρ ≠ .r t j) → newObs t c k obs (hup h ρ ob) = hup (newObs t c k obs h) ρ ob
  | [], k, h, _ => rfl
  | b :: r, k, h, hn => by
    rw [newObs, newObs, hup_comm (hn k (Nat.le_refl _) (by simp)), newObs_hup (fun j h1 h2 => hn j (by omega) (by simp; omega))]
theorem newObs_none {t c : Nat} {u : Rid} : ∀ {obs : List Ob} {k : Nat} {h : Heap}, newObs t c k obs h u = none → h u = none ∧ ∀ j, k ≤ j → j < k + obs.length → u ≠ .r t j
  | [], k, h, hn => ⟨hn, fun j h1 h2 => by simp at h2; omega⟩
  | b :: r, k, h, hn => by
    rw [newObs] at hn
    obtain ⟨h1, h2⟩ := newObs_none hn
    rw [hup_at] at h1
    split at h1
    · cases h1
    · rename_i hne
      refine ⟨h1, fun j h3 h4 => ?_⟩
      by_cases hj : j = k
      · subst hj; exact hne
      · exact h2 j (by omega) (by simp at h4; omega)
theorem Sd_calln {x : KOp} (hx : x.o.cls = 11) {ν : Nat} {g : Slots} {h : Heap} {c : Nat} {v : AV} {h' : Heap} {c' : Nat} (hw : Sd C x ν g h c v h' c') :
    (∃ t obs', h' = newObs t ν 0 obs' h ∧ c' = nclk c [] obs' ∧ (∀ j, j < obs'.length → h (.r t j) = none) ∧ ∀ h3 c3, Ext0 h h3 → (∀ j, j < obs'.length → h3 (.r t j) = none) → Sd C x ν g h3 c3 v (newObs t ν 0 obs' h3) (nclk c3 [] obs')) ∨
    (h' = h ∧ c' = c ∧ ∀ h3 c3, Sd C x ν g h3 c3 v h3 c3) := by
  have w : Wd C x.d x.o ν g h c v h' c' → ∃ t obs', h' = newObs t ν 0 obs' h ∧ c' = nclk c [] obs' ∧ (∀ j, j < obs'.length → h (.r t j) = none) ∧ ∀ h3 c3, Ext0 h h3 → (∀ j, j < obs'.length → h3 (.r t j) = none) → Wd C x.d x.o ν g h3 c3 v (newObs t ν 0 obs' h3) (nclk c3 [] obs') := by
    intro hw
    cases hoo : x.o <;> rw [hoo] at hx hw <;> first | (simp [KO.cls] at hx; done) | (rename_i q; cases q <;> simp [KO.cls] at hx; done) | skip
    obtain ⟨t, r, obs', h1, ⟨fid, capt, own, k1, k2, k4, k5⟩, h3, rfl, rfl, rfl⟩ := hw
    exact ⟨t, obs', rfl, rfl, h3, fun h3 c3 ha hn => ⟨t, r, obs', h1, ⟨fid, capt, own, k1, by rw [expL_ext ha k4]; exact k2, fun a ha' => (exp_ext ha (k4 a ha')).2, k5⟩, hn, rfl, rfl, rfl⟩⟩
  unfold Sd at *
  cases hg : x.g with
  | none => rw [hg] at hw; exact .inl (w hw)
  | some tw =>
    rw [hg] at hw
    obtain ⟨b, h1, h2, h3⟩ := hw
    by_cases e : b = tw.2
    · obtain ⟨t, obs', q1, q2, q3, q4⟩ := w (h2 e)
      have ne : ¬ b = !tw.2 := by rw [e]; cases tw.2 <;> simp
      exact .inl ⟨t, obs', q1, q2, q3, fun h5 c5 a1 a2 => ⟨b, h1, fun _ => q4 h5 c5 a1 a2, fun e2 => absurd e2 ne⟩⟩
    · have e2 : b = !tw.2 := by cases b <;> cases h : tw.2 <;> simp_all
      obtain ⟨rfl, rfl, rfl⟩ := h3 e2
      exact .inr ⟨rfl, rfl, fun h5 c5 => ⟨b, h1, fun e3 => absurd e3 e, fun _ => ⟨rfl, rfl, rfl⟩⟩⟩
theorem Sd_ldl {x : KOp} (hx : x.o.cls = 12) {ν : Nat} {g : Slots} {h : Heap} {c : Nat} {v : AV} {h' : Heap} {c' : Nat} (hw : Sd C x ν g h c v h' c') :
    h' = h ∧ c' = c ∧ ∀ μ h2 c2, (∀ t, x.o.lim ≤ t → h (.l t) ≠ none → h2 (.l t) = h (.l t)) → Sd C x μ g h2 c2 v h2 c2 := by
  have w : Wd C x.d x.o ν g h c v h' c' → h' = h ∧ c' = c ∧ ∀ μ h2 c2, (∀ t, x.o.lim ≤ t → h (.l t) ≠ none → h2 (.l t) = h (.l t)) → Wd C x.d x.o μ g h2 c2 v h2 c2 := by
    intro hw
    cases hoo : x.o <;> rw [hoo] at hx hw <;> first | (simp [KO.cls] at hx; done) | (rename_i q; cases q <;> simp [KO.cls] at hx; done) | skip
    case ldl m a n y =>
      obtain ⟨p, h1, h2, rfl, rfl⟩ := hw
      refine ⟨rfl, rfl, fun μ h2' c2 ha => ⟨p, ?_, h2, rfl, rfl⟩⟩
      simp only [kv] at h1 ⊢
      unfold ldA at h1 ⊢
      split at h1
      · next t v' e j ea =>
        split at h1
        · next hm =>
          have : cur h2' (.l t) v' = cur h' (.l t) v' := by
            unfold cur
            cases hh : h' (.l t) with
            | none => simp [loadF, cur, hh] at h1
            | some b => rw [ha t hm (by rw [hh]; simp), hh]
          simp only [hm, if_true]
          simp only [loadF] at h1 ⊢
          rw [this]; exact h1
        · cases h1
      · cases h1
  unfold Sd at *
  cases hg : x.g with
  | none => rw [hg] at hw; exact w hw
  | some tw =>
    rw [hg] at hw
    obtain ⟨b, h1, h2, h3⟩ := hw
    by_cases e : b = tw.2
    · obtain ⟨q1, q2, q3⟩ := w (h2 e)
      have ne : ¬ b = !tw.2 := by rw [e]; cases tw.2 <;> simp
      exact ⟨q1, q2, fun μ h5 c5 ha => ⟨b, h1, fun _ => q3 μ h5 c5 ha, fun e2 => absurd e2 ne⟩⟩
    · have e2 : b = !tw.2 := by cases b <;> cases h : tw.2 <;> simp_all
      obtain ⟨rfl, rfl, rfl⟩ := h3 e2
      exact ⟨rfl, rfl, fun μ h5 c5 _ => ⟨b, h1, fun e3 => absurd e3 e, fun _ => ⟨rfl, rfl, rfl⟩⟩⟩
theorem Sd_stl {i : KOp} (hi : i.o.cls = 13) {ν : Nat} {g : Slots} {h : Heap} {c : Nat} {v : AV} {h' : Heap} {c' : Nat} (hw : Sd C i ν g h c v h' c') (t : Nat) (ht : i.o.lim ≤ t) : h' (.l t) = h (.l t) := by
  have w : Wd C i.d i.o ν g h c v h' c' → h' (.l t) = h (.l t) := by
    intro hw
    cases hoo : i.o <;> rw [hoo] at hi hw <;> first | (simp [KO.cls] at hi; done) | (rename_i q; cases q <;> simp [KO.cls] at hi; done) | skip
    case stl m n y z =>
      rw [hoo] at ht
      obtain ⟨p, h1, h2, rfl, rfl⟩ := hw
      unfold stA at h1
      split at h1
      · next o v' e j ea =>
        split at h1
        · next hm =>
          simp only [storeF, Option.bind_eq_some_iff, Option.some.injEq, Prod.mk.injEq] at h1
          obtain ⟨ob, _, cells, _, _, rfl⟩ := h1
          rw [hup_at, if_neg]
          intro e2; cases e2
          exact absurd ht (by simp only [KO.lim]; omega)
        · cases h1
      · cases h1
  unfold Sd at *
  cases hg : i.g with
  | none => rw [hg] at hw; exact w hw
  | some tw =>
    rw [hg] at hw
    obtain ⟨b, h1, h2, h3⟩ := hw
    by_cases e : b = tw.2
    · exact w (h2 e)
    · have e2 : b = !tw.2 := by cases b <;> cases h : tw.2 <;> simp_all
      rw [(h3 e2).2.1]
/-- Two operations change places. -/
theorem exchange {x i : KOp} (ha : apartK x i = true) {g : Slots} {h : Heap} {c : Nat} {KK : Slots → Heap → Nat → Prop}
    (hT : ∀ ν, ∃ v h1 c1, Sd C x ν g h c v h1 c1 ∧ ∀ μ, ∃ u h2 c2, Sd C i μ (updO g x.d v) h1 c1 u h2 c2 ∧ KK (updO (updO g x.d v) i.d u) h2 c2) :
    ∀ μ, ∃ u h1 c1, Sd C i μ g h c u h1 c1 ∧ ∀ ν, ∃ v h2 c2, Sd C x ν (updO g i.d u) h1 c1 v h2 c2 ∧ KK (updO (updO g i.d u) x.d v) h2 c2 := by
  obtain ⟨a1, a2, a3⟩ := apart_spec ha
  have comm : ∀ v u, updO (updO g x.d v) i.d u = updO (updO g i.d u) x.d v := fun v u => updO_comm (fun s hs => (a1 s hs).2)
  have ri : ∀ v, ∀ t ∈ i.reads, updO g x.d v t = g t := fun v t ht => updO_ne fun hd => (a1 t hd).1 ht
  have rx : ∀ u, ∀ t ∈ x.reads, g t = updO g i.d u t := fun u t ht => (updO_ne fun hd => a2 t hd ht).symm
  intro μ
  by_cases hx8 : x.o.cls < 8
  · obtain ⟨v, h1, c1, s1, hT1⟩ := hT 0
    by_cases hi8 : i.o.cls < 8
    · obtain ⟨u, h2, c2, s2, k⟩ := hT1 0
      obtain ⟨h1', c1', s3, s4⟩ := exchange0 ha hx8 hi8 s1 s2
      rw [comm] at k
      exact ⟨u, h1', c1', Sd_nu hi8 s3, fun ν => ⟨v, h2, c2, Sd_nu hx8 s4, k⟩⟩
    · -- i makes memory, or appends; x touches nothing
      obtain ⟨u, h2, c2, s2, k⟩ := hT1 μ
      rw [comm] at k
      have hxc : x.o.cls = 0 ∨ x.o.cls = 7 ∨ ((x.o.cls = 1 ∨ x.o.cls = 5) ∧ i.o.cls = 8) ∨ (x.o.cls = 3 ∧ i.o.cls = 8) := by omega
      rcases hxc with hxc | hxc | ⟨hxc, hic⟩ | ⟨hxc, hic⟩
      · obtain ⟨rfl, rfl, hf⟩ := Sd_free (.inl hxc) s1
        exact ⟨u, h2, c2, Sd_congr (ri v) s2, fun ν => ⟨v, h2, c2, Sd_nu hx8 (Sd_congr (rx u) (hf h2 c2)), k⟩⟩
      · obtain ⟨rfl, rfl, hf⟩ := Sd_free (.inr hxc) s1
        exact ⟨u, h2, c2, Sd_congr (ri v) s2, fun ν => ⟨v, h2, c2, Sd_nu hx8 (Sd_congr (rx u) (hf h2 c2)), k⟩⟩
      · obtain ⟨rfl, rfl⟩ := Sd_read hxc s1
        have s2' := Sd_congr (ri v) s2
        refine ⟨u, h2, c2, s2', fun ν => ⟨v, h2, c2, Sd_nu (ν := 0) hx8 (Sd_congr (rx u) ?_), k⟩⟩
        refine (show Ext0 h1 h2 → _ from fun hE => hxc.elim (fun q => Sd_mono q s1 hE) (fun q => callv_ext q s1 hE)) fun q hq => ?_
        rcases Sd_mk hic s2' with ⟨ρ, ob, val, M⟩ | ⟨_, M⟩
        · obtain ⟨m1, _, rfl, _⟩ := M.only _ _ _ _ _ _ s2'
          rw [hup_at, if_neg]; intro e; subst e; exact hq m1
        · obtain ⟨_, rfl, _⟩ := M _ _ _ _ _ _ s2'; rfl
      · obtain ⟨rfl, q⟩ := Sd_callh2 hxc s1
        have s2' := Sd_congr (ri v) s2
        rcases Sd_mk hic s2' with ⟨ρ, ob, val, M⟩ | ⟨igo, ionly⟩
        · obtain ⟨m1, rfl, rfl, rfl⟩ := M.only _ _ _ _ _ _ s2'
          rcases q with ⟨os, obs', q1, q2, rfl, q3⟩ | ⟨rfl, q3⟩
          · obtain ⟨n1, n2⟩ := hcall_free q1 q2 m1
            refine ⟨val μ, hup h ρ (ob μ), _, M.go μ h _ n2, fun ν => ⟨v, _, _, Sd_nu (ν := 0) hx8 (Sd_congr (rx _) (q3 (hup h ρ (ob μ)) _ fun o ho => ?_)), ?_⟩⟩
            · rw [hup_at, if_neg (by intro e; subst e; exact n1 ho)]
            · rw [hcall_hup2 q1 n1]; exact k
          · exact ⟨_, _, _, s2', fun ν => ⟨v, _, _, Sd_nu (ν := 0) hx8 (Sd_congr (rx _) (q3 _ _)), k⟩⟩
        · obtain ⟨rfl, rfl, rfl⟩ := ionly _ _ _ _ _ _ s2'
          exact ⟨.tup [], h, _, igo μ h _, fun ν => ⟨v, _, _, Sd_nu (ν := 0) hx8 (Sd_congr (rx _) s1), k⟩⟩
  · have hxc : (x.o.cls = 8 ∨ x.o.cls = 9) ∧ (i.o.cls = 0 ∨ i.o.cls = 1 ∨ i.o.cls = 8) ∨ i.o.cls = 0 ∨ (x.o.cls = 11 ∧ i.o.cls = 8) ∨ (x.o.cls = 12 ∧ (i.o.cls = 3 ∨ i.o.cls = 8 ∨ i.o.cls = 12)) ∨ (x.o.cls = 12 ∧ i.o.cls = 13 ∧ i.o.lim ≤ x.o.lim) := by omega
    by_cases hi0 : i.o.cls = 0
    · -- i knows nothing of the heap
      obtain ⟨v0, h10, c10, s10, hT0⟩ := hT 0
      obtain ⟨u, h20, c20, s20, _⟩ := hT0 μ
      have q := Sd_congr (ri v0) s20
      obtain ⟨_, _, hf⟩ := Sd_free (.inl hi0) q
      refine ⟨u, h, c, hf h c, fun ν => ?_⟩
      obtain ⟨v, h1, c1, s1, hT1⟩ := hT ν
      obtain ⟨u', h2, c2, s2, k⟩ := hT1 μ
      have q2 := Sd_congr (ri v) s2
      obtain ⟨rfl, rfl, hf2⟩ := Sd_free (.inl hi0) q2
      have : u' = u := Sd_det (.inl hi0) (hf2 h c) (hf h c)
      subst this
      rw [comm] at k
      exact ⟨v, h2, c2, Sd_congr (rx u') s1, k⟩
    · obtain ⟨v0, h10, c10, s10, hT0⟩ := hT 0
      by_cases hx12 : x.o.cls = 12
      · obtain ⟨rfl, rfl, hf⟩ := Sd_ldl hx12 s10
        obtain ⟨u, h2, c2, s2, k⟩ := hT0 μ
        have s2' := Sd_congr (ri v0) s2
        rw [comm] at k
        refine ⟨u, h2, c2, s2', fun ν => ⟨v0, h2, c2, Sd_congr (rx u) (hf ν h2 c2 fun t hlt ht => ?_), k⟩⟩
        rcases (by omega : i.o.cls = 3 ∨ i.o.cls = 8 ∨ (i.o.cls = 13 ∧ i.o.lim ≤ x.o.lim) ∨ i.o.cls = 12) with hi3 | hi8 | ⟨hi13, hil⟩ | hi12
        · obtain ⟨_, ⟨os, obs', q1, q2, rfl, _⟩ | ⟨rfl, _⟩⟩ := Sd_callh hi3 s2'
          · have hn : os.idxOf? (.l t) = none := by
              cases hk : os.idxOf? (.l t) with
              | none => rfl
              | some k => have := q2 _ (List.mem_of_getElem? (idx_some hk)); simp [Rid.isL] at this
            unfold hcall
            have e : tgt os 0 obs'.length (.l t) = os.idxOf? (.l t) := rfl
            rw [e, hn]
          · rfl
        · rcases Sd_mk hi8 s2' with ⟨ρ, ob, val, M⟩ | ⟨_, ionly⟩
          · obtain ⟨m1, _, rfl, _⟩ := M.only _ _ _ _ _ _ s2'
            rw [hup_at, if_neg]; intro e; subst e; exact ht m1
          · obtain ⟨_, rfl, _⟩ := ionly _ _ _ _ _ _ s2'; rfl
        · exact Sd_stl hi13 s2' t (by omega)
        · obtain ⟨rfl, _⟩ := Sd_ldl hi12 s2'; rfl
      by_cases hx11 : x.o.cls = 11
      · have hi8 : i.o.cls = 8 := by omega
        obtain ⟨u0, h20, c20, s20, _⟩ := hT0 μ
        have q0 := Sd_congr (ri v0) s20
        have low : h10 = h ∨ ∃ t obs', h10 = newObs t 0 0 obs' h := by
          rcases Sd_calln hx11 s10 with ⟨t, o', h1, _⟩ | ⟨h1, _⟩
          · exact .inr ⟨t, o', h1⟩
          · exact .inl h1
        rcases Sd_mk hi8 q0 with ⟨ρ, obi, vali, M⟩ | ⟨igo, ionly⟩
        · obtain ⟨m1, _, _, _⟩ := M.only _ _ _ _ _ _ q0
          have hρ : h ρ = none := by
            rcases low with rfl | ⟨t, o', rfl⟩
            · exact m1
            · exact (newObs_none m1).1
          refine ⟨vali μ, hup h ρ (obi μ), c + 1, M.go μ h c hρ, fun ν => ?_⟩
          obtain ⟨v, h1, c1, s1, hT2⟩ := hT ν
          obtain ⟨u', h2, c2, s2, k⟩ := hT2 μ
          obtain ⟨m2, rfl, rfl, rfl⟩ := M.only _ _ _ _ _ _ (Sd_congr (ri _) s2)
          rw [comm] at k
          have hE : Ext0 h (hup h ρ (obi μ)) := fun w hw => by rw [hup_at, if_neg]; intro e; subst e; exact hw hρ
          rcases Sd_calln hx11 s1 with ⟨t, o', rfl, rfl, n1, go⟩ | ⟨rfl, rfl, go⟩
          · obtain ⟨_, n2⟩ := newObs_none m2
            have n3 : ∀ j, 0 ≤ j → j < 0 + o'.length → ρ ≠ .r t j := fun j h1 h2 => n2 j h1 h2
            rw [← newObs_hup n3, show nclk c [] o' + 1 = nclk (c + 1) [] o' by unfold nclk; split <;> omega] at k
            refine ⟨v, _, _, Sd_congr (rx _) (go (hup h ρ (obi μ)) (c + 1) hE fun j hj => ?_), k⟩
            rw [hup_at, if_neg (fun e => n3 j (Nat.zero_le _) (by omega) e.symm)]; exact n1 j hj
          · exact ⟨v, _, _, Sd_congr (rx _) (go _ _), k⟩
        · refine ⟨.tup [], h, c, igo μ h c, fun ν => ?_⟩
          obtain ⟨v, h1, c1, s1, hT2⟩ := hT ν
          obtain ⟨u', h2, c2, s2, k⟩ := hT2 μ
          obtain ⟨rfl, rfl, rfl⟩ := ionly _ _ _ _ _ _ (Sd_congr (ri _) s2)
          rw [comm] at k
          exact ⟨v, _, _, Sd_congr (rx _) s1, k⟩
      have hx89 : x.o.cls = 8 ∨ x.o.cls = 9 := by omega
      -- where x works
      have X : (∃ o, ∃ ob : Nat → Ob, ∃ val : Nat → AV, (∀ ν, (ob ν).ver = ν) ∧ (∀ ν h3 c, (∀ u, h u ≠ none → h3 u = h u) → (x.o.cls = 8 → h3 o = none) → Sd C x ν g h3 c (val ν) (hup h3 o (ob ν)) (c + 1)) ∧ (∀ ν c v h' c', Sd C x ν g h c v h' c' → v = val ν ∧ h' = hup h o (ob ν) ∧ c' = c + 1) ∧ (x.o.cls = 8 → h o = none)) ∨
          ((∀ ν h c, Sd C x ν g h c (.tup []) h c) ∧ ∀ ν h c v h' c', Sd C x ν g h c v h' c' → v = .tup [] ∧ h' = h ∧ c' = c) := by
        rcases hx89 with hx | hx
        · rcases Sd_mk hx s10 with ⟨ρ, ob, val, M⟩ | M
          · exact .inl ⟨ρ, ob, val, M.ver, fun ν h3 c _ hn => M.go ν h3 c (hn hx), fun ν c v h' c' hs => (M.only ν h c v h' c' hs).2, fun _ => (M.only _ _ _ _ _ _ s10).1⟩
          · exact .inr M
        · rcases Sd_ap hx s10 with ⟨o, ob, val, M⟩ | M
          · exact .inl ⟨o, ob, val, M.ver, fun ν h3 c h4 _ => M.go ν h3 c h4, M.only, fun h8 => by omega⟩
          · exact .inr M
      rcases X with ⟨o, ob, val, xv, xgo, xonly, xn⟩ | ⟨xgo, xonly⟩
      · by_cases hi1 : i.o.cls = 1
        · obtain ⟨v1, h11, c11, s11, hT1⟩ := hT 1
          obtain ⟨u, h20, c20, s20, _⟩ := hT0 μ
          obtain ⟨u1, h21, c21, s21, _⟩ := hT1 μ
          obtain ⟨_, rfl, _⟩ := xonly _ _ _ _ _ s10
          obtain ⟨_, rfl, _⟩ := xonly _ _ _ _ _ s11
          have q0 := Sd_congr (ri v0) s20
          have q1 := Sd_congr (ri v1) s21
          have loc : ∀ h3 c3, (∀ u, u ≠ o → h3 u = h u) → Sd C i μ g h3 c3 u h3 c3 := fun h3 c3 h4 => Sd_local hi1 (by rw [xv, xv]; decide) q0 q1 h4
          refine ⟨u, h, c, loc h c (fun _ _ => rfl), fun ν => ?_⟩
          obtain ⟨v, h1, c1, s1, hT2⟩ := hT ν
          obtain ⟨u', h2, c2, s2, k⟩ := hT2 μ
          obtain ⟨_, rfl, _⟩ := xonly _ _ _ _ _ s1
          have q2 := Sd_congr (ri v) s2
          obtain ⟨rfl, rfl⟩ := Sd_read (.inl hi1) q2
          have : u' = u := Sd_det (.inr hi1) q2 (loc _ c2 (fun w hw => by rw [hup_at, if_neg hw]))
          subst this
          rw [comm] at k
          exact ⟨v, _, _, Sd_congr (rx u') s1, k⟩
        · have hi8 : i.o.cls = 8 := by omega
          obtain ⟨u0, h20, c20, s20, _⟩ := hT0 μ
          have q0 := Sd_congr (ri v0) s20
          obtain ⟨_, rfl, rfl⟩ := xonly _ _ _ _ _ s10
          rcases Sd_mk hi8 q0 with ⟨ρ, obi, vali, M⟩ | ⟨igo, ionly⟩
          · obtain ⟨m1, _, _, _⟩ := M.only _ _ _ _ _ _ q0
            have hρo : ρ ≠ o := by intro e; subst e; rw [hup_at, if_pos rfl] at m1; cases m1
            have hρ : h ρ = none := by rw [hup_at, if_neg hρo] at m1; exact m1
            refine ⟨vali μ, hup h ρ (obi μ), c + 1, M.go μ h c hρ, fun ν => ?_⟩
            obtain ⟨v, h1, c1, s1, hT2⟩ := hT ν
            obtain ⟨u', h2, c2, s2, k⟩ := hT2 μ
            obtain ⟨rfl, rfl, rfl⟩ := xonly _ _ _ _ _ s1
            obtain ⟨_, rfl, rfl, rfl⟩ := M.only _ _ _ _ _ _ (Sd_congr (ri _) s2)
            rw [comm, hup_comm (fun e => hρo e.symm)] at k
            refine ⟨_, _, _, Sd_congr (rx _) (xgo ν (hup h ρ (obi μ)) (c + 1) (fun q hq => ?_) (fun h8 => ?_)), k⟩
            · rw [hup_at, if_neg]; intro e; subst e; exact hq hρ
            · rw [hup_at, if_neg (fun e => hρo e.symm)]; exact xn h8
          · refine ⟨.tup [], h, c, igo μ h c, fun ν => ?_⟩
            obtain ⟨v, h1, c1, s1, hT2⟩ := hT ν
            obtain ⟨u', h2, c2, s2, k⟩ := hT2 μ
            obtain ⟨rfl, rfl, rfl⟩ := ionly _ _ _ _ _ _ (Sd_congr (ri _) s2)
            rw [comm] at k
            exact ⟨v, _, _, Sd_congr (rx _) s1, k⟩
      · obtain ⟨rfl, rfl, rfl⟩ := xonly _ _ _ _ _ _ s10
        obtain ⟨u, h2, c2, s2, k⟩ := hT0 μ
        rw [comm] at k
        exact ⟨u, h2, c2, Sd_congr (ri _) s2, fun ν => ⟨.tup [], h2, c2, Sd_congr (rx u) (xgo ν h2 c2), k⟩⟩
theorem to_front {i : KOp} (hi : i.plain) {Q : Post} : ∀ (pre post : List KOp), (∀ x ∈ pre, x.plain ∧ apartK x i = true) → ∀ {g : Slots} {h : Heap} {c : Nat}, kops C (pre ++ i :: post) Q g h c → kops C (i :: (pre ++ post)) Q g h c
  | [], post, _, g, h, c, hk => hk
  | x :: pre, post, hp, g, h, c, hk => by
    obtain ⟨hx1, hx2⟩ := hp x List.mem_cons_self
    rw [List.cons_append] at hk
    refine (kops_iff hi).2 fun μ => ?_
    obtain ⟨u, h1, c1, s, k⟩ := exchange (C := C) hx2 (KK := kops C (pre ++ post) Q) (fun ν => by
      obtain ⟨v, h1, c1, s1, hk⟩ := (kops_iff hx1).1 hk ν
      have ih := to_front hi pre post (fun y hy => hp y (List.mem_cons_of_mem _ hy)) hk
      exact ⟨v, h1, c1, s1, (kops_iff hi).1 ih⟩) μ
    refine ⟨u, h1, c1, s, ?_⟩
    rw [List.cons_append]
    exact (kops_iff hx1).2 k
end Go.AM
end
