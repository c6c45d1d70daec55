/- Operations change places. No condition. -/
import Derived.Test.YtpiegccohgdkdaaAmCalls
import Derived.StillTail
set_option linter.all false
set_option linter.unusedSimpArgs false
set_option linter.unusedVariables false
set_option linter.deprecated false
/-! Draw1 -/
namespace Go.AM
variable {P : Program} {C : Con}

theorem ev_congr {g g' : Slots} {x : KV} (hx : ∀ t ∈ x.reads, g t = g' t) : ev g x = ev g' x := by
  cases x <;> first | rfl | exact hx _ (by simp [KV.reads])
theorem evO_congr {g g' : Slots} {x : Option KV} (hx : ∀ t ∈ readsO x, g t = g' t) : x.map (ev g) = x.map (ev g') := by
  cases x with
  | none => rfl
  | some y => simp only [Option.map_some]; rw [ev_congr hx]
theorem evL_congr {g g' : Slots} {xs : List KV} (hx : ∀ t ∈ xs.flatMap KV.reads, g t = g' t) : xs.map (ev g) = xs.map (ev g') :=
  List.map_congr_left fun y hy => ev_congr fun t ht => hx t (List.mem_flatMap.2 ⟨y, hy, ht⟩)

/-- What an operation may come to. -/
def Wd (C : Con) (d : Option Nat) (o : KO) (g : Slots) (h : Heap) (c : Nat) (v : AV) (h' : Heap) (c' : Nat) : Prop :=
  match o with
  | .store n a x => ∃ p, storeF h n (ev g a) (ev g x) = some (p, h') ∧ p ∧ v = .undef ∧ c' = c
  | .call _ _ => False
  | .call0 f as => kcall0 C (ev g f) (as.map (ev g)) v ∧ h' = h ∧ c' = c
  | .callh f as => kcallh C (ev g f) (as.map (ev g)) v h h' ∧ c' = c
  | .cpy esz x y => ∃ p, cpyF h esz (ev g x) (ev g y) = some (p, v, h') ∧ p ∧ c' = c
  | .clr esz z x => ∃ p, clrF h esz z (ev g x) = some (p, h') ∧ p ∧ v = .tup [] ∧ c' = c
  | .alloc .. | .box .. | .bslice .. | .mks .. | .app .. | .appz .. => ∃ t p, d = some t ∧ ke t o g h c = some (p, v, h', c') ∧ p
  | o => ∃ p, kv h g o = some (p, v) ∧ p ∧ h' = h ∧ c' = c
def Sd (C : Con) (o : KOp) (g : Slots) (h : Heap) (c : Nat) (v : AV) (h' : Heap) (c' : Nat) : Prop :=
  match o.g with
  | none => Wd C o.d o.o g h c v h' c'
  | some (t, w) => ∃ x, (g t).says w = some x ∧ (x = w → Wd C o.d o.o g h c v h' c') ∧ (x = !w → v = .tup [] ∧ h' = h ∧ c' = c)
def KO.eqn? : KO → Bool | .eqn .. => true | _ => false
def KOp.plain (o : KOp) : Prop := (∀ f as, o.o ≠ .call f as) ∧ o.o.eqn? = false

theorem upd_self {g : Slots} {t : Nat} {v : AV} (h : g t = v) : upd g t v = g := by
  funext u; unfold upd; split
  · rename_i e; rw [e, h]
  · rfl

theorem kop_iff {o : KO} (hn : (∀ f as, o ≠ .call f as) ∧ o.eqn? = false) {d : Option Nat} {Q : Post} {g : Slots} {h : Heap} {c : Nat} : kop C d o Q g h c ↔ ∃ v h' c', Wd C d o g h c v h' c' ∧ Q (updO g d v) h' c' := by
  cases o
  case call f as => exact absurd rfl (hn.1 f as)
  case eqn n x y => exact absurd hn.2 (by simp [KO.eqn?])
  case store n a x =>
    constructor
    · rintro ⟨p, h', h1, h2, h3⟩; exact ⟨.undef, h', c, ⟨p, h1, h2, rfl, rfl⟩, h3⟩
    · rintro ⟨v, h', c', ⟨p, h1, h2, rfl, rfl⟩, h3⟩; exact ⟨p, h', h1, h2, h3⟩
  case call0 f as =>
    constructor
    · rintro ⟨r, h1, h2⟩; exact ⟨r, h, c, ⟨h1, rfl, rfl⟩, h2⟩
    · rintro ⟨v, h', c', ⟨h1, rfl, rfl⟩, h3⟩; exact ⟨v, h1, h3⟩
  case cpy esz x y =>
    constructor
    · rintro ⟨p, r, h', h1, h2, h3⟩; exact ⟨r, h', c, ⟨p, h1, h2, rfl⟩, h3⟩
    · rintro ⟨v, h', c', ⟨p, h1, h2, rfl⟩, h3⟩; exact ⟨p, v, h', h1, h2, h3⟩
  case clr esz z x =>
    constructor
    · rintro ⟨p, h', h1, h2, h3⟩; exact ⟨.tup [], h', c, ⟨p, h1, h2, rfl, rfl⟩, h3⟩
    · rintro ⟨v, h', c', ⟨p, h1, h2, rfl, rfl⟩, h3⟩; exact ⟨p, h', h1, h2, h3⟩
  case callh f as =>
    constructor
    · rintro ⟨r, h', h1, h2⟩; exact ⟨r, h', c, ⟨h1, rfl⟩, h2⟩
    · rintro ⟨v, h', c', ⟨h1, rfl⟩, h3⟩; exact ⟨v, h', h1, h3⟩
  all_goals first
    | (constructor
       · rintro ⟨t, p, v, h', c', rfl, h2, h3, h4⟩; exact ⟨v, h', c', ⟨t, p, rfl, h2, h3⟩, h4⟩
       · rintro ⟨v, h', c', ⟨t, p, rfl, h2, h3⟩, h4⟩; exact ⟨t, p, v, h', c', rfl, h2, h3, h4⟩)
    | (constructor
       · rintro ⟨p, v, h1, h2, h3⟩; exact ⟨v, h, c, ⟨p, h1, h2, rfl, rfl⟩, h3⟩
       · rintro ⟨v, h', c', ⟨p, h1, h2, rfl, rfl⟩, h3⟩; exact ⟨p, v, h1, h2, h3⟩)

theorem kops_iff {o : KOp} (hn : o.plain) {r : List KOp} {Q : Post} {g : Slots} {h : Heap} {c : Nat} : kops C (o :: r) Q g h c ↔ ∃ v h' c', Sd C o g h c v h' c' ∧ kops C r Q (updO g o.d v) h' c' := by
  conv => lhs; unfold kops
  unfold Sd
  cases hg : o.g with
  | none => exact kop_iff hn
  | some tw =>
    obtain ⟨t, w⟩ := tw
    constructor
    · rintro ⟨x, hx, h1, h2⟩
      by_cases e : x = w
      · subst e
        have h3 := h1 rfl
        obtain ⟨v, h', c', h4, h5⟩ := (kop_iff hn).1 h3
        exact ⟨v, h', c', ⟨x, hx, fun _ => h4, fun h6 => by cases x <;> simp at h6⟩, h5⟩
      · have e2 : x = !w := by cases x <;> cases w <;> simp_all
        have h3 := h2 e2
        exact ⟨.tup [], h, c, ⟨x, hx, fun h6 => absurd h6 e, fun _ => ⟨rfl, rfl, rfl⟩⟩, h3⟩
    · rintro ⟨v, h', c', ⟨x, hx, h1, h2⟩, h3⟩
      refine ⟨x, hx, fun e => ?_, fun e => ?_⟩
      · subst e
        exact (kop_iff hn).2 ⟨v, h', c', h1 rfl, h3⟩
      · obtain ⟨rfl, rfl, rfl⟩ := h2 e
        exact h3

theorem Wd_congr {d : Option Nat} {o : KO} {g g' : Slots} {h : Heap} {c : Nat} {v : AV} {h' : Heap} {c' : Nat} (hx : ∀ t ∈ o.reads, g t = g' t) (hw : Wd C d o g h c v h' c') : Wd C d o g' h c v h' c' := by
  have sp : ∀ {x : KV}, (∀ t ∈ x.reads, t ∈ o.reads) → ev g x = ev g' x := fun hs => ev_congr fun t ht => hx t (hs t ht)
  have spO : ∀ {x : Option KV}, (∀ t ∈ readsO x, t ∈ o.reads) → x.map (ev g) = x.map (ev g') := fun hs => evO_congr fun t ht => hx t (hs t ht)
  have spL : ∀ {x : List KV}, (∀ t ∈ x.flatMap KV.reads, t ∈ o.reads) → x.map (ev g) = x.map (ev g') := fun hs => evL_congr fun t ht => hx t (hs t ht)
  cases o
  case build z ps =>
    have e : ps.map (fun (off, n, x) => (off, n, ev g x)) = ps.map (fun (off, n, x) => (off, n, ev g' x)) := List.map_congr_left fun p hp => by
      show (p.1, p.2.1, ev g p.2.2) = (p.1, p.2.1, ev g' p.2.2)
      rw [show ev g p.2.2 = ev g' p.2.2 from ev_congr fun t ht => hx t (List.mem_flatMap.2 ⟨p, hp, ht⟩)]
    simp only [Wd, kv] at hw ⊢; rw [← e]; exact hw
  case bslice esz n z ps =>
    have e : ps.map (fun (j, x) => (j, ev g x)) = ps.map (fun (j, x) => (j, ev g' x)) := List.map_congr_left fun p hp => by
      show (p.1, ev g p.2) = (p.1, ev g' p.2)
      rw [show ev g p.2 = ev g' p.2 from ev_congr fun t ht => hx t (List.mem_flatMap.2 ⟨p, hp, ht⟩)]
    simp only [Wd, ke] at hw ⊢; rw [← e]; exact hw
  case mm m xs => simp only [Wd, kv] at hw ⊢; rw [← spL (x := xs) (fun t ht => ht)]; exact hw
  case mkf f as => simp only [Wd, kv] at hw ⊢; rw [← spL (x := as) (fun t ht => ht)]; exact hw
  case call0 f as =>
    simp only [Wd] at hw ⊢
    rw [← spL (x := as) (fun t ht => List.mem_append_right _ ht), ← sp (x := f) (fun t ht => List.mem_append_left _ ht)]; exact hw
  case callh f as =>
    simp only [Wd] at hw ⊢
    rw [← spL (x := as) (fun t ht => List.mem_append_right _ ht), ← sp (x := f) (fun t ht => List.mem_append_left _ ht)]; exact hw
  case call f as => exact hw
  case pick a b e =>
    simp only [Wd, kv] at hw ⊢
    rw [← sp (x := a) (fun t ht => by simp [KO.reads, ht]), ← sp (x := b) (fun t ht => by simp [KO.reads, ht]), ← sp (x := e) (fun t ht => by simp [KO.reads, ht])]; exact hw
  case slc esz x lo hi mx =>
    simp only [Wd, kv] at hw ⊢
    rw [← sp (x := x) (fun t ht => by simp [KO.reads, ht]), ← spO (x := lo) (fun t ht => by simp [KO.reads, ht]), ← spO (x := hi) (fun t ht => by simp [KO.reads, ht]), ← spO (x := mx) (fun t ht => by simp [KO.reads, ht])]; exact hw
  case sls x lo hi =>
    simp only [Wd, kv] at hw ⊢
    rw [← sp (x := x) (fun t ht => by simp [KO.reads, ht]), ← spO (x := lo) (fun t ht => by simp [KO.reads, ht]), ← spO (x := hi) (fun t ht => by simp [KO.reads, ht])]; exact hw
  case alloc cs => exact hw
  case bad => exact hw
  case cpy a x y => simp only [Wd] at hw ⊢; rw [← sp (x := x) (fun t ht => List.mem_append_left _ ht), ← sp (x := y) (fun t ht => List.mem_append_right _ ht)]; exact hw
  case clr a b x => simp only [Wd] at hw ⊢; rw [← sp (x := x) (fun t ht => ht)]; exact hw
  case store n x y => simp only [Wd] at hw ⊢; rw [← sp (x := x) (fun t ht => List.mem_append_left _ ht), ← sp (x := y) (fun t ht => List.mem_append_right _ ht)]; exact hw
  case bin op x y => simp only [Wd, kv] at hw ⊢; rw [← sp (x := x) (fun t ht => List.mem_append_left _ ht), ← sp (x := y) (fun t ht => List.mem_append_right _ ht)]; exact hw
  case eqt a b x y => simp only [Wd, kv] at hw ⊢; rw [← sp (x := x) (fun t ht => List.mem_append_left _ ht), ← sp (x := y) (fun t ht => List.mem_append_right _ ht)]; exact hw
  case eqn b x y => simp only [Wd, kv] at hw ⊢; rw [← sp (x := x) (fun t ht => List.mem_append_left _ ht), ← sp (x := y) (fun t ht => List.mem_append_right _ ht)]; exact hw
  case idx a x y => simp only [Wd, kv] at hw ⊢; rw [← sp (x := x) (fun t ht => List.mem_append_left _ ht), ← sp (x := y) (fun t ht => List.mem_append_right _ ht)]; exact hw
  case ids x y => simp only [Wd, kv] at hw ⊢; rw [← sp (x := x) (fun t ht => List.mem_append_left _ ht), ← sp (x := y) (fun t ht => List.mem_append_right _ ht)]; exact hw
  case mks a b z x y => simp only [Wd, ke] at hw ⊢; rw [← sp (x := x) (fun t ht => List.mem_append_left _ ht), ← sp (x := y) (fun t ht => List.mem_append_right _ ht)]; exact hw
  case appz a b z x y => simp only [Wd, ke] at hw ⊢; rw [← sp (x := x) (fun t ht => List.mem_append_left _ ht), ← sp (x := y) (fun t ht => List.mem_append_right _ ht)]; exact hw
  case app a b z x y => simp only [Wd, ke] at hw ⊢; rw [← sp (x := x) (fun t ht => List.mem_append_left _ ht), ← sp (x := y) (fun t ht => List.mem_append_right _ ht)]; exact hw
  case box x => simp only [Wd, ke] at hw ⊢; rw [← sp (x := x) (fun t ht => ht)]; exact hw
  all_goals (rename_i x; simp only [Wd, kv] at hw ⊢; rw [← ev_congr hx]; exact hw)
end Go.AM

/-! Draw2 -/
namespace Go.AM
variable {P : Program} {C : Con}

theorem Sd_congr {o : KOp} {g g' : Slots} {h : Heap} {c : Nat} {v : AV} {h' : Heap} {c' : Nat} (hx : ∀ t ∈ o.reads, g t = g' t) (hw : Sd C o g h c v h' c') : Sd C o g' h c v h' c' := by
  unfold Sd KOp.reads at *
  cases hg : o.g with
  | none => rw [hg] at hw; exact Wd_congr (fun t ht => hx t (by simp [ht])) hw
  | some tw =>
    obtain ⟨t, w⟩ := tw
    rw [hg] at hw hx
    obtain ⟨x, h1, h2, h3⟩ := hw
    exact ⟨x, by rw [← h1]; exact congrArg _ (hx t (by simp)).symm, fun e => Wd_congr (fun t ht => hx t (by simp [ht])) (h2 e), h3⟩

theorem Wd_free {d : Option Nat} {o : KO} (ho : o.cls = 0) {g : Slots} {h : Heap} {c : Nat} {v : AV} {h' : Heap} {c' : Nat} (hw : Wd C d o g h c v h' c') : h' = h ∧ c' = c ∧ ∀ h2 c2, Wd C d o g h2 c2 v h2 c2 := by
  cases o <;> first
    | (simp [KO.cls] at ho; done)
    | (obtain ⟨p, h1, h2, rfl, rfl⟩ := hw; exact ⟨rfl, rfl, fun h2' c2 => ⟨p, h1, h2, rfl, rfl⟩⟩)
    | (obtain ⟨h1, rfl, rfl⟩ := hw; exact ⟨rfl, rfl, fun h2 c2 => ⟨h1, rfl, rfl⟩⟩)
theorem Wd_read {d : Option Nat} {o : KO} (ho : o.cls = 1) {g : Slots} {h : Heap} {c : Nat} {v : AV} {h' : Heap} {c' : Nat} (hw : Wd C d o g h c v h' c') : h' = h ∧ c' = c := by
  cases o <;> first
    | (simp [KO.cls] at ho; done)
    | (obtain ⟨p, h1, h2, rfl, rfl⟩ := hw; exact ⟨rfl, rfl⟩)
theorem Sd_free {o : KOp} (ho : o.o.cls = 0) {g : Slots} {h : Heap} {c : Nat} {v : AV} {h' : Heap} {c' : Nat} (hw : Sd C o g h c v h' c') : h' = h ∧ c' = c ∧ ∀ h2 c2, Sd C o g h2 c2 v h2 c2 := by
  unfold Sd at *
  cases hg : o.g with
  | none => rw [hg] at hw; exact Wd_free ho hw
  | some tw =>
    obtain ⟨t, w⟩ := tw
    rw [hg] at hw
    obtain ⟨x, h1, h2, h3⟩ := hw
    by_cases e : x = w
    · obtain ⟨q1, q2, q3⟩ := Wd_free ho (h2 e)
      exact ⟨q1, q2, fun h4 c4 => ⟨x, h1, fun _ => q3 h4 c4, fun e2 => by subst e; cases x <;> simp at e2⟩⟩
    · have e2 : x = !w := by cases x <;> cases w <;> simp_all
      obtain ⟨rfl, rfl, rfl⟩ := h3 e2
      exact ⟨rfl, rfl, fun h4 c4 => ⟨x, h1, fun e3 => absurd e3 e, fun _ => ⟨rfl, rfl, rfl⟩⟩⟩
theorem Sd_read {o : KOp} (ho : o.o.cls = 1) {g : Slots} {h : Heap} {c : Nat} {v : AV} {h' : Heap} {c' : Nat} (hw : Sd C o g h c v h' c') : h' = h ∧ c' = c := by
  unfold Sd at *
  cases hg : o.g with
  | none => rw [hg] at hw; exact Wd_read ho hw
  | some tw =>
    obtain ⟨t, w⟩ := tw
    rw [hg] at hw
    obtain ⟨x, h1, h2, h3⟩ := hw
    by_cases e : x = w
    · exact Wd_read ho (h2 e)
    · have e2 : x = !w := by cases x <;> cases w <;> simp_all
      exact ⟨(h3 e2).2.1, (h3 e2).2.2⟩

theorem hcall_same {h : Heap} {os : List Rid} {obs : List Ob} (hl : obs.length = os.length) (t c : Nat) : hcall h os obs t c = hcall h os obs 0 0 := by
  have e : ∀ t u, tgt os t obs.length u = os.idxOf? u := by
    intro t u
    cases u with
    | r t' j => show (if t' = t ∧ os.length + j < obs.length then _ else _) = _; rw [if_neg (by omega)]
    | p _ => rfl
    | l _ => rfl
  funext u
  unfold hcall
  rw [e, e]
  cases hk : os.idxOf? u with
  | none => rfl
  | some k => simp only [(List.getElem?_eq_some_iff.1 (idx_some hk)).1, if_true]
/-- Heaps that are alike, but for what was made here. -/
def Alike (h h2 : Heap) : Prop := ∀ o, o.isL = false → h2 o = h o
theorem cur_alike {h h2 : Heap} (ha : Alike h h2) {o : Rid} (ho : o.isL = false) (v : Nat) : cur h2 o v = cur h o v := by unfold cur; rw [ha o ho]
theorem ExpOk_free {h : Heap} {os : List Rid} {a : AV} (ha : a.free = true) : ExpOk h os a := by
  have one : ∀ c : AV, c.pure = true → (match c with
      | .sl o v off len _ => match os.idxOf? o, cur h o v with
        | none, some ob => Pure ob.es ∧ off + len ≤ ob.es.length
        | some _, some _ => True
        | _, none => False
      | .ptr o v _ _ => match os.idxOf? o, cur h o v with
        | some _, some _ => True
        | _, _ => False
      | c => c.pure = true) := fun c hc => by cases c <;> first | (simp [AV.pure] at hc; done) | exact hc
  cases a with
  | agg cs => exact fun c hc => one c (List.all_eq_true.1 ha c hc)
  | tup cs => exact fun c hc => one c (List.all_eq_true.1 ha c hc)
  | fn f cs => exact fun c hc => one c (List.all_eq_true.1 ha c hc)
  | ptr _ _ _ _ => simp [AV.free, AV.pure] at ha
  | sl _ _ _ _ _ => simp [AV.free, AV.pure] at ha
  | _ => exact ha
theorem expA_free2 {h : Heap} {os : List Rid} {a : AV} (ha : a.free = true) : expA h os a = a := by
  have pure : ∀ x : AV, x.pure = true → expA h os x = x := fun x hx => by cases x <;> first | (simp [AV.pure] at hx; done) | simp [expA]
  have list : ∀ l : List AV, l.all AV.pure = true → expL h os l = l := by
    intro l
    induction l with
    | nil => intro _; simp [expL]
    | cons x r ih => intro hl; simp only [List.all_cons, Bool.and_eq_true] at hl; rw [expL, pure x hl.1, ih hl.2]
  cases a with
  | agg cs => rw [expA, list cs ha]
  | tup cs => rw [expA, list cs ha]
  | fn f cs => rw [expA, list cs ha]
  | _ => exact pure _ ha
theorem kcallh_alike {f : AV} {args : List AV} {r : AV} {h h1 : Heap} (hk : kcallh C f args r h h1) : ∃ os obs', obs'.length = os.length ∧ (∀ o ∈ os, o.isL = false) ∧ h1 = hcall h os obs' 0 0 ∧ ∀ h2, Alike h h2 → kcallh C f args r h2 (hcall h2 os obs' 0 0) := by
  obtain ⟨fid, capt, own, os, obs, obs', k1, k2, k3, k4, k5, k6, k7, k8, k9, k10, k11, k12, k13⟩ := hk
  have hlen : obs.length = os.length := by have := congrArg List.length k3; simpa using this.symm
  refine ⟨os, obs', by omega, k5, k13, fun h2 ha => ?_⟩
  have e1 : ∀ a ∈ args ++ capt, expA h2 os a = expA h os a ∧ ExpOk h2 os a := by
    intro a hm
    obtain ⟨q1, q2⟩ := k7 a hm
    rcases q2 with q2 | q2
    · exact ⟨by rw [expA_free2 q2, expA_free2 q2], ExpOk_free q2⟩
    · cases a with
      | ptr o v e c =>
        have hc := cur_alike ha (k5 o q2) v
        exact ⟨by simp only [expA, hc], by simp only [ExpOk, hc] at q1 ⊢; exact q1⟩
      | sl o v off len cap =>
        have hc := cur_alike ha (k5 o q2) v
        exact ⟨by simp only [expA, hc], by simp only [ExpOk, hc] at q1 ⊢; exact q1⟩
      | _ => exact q2.elim
  have e2 : ∀ l : List AV, (∀ a ∈ l, expA h2 os a = expA h os a) → expL h2 os l = expL h os l := by
    intro l
    induction l with
    | nil => intro _; simp [expL]
    | cons x r ih => intro hl; rw [expL, expL, hl x List.mem_cons_self, ih fun b hb => hl b (List.mem_cons_of_mem _ hb)]
  refine ⟨fid, capt, own, os, obs, obs', k1, by rw [e2 _ fun a hm => (e1 a hm).1]; exact k2, ?_, k4, k5, k6, fun a hm => ⟨(e1 a hm).2, (k7 a hm).2⟩, k8, k9, k10, k11, k12, rfl⟩
  rw [← k3]
  exact List.map_congr_left fun o ho => by rw [ha o (k5 o ho)]
theorem Sd_callh {o : KOp} (ho : o.o.cls = 3) {g : Slots} {h : Heap} {c : Nat} {v : AV} {h' : Heap} {c' : Nat} (hw : Sd C o g h c v h' c') :
    c' = c ∧ ((∃ os obs', obs'.length = os.length ∧ (∀ o ∈ os, o.isL = false) ∧ h' = hcall h os obs' 0 0 ∧ ∀ h2 c2, Alike h h2 → Sd C o g h2 c2 v (hcall h2 os obs' 0 0) c2) ∨ (h' = h ∧ ∀ h2 c2, Sd C o g h2 c2 v h2 c2)) := by
  have w : Wd C o.d o.o g h c v h' c' → c' = c ∧ ∃ os obs', obs'.length = os.length ∧ (∀ o ∈ os, o.isL = false) ∧ h' = hcall h os obs' 0 0 ∧ ∀ h2 c2, Alike h h2 → Wd C o.d o.o g h2 c2 v (hcall h2 os obs' 0 0) c2 := by
    intro hw
    cases hoo : o.o <;> rw [hoo] at ho hw <;> first
      | (simp [KO.cls] at ho; done)
      | (obtain ⟨hk, rfl⟩ := hw
         obtain ⟨os, obs', q1, q2, q3, q4⟩ := kcallh_alike hk
         exact ⟨rfl, os, obs', q1, q2, q3, fun h2 c2 ha => ⟨q4 h2 ha, rfl⟩⟩)
  unfold Sd at *
  cases hg : o.g with
  | none =>
    rw [hg] at hw
    obtain ⟨q1, os, obs', q2, q3, q4, q5⟩ := w hw
    exact ⟨q1, .inl ⟨os, obs', q2, q3, q4, q5⟩⟩
  | some tw =>
    obtain ⟨t, ww⟩ := tw
    rw [hg] at hw
    obtain ⟨x, h1, h2, h3⟩ := hw
    by_cases e : x = ww
    · obtain ⟨q1, os, obs', q2, q3, q4, q5⟩ := w (h2 e)
      exact ⟨q1, .inl ⟨os, obs', q2, q3, q4, fun h4 c4 ha => ⟨x, h1, fun _ => q5 h4 c4 ha, fun e2 => by subst e; cases x <;> simp at e2⟩⟩⟩
    · have e2 : x = !ww := by cases x <;> cases ww <;> simp_all
      obtain ⟨rfl, rfl, rfl⟩ := h3 e2
      exact ⟨rfl, .inr ⟨rfl, fun h4 c4 => ⟨x, h1, fun e3 => absurd e3 e, fun _ => ⟨rfl, rfl, rfl⟩⟩⟩⟩
theorem Sd_make {o : KOp} (ho : o.o.cls = 4) {g : Slots} {h : Heap} {c : Nat} {v : AV} {h' : Heap} {c' : Nat} (hw : Sd C o g h c v h' c') :
    (∃ t ob, h' = hup h (.l t) ob ∧ ∀ h2, Sd C o g h2 c v (hup h2 (.l t) ob) c') ∨ (h' = h ∧ c' = c ∧ ∀ h2 c2, Sd C o g h2 c2 v h2 c2) := by
  have w : Wd C o.d o.o g h c v h' c' → ∃ t ob, h' = hup h (.l t) ob ∧ ∀ h2, Wd C o.d o.o g h2 c v (hup h2 (.l t) ob) c' := by
    intro hw
    cases hoo : o.o <;> rw [hoo] at ho hw <;> first
      | (simp [KO.cls] at ho; done)
      | skip
    case alloc cs =>
      obtain ⟨t, p, hd, hk, hp⟩ := hw
      simp only [ke, allocF, Option.some.injEq, Prod.mk.injEq] at hk
      obtain ⟨rfl, rfl, rfl, rfl⟩ := hk
      exact ⟨t, _, rfl, fun h2 => ⟨t, _, hd, rfl, hp⟩⟩
    case bslice esz n z ps =>
      obtain ⟨t, p, hd, hk, hp⟩ := hw
      simp only [ke, bslF, Option.bind_eq_some_iff, Option.some.injEq, Prod.mk.injEq] at hk
      obtain ⟨cs, hf, rfl, rfl, rfl, rfl⟩ := hk
      exact ⟨t, _, rfl, fun h2 => ⟨t, _, hd, by simp only [ke, bslF, hf, Option.bind_some], hp⟩⟩
    case mks esz bytes z l cp =>
      obtain ⟨t, p, hd, hk, hp⟩ := hw
      simp only [ke, mksF, Option.bind_eq_some_iff, Option.some.injEq, Prod.mk.injEq] at hk
      obtain ⟨a, hf, b, hf2, rfl, rfl, rfl, rfl⟩ := hk
      exact ⟨t, _, rfl, fun h2 => ⟨t, _, hd, by simp only [ke, mksF, hf, hf2, Option.bind_some], hp⟩⟩
  unfold Sd at *
  cases hg : o.g with
  | none =>
    rw [hg] at hw
    exact .inl (w hw)
  | some tw =>
    obtain ⟨t, ww⟩ := tw
    rw [hg] at hw
    obtain ⟨x, h1, h2, h3⟩ := hw
    by_cases e : x = ww
    · obtain ⟨t', ob, q1, q2⟩ := w (h2 e)
      exact .inl ⟨t', ob, q1, fun h4 => ⟨x, h1, fun _ => q2 h4, fun e2 => by subst e; cases x <;> simp at e2⟩⟩
    · have e2 : x = !ww := by cases x <;> cases ww <;> simp_all
      obtain ⟨rfl, rfl, rfl⟩ := h3 e2
      exact .inr ⟨rfl, rfl, fun h4 c4 => ⟨x, h1, fun e3 => absurd e3 e, fun _ => ⟨rfl, rfl, rfl⟩⟩⟩
theorem hup_alike (h : Heap) (t : Nat) (ob : Ob) : Alike h (hup h (.l t) ob) := fun o ho => by
  unfold hup; rw [if_neg]; intro e; subst e; simp [Rid.isL] at ho
theorem hcall_hup {h : Heap} {os : List Rid} {obs : List Ob} (hl : obs.length = os.length) (hos : ∀ o ∈ os, o.isL = false) (t : Nat) (ob : Ob) : hcall (hup h (.l t) ob) os obs 0 0 = hup (hcall h os obs 0 0) (.l t) ob := by
  have e : ∀ u, tgt os 0 obs.length u = os.idxOf? u := by
    intro u
    cases u with
    | r t' j => show (if t' = 0 ∧ os.length + j < obs.length then _ else _) = _; rw [if_neg (by omega)]
    | p _ => rfl
    | l _ => rfl
  funext u
  unfold hcall hup
  rw [e]
  by_cases hu : u = .l t
  · subst hu
    cases hk : os.idxOf? (.l t) with
    | none => simp
    | some k => have := hos _ (List.mem_of_getElem? (idx_some hk)); simp [Rid.isL] at this
  · simp only [hu, if_false, e]

theorem updO_ne {g : Slots} {d : Option Nat} {v : AV} {t : Nat} (hd : d ≠ some t) : updO g d v t = g t := by
  cases d with
  | none => rfl
  | some s => simp only [updO, upd]; rw [if_neg (fun e => hd (by rw [e]))]
theorem updO_comm {g : Slots} {d e : Option Nat} {v u : AV} (hd : ∀ s, d = some s → e ≠ some s) : updO (updO g d v) e u = updO (updO g e u) d v := by
  cases d with
  | none => rfl
  | some s =>
    cases e with
    | none => rfl
    | some t =>
      have : t ≠ s := fun h => hd s rfl (by rw [h])
      funext x
      simp only [updO, upd]
      by_cases h1 : x = t
      · subst h1; rw [if_pos rfl, if_neg this, if_pos rfl]
      · rw [if_neg h1, if_neg h1]

theorem apart_spec {x y : KOp} (h : apartK x y = true) : (∀ s, x.d = some s → s ∉ y.reads ∧ y.d ≠ some s) ∧ (∀ s, y.d = some s → s ∉ x.reads) ∧ (x.o.cls = 0 ∨ y.o.cls = 0 ∨ (x.o.cls = 1 ∧ y.o.cls = 1) ∨ (x.o.cls = 3 ∧ y.o.cls = 4) ∨ (x.o.cls = 4 ∧ y.o.cls = 3)) := by
  simp only [apartK, Bool.and_eq_true, Bool.or_eq_true, beq_iff_eq] at h
  obtain ⟨⟨h1, h2⟩, h3⟩ := h
  refine ⟨fun s hs => ?_, fun s hs => ?_, ?_⟩
  · rw [hs] at h1
    simp at h1
    exact ⟨h1.1, fun e => h1.2 e⟩
  · rw [hs] at h2
    simpa using h2
  · rcases h3 with (((h3 | h3) | h3) | h3) | h3
    · exact .inl h3
    · exact .inr (.inl h3)
    · exact .inr (.inr (.inl h3))
    · exact .inr (.inr (.inr (.inl h3)))
    · exact .inr (.inr (.inr (.inr h3)))

theorem exchange {x i : KOp} (ha : apartK x i = true) {g : Slots} {h h1 h2 : Heap} {c c1 c2 : Nat} {v u : AV} (hx : Sd C x g h c v h1 c1) (hi : Sd C i (updO g x.d v) h1 c1 u h2 c2) :
    ∃ h1' c1', Sd C i g h c u h1' c1' ∧ Sd C x (updO g i.d u) h1' c1' v h2 c2 ∧ updO (updO g x.d v) i.d u = updO (updO g i.d u) x.d v := by
  obtain ⟨a1, a2, a3⟩ := apart_spec ha
  have e := updO_comm (g := g) (v := v) (u := u) (d := x.d) (e := i.d) (fun s hs => (a1 s hs).2)
  have ri : ∀ t ∈ i.reads, updO g x.d v t = g t := fun t ht => updO_ne fun hd => (a1 t hd).1 ht
  have rx : ∀ t ∈ x.reads, g t = updO g i.d u t := fun t ht => (updO_ne fun hd => a2 t hd ht).symm
  have hi' := Sd_congr ri hi
  rcases a3 with a3 | a3 | ⟨a3, a4⟩ | ⟨a3, a4⟩ | ⟨a3, a4⟩
  · obtain ⟨rfl, rfl, hf⟩ := Sd_free a3 hx
    exact ⟨h2, c2, hi', Sd_congr rx (hf h2 c2), e⟩
  · obtain ⟨rfl, rfl, hf⟩ := Sd_free a3 hi'
    exact ⟨h, c, hf h c, Sd_congr rx hx, e⟩
  · obtain ⟨rfl, rfl⟩ := Sd_read a3 hx
    obtain ⟨rfl, rfl⟩ := Sd_read a4 hi'
    exact ⟨_, _, hi', Sd_congr rx hx, e⟩
  · obtain ⟨rfl, q⟩ := Sd_callh a3 hx
    rcases Sd_make a4 hi' with ⟨t, ob, rfl, m1⟩ | ⟨rfl, rfl, m1⟩
    · rcases q with ⟨os, obs', q1, q2, rfl, q3⟩ | ⟨rfl, q3⟩
      · refine ⟨hup h (.l t) ob, c2, m1 h, ?_, e⟩
        have := q3 (hup h (.l t) ob) c2 (hup_alike h t ob)
        rw [hcall_hup q1 q2] at this
        exact Sd_congr rx this
      · exact ⟨_, c2, m1 _, Sd_congr rx (q3 _ _), e⟩
    · exact ⟨h, _, m1 h _, Sd_congr rx hx, e⟩
  · obtain ⟨rfl, q⟩ := Sd_callh a4 hi'
    rcases Sd_make a3 hx with ⟨t, ob, rfl, m1⟩ | ⟨rfl, rfl, m1⟩
    · rcases q with ⟨os, obs', q1, q2, rfl, q3⟩ | ⟨rfl, q3⟩
      · have ha : Alike (hup h (.l t) ob) h := fun o ho => (hup_alike h t ob o ho).symm
        refine ⟨hcall h os obs' 0 0, c, q3 h c ha, ?_, e⟩
        rw [hcall_hup q1 q2]
        exact Sd_congr rx (m1 _)
      · exact ⟨h, c, q3 h c, Sd_congr rx (m1 h), e⟩
    · exact ⟨h2, _, hi', Sd_congr rx (m1 _ _), e⟩

theorem to_front {i : KOp} (hi : i.plain) {Q : Post} : ∀ (pre post : List KOp), (∀ x ∈ pre, x.plain ∧ apartK x i = true) → ∀ {g : Slots} {h : Heap} {c : Nat}, kops C (pre ++ i :: post) Q g h c → kops C (i :: (pre ++ post)) Q g h c
  | [], post, _, g, h, c, hk => hk
  | x :: pre, post, hp, g, h, c, hk => by
    obtain ⟨hx1, hx2⟩ := hp x List.mem_cons_self
    rw [List.cons_append] at hk
    obtain ⟨v, h1, c1, s1, hk⟩ := (kops_iff hx1).1 hk
    have ih := to_front hi pre post (fun y hy => hp y (List.mem_cons_of_mem _ hy)) hk
    obtain ⟨u, h2, c2, s2, hk⟩ := (kops_iff hi).1 ih
    obtain ⟨h1', c1', s3, s4, e⟩ := exchange hx2 s1 s2
    rw [e] at hk
    refine (kops_iff hi).2 ⟨u, h1', c1', s3, ?_⟩
    rw [List.cons_append]
    exact (kops_iff hx1).2 ⟨v, h2, c2, s4, hk⟩
end Go.AM

/-! Draw3 -/
namespace Go.AM
variable {P : Program} {I : Ini} {C : Con} {hint : Nat → Bool}

theorem expA_free {h : Heap} {a : AV} (ha : a.free = true) : expA h [] a = a := by
  have pure : ∀ x : AV, x.pure = true → expA h [] x = x := fun x hx => by cases x <;> first | (simp [AV.pure] at hx; done) | simp [expA]
  have list : ∀ l : List AV, l.all AV.pure = true → expL h [] l = l := by
    intro l
    induction l with
    | nil => intro _; simp [expL]
    | cons x r ih => intro hl; simp only [List.all_cons, Bool.and_eq_true] at hl; rw [expL, pure x hl.1, ih hl.2]
  cases a with
  | agg cs => rw [expA, list cs ha]
  | tup cs => rw [expA, list cs ha]
  | fn f cs => rw [expA, list cs ha]
  | _ => exact pure _ ha
theorem expL_free {h : Heap} : ∀ {l : List AV}, (∀ a ∈ l, a.free = true) → expL h [] l = l
  | [], _ => by simp [expL]
  | a :: r, hl => by rw [expL, expA_free (hl a List.mem_cons_self), expL_free fun b hb => hl b (List.mem_cons_of_mem _ hb)]
theorem expOk_free {h : Heap} {a : AV} (ha : a.free = true) : ExpOk h [] a := by
  have one : ∀ c : AV, c.pure = true → (match c with
      | .sl o v off len _ => match ([] : List Rid).idxOf? o, cur h o v with
        | none, some ob => Pure ob.es ∧ off + len ≤ ob.es.length
        | some _, some _ => True
        | _, none => False
      | .ptr o v _ _ => match ([] : List Rid).idxOf? o, cur h o v with
        | some _, some _ => True
        | _, _ => False
      | c => c.pure = true) := fun c hc => by cases c <;> first | (simp [AV.pure] at hc; done) | exact hc
  cases a with
  | agg cs => exact fun c hc => one c (List.all_eq_true.1 ha c hc)
  | tup cs => exact fun c hc => one c (List.all_eq_true.1 ha c hc)
  | fn f cs => exact fun c hc => one c (List.all_eq_true.1 ha c hc)
  | ptr _ _ _ _ => simp [AV.free, AV.pure] at ha
  | sl _ _ _ _ _ => simp [AV.free, AV.pure] at ha
  | _ => exact ha

theorem kop_undrawn {o : KO} {d : Option Nat} {Q : Post} {g : Slots} {h : Heap} {c : Nat} (hk : kop C d (o.drawn hint) Q g h c) : kop C d o Q g h c := by
  have c0 : ∀ {f : KV} {as : List KV}, kop C d (.call0 f as) Q g h c → kop C d (.call f as) Q g h c := by
    intro f as hk
    obtain ⟨r, ⟨fid, capt, own, h1, h2, h6, h3, h4⟩, h5⟩ := hk
    refine .inl ⟨fid, capt, h1, [], [], own, (fun r' o' => r' = r ∧ o' = []), by rw [expL_free h3]; exact h2, rfl, .nil, fun a ha => expOk_free (h3 a ha), fun _ hb => (by cases hb), h4, fun r' o' he => ?_⟩
    obtain ⟨e1, e2⟩ := he
    subst e1; subst e2
    exact ⟨Nat.le_refl _, fun _ hb => (by cases hb), fun _ _ hb => (by cases hb), by rw [hcall_nil, h6]; exact h5⟩
  have ch : ∀ {f : KV} {as : List KV}, kop C d (.callh f as) Q g h c → kop C d (.call f as) Q g h c := by
    intro f as hk
    obtain ⟨r, h', ⟨fid, capt, own, os, obs, obs', k1, k2, k3, k4, k5, k6, k7, k8, k9, k10, k11, k12, rfl⟩, h5⟩ := hk
    have hlen : obs.length = os.length := by have := congrArg List.length k3; simpa using this.symm
    refine .inl ⟨fid, capt, k1, os, obs, own, (fun r' o' => r' = r ∧ o' = obs'), k2, k3, k4, fun a ha => (k7 a ha).1, k8, k10, fun r' o' he => ?_⟩
    obtain ⟨e1, e2⟩ := he
    subst e1; subst e2
    have e3 : nclk c os o' = c := by unfold nclk; rw [if_neg (by omega)]
    exact ⟨by omega, k9, k11, by rw [hcall_same (by omega), k12, e3]; exact h5⟩
  cases o
  case call f as =>
    cases f with
    | f n =>
      simp only [KO.drawn] at hk
      split at hk
      · exact ch hk
      · exact c0 hk
    | t n => exact c0 hk
    | c v => exact c0 hk
    | bad => exact c0 hk
  case eqn n x y => exact .inl hk
  all_goals exact hk
theorem kops_undrawn {o : KOp} {r : List KOp} {Q : Post} {g : Slots} {h : Heap} {c : Nat} (hk : kops C (o.drawn hint :: r) Q g h c) : kops C (o :: r) Q g h c := by
  unfold kops at *
  have e1 : (o.drawn hint).g = o.g := rfl
  have e2 : (o.drawn hint).d = o.d := rfl
  rw [e1, e2] at hk
  cases hg : o.g with
  | none => rw [hg] at hk; exact kop_undrawn hk
  | some tw =>
    obtain ⟨t, w⟩ := tw
    rw [hg] at hk
    obtain ⟨x, h1, h2, h3⟩ := hk
    exact ⟨x, h1, fun e => kop_undrawn (h2 e), h3⟩
theorem drawn_plain (o : KOp) : (o.drawn hint).plain := by
  refine ⟨fun f as h => ?_, ?_⟩
  · have h2 : o.o.drawn hint = .call f as := h
    unfold KO.drawn at h2
    split at h2
    · split at h2 <;> cases h2
    · cases h2
    · cases h2
    · rename_i h3 _; exact h3 _ _ h2
  · show (o.o.drawn hint).eqn? = false
    cases o.o <;> try rfl
    rename_i f as
    cases f <;> simp only [KO.drawn] <;> first | rfl | (split <;> rfl)

theorem head_ok (hC : ConOk P C) {ops : Array Oper} {o : Oper} {r : List KOp} {Q : Post} {K : Act → World → Prop} {QQ : Exit → Act → World → Prop} (hK : ∀ {g : Slots} {h : Heap} {clk : Nat} {a : Act} {w : World}, Rel I g h clk a w → kops C r Q g h clk → K a w)
    {g : Slots} {h : Heap} {clk : Nat} {a : Act} {w : World} (R : Rel I g h clk a w) (hk : kops C (cop P I.n ops o :: r) Q g h clk) :
    if Region.wanted o (yielded ops a.tmps) = true then o.wp P a w K QQ ∨ (o.asks P a w ∧ LetsOut QQ) else K (a.put o.dst Go.undef) w := by
  have done : ∀ {g h clk a w}, Rel I g h clk a w → kop C (cop P I.n ops o).d (cop P I.n ops o).o (kops C r Q) g h clk → o.wp P a w K QQ := by
    intro g h clk a w R hk
    by_cases hd : o.dst.all (· < I.n) = true
    · have e1 : (cop P I.n ops o).o = co P o.op := by simp only [cop]; rw [if_pos hd]
      rw [e1] at hk
      exact kop_ok hC R hd hk (fun g h clk a w hq R => hK R hq)
    · have e1 : (cop P I.n ops o).o = .bad := by simp only [cop]; rw [if_neg hd]
      rw [e1] at hk
      obtain ⟨p, v, h1, _⟩ := hk
      cases h1
  unfold kops at hk
  cases hgd : o.guard with
  | none =>
    have hw : Region.wanted o (yielded ops a.tmps) = true := by unfold Region.wanted; rw [hgd]
    rw [if_pos hw]
    have e1 : (cop P I.n ops o).g = none := by simp [cop, hgd]
    rw [e1] at hk
    exact .inl (done R hk)
  | some jw =>
    obtain ⟨j, wt⟩ := jw
    have e1 : (cop P I.n ops o).g = some (((ops[j]?).bind (·.dst)).getD I.n, wt) := by simp [cop, hgd]
    rw [e1] at hk
    obtain ⟨x, hx, h1, h2⟩ := hk
    obtain ⟨κ, H, E, hg⟩ := R.st
    have hy := yielded_ok hg R.sz hx
    have hw : Region.wanted o (yielded ops a.tmps) = (x == wt) := by
      unfold Region.wanted; rw [hgd]; exact hy
    rw [hw]
    by_cases hxw : x = wt
    · subst hxw
      simp only [beq_self_eq_true, if_true]
      exact .inl (done R (h1 rfl))
    · have hxn : x = !wt := by cases x <;> cases wt <;> simp_all
      have : (x == wt) = false := by simpa using hxw
      rw [this]
      simp only [Bool.false_eq_true, if_false]
      exact hK (R.putU o.dst) (h2 hxn)

def opAt (P : Program) (hint : Nat → Bool) (n : Nat) (ops : Array Oper) (i : Nat) : KOp := ((((ops.toList.map (cop P n ops)).map (KOp.drawn hint))[i]?).getD ⟨none, none, .bad⟩)
theorem opAt_some {n : Nat} {ops : Array Oper} {i : Nat} {o : Oper} (ho : ops[i]? = some o) : opAt P hint n ops i = (cop P n ops o).drawn hint := by
  unfold opAt
  simp [ho]
theorem opAt_plain {n : Nat} {ops : Array Oper} (i : Nat) : (opAt P hint n ops i).plain := by
  unfold opAt
  cases h : (((ops.toList.map (cop P n ops)).map (KOp.drawn hint))[i]?) with
  | none => exact ⟨fun f as hh => (by cases hh), rfl⟩
  | some o =>
    have := List.mem_of_getElem? h
    simp only [List.mem_map] at this
    obtain ⟨y, _, rfl⟩ := this
    exact drawn_plain y

theorem waits_listed {w : List (List Nat)} {listed : Array Bool} (hcl : ∀ j, listed.getD j false = true → ∀ e ∈ (w[j]?).getD [], listed.getD e false = true) : ∀ (f i x : Nat), waitsT w f i x = true → (∀ e ∈ (w[i]?).getD [], listed.getD e false = true) → listed.getD x false = true
  | 0, i, x, h, _ => by simp [waitsT] at h
  | f + 1, i, x, h, hi => by
    unfold waitsT at h
    rw [List.any_eq_true] at h
    obtain ⟨e, he, h2⟩ := h
    have hl := hi e he
    rw [Bool.or_eq_true] at h2
    rcases h2 with h2 | h2
    · have : e = x := by simpa using h2
      rw [← this]; exact hl
    · exact waits_listed hcl f e x h2 (hcl e hl)

theorem edges_mem {ops : Array Oper} {i : Nat} {o : Oper} (ho : ops[i]? = some o) {e : Nat} : e ∈ ((edges ops)[i]?).getD [] ↔ ∃ ed ∈ o.after, Region.binds .any ed = true ∧ ed.on = e := by
  unfold edges
  simp only [List.getElem?_map, Array.getElem?_toList, ho, Option.map_some, Option.getD_some, List.mem_filterMap, Array.mem_toList_iff]
  constructor
  · rintro ⟨ed, h1, h2⟩
    split at h2
    · rename_i hb; cases h2; exact ⟨ed, h1, hb, rfl⟩
    · cases h2
  · rintro ⟨ed, h1, hb, rfl⟩
    exact ⟨ed, h1, by rw [if_pos hb]⟩

theorem any_ok (hC : ConOk P C) {ops : Array Oper} {Q : Post} {QQ : Exit → Act → World → Prop} (hK : Lands C I Q (QQ .normal))
    (hd : drawOk ((ops.toList.map (cop P I.n ops)).map (KOp.drawn hint)) (edges ops) = true) :
    ∀ (fuel : Nat) (listed : Array Bool) (ord : List Nat) {g : Slots} {h : Heap} {clk : Nat} {a : Act} {w : World}, ord.length = fuel → ord.Pairwise (· < ·) → (∀ i, i ∈ ord ↔ i < ops.size ∧ listed.getD i false = false) → listed.size = ops.size →
      (∀ j, listed.getD j false = true → ∀ e ∈ ((edges ops)[j]?).getD [], listed.getD e false = true) → Rel I g h clk a w → kops C (ord.map (opAt P hint I.n ops)) Q g h clk → wpAny P .any ops QQ fuel listed a w := by
  have hlen : ((ops.toList.map (cop P I.n ops)).map (KOp.drawn hint)).length = ops.size := by simp
  have hall : ∀ i, i < ops.size → (∀ e ∈ ((edges ops)[i]?).getD [], e < i) ∧ ∀ x, x < i → waitsT (edges ops) ops.size i x = true ∨ apartK (opAt P hint I.n ops x) (opAt P hint I.n ops i) = true := by
    intro i hi
    unfold drawOk at hd
    rw [List.all_eq_true] at hd
    have h1 := hd i (by rw [hlen]; exact List.mem_range.2 hi)
    simp only [Bool.and_eq_true, List.all_eq_true, decide_eq_true_eq, List.mem_range, Bool.or_eq_true] at h1
    refine ⟨fun e he => h1.1 e he, fun x hx => ?_⟩
    rcases h1.2 x hx with h2 | h2
    · rw [hlen] at h2; exact .inl h2
    · refine .inr ?_
      unfold opAt
      split at h2
      · rename_i a b ha hb; rw [ha, hb]; exact h2
      · cases h2
  have rdy : ∀ {listed : Array Bool} {i : Nat}, listed.size = ops.size → i ∈ Region.ready .any ops listed → i < ops.size ∧ listed.getD i false = false ∧ ∀ e ∈ ((edges ops)[i]?).getD [], listed.getD e false = true := by
    intro listed i hs hi
    obtain ⟨h1, o, ho, h2⟩ := mem_ready.1 hi
    refine ⟨(Array.getElem?_eq_some_iff.1 ho).1, getD_both h1, fun e he => ?_⟩
    obtain ⟨ed, h3, h4, rfl⟩ := (edges_mem ho).1 he
    exact h2 ed h3 h4
  intro fuel
  induction fuel with
  | zero =>
    intro listed ord g h clk a w hl _ hm hs _ R hk
    have : ord = [] := List.eq_nil_of_length_eq_zero hl
    subst this
    refine ⟨?_, hK _ _ _ _ _ hk R⟩
    cases hr : Region.ready .any ops listed with
    | nil => rfl
    | cons i r =>
      have := rdy hs (i := i) (by rw [hr]; exact List.mem_cons_self)
      exact absurd ((hm i).2 ⟨this.1, this.2.1⟩) (by simp)
  | succ fuel ih =>
    intro listed ord g h clk a w hl hp hm hs hcl R hk
    refine ⟨fun hr => ?_, fun i hi => ?_⟩
    · cases ord with
      | nil => simp at hl
      | cons k r =>
        exfalso
        have hk1 := (hm k).1 List.mem_cons_self
        have hin : k ∈ Region.ready .any ops listed := by
          obtain ⟨o, ho⟩ : ∃ o, ops[k]? = some o := ⟨_, Array.getElem?_eq_getElem hk1.1⟩
          refine mem_ready.2 ⟨getD_in (by omega) hk1.2, o, ho, fun ed hed hb => ?_⟩
          have hlt := (hall k hk1.1).1 ed.on ((edges_mem ho).2 ⟨ed, hed, hb, rfl⟩)
          cases hq : listed.getD ed.on false with
          | true => rfl
          | false =>
            have := (hm ed.on).2 ⟨by omega, hq⟩
            rcases List.mem_cons.1 this with h1 | h1
            · omega
            · have := (List.pairwise_cons.1 hp).1 _ h1; omega
        rw [hr] at hin; cases hin
    · obtain ⟨hi1, hi2, hi3⟩ := rdy hs hi
      obtain ⟨o, ho⟩ : ∃ o, ops[i]? = some o := ⟨_, Array.getElem?_eq_getElem hi1⟩
      obtain ⟨pre, post, rfl⟩ := List.append_of_mem ((hm i).2 ⟨hi1, hi2⟩)
      rw [List.map_append, List.map_cons] at hk
      have hpre : ∀ x ∈ pre, x < i := fun x hx => (List.pairwise_append.1 hp).2.2 x hx i List.mem_cons_self
      have hk2 := to_front (opAt_plain (hint := hint) i) _ _ (fun y hy => by
        obtain ⟨x, hx, rfl⟩ := List.mem_map.1 hy
        refine ⟨opAt_plain x, ?_⟩
        rcases (hall i hi1).2 x (hpre x hx) with h1 | h1
        · have h2 := waits_listed hcl _ _ _ h1 hi3
          have h3 := ((hm x).1 (List.mem_append_left _ hx)).2
          rw [h2] at h3; cases h3
        · exact h1) hk
      rw [opAt_some ho] at hk2
      have hk3 := kops_undrawn hk2
      unfold wpOp
      simp only [ho]
      refine head_ok hC (Q := Q) (fun {g h clk a w} R hk => ?_) R hk3
      refine ih (listed.setIfInBounds i true) (pre ++ post) (by simp at hl ⊢; omega) ?_ (fun j => ?_) (by simpa using hs) (fun j hj e he => ?_) R (by rw [List.map_append]; exact hk)
      · exact List.Pairwise.sublist (by simp) hp
      · have hnd : i ∉ pre ∧ i ∉ post := ⟨fun hx => Nat.lt_irrefl _ (hpre i hx), fun hx => Nat.lt_irrefl _ ((List.pairwise_cons.1 (List.pairwise_append.1 hp).2.1).1 i hx)⟩
        have h1 := hm j
        by_cases hji : i = j
        · subst hji
          constructor
          · intro hx
            rcases List.mem_append.1 hx with h2 | h2
            · exact absurd h2 hnd.1
            · exact absurd h2 hnd.2
          · rintro ⟨_, h2⟩
            have : (listed.setIfInBounds i true).getD i false = true := by
              rw [Array.getD_eq_getD_getElem?, Array.getElem?_setIfInBounds_self_of_lt (by omega)]; rfl
            rw [this] at h2; cases h2
        · rw [getD_set_ne false hji]
          rw [← h1]
          simp only [List.mem_append, List.mem_cons]
          constructor
          · rintro (h2 | h2)
            · exact .inl h2
            · exact .inr (.inr h2)
          · rintro (h2 | h2 | h2)
            · exact .inl h2
            · exact absurd h2.symm hji
            · exact .inr h2
      · by_cases hji : i = j
        · subst hji; exact getD_set_true (hi3 e he)
        · rw [getD_set_ne false hji] at hj
          exact getD_set_true (hcl j hj e he)

theorem Rel.drew {g : Slots} {h : Heap} {clk : Nat} {a : Act} {w : World} (R : Rel I g h clk a w) : Rel I g h clk a { w with drawn := w.drawn + 1 } := by
  obtain ⟨κ, H, E, hg⟩ := R.st
  have E1 : Ext w κ h clk w.drew κ h clk := Ext.same rfl
  exact ⟨R.df, R.sz, κ, H.drew, E.trans E1, fun t => (hg t).ext E1⟩

theorem draw_ok (hC : ConOk P C) (hm : P.follows .mixedOrders = true) {id : Nat} {ops : Array Oper} {Q : Post} {QQ : Exit → Act → World → Prop} (hK : Lands C I Q (QQ .normal)) (hd : drawOk ((ops.toList.map (cop P I.n ops)).map (KOp.drawn hint)) (edges ops) = true)
    {g : Slots} {h : Heap} {clk : Nat} {a : Act} {w : World} (R : Rel I g h clk a w) (hk : kops C ((ops.toList.map (cop P I.n ops)).map (KOp.drawn hint)) Q g h clk) : (Code.region id ops true).wp P QQ a w := by
  refine wp_region_any hm (any_ok hC hK hd ops.size _ (List.range ops.size) (by simp) List.pairwise_lt_range (fun i => ?_) (by simp) (fun j hj => ?_) R.drew ?_)
  · rw [List.mem_range]
    exact ⟨fun hi => ⟨hi, getD_replicate_false _ _⟩, fun hi => hi.1⟩
  · rw [getD_replicate_false] at hj; cases hj
  · have e : (List.range ops.size).map (opAt P hint I.n ops) = (ops.toList.map (cop P I.n ops)).map (KOp.drawn hint) := by
      apply List.ext_getElem?
      intro i
      rw [List.getElem?_map]
      by_cases hi : i < ops.size
      · rw [List.getElem?_range hi, Option.map_some, opAt]
        have : i < ((ops.toList.map (cop P I.n ops)).map (KOp.drawn hint)).length := by simpa using hi
        rw [List.getElem?_eq_getElem this]; rfl
      · rw [List.getElem?_eq_none (by simpa using hi), List.getElem?_eq_none (by simpa using hi)]; rfl
    rw [e]; exact hk
end Go.AM

/-! Code4 -/
namespace Go.AM
variable {P : Program} {I : Ini} {C : Con}

theorem cond_ok {c : Operand} {A B : K} {Q : Ex → Post} {g : Slots} {h : Heap} {clk : Nat} {a : Act} {w : World} (R : Rel I g h clk a w) (hk : kwp C (.cond (cv c) A B) Q g h clk) :
    ∃ x g', a.eval c = .bool x ∧ Rel I g' h clk a w ∧ (x = true → kwp C A Q g' h clk) ∧ (x = false → kwp C B Q g' h clk) := by
  obtain ⟨κ, H, E, hg⟩ := R.st
  have hev : VR w κ h clk (ev g (cv c)) (a.eval c) := ev_ok hg c
  cases c with
  | tmp t =>
    obtain ⟨x, hx, h1, h2⟩ := hk
    have hx' : ev g (cv (.tmp t)) = .b x := hx
    rw [hx'] at hev
    refine ⟨x, upd g t (.b x), hev.of_b, R.slot hx, fun e => ?_, fun e => ?_⟩
    · subst e; exact h1 rfl
    · subst e; exact h2 rfl
  | const v =>
    obtain ⟨x, hx, h1, h2⟩ := hk
    rw [show ev g (cv (.const v)) = .b x from hx] at hev
    exact ⟨x, g, hev.of_b, R, h1, h2⟩
  | func f =>
    obtain ⟨x, hx, _⟩ := hk
    cases hx
  | global f =>
    obtain ⟨x, hx, _⟩ := hk
    cases hx

theorem least_ex (p : Nat → Prop) : ∀ n, p n → ∃ m, p m ∧ ∀ k, p k → m ≤ k := by
  intro n
  induction n using Nat.strongRecOn with
  | _ n ih =>
    intro hn
    by_cases hq : ∃ k, k < n ∧ p k
    · obtain ⟨k, hk, hp⟩ := hq; exact ih k hk hp
    · exact ⟨n, hn, fun k hk => Nat.le_of_not_lt fun hl => hq ⟨k, hl, hk⟩⟩
open Classical in
noncomputable def least (p : Nat → Prop) : Nat := if h : ∃ m, p m ∧ ∀ k, p k → m ≤ k then Classical.choose h else 0
theorem least_spec {p : Nat → Prop} (h : ∃ n, p n) : p (least p) ∧ ∀ k, p k → least p ≤ k := by
  obtain ⟨n, hn⟩ := h
  have h2 := least_ex p n hn
  unfold least
  rw [dif_pos h2]
  exact Classical.choose_spec h2

theorem kwp_ok (hC : ConOk P C) (hmix : P.follows .mixedOrders = true) (hint : Nat → Bool) : ∀ (c : Code), drawsOk (comp P I.n hint c) = true → ∀ {Q : Ex → Post} {QQ : Exit → Act → World → Prop} {g : Slots} {h : Heap} {clk : Nat} {a : Act} {w : World},
    Meets C I Q QQ → Rel I g h clk a w → kwp C (comp P I.n hint c) Q g h clk → c.wp P QQ a w := by
  intro c
  induction c with
  | skip => intro hd Q QQ g h clk a w M R hk; exact wp_skip (M.1 _ _ _ _ _ hk R)
  | region id ops d =>
    intro hd Q QQ g h clk a w M R hk
    have main : drawsOk (if d then K.dreg ((ops.toList.map (cop P I.n ops)).map (KOp.drawn hint)) (edges ops) else .reg (ops.toList.map (cop P I.n ops))) = true → kwp C (if d then K.dreg ((ops.toList.map (cop P I.n ops)).map (KOp.drawn hint)) (edges ops) else .reg (ops.toList.map (cop P I.n ops))) Q g h clk → (Code.region id ops d).wp P QQ a w := by
      intro hd2 hk2
      clear hk hd
      cases d with
      | true => exact draw_ok hC hmix M.1 hd2 R hk2
      | false => exact wp_region_list (kops_ok hC M.1 ops.toList R hk2)
    exact main hd hk
  | seq x y ihx ihy =>
    intro hd Q QQ g h clk a w M R hk
    simp only [comp, drawsOk, Bool.and_eq_true] at hd
    refine wp_seq (ihx hd.1 (Q := Ex.then (kwp C (comp P I.n hint y) Q) Q) ⟨fun g h clk a w hq R => ihy hd.2 M R hq, fun id => M.2.1 id, M.2.2⟩ R hk)
  | cond c x y ihx ihy =>
    intro hd Q QQ g h clk a w M R hk
    obtain ⟨b, g', hb, R', h1, h2⟩ := cond_ok R hk
    simp only [comp, drawsOk, Bool.and_eq_true] at hd
    exact wp_cond_split hb (fun e => ihx hd.1 M R' (h1 e)) (fun e => ihy hd.2 M R' (h2 e))
  | block id x ih =>
    intro hd Q QQ g h clk a w M R hk
    refine wp_block (ih hd (Q := Ex.inBlock id Q) ⟨M.1, fun j g h clk a w hq R => ?_, M.2.2⟩ R hk)
    simp only [Ex.inBlock] at hq
    simp only [Exit.inBlock]
    split at hq
    · rename_i e; rw [if_pos e]; exact M.1 _ _ _ _ _ hq R
    · rename_i e; rw [if_neg e]; exact M.2.1 j _ _ _ _ _ hq R
  | loop x ih =>
    intro hd Q QQ g h clk a w M R hk
    obtain ⟨J, μ, h0, hr⟩ := hk
    let T : Act → World → Nat → Prop := fun a w m => ∃ g h clk, J g h clk ∧ Rel I g h clk a w ∧ μ g h clk = m
    refine wp_loop (fun a w => ∃ m, T a w m) (fun a w => least (T a w)) ⟨_, g, h, clk, h0, R, rfl⟩ fun a w hI => ?_
    obtain ⟨⟨g1, h1, c1, hJ, R1, hm⟩, _⟩ := least_spec hI
    refine ih hd (Q := Ex.then (fun g' h' c' => J g' h' c' ∧ μ g' h' c' < μ g1 h1 c1) Q) ⟨fun g h clk a w hq R => ?_, fun id => M.2.1 id, M.2.2⟩ R1 (hr _ _ _ hJ)
    have hx : T a w (μ g h clk) := ⟨g, h, clk, hq.1, R, rfl⟩
    refine ⟨⟨_, hx⟩, ?_⟩
    rw [← hm]
    exact Nat.lt_of_le_of_lt ((least_spec ⟨_, hx⟩).2 _ hx) hq.2
  | exit id => intro hd Q QQ g h clk a w M R hk; exact wp_exit (M.2.1 id _ _ _ _ _ hk R)
  | ret => intro hd Q QQ g h clk a w M R hk; exact wp_ret (M.2.2 _ _ _ _ _ hk R)
  | _ => intro hd Q QQ g h clk a w M R hk; exact hk.elim
end Go.AM

