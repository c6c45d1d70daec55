/- Operations change places. No condition. -/
import Derived.Test.YtpiegccohgdkdaaAmCode3
set_option linter.all false
set_option linter.unusedSimpArgs false
set_option linter.unusedVariables false
set_option linter.deprecated false
namespace Go.AM
variable {P : Program} {C : Con}

theorem ev_congr {g g' : Slots} {x : KV} (hx : ∀ t ∈ x.reads, g t = g' t) : ev g x = ev g' x := by
  cases x <;> first | rfl | exact hx _ (by simp [KV.reads])
theorem evO_congr {g g' : Slots} {x : Option KV} (hx : ∀ t ∈ readsO x, g t = g' t) : x.map (ev g) = x.map (ev g') := by
  cases x with
  | none => rfl
  | some y => simp only [Option.map_some]; rw [ev_congr hx]
theorem evL_congr {g g' : Slots} {xs : List KV} (hx : ∀ t ∈ xs.flatMap KV.reads, g t = g' t) : xs.map (ev g) = xs.map (ev g') :=
  List.map_congr_left fun y hy => ev_congr fun t ht => hx t (List.mem_flatMap.2 ⟨y, hy, ht⟩)

/-- What an operation may come to. -/
def Wd (C : Con) (d : Option Nat) (o : KO) (g : Slots) (h : Heap) (c : Nat) (v : AV) (h' : Heap) (c' : Nat) : Prop :=
  match o with
  | .store n a x => ∃ p, storeF h n (ev g a) (ev g x) = some (p, h') ∧ p ∧ v = .undef ∧ c' = c
  | .call _ _ => False
  | .call0 f as => kcall0 C (ev g f) (as.map (ev g)) v ∧ h' = h ∧ c' = c
  | .callh f as => kcallh C (ev g f) (as.map (ev g)) v h h' ∧ c' = c
  | .alloc .. | .box .. | .bslice .. | .mks .. | .app .. => ∃ t p, d = some t ∧ ke t o g h c = some (p, v, h', c') ∧ p
  | o => ∃ p, kv h g o = some (p, v) ∧ p ∧ h' = h ∧ c' = c
def Sd (C : Con) (o : KOp) (g : Slots) (h : Heap) (c : Nat) (v : AV) (h' : Heap) (c' : Nat) : Prop :=
  match o.g with
  | none => Wd C o.d o.o g h c v h' c'
  | some (t, w) => ∃ x, g t = .b x ∧ (x = w → Wd C o.d o.o g h c v h' c') ∧ (x = !w → v = .undef ∧ h' = h ∧ c' = c)
def KOp.plain (o : KOp) : Prop := ∀ f as, o.o ≠ .call f as

theorem upd_self {g : Slots} {t : Nat} {v : AV} (h : g t = v) : upd g t v = g := by
  funext u; unfold upd; split
  · rename_i e; rw [e, h]
  · rfl

theorem kop_iff {o : KO} (hn : ∀ f as, o ≠ .call f as) {d : Option Nat} {Q : Post} {g : Slots} {h : Heap} {c : Nat} : kop C d o Q g h c ↔ ∃ v h' c', Wd C d o g h c v h' c' ∧ Q (updO g d v) h' c' := by
  cases o
  case call f as => exact absurd rfl (hn f as)
  case store n a x =>
    constructor
    · rintro ⟨p, h', h1, h2, h3⟩; exact ⟨.undef, h', c, ⟨p, h1, h2, rfl, rfl⟩, h3⟩
    · rintro ⟨v, h', c', ⟨p, h1, h2, rfl, rfl⟩, h3⟩; exact ⟨p, h', h1, h2, h3⟩
  case call0 f as =>
    constructor
    · rintro ⟨r, h1, h2⟩; exact ⟨r, h, c, ⟨h1, rfl, rfl⟩, h2⟩
    · rintro ⟨v, h', c', ⟨h1, rfl, rfl⟩, h3⟩; exact ⟨v, h1, h3⟩
  case callh f as =>
    constructor
    · rintro ⟨r, h', h1, h2⟩; exact ⟨r, h', c, ⟨h1, rfl⟩, h2⟩
    · rintro ⟨v, h', c', ⟨h1, rfl⟩, h3⟩; exact ⟨v, h', h1, h3⟩
  all_goals first
    | (constructor
       · rintro ⟨t, p, v, h', c', rfl, h2, h3, h4⟩; exact ⟨v, h', c', ⟨t, p, rfl, h2, h3⟩, h4⟩
       · rintro ⟨v, h', c', ⟨t, p, rfl, h2, h3⟩, h4⟩; exact ⟨t, p, v, h', c', rfl, h2, h3, h4⟩)
    | (constructor
       · rintro ⟨p, v, h1, h2, h3⟩; exact ⟨v, h, c, ⟨p, h1, h2, rfl, rfl⟩, h3⟩
       · rintro ⟨v, h', c', ⟨p, h1, h2, rfl, rfl⟩, h3⟩; exact ⟨p, v, h1, h2, h3⟩)

theorem kops_iff {o : KOp} (hn : o.plain) {r : List KOp} {Q : Post} {g : Slots} {h : Heap} {c : Nat} : kops C (o :: r) Q g h c ↔ ∃ v h' c', Sd C o g h c v h' c' ∧ kops C r Q (updO g o.d v) h' c' := by
  conv => lhs; unfold kops
  unfold Sd
  cases hg : o.g with
  | none => exact kop_iff hn
  | some tw =>
    obtain ⟨t, w⟩ := tw
    constructor
    · rintro ⟨x, hx, h1, h2⟩
      by_cases e : x = w
      · subst e
        have h3 := h1 rfl
        rw [upd_self hx] at h3
        obtain ⟨v, h', c', h4, h5⟩ := (kop_iff hn).1 h3
        exact ⟨v, h', c', ⟨x, hx, fun _ => h4, fun h6 => by cases x <;> simp at h6⟩, h5⟩
      · have e2 : x = !w := by cases x <;> cases w <;> simp_all
        have h3 := h2 e2
        rw [← e2, upd_self hx] at h3
        exact ⟨.undef, h, c, ⟨x, hx, fun h6 => absurd h6 e, fun _ => ⟨rfl, rfl, rfl⟩⟩, h3⟩
    · rintro ⟨v, h', c', ⟨x, hx, h1, h2⟩, h3⟩
      refine ⟨x, hx, fun e => ?_, fun e => ?_⟩
      · subst e
        rw [upd_self hx]
        exact (kop_iff hn).2 ⟨v, h', c', h1 rfl, h3⟩
      · obtain ⟨rfl, rfl, rfl⟩ := h2 e
        rw [← e, upd_self hx]; exact h3

theorem Wd_congr {d : Option Nat} {o : KO} {g g' : Slots} {h : Heap} {c : Nat} {v : AV} {h' : Heap} {c' : Nat} (hx : ∀ t ∈ o.reads, g t = g' t) (hw : Wd C d o g h c v h' c') : Wd C d o g' h c v h' c' := by
  have sp : ∀ {x : KV}, (∀ t ∈ x.reads, t ∈ o.reads) → ev g x = ev g' x := fun hs => ev_congr fun t ht => hx t (hs t ht)
  have spO : ∀ {x : Option KV}, (∀ t ∈ readsO x, t ∈ o.reads) → x.map (ev g) = x.map (ev g') := fun hs => evO_congr fun t ht => hx t (hs t ht)
  have spL : ∀ {x : List KV}, (∀ t ∈ x.flatMap KV.reads, t ∈ o.reads) → x.map (ev g) = x.map (ev g') := fun hs => evL_congr fun t ht => hx t (hs t ht)
  cases o
  case build z ps =>
    have e : ps.map (fun (off, n, x) => (off, n, ev g x)) = ps.map (fun (off, n, x) => (off, n, ev g' x)) := List.map_congr_left fun p hp => by
      show (p.1, p.2.1, ev g p.2.2) = (p.1, p.2.1, ev g' p.2.2)
      rw [show ev g p.2.2 = ev g' p.2.2 from ev_congr fun t ht => hx t (List.mem_flatMap.2 ⟨p, hp, ht⟩)]
    simp only [Wd, kv] at hw ⊢; rw [← e]; exact hw
  case bslice esz n z ps =>
    have e : ps.map (fun (j, x) => (j, ev g x)) = ps.map (fun (j, x) => (j, ev g' x)) := List.map_congr_left fun p hp => by
      show (p.1, ev g p.2) = (p.1, ev g' p.2)
      rw [show ev g p.2 = ev g' p.2 from ev_congr fun t ht => hx t (List.mem_flatMap.2 ⟨p, hp, ht⟩)]
    simp only [Wd, ke] at hw ⊢; rw [← e]; exact hw
  case mm m xs => simp only [Wd, kv] at hw ⊢; rw [← spL (x := xs) (fun t ht => ht)]; exact hw
  case mkf f as => simp only [Wd, kv] at hw ⊢; rw [← spL (x := as) (fun t ht => ht)]; exact hw
  case call0 f as =>
    simp only [Wd] at hw ⊢
    rw [← spL (x := as) (fun t ht => List.mem_append_right _ ht), ← sp (x := f) (fun t ht => List.mem_append_left _ ht)]; exact hw
  case callh f as =>
    simp only [Wd] at hw ⊢
    rw [← spL (x := as) (fun t ht => List.mem_append_right _ ht), ← sp (x := f) (fun t ht => List.mem_append_left _ ht)]; exact hw
  case call f as => exact hw
  case pick a b e =>
    simp only [Wd, kv] at hw ⊢
    rw [← sp (x := a) (fun t ht => by simp [KO.reads, ht]), ← sp (x := b) (fun t ht => by simp [KO.reads, ht]), ← sp (x := e) (fun t ht => by simp [KO.reads, ht])]; exact hw
  case slc esz x lo hi mx =>
    simp only [Wd, kv] at hw ⊢
    rw [← sp (x := x) (fun t ht => by simp [KO.reads, ht]), ← spO (x := lo) (fun t ht => by simp [KO.reads, ht]), ← spO (x := hi) (fun t ht => by simp [KO.reads, ht]), ← spO (x := mx) (fun t ht => by simp [KO.reads, ht])]; exact hw
  case sls x lo hi =>
    simp only [Wd, kv] at hw ⊢
    rw [← sp (x := x) (fun t ht => by simp [KO.reads, ht]), ← spO (x := lo) (fun t ht => by simp [KO.reads, ht]), ← spO (x := hi) (fun t ht => by simp [KO.reads, ht])]; exact hw
  case alloc cs => exact hw
  case bad => exact hw
  case cap x => simp only [Wd, kv] at hw ⊢; exact hw
  case cpy a b c => simp only [Wd, kv] at hw ⊢; exact hw
  case clr a b c => simp only [Wd, kv] at hw ⊢; exact hw
  case store n x y => simp only [Wd] at hw ⊢; rw [← sp (x := x) (fun t ht => List.mem_append_left _ ht), ← sp (x := y) (fun t ht => List.mem_append_right _ ht)]; exact hw
  case bin op x y => simp only [Wd, kv] at hw ⊢; rw [← sp (x := x) (fun t ht => List.mem_append_left _ ht), ← sp (x := y) (fun t ht => List.mem_append_right _ ht)]; exact hw
  case eqt a b x y => simp only [Wd, kv] at hw ⊢; rw [← sp (x := x) (fun t ht => List.mem_append_left _ ht), ← sp (x := y) (fun t ht => List.mem_append_right _ ht)]; exact hw
  case idx a x y => simp only [Wd, kv] at hw ⊢; rw [← sp (x := x) (fun t ht => List.mem_append_left _ ht), ← sp (x := y) (fun t ht => List.mem_append_right _ ht)]; exact hw
  case ids x y => simp only [Wd, kv] at hw ⊢; rw [← sp (x := x) (fun t ht => List.mem_append_left _ ht), ← sp (x := y) (fun t ht => List.mem_append_right _ ht)]; exact hw
  case mks a b z x y => simp only [Wd, ke] at hw ⊢; rw [← sp (x := x) (fun t ht => List.mem_append_left _ ht), ← sp (x := y) (fun t ht => List.mem_append_right _ ht)]; exact hw
  case app a b z x y => simp only [Wd, ke] at hw ⊢; rw [← sp (x := x) (fun t ht => List.mem_append_left _ ht), ← sp (x := y) (fun t ht => List.mem_append_right _ ht)]; exact hw
  case box x => simp only [Wd, ke] at hw ⊢; rw [← sp (x := x) (fun t ht => ht)]; exact hw
  all_goals (rename_i x; simp only [Wd, kv] at hw ⊢; rw [← ev_congr hx]; exact hw)
end Go.AM
