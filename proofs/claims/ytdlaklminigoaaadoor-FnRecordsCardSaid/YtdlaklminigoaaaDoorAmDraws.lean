/- Operations change places. No condition. -/
import Derived.Test.YtdlaklminigoaaaDoorAmCalls
import Derived.Test.YtdlaklminigoaaaDoorAmBase
import Derived.StillTail
set_option linter.all false
set_option linter.unusedSimpArgs false
set_option linter.unusedVariables false
set_option linter.deprecated false
/-! Draw1 -/
namespace Go.AM
variable {P : Program} {C : Con}

theorem ev_congr {g g' : Slots} {x : KV} (hx : ∀ t ∈ x.reads, g t = g' t) : ev g x = ev g' x := by
  cases x <;> first | rfl | exact hx _ (by simp [KV.reads])
theorem evO_congr {g g' : Slots} {x : Option KV} (hx : ∀ t ∈ readsO x, g t = g' t) : x.map (ev g) = x.map (ev g') := by
  cases x with
  | none => rfl
  | some y => simp only [Option.map_some]; rw [ev_congr hx]
theorem evL_congr {g g' : Slots} {xs : List KV} (hx : ∀ t ∈ xs.flatMap KV.reads, g t = g' t) : xs.map (ev g) = xs.map (ev g') :=
  List.map_congr_left fun y hy => ev_congr fun t ht => hx t (List.mem_flatMap.2 ⟨y, hy, ht⟩)

/-- What an operation may come to. -/
def Wd (C : Con) (d : Option Nat) (o : KO) (ν : Nat) (g : Slots) (h : Heap) (c : Nat) (v : AV) (h' : Heap) (c' : Nat) : Prop :=
  match o with
  | .mk4 o => ∃ t p, d = some t ∧ ke t o g h ν = some (p, v, h', ν + 1) ∧ p ∧ fr4 t o g h ∧ c' = c + 1
  | .callc f as => ∃ t z es, d = some t ∧ as.map (ev g) = [.dat z es] ∧ C.cp f z es ∧ Pure es ∧ h (.r t 0) = none ∧ v = .sl (.r t 0) ν 0 es.length none ∧ h' = hup h (.r t 0) { ver := ν, es := es, esz := z } ∧ c' = c + 1
  | .store n a x => ∃ p, storeF h n (ev g a) (ev g x) = some (p, h') ∧ p ∧ v = .undef ∧ c' = c
  | .stl m n a x => ∃ p, storeF h n (stA m (ev g a)) (ev g x) = some (p, h') ∧ p ∧ v = .undef ∧ c' = c
  | .call _ _ => False
  | .call0 f as => kcall0 C (ev g f) (as.map (ev g)) v ∧ h' = h ∧ c' = c
  | .calln f as => ∃ t r obs', d = some t ∧ kcalln C (ev g f) (as.map (ev g)) r obs' h ∧ (∀ j, j < obs'.length → h (.r t j) = none) ∧ v = impA t 0 ν r ∧ h' = newObs t ν 0 obs' h ∧ c' = nclk c [] obs'
  | .callv f as => kcallv C (ev g f) (as.map (ev g)) v h ∧ h' = h ∧ c' = c
  | .callh f as => kcallh C (ev g f) (as.map (ev g)) v h h' ∧ c' = c
  | .cpy esz x y => ∃ p, cpyF h esz (ev g x) (ev g y) = some (p, v, h') ∧ p ∧ c' = c
  | .clr esz z x => ∃ p, clrF h esz z (ev g x) = some (p, h') ∧ p ∧ v = .tup [] ∧ c' = c
  | .alloc .. | .box .. | .bslice .. | .mks .. | .app .. | .appz .. => ∃ t p, d = some t ∧ ke t o g h c = some (p, v, h', c') ∧ p
  | o => ∃ p, kv h g o = some (p, v) ∧ p ∧ h' = h ∧ c' = c
def Sd (C : Con) (o : KOp) (ν : Nat) (g : Slots) (h : Heap) (c : Nat) (v : AV) (h' : Heap) (c' : Nat) : Prop :=
  match o.g with
  | none => Wd C o.d o.o ν g h c v h' c'
  | some (t, w) => ∃ x, (g t).says w = some x ∧ (x = w → Wd C o.d o.o ν g h c v h' c') ∧ (x = !w → v = .tup [] ∧ h' = h ∧ c' = c)
def KO.eqn? : KO → Bool | .eqn .. | .gh => true | _ => false
def KOp.plain (o : KOp) : Prop := (∀ f as, o.o ≠ .call f as) ∧ o.o.eqn? = false

theorem upd_self {g : Slots} {t : Nat} {v : AV} (h : g t = v) : upd g t v = g := by
  funext u; unfold upd; split
  · rename_i e; rw [e, h]
  · rfl

theorem kop_iff {o : KO} (hn : (∀ f as, o ≠ .call f as) ∧ o.eqn? = false) {d : Option Nat} {Q : Post} {g : Slots} {h : Heap} {c : Nat} : kop C d o Q g h c ↔ ∀ ν, ∃ v h' c', Wd C d o ν g h c v h' c' ∧ Q (updO g d v) h' c' := by
  cases o
  case call f as => exact absurd rfl (hn.1 f as)
  case eqn n x y => exact absurd hn.2 (by simp [KO.eqn?])
  case gh => exact absurd hn.2 (by simp [KO.eqn?])
  case mk4 o =>
    constructor
    · intro hk ν
      obtain ⟨t, p, val, h', rfl, h2, h3, h4, h5⟩ := hk ν
      exact ⟨val, h', c + 1, ⟨t, p, rfl, h2, h3, h4, rfl⟩, h5⟩
    · intro hk ν
      obtain ⟨v, h', c', ⟨t, p, rfl, h2, h3, h4, rfl⟩, h5⟩ := hk ν
      exact ⟨t, p, v, h', rfl, h2, h3, h4, h5⟩
  case callc f as =>
    constructor
    · rintro ⟨t, z, es, rfl, h2, h3, h4, h5, h6⟩ ν
      exact ⟨_, _, _, ⟨t, z, es, rfl, h2, h3, h4, h5, rfl, rfl, rfl⟩, h6 ν⟩
    · intro hk
      obtain ⟨v, h', c', ⟨t, z, es, rfl, h2, h3, h4, h5, rfl, rfl, rfl⟩, h6⟩ := hk 0
      refine ⟨t, z, es, rfl, h2, h3, h4, h5, fun ν => ?_⟩
      obtain ⟨v, h', c', ⟨t', z', es', e1, e2, _, _, _, rfl, rfl, rfl⟩, h7⟩ := hk ν
      cases e1
      rw [h2] at e2
      simp only [List.cons.injEq, AV.dat.injEq, and_true] at e2
      obtain ⟨rfl, rfl⟩ := e2
      exact h7
  case store n a x =>
    refine Iff.trans (b := ∃ v h' c', Wd C d _ 0 g h c v h' c' ∧ Q (updO g d v) h' c') ?_ ⟨fun h _ => h, fun h => h 0⟩
    constructor
    · rintro ⟨p, h', h1, h2, h3⟩; exact ⟨.undef, h', c, ⟨p, h1, h2, rfl, rfl⟩, h3⟩
    · rintro ⟨v, h', c', ⟨p, h1, h2, rfl, rfl⟩, h3⟩; exact ⟨p, h', h1, h2, h3⟩
  case stl m n a x =>
    refine Iff.trans (b := ∃ v h' c', Wd C d _ 0 g h c v h' c' ∧ Q (updO g d v) h' c') ?_ ⟨fun h _ => h, fun h => h 0⟩
    constructor
    · rintro ⟨p, h', h1, h2, h3⟩; exact ⟨.undef, h', c, ⟨p, h1, h2, rfl, rfl⟩, h3⟩
    · rintro ⟨v, h', c', ⟨p, h1, h2, rfl, rfl⟩, h3⟩; exact ⟨p, h', h1, h2, h3⟩
  case call0 f as =>
    refine Iff.trans (b := ∃ v h' c', Wd C d _ 0 g h c v h' c' ∧ Q (updO g d v) h' c') ?_ ⟨fun h _ => h, fun h => h 0⟩
    constructor
    · rintro ⟨r, h1, h2⟩; exact ⟨r, h, c, ⟨h1, rfl, rfl⟩, h2⟩
    · rintro ⟨v, h', c', ⟨h1, rfl, rfl⟩, h3⟩; exact ⟨v, h1, h3⟩
  case calln f as =>
    constructor
    · intro hk ν
      obtain ⟨t, r, o', rfl, h2, h3, h4⟩ := hk ν
      exact ⟨_, _, _, ⟨t, r, o', rfl, h2, h3, rfl, rfl, rfl⟩, h4⟩
    · intro hk ν
      obtain ⟨v, h', c', ⟨t, r, o', rfl, h2, h3, rfl, rfl, rfl⟩, h4⟩ := hk ν
      exact ⟨t, r, o', rfl, h2, h3, h4⟩
  case callv f as =>
    refine Iff.trans (b := ∃ v h' c', Wd C d _ 0 g h c v h' c' ∧ Q (updO g d v) h' c') ?_ ⟨fun h _ => h, fun h => h 0⟩
    constructor
    · rintro ⟨r, h1, h2⟩; exact ⟨r, h, c, ⟨h1, rfl, rfl⟩, h2⟩
    · rintro ⟨v, h', c', ⟨h1, rfl, rfl⟩, h3⟩; exact ⟨v, h1, h3⟩
  case cpy esz x y =>
    refine Iff.trans (b := ∃ v h' c', Wd C d _ 0 g h c v h' c' ∧ Q (updO g d v) h' c') ?_ ⟨fun h _ => h, fun h => h 0⟩
    constructor
    · rintro ⟨p, r, h', h1, h2, h3⟩; exact ⟨r, h', c, ⟨p, h1, h2, rfl⟩, h3⟩
    · rintro ⟨v, h', c', ⟨p, h1, h2, rfl⟩, h3⟩; exact ⟨p, v, h', h1, h2, h3⟩
  case clr esz z x =>
    refine Iff.trans (b := ∃ v h' c', Wd C d _ 0 g h c v h' c' ∧ Q (updO g d v) h' c') ?_ ⟨fun h _ => h, fun h => h 0⟩
    constructor
    · rintro ⟨p, h', h1, h2, h3⟩; exact ⟨.tup [], h', c, ⟨p, h1, h2, rfl, rfl⟩, h3⟩
    · rintro ⟨v, h', c', ⟨p, h1, h2, rfl, rfl⟩, h3⟩; exact ⟨p, h', h1, h2, h3⟩
  case callh f as =>
    refine Iff.trans (b := ∃ v h' c', Wd C d _ 0 g h c v h' c' ∧ Q (updO g d v) h' c') ?_ ⟨fun h _ => h, fun h => h 0⟩
    constructor
    · rintro ⟨r, h', h1, h2⟩; exact ⟨r, h', c, ⟨h1, rfl⟩, h2⟩
    · rintro ⟨v, h', c', ⟨h1, rfl⟩, h3⟩; exact ⟨v, h', h1, h3⟩
  all_goals first
    | (refine Iff.trans (b := ∃ v h' c', Wd C d _ 0 g h c v h' c' ∧ Q (updO g d v) h' c') ?_ ⟨fun h _ => h, fun h => h 0⟩
       constructor
       · rintro ⟨t, p, v, h', c', rfl, h2, h3, h4⟩; exact ⟨v, h', c', ⟨t, p, rfl, h2, h3⟩, h4⟩
       · rintro ⟨v, h', c', ⟨t, p, rfl, h2, h3⟩, h4⟩; exact ⟨t, p, v, h', c', rfl, h2, h3, h4⟩)
    | (refine Iff.trans (b := ∃ v h' c', Wd C d _ 0 g h c v h' c' ∧ Q (updO g d v) h' c') ?_ ⟨fun h _ => h, fun h => h 0⟩
       constructor
       · rintro ⟨p, v, h1, h2, h3⟩; exact ⟨v, h, c, ⟨p, h1, h2, rfl, rfl⟩, h3⟩
       · rintro ⟨v, h', c', ⟨p, h1, h2, rfl, rfl⟩, h3⟩; exact ⟨p, v, h1, h2, h3⟩)

theorem kops_iff {o : KOp} (hn : o.plain) {r : List KOp} {Q : Post} {g : Slots} {h : Heap} {c : Nat} : kops C (o :: r) Q g h c ↔ ∀ ν, ∃ v h' c', Sd C o ν g h c v h' c' ∧ kops C r Q (updO g o.d v) h' c' := by
  conv => lhs; unfold kops
  unfold Sd
  cases hg : o.g with
  | none => exact kop_iff hn
  | some tw =>
    obtain ⟨t, w⟩ := tw
    constructor
    · rintro ⟨x, hx, h1, h2⟩ ν
      by_cases e : x = w
      · subst e
        have h3 := h1 rfl
        obtain ⟨v, h', c', h4, h5⟩ := (kop_iff hn).1 h3 ν
        exact ⟨v, h', c', ⟨x, hx, fun _ => h4, fun h6 => by cases x <;> simp at h6⟩, h5⟩
      · have e2 : x = !w := by cases x <;> cases w <;> simp_all
        have h3 := h2 e2
        exact ⟨.tup [], h, c, ⟨x, hx, fun h6 => absurd h6 e, fun _ => ⟨rfl, rfl, rfl⟩⟩, h3⟩
    · intro hk
      obtain ⟨_, _, _, ⟨x, hx, _⟩, _⟩ := hk 0
      refine ⟨x, hx, fun e => ?_, fun e => ?_⟩
      · subst e
        refine (kop_iff hn).2 fun ν => ?_
        obtain ⟨v, h', c', ⟨x', hx', h1, _⟩, h3⟩ := hk ν
        rw [hx] at hx'; cases hx'
        exact ⟨v, h', c', h1 rfl, h3⟩
      · obtain ⟨v, h', c', ⟨x', hx', _, h2⟩, h3⟩ := hk 0
        rw [hx] at hx'; cases hx'
        obtain ⟨rfl, rfl, rfl⟩ := h2 e
        exact h3

theorem ke_congr {o : KO} {t : Nat} {g g' : Slots} {h : Heap} {c : Nat} (hx : ∀ t ∈ o.reads, g t = g' t) : ke t o g h c = ke t o g' h c := by
  have sp : ∀ {x : KV}, (∀ t ∈ x.reads, t ∈ o.reads) → ev g x = ev g' x := fun hs => ev_congr fun t ht => hx t (hs t ht)
  cases o <;> try rfl
  case box x => simp only [ke]; rw [sp (x := x) (fun t ht => ht)]
  case bslice esz n z ps =>
    have e : ps.map (fun (j, x) => (j, ev g x)) = ps.map (fun (j, x) => (j, ev g' x)) := List.map_congr_left fun p hp => by
      show (p.1, ev g p.2) = (p.1, ev g' p.2)
      rw [show ev g p.2 = ev g' p.2 from ev_congr fun t ht => hx t (List.mem_flatMap.2 ⟨p, hp, ht⟩)]
    simp only [ke]; rw [e]
  case mks a b z x y => simp only [ke]; rw [sp (x := x) (fun t ht => List.mem_append_left _ ht), sp (x := y) (fun t ht => List.mem_append_right _ ht)]
  case app a b z x y => simp only [ke]; rw [sp (x := x) (fun t ht => List.mem_append_left _ ht), sp (x := y) (fun t ht => List.mem_append_right _ ht)]
  case appz a b z x y => simp only [ke]; rw [sp (x := x) (fun t ht => List.mem_append_left _ ht), sp (x := y) (fun t ht => List.mem_append_right _ ht)]
theorem fr4_congr {o : KO} {t : Nat} {g g' : Slots} {h : Heap} (hx : ∀ t ∈ o.reads, g t = g' t) : fr4 t o g h = fr4 t o g' h := by
  cases o <;> try rfl
  case app a b z x y => simp only [fr4]; rw [show ev g x = ev g' x from ev_congr fun t ht => hx t (List.mem_append_left _ ht)]
theorem Wd_congr {d : Option Nat} {o : KO} {ν : Nat} {g g' : Slots} {h : Heap} {c : Nat} {v : AV} {h' : Heap} {c' : Nat} (hx : ∀ t ∈ o.reads, g t = g' t) (hw : Wd C d o ν g h c v h' c') : Wd C d o ν g' h c v h' c' := by
  have sp : ∀ {x : KV}, (∀ t ∈ x.reads, t ∈ o.reads) → ev g x = ev g' x := fun hs => ev_congr fun t ht => hx t (hs t ht)
  have spO : ∀ {x : Option KV}, (∀ t ∈ readsO x, t ∈ o.reads) → x.map (ev g) = x.map (ev g') := fun hs => evO_congr fun t ht => hx t (hs t ht)
  have spL : ∀ {x : List KV}, (∀ t ∈ x.flatMap KV.reads, t ∈ o.reads) → x.map (ev g) = x.map (ev g') := fun hs => evL_congr fun t ht => hx t (hs t ht)
  cases o
  case mk4 o =>
    simp only [Wd] at hw ⊢
    obtain ⟨t, p, h1, h2, h3, h4, h5⟩ := hw
    have hx' : ∀ t ∈ o.reads, g t = g' t := hx
    exact ⟨t, p, h1, by rw [← ke_congr hx']; exact h2, h3, by rw [← fr4_congr hx']; exact h4, h5⟩
  case callc f as => simp only [Wd] at hw ⊢; rw [← spL (x := as) (fun t ht => ht)]; exact hw
  case build z ps =>
    have e : ps.map (fun (off, n, x) => (off, n, ev g x)) = ps.map (fun (off, n, x) => (off, n, ev g' x)) := List.map_congr_left fun p hp => by
      show (p.1, p.2.1, ev g p.2.2) = (p.1, p.2.1, ev g' p.2.2)
      rw [show ev g p.2.2 = ev g' p.2.2 from ev_congr fun t ht => hx t (List.mem_flatMap.2 ⟨p, hp, ht⟩)]
    simp only [Wd, kv] at hw ⊢; rw [← e]; exact hw
  case bslice esz n z ps =>
    have e : ps.map (fun (j, x) => (j, ev g x)) = ps.map (fun (j, x) => (j, ev g' x)) := List.map_congr_left fun p hp => by
      show (p.1, ev g p.2) = (p.1, ev g' p.2)
      rw [show ev g p.2 = ev g' p.2 from ev_congr fun t ht => hx t (List.mem_flatMap.2 ⟨p, hp, ht⟩)]
    simp only [Wd, ke] at hw ⊢; rw [← e]; exact hw
  case mm m xs => simp only [Wd, kv] at hw ⊢; rw [← spL (x := xs) (fun t ht => ht)]; exact hw
  case mkf f as => simp only [Wd, kv] at hw ⊢; rw [← spL (x := as) (fun t ht => ht)]; exact hw
  case call0 f as =>
    simp only [Wd] at hw ⊢
    rw [← spL (x := as) (fun t ht => List.mem_append_right _ ht), ← sp (x := f) (fun t ht => List.mem_append_left _ ht)]; exact hw
  case calln f as =>
    simp only [Wd] at hw ⊢
    rw [← spL (x := as) (fun t ht => List.mem_append_right _ ht), ← sp (x := f) (fun t ht => List.mem_append_left _ ht)]; exact hw
  case callv f as =>
    simp only [Wd] at hw ⊢
    rw [← spL (x := as) (fun t ht => List.mem_append_right _ ht), ← sp (x := f) (fun t ht => List.mem_append_left _ ht)]; exact hw
  case callh f as =>
    simp only [Wd] at hw ⊢
    rw [← spL (x := as) (fun t ht => List.mem_append_right _ ht), ← sp (x := f) (fun t ht => List.mem_append_left _ ht)]; exact hw
  case call f as => exact hw
  case pick a b e =>
    simp only [Wd, kv] at hw ⊢
    rw [← sp (x := a) (fun t ht => by simp [KO.reads, ht]), ← sp (x := b) (fun t ht => by simp [KO.reads, ht]), ← sp (x := e) (fun t ht => by simp [KO.reads, ht])]; exact hw
  case slc esz x lo hi mx =>
    simp only [Wd, kv] at hw ⊢
    rw [← sp (x := x) (fun t ht => by simp [KO.reads, ht]), ← spO (x := lo) (fun t ht => by simp [KO.reads, ht]), ← spO (x := hi) (fun t ht => by simp [KO.reads, ht]), ← spO (x := mx) (fun t ht => by simp [KO.reads, ht])]; exact hw
  case sls x lo hi =>
    simp only [Wd, kv] at hw ⊢
    rw [← sp (x := x) (fun t ht => by simp [KO.reads, ht]), ← spO (x := lo) (fun t ht => by simp [KO.reads, ht]), ← spO (x := hi) (fun t ht => by simp [KO.reads, ht])]; exact hw
  case alloc cs => exact hw
  case bad => exact hw
  case gh => exact hw
  case cpy a x y => simp only [Wd] at hw ⊢; rw [← sp (x := x) (fun t ht => List.mem_append_left _ ht), ← sp (x := y) (fun t ht => List.mem_append_right _ ht)]; exact hw
  case clr a b x => simp only [Wd] at hw ⊢; rw [← sp (x := x) (fun t ht => ht)]; exact hw
  case store n x y => simp only [Wd] at hw ⊢; rw [← sp (x := x) (fun t ht => List.mem_append_left _ ht), ← sp (x := y) (fun t ht => List.mem_append_right _ ht)]; exact hw
  case stl m n x y => simp only [Wd] at hw ⊢; rw [← sp (x := x) (fun t ht => List.mem_append_left _ ht), ← sp (x := y) (fun t ht => List.mem_append_right _ ht)]; exact hw
  case bin op x y => simp only [Wd, kv] at hw ⊢; rw [← sp (x := x) (fun t ht => List.mem_append_left _ ht), ← sp (x := y) (fun t ht => List.mem_append_right _ ht)]; exact hw
  case eqt a b x y => simp only [Wd, kv] at hw ⊢; rw [← sp (x := x) (fun t ht => List.mem_append_left _ ht), ← sp (x := y) (fun t ht => List.mem_append_right _ ht)]; exact hw
  case eqn b x y => simp only [Wd, kv] at hw ⊢; rw [← sp (x := x) (fun t ht => List.mem_append_left _ ht), ← sp (x := y) (fun t ht => List.mem_append_right _ ht)]; exact hw
  case idx a x y => simp only [Wd, kv] at hw ⊢; rw [← sp (x := x) (fun t ht => List.mem_append_left _ ht), ← sp (x := y) (fun t ht => List.mem_append_right _ ht)]; exact hw
  case idxa a b x y => simp only [Wd, kv] at hw ⊢; rw [← sp (x := x) (fun t ht => List.mem_append_left _ ht), ← sp (x := y) (fun t ht => List.mem_append_right _ ht)]; exact hw
  case slca n esz x lo hi =>
    simp only [Wd, kv] at hw ⊢
    rw [← sp (x := x) (fun t ht => by simp [KO.reads, ht]), ← spO (x := lo) (fun t ht => by simp [KO.reads, ht]), ← spO (x := hi) (fun t ht => by simp [KO.reads, ht])]; exact hw
  case ids x y => simp only [Wd, kv] at hw ⊢; rw [← sp (x := x) (fun t ht => List.mem_append_left _ ht), ← sp (x := y) (fun t ht => List.mem_append_right _ ht)]; exact hw
  case mks a b z x y => simp only [Wd, ke] at hw ⊢; rw [← sp (x := x) (fun t ht => List.mem_append_left _ ht), ← sp (x := y) (fun t ht => List.mem_append_right _ ht)]; exact hw
  case appz a b z x y => simp only [Wd, ke] at hw ⊢; rw [← sp (x := x) (fun t ht => List.mem_append_left _ ht), ← sp (x := y) (fun t ht => List.mem_append_right _ ht)]; exact hw
  case app a b z x y => simp only [Wd, ke] at hw ⊢; rw [← sp (x := x) (fun t ht => List.mem_append_left _ ht), ← sp (x := y) (fun t ht => List.mem_append_right _ ht)]; exact hw
  case box x => simp only [Wd, ke] at hw ⊢; rw [← sp (x := x) (fun t ht => ht)]; exact hw
  all_goals (rename_i x; simp only [Wd, kv] at hw ⊢; rw [← ev_congr hx]; exact hw)
end Go.AM

/-! Draw2 -/
namespace Go.AM
variable {P : Program} {C : Con}

theorem Sd_congr {o : KOp} {ν : Nat} {g g' : Slots} {h : Heap} {c : Nat} {v : AV} {h' : Heap} {c' : Nat} (hx : ∀ t ∈ o.reads, g t = g' t) (hw : Sd C o ν g h c v h' c') : Sd C o ν g' h c v h' c' := by
  unfold Sd KOp.reads at *
  cases hg : o.g with
  | none => rw [hg] at hw; exact Wd_congr (fun t ht => hx t (by simp [ht])) hw
  | some tw =>
    obtain ⟨t, w⟩ := tw
    rw [hg] at hw hx
    obtain ⟨x, h1, h2, h3⟩ := hw
    exact ⟨x, by rw [← h1]; exact congrArg _ (hx t (by simp)).symm, fun e => Wd_congr (fun t ht => hx t (by simp [ht])) (h2 e), h3⟩

theorem mk4_cls (o : KO) : 8 ≤ (KO.mk4 o).cls := by cases o <;> simp [KO.cls]
theorem Wd_free {d : Option Nat} {o : KO} {ν : Nat} (ho : o.cls = 0 ∨ o.cls = 7) {g : Slots} {h : Heap} {c : Nat} {v : AV} {h' : Heap} {c' : Nat} (hw : Wd C d o ν g h c v h' c') : h' = h ∧ c' = c ∧ ∀ h2 c2, Wd C d o ν g h2 c2 v h2 c2 := by
  cases o <;> first
    | (simp [KO.cls] at ho; done)
    | (rename_i q; have hq := mk4_cls q; omega)
    | (obtain ⟨p, h1, h2, rfl, rfl⟩ := hw; exact ⟨rfl, rfl, fun h2' c2 => ⟨p, h1, h2, rfl, rfl⟩⟩)
    | (obtain ⟨h1, rfl, rfl⟩ := hw; exact ⟨rfl, rfl, fun h2 c2 => ⟨h1, rfl, rfl⟩⟩)
theorem Wd_read {d : Option Nat} {o : KO} {ν : Nat} (ho : o.cls = 1 ∨ o.cls = 5) {g : Slots} {h : Heap} {c : Nat} {v : AV} {h' : Heap} {c' : Nat} (hw : Wd C d o ν g h c v h' c') : h' = h ∧ c' = c := by
  cases o <;> first
    | (simp [KO.cls] at ho; done)
    | (rename_i q; have hq := mk4_cls q; omega)
    | (obtain ⟨p, h1, h2, rfl, rfl⟩ := hw; exact ⟨rfl, rfl⟩)
    | (obtain ⟨h1, rfl, rfl⟩ := hw; exact ⟨rfl, rfl⟩)
theorem Sd_free {o : KOp} {ν : Nat} (ho : o.o.cls = 0 ∨ o.o.cls = 7) {g : Slots} {h : Heap} {c : Nat} {v : AV} {h' : Heap} {c' : Nat} (hw : Sd C o ν g h c v h' c') : h' = h ∧ c' = c ∧ ∀ h2 c2, Sd C o ν g h2 c2 v h2 c2 := by
  unfold Sd at *
  cases hg : o.g with
  | none => rw [hg] at hw; exact Wd_free ho hw
  | some tw =>
    obtain ⟨t, w⟩ := tw
    rw [hg] at hw
    obtain ⟨x, h1, h2, h3⟩ := hw
    by_cases e : x = w
    · obtain ⟨q1, q2, q3⟩ := Wd_free ho (h2 e)
      exact ⟨q1, q2, fun h4 c4 => ⟨x, h1, fun _ => q3 h4 c4, fun e2 => by subst e; cases x <;> simp at e2⟩⟩
    · have e2 : x = !w := by cases x <;> cases w <;> simp_all
      obtain ⟨rfl, rfl, rfl⟩ := h3 e2
      exact ⟨rfl, rfl, fun h4 c4 => ⟨x, h1, fun e3 => absurd e3 e, fun _ => ⟨rfl, rfl, rfl⟩⟩⟩
theorem Sd_read {o : KOp} {ν : Nat} (ho : o.o.cls = 1 ∨ o.o.cls = 5) {g : Slots} {h : Heap} {c : Nat} {v : AV} {h' : Heap} {c' : Nat} (hw : Sd C o ν g h c v h' c') : h' = h ∧ c' = c := by
  unfold Sd at *
  cases hg : o.g with
  | none => rw [hg] at hw; exact Wd_read ho hw
  | some tw =>
    obtain ⟨t, w⟩ := tw
    rw [hg] at hw
    obtain ⟨x, h1, h2, h3⟩ := hw
    by_cases e : x = w
    · exact Wd_read ho (h2 e)
    · have e2 : x = !w := by cases x <;> cases w <;> simp_all
      exact ⟨(h3 e2).2.1, (h3 e2).2.2⟩

theorem hcall_same {h : Heap} {os : List Rid} {obs : List Ob} (hl : obs.length = os.length) (t c : Nat) : hcall h os obs t c = hcall h os obs 0 0 := by
  have e : ∀ t u, tgt os t obs.length u = os.idxOf? u := by
    intro t u
    cases u with
    | r t' j => show (if t' = t ∧ os.length + j < obs.length then _ else _) = _; rw [if_neg (by omega)]
    | p _ => rfl
    | l _ => rfl
  funext u
  unfold hcall
  rw [e, e]
  cases hk : os.idxOf? u with
  | none => rfl
  | some k => simp only [(List.getElem?_eq_some_iff.1 (idx_some hk)).1, if_true]
/-- Heaps that are alike, but for what was made here. -/
def Alike (h h2 : Heap) : Prop := ∀ o, o.isL = false → h2 o = h o
theorem cur_alike {h h2 : Heap} (ha : Alike h h2) {o : Rid} (ho : o.isL = false) (v : Nat) : cur h2 o v = cur h o v := by unfold cur; rw [ha o ho]
theorem ExpOk_free {h : Heap} {os : List Rid} {a : AV} (ha : a.free = true) : ExpOk h os a := by
  have one : ∀ c : AV, c.pure = true → (match c with
      | .sl o v off len _ => match os.idxOf? o, cur h o v with
        | none, some ob => Pure ob.es ∧ off + len ≤ ob.es.length
        | some _, some _ => True
        | _, none => False
      | .ptr o v _ _ => match os.idxOf? o, cur h o v with
        | some _, some _ => True
        | _, _ => False
      | c => c.pure = true) := fun c hc => by cases c <;> first | (simp [AV.pure] at hc; done) | exact hc
  cases a with
  | agg cs => exact fun c hc => one c (List.all_eq_true.1 ha c hc)
  | tup cs => exact fun c hc => one c (List.all_eq_true.1 ha c hc)
  | fn f cs => exact fun c hc => one c (List.all_eq_true.1 ha c hc)
  | ptr _ _ _ _ => simp [AV.free, AV.pure] at ha
  | sl _ _ _ _ _ => simp [AV.free, AV.pure] at ha
  | _ => exact ha
theorem expA_free2 {h : Heap} {os : List Rid} {a : AV} (ha : a.free = true) : expA h os a = a := by
  have pure : ∀ x : AV, x.pure = true → expA h os x = x := fun x hx => by cases x <;> first | (simp [AV.pure] at hx; done) | simp [expA]
  have list : ∀ l : List AV, l.all AV.pure = true → expL h os l = l := by
    intro l
    induction l with
    | nil => intro _; simp [expL]
    | cons x r ih => intro hl; simp only [List.all_cons, Bool.and_eq_true] at hl; rw [expL, pure x hl.1, ih hl.2]
  cases a with
  | agg cs => rw [expA, list cs ha]
  | tup cs => rw [expA, list cs ha]
  | fn f cs => rw [expA, list cs ha]
  | _ => exact pure _ ha
theorem kcallh_alike {f : AV} {args : List AV} {r : AV} {h h1 : Heap} (hk : kcallh C f args r h h1) : ∃ os obs', obs'.length = os.length ∧ (∀ o ∈ os, o.isL = false) ∧ h1 = hcall h os obs' 0 0 ∧ ∀ h2, Alike h h2 → kcallh C f args r h2 (hcall h2 os obs' 0 0) := by
  obtain ⟨fid, capt, own, os, obs, obs', k1, k2, k3, k4, k5, k6, k7, k8, k9, k10, k11, k12, k13⟩ := hk
  have hlen : obs.length = os.length := by have := congrArg List.length k3; simpa using this.symm
  refine ⟨os, obs', by omega, k5, k13, fun h2 ha => ?_⟩
  have e1 : ∀ a ∈ args ++ capt, expA h2 os a = expA h os a ∧ ExpOk h2 os a := by
    intro a hm
    obtain ⟨q1, q2⟩ := k7 a hm
    rcases q2 with q2 | q2
    · exact ⟨by rw [expA_free2 q2, expA_free2 q2], ExpOk_free q2⟩
    · cases a with
      | ptr o v e c =>
        have hc := cur_alike ha (k5 o q2) v
        exact ⟨by simp only [expA, hc], by simp only [ExpOk, hc] at q1 ⊢; exact q1⟩
      | sl o v off len cap =>
        have hc := cur_alike ha (k5 o q2) v
        exact ⟨by simp only [expA, hc], by simp only [ExpOk, hc] at q1 ⊢; exact q1⟩
      | _ => exact q2.elim
  have e2 : ∀ l : List AV, (∀ a ∈ l, expA h2 os a = expA h os a) → expL h2 os l = expL h os l := by
    intro l
    induction l with
    | nil => intro _; simp [expL]
    | cons x r ih => intro hl; rw [expL, expL, hl x List.mem_cons_self, ih fun b hb => hl b (List.mem_cons_of_mem _ hb)]
  refine ⟨fid, capt, own, os, obs, obs', k1, by rw [e2 _ fun a hm => (e1 a hm).1]; exact k2, ?_, k4, k5, k6, fun a hm => ⟨(e1 a hm).2, (k7 a hm).2⟩, k8, k9, k10, k11, k12, rfl⟩
  rw [← k3]
  exact List.map_congr_left fun o ho => by rw [ha o (k5 o ho)]
theorem Sd_callh {o : KOp} {ν : Nat} (ho : o.o.cls = 3) {g : Slots} {h : Heap} {c : Nat} {v : AV} {h' : Heap} {c' : Nat} (hw : Sd C o ν g h c v h' c') :
    c' = c ∧ ((∃ os obs', obs'.length = os.length ∧ (∀ o ∈ os, o.isL = false) ∧ h' = hcall h os obs' 0 0 ∧ ∀ h2 c2, Alike h h2 → Sd C o ν g h2 c2 v (hcall h2 os obs' 0 0) c2) ∨ (h' = h ∧ ∀ h2 c2, Sd C o ν g h2 c2 v h2 c2)) := by
  have w : Wd C o.d o.o ν g h c v h' c' → c' = c ∧ ∃ os obs', obs'.length = os.length ∧ (∀ o ∈ os, o.isL = false) ∧ h' = hcall h os obs' 0 0 ∧ ∀ h2 c2, Alike h h2 → Wd C o.d o.o ν g h2 c2 v (hcall h2 os obs' 0 0) c2 := by
    intro hw
    cases hoo : o.o <;> rw [hoo] at ho hw <;> first
      | (simp [KO.cls] at ho; done)
      | (rename_i q; have hq := mk4_cls q; omega)
      | (obtain ⟨hk, rfl⟩ := hw
         obtain ⟨os, obs', q1, q2, q3, q4⟩ := kcallh_alike hk
         exact ⟨rfl, os, obs', q1, q2, q3, fun h2 c2 ha => ⟨q4 h2 ha, rfl⟩⟩)
  unfold Sd at *
  cases hg : o.g with
  | none =>
    rw [hg] at hw
    obtain ⟨q1, os, obs', q2, q3, q4, q5⟩ := w hw
    exact ⟨q1, .inl ⟨os, obs', q2, q3, q4, q5⟩⟩
  | some tw =>
    obtain ⟨t, ww⟩ := tw
    rw [hg] at hw
    obtain ⟨x, h1, h2, h3⟩ := hw
    by_cases e : x = ww
    · obtain ⟨q1, os, obs', q2, q3, q4, q5⟩ := w (h2 e)
      exact ⟨q1, .inl ⟨os, obs', q2, q3, q4, fun h4 c4 ha => ⟨x, h1, fun _ => q5 h4 c4 ha, fun e2 => by subst e; cases x <;> simp at e2⟩⟩⟩
    · have e2 : x = !ww := by cases x <;> cases ww <;> simp_all
      obtain ⟨rfl, rfl, rfl⟩ := h3 e2
      exact ⟨rfl, .inr ⟨rfl, fun h4 c4 => ⟨x, h1, fun e3 => absurd e3 e, fun _ => ⟨rfl, rfl, rfl⟩⟩⟩⟩
theorem Sd_make {o : KOp} {ν : Nat} (ho : o.o.cls = 4) {g : Slots} {h : Heap} {c : Nat} {v : AV} {h' : Heap} {c' : Nat} (hw : Sd C o ν g h c v h' c') :
    (∃ t ob, h' = hup h (.l t) ob ∧ ∀ h2, Sd C o ν g h2 c v (hup h2 (.l t) ob) c') ∨ (h' = h ∧ c' = c ∧ ∀ h2 c2, Sd C o ν g h2 c2 v h2 c2) := by
  have w : Wd C o.d o.o ν g h c v h' c' → ∃ t ob, h' = hup h (.l t) ob ∧ ∀ h2, Wd C o.d o.o ν g h2 c v (hup h2 (.l t) ob) c' := by
    intro hw
    cases hoo : o.o <;> rw [hoo] at ho hw <;> first
      | (simp [KO.cls] at ho; done)
      | (rename_i q; have hq := mk4_cls q; omega)
      | skip
    case alloc cs =>
      obtain ⟨t, p, hd, hk, hp⟩ := hw
      simp only [ke, allocF, Option.some.injEq, Prod.mk.injEq] at hk
      obtain ⟨rfl, rfl, rfl, rfl⟩ := hk
      exact ⟨t, _, rfl, fun h2 => ⟨t, _, hd, rfl, hp⟩⟩
    case bslice esz n z ps =>
      obtain ⟨t, p, hd, hk, hp⟩ := hw
      simp only [ke, bslF, Option.bind_eq_some_iff, Option.some.injEq, Prod.mk.injEq] at hk
      obtain ⟨cs, hf, rfl, rfl, rfl, rfl⟩ := hk
      exact ⟨t, _, rfl, fun h2 => ⟨t, _, hd, by simp only [ke, bslF, hf, Option.bind_some], hp⟩⟩
    case mks esz bytes z l cp =>
      obtain ⟨t, p, hd, hk, hp⟩ := hw
      simp only [ke, mksF, Option.bind_eq_some_iff, Option.some.injEq, Prod.mk.injEq] at hk
      obtain ⟨a, hf, b, hf2, rfl, rfl, rfl, rfl⟩ := hk
      exact ⟨t, _, rfl, fun h2 => ⟨t, _, hd, by simp only [ke, mksF, hf, hf2, Option.bind_some], hp⟩⟩
  unfold Sd at *
  cases hg : o.g with
  | none =>
    rw [hg] at hw
    exact .inl (w hw)
  | some tw =>
    obtain ⟨t, ww⟩ := tw
    rw [hg] at hw
    obtain ⟨x, h1, h2, h3⟩ := hw
    by_cases e : x = ww
    · obtain ⟨t', ob, q1, q2⟩ := w (h2 e)
      exact .inl ⟨t', ob, q1, fun h4 => ⟨x, h1, fun _ => q2 h4, fun e2 => by subst e; cases x <;> simp at e2⟩⟩
    · have e2 : x = !ww := by cases x <;> cases ww <;> simp_all
      obtain ⟨rfl, rfl, rfl⟩ := h3 e2
      exact .inr ⟨rfl, rfl, fun h4 c4 => ⟨x, h1, fun e3 => absurd e3 e, fun _ => ⟨rfl, rfl, rfl⟩⟩⟩
theorem hup_alike (h : Heap) (t : Nat) (ob : Ob) : Alike h (hup h (.l t) ob) := fun o ho => by
  unfold hup; rw [if_neg]; intro e; subst e; simp [Rid.isL] at ho
theorem hcall_hup {h : Heap} {os : List Rid} {obs : List Ob} (hl : obs.length = os.length) (hos : ∀ o ∈ os, o.isL = false) (t : Nat) (ob : Ob) : hcall (hup h (.l t) ob) os obs 0 0 = hup (hcall h os obs 0 0) (.l t) ob := by
  have e : ∀ u, tgt os 0 obs.length u = os.idxOf? u := by
    intro u
    cases u with
    | r t' j => show (if t' = 0 ∧ os.length + j < obs.length then _ else _) = _; rw [if_neg (by omega)]
    | p _ => rfl
    | l _ => rfl
  funext u
  unfold hcall hup
  rw [e]
  by_cases hu : u = .l t
  · subst hu
    cases hk : os.idxOf? (.l t) with
    | none => simp
    | some k => have := hos _ (List.mem_of_getElem? (idx_some hk)); simp [Rid.isL] at this
  · simp only [hu, if_false, e]

theorem kcallh_on {f : AV} {args : List AV} {r : AV} {h h1 : Heap} (hk : kcallh C f args r h h1) : ∃ os obs', obs'.length = os.length ∧ (∀ o ∈ os, h o ≠ none) ∧ h1 = hcall h os obs' 0 0 ∧ ∀ h2, (∀ o ∈ os, h2 o = h o) → kcallh C f args r h2 (hcall h2 os obs' 0 0) := by
  obtain ⟨fid, capt, own, os, obs, obs', k1, k2, k3, k4, k5, k6, k7, k8, k9, k10, k11, k12, k13⟩ := hk
  have hlen : obs.length = os.length := by have := congrArg List.length k3; simpa using this.symm
  refine ⟨os, obs', by omega, fun o ho hn => ?_, k13, fun h2 ha => ?_⟩
  · have h9 : (os.map fun o => (h o).map fun b => ({ b with ver := 0, fixed := true } : Ob))[os.idxOf o]? = some none := by
      rw [List.getElem?_map, List.getElem?_eq_getElem (List.idxOf_lt_length_of_mem ho), List.getElem_idxOf]; simp [hn]
    rw [k3, List.getElem?_map] at h9
    cases h10 : obs[os.idxOf o]? <;> rw [h10] at h9 <;> simp at h9
  have e1 : ∀ a ∈ args ++ capt, expA h2 os a = expA h os a ∧ ExpOk h2 os a := by
    intro a hm
    obtain ⟨q1, q2⟩ := k7 a hm
    rcases q2 with q2 | q2
    · exact ⟨by rw [expA_free2 q2, expA_free2 q2], ExpOk_free q2⟩
    · cases a with
      | ptr o v e c =>
        have hc : cur h2 o v = cur h o v := by unfold cur; rw [ha o q2]
        exact ⟨by simp only [expA, hc], by simp only [ExpOk, hc] at q1 ⊢; exact q1⟩
      | sl o v off len cap =>
        have hc : cur h2 o v = cur h o v := by unfold cur; rw [ha o q2]
        exact ⟨by simp only [expA, hc], by simp only [ExpOk, hc] at q1 ⊢; exact q1⟩
      | _ => exact q2.elim
  have e2 : ∀ l : List AV, (∀ a ∈ l, expA h2 os a = expA h os a) → expL h2 os l = expL h os l := by
    intro l
    induction l with
    | nil => intro _; simp [expL]
    | cons x r ih => intro hl; rw [expL, expL, hl x List.mem_cons_self, ih fun b hb => hl b (List.mem_cons_of_mem _ hb)]
  refine ⟨fid, capt, own, os, obs, obs', k1, by rw [e2 _ fun a hm => (e1 a hm).1]; exact k2, ?_, k4, k5, k6, fun a hm => ⟨(e1 a hm).2, (k7 a hm).2⟩, k8, k9, k10, k11, k12, rfl⟩
  rw [← k3]
  exact List.map_congr_left fun o ho => by rw [ha o ho]
theorem Sd_callh2 {o : KOp} {ν : Nat} (ho : o.o.cls = 3) {g : Slots} {h : Heap} {c : Nat} {v : AV} {h' : Heap} {c' : Nat} (hw : Sd C o ν g h c v h' c') :
    c' = c ∧ ((∃ os obs', obs'.length = os.length ∧ (∀ o ∈ os, h o ≠ none) ∧ h' = hcall h os obs' 0 0 ∧ ∀ h2 c2, (∀ o ∈ os, h2 o = h o) → Sd C o ν g h2 c2 v (hcall h2 os obs' 0 0) c2) ∨ (h' = h ∧ ∀ h2 c2, Sd C o ν g h2 c2 v h2 c2)) := by
  have w : Wd C o.d o.o ν g h c v h' c' → c' = c ∧ ∃ os obs', obs'.length = os.length ∧ (∀ o ∈ os, h o ≠ none) ∧ h' = hcall h os obs' 0 0 ∧ ∀ h2 c2, (∀ o ∈ os, h2 o = h o) → Wd C o.d o.o ν g h2 c2 v (hcall h2 os obs' 0 0) c2 := by
    intro hw
    cases hoo : o.o <;> rw [hoo] at ho hw <;> first
      | (simp [KO.cls] at ho; done)
      | (rename_i q; have hq := mk4_cls q; omega)
      | (obtain ⟨hk, rfl⟩ := hw
         obtain ⟨os, obs', q1, q2, q3, q4⟩ := kcallh_on hk
         exact ⟨rfl, os, obs', q1, q2, q3, fun h2 c2 ha => ⟨q4 h2 ha, rfl⟩⟩)
  unfold Sd at *
  cases hg : o.g with
  | none =>
    rw [hg] at hw
    obtain ⟨q1, os, obs', q2, q3, q4, q5⟩ := w hw
    exact ⟨q1, .inl ⟨os, obs', q2, q3, q4, q5⟩⟩
  | some tw =>
    obtain ⟨t, ww⟩ := tw
    rw [hg] at hw
    obtain ⟨x, h1, h2, h3⟩ := hw
    by_cases e : x = ww
    · obtain ⟨q1, os, obs', q2, q3, q4, q5⟩ := w (h2 e)
      exact ⟨q1, .inl ⟨os, obs', q2, q3, q4, fun h4 c4 ha => ⟨x, h1, fun _ => q5 h4 c4 ha, fun e2 => by subst e; cases x <;> simp at e2⟩⟩⟩
    · have e2 : x = !ww := by cases x <;> cases ww <;> simp_all
      obtain ⟨rfl, rfl, rfl⟩ := h3 e2
      exact ⟨rfl, .inr ⟨rfl, fun h4 c4 => ⟨x, h1, fun e3 => absurd e3 e, fun _ => ⟨rfl, rfl, rfl⟩⟩⟩⟩
theorem hcall_free {h : Heap} {os : List Rid} {obs : List Ob} (hl : obs.length = os.length) (hos : ∀ o ∈ os, h o ≠ none) {ρ : Rid} (hn : hcall h os obs 0 0 ρ = none) : ρ ∉ os ∧ h ρ = none := by
  have e : tgt os 0 obs.length ρ = os.idxOf? ρ := by
    cases ρ with
    | r t' j => show (if t' = 0 ∧ os.length + j < obs.length then _ else _) = _; rw [if_neg (by omega)]
    | p _ => rfl
    | l _ => rfl
  unfold hcall at hn
  rw [e] at hn
  cases hk : os.idxOf? ρ with
  | none => rw [hk] at hn; exact ⟨by simpa using hk, hn⟩
  | some k =>
    rw [hk] at hn
    have hk2 := idx_some hk
    have hlt : k < os.length := (List.getElem?_eq_some_iff.1 hk2).1
    have hm := hos _ (List.mem_of_getElem? hk2)
    cases hb : h ρ with
    | none => exact absurd hb hm
    | some b =>
      simp only [hlt, if_true, hb, Option.bind_some, List.getElem?_eq_getElem (show k < obs.length by omega), Option.map_some] at hn
      cases hn
theorem hcall_hup2 {h : Heap} {os : List Rid} {obs : List Ob} (hl : obs.length = os.length) {ρ : Rid} (hρ : ρ ∉ os) (ob : Ob) : hcall (hup h ρ ob) os obs 0 0 = hup (hcall h os obs 0 0) ρ ob := by
  have e : ∀ u, tgt os 0 obs.length u = os.idxOf? u := by
    intro u
    cases u with
    | r t' j => show (if t' = 0 ∧ os.length + j < obs.length then _ else _) = _; rw [if_neg (by omega)]
    | p _ => rfl
    | l _ => rfl
  funext u
  unfold hcall hup
  rw [e]
  by_cases hu : u = ρ
  · subst hu
    have : os.idxOf? u = none := by simpa using hρ
    simp [this]
  · simp only [hu, if_false, e]
theorem updO_ne {g : Slots} {d : Option Nat} {v : AV} {t : Nat} (hd : d ≠ some t) : updO g d v t = g t := by
  cases d with
  | none => rfl
  | some s => simp only [updO, upd]; rw [if_neg (fun e => hd (by rw [e]))]
theorem updO_comm {g : Slots} {d e : Option Nat} {v u : AV} (hd : ∀ s, d = some s → e ≠ some s) : updO (updO g d v) e u = updO (updO g e u) d v := by
  cases d with
  | none => rfl
  | some s =>
    cases e with
    | none => rfl
    | some t =>
      have : t ≠ s := fun h => hd s rfl (by rw [h])
      funext x
      simp only [updO, upd]
      by_cases h1 : x = t
      · subst h1; rw [if_pos rfl, if_neg this, if_pos rfl]
      · rw [if_neg h1, if_neg h1]

theorem live_cls {o : KO} (h : o.live = true) : o.cls = 1 := by cases o <;> first | rfl | (simp [KO.live] at h; done)
theorem apart_spec {x y : KOp} (h : apartK x y = true) : (∀ s, x.d = some s → s ∉ y.reads ∧ y.d ≠ some s) ∧ (∀ s, y.d = some s → s ∉ x.reads) ∧
    ((x.o.cls = 0 ∨ x.o.cls = 7) ∨ y.o.cls = 0 ∨ (y.o.cls = 7 ∧ x.o.cls < 8) ∨ ((x.o.cls = 1 ∨ x.o.cls = 5 ∨ x.o.cls = 8 ∨ x.o.cls = 9 ∨ x.o.cls = 11 ∨ x.o.cls = 3) ∧ y.o.cls = 8) ∨ ((x.o.cls = 8 ∨ x.o.cls = 9) ∧ y.o.cls = 1) ∨ ((x.o.cls = 1 ∨ x.o.cls = 5) ∧ (y.o.cls = 1 ∨ y.o.cls = 5)) ∨ (x.o.cls = 3 ∧ y.o.cls = 4) ∨ (x.o.cls = 4 ∧ y.o.cls = 3) ∨ (x.o.cls = 12 ∧ (y.o.cls = 3 ∨ y.o.cls = 8 ∨ y.o.cls = 12)) ∨ (x.o.live = true ∧ x.o.cls = 1 ∧ y.o.cls = 3) ∨ (x.o.cls = 12 ∧ y.o.cls = 13 ∧ y.o.lim ≤ x.o.lim)) := by
  simp only [apartK, Bool.and_eq_true, Bool.or_eq_true, beq_iff_eq, decide_eq_true_eq, Nat.ble_eq] at h
  obtain ⟨⟨h1, h2⟩, h3⟩ := h
  refine ⟨fun s hs => ?_, fun s hs => ?_, ?_⟩
  · rw [hs] at h1
    simp at h1
    exact ⟨h1.1, fun e => h1.2 e⟩
  · rw [hs] at h2
    simpa using h2
  · rcases h3 with ((((((((((h3 | h3) | h3) | h3) | h3) | h3) | h3) | h3) | h3) | h3) | h3) | h3
    · exact .inl (.inl h3)
    · exact .inr (.inl h3)
    · exact .inl (.inr h3)
    · exact .inr (.inr (.inl h3))
    · exact .inr (.inr (.inr (.inl ⟨by have := h3.1; omega, h3.2⟩)))
    · exact .inr (.inr (.inr (.inr (.inl h3))))
    · exact .inr (.inr (.inr (.inr (.inr (.inl h3)))))
    · exact .inr (.inr (.inr (.inr (.inr (.inr (.inl h3))))))
    · exact .inr (.inr (.inr (.inr (.inr (.inr (.inr (.inl h3)))))))
    · exact .inr (.inr (.inr (.inr (.inr (.inr (.inr (.inr (.inl ⟨h3.1, by have := h3.2; omega⟩))))))))
    · exact .inr (.inr (.inr (.inr (.inr (.inr (.inr (.inr (.inr (.inl ⟨h3.1, live_cls h3.1, h3.2⟩)))))))))
    · exact .inr (.inr (.inr (.inr (.inr (.inr (.inr (.inr (.inr (.inr ⟨h3.1.1, h3.1.2, h3.2⟩)))))))))
theorem Sd_live {x : KOp} (hx : x.o.live = true) {ν : Nat} {g : Slots} {h : Heap} {c : Nat} {v : AV} {h' : Heap} {c' : Nat} (hw : Sd C x ν g h c v h' c') :
    h' = h ∧ c' = c ∧ ∀ h2 c2, (∀ o v, cur h o v ≠ none → cur h2 o v ≠ none) → Sd C x ν g h2 c2 v h2 c2 := by
  have w : Wd C x.d x.o ν g h c v h' c' → h' = h ∧ c' = c ∧ ∀ h2 c2, (∀ o v, cur h o v ≠ none → cur h2 o v ≠ none) → Wd C x.d x.o ν g h2 c2 v h2 c2 := by
    intro hw
    cases hoo : x.o <;> rw [hoo] at hx hw <;> first | (simp [KO.live] at hx; done) | skip
    case fld off y =>
      obtain ⟨p, h1, h2, rfl, rfl⟩ := hw
      refine ⟨rfl, rfl, fun h2' c2 ha => ⟨p, ?_, h2, rfl, rfl⟩⟩
      simp only [kv] at h1 ⊢
      cases hy : ev g y <;> rw [hy] at h1 <;> simp only [fldF] at h1 ⊢ <;> first | exact h1 | skip
      rename_i o w e j
      cases hc : cur h' o w with
      | none => rw [hc] at h1; cases h1
      | some b =>
        rw [hc] at h1
        cases hc2 : cur h2' o w with
        | none => exact absurd hc2 (ha o w (by rw [hc]; simp))
        | some b2 => exact h1
    case len str y =>
      obtain ⟨p, h1, h2, rfl, rfl⟩ := hw
      refine ⟨rfl, rfl, fun h2' c2 ha => ⟨p, ?_, h2, rfl, rfl⟩⟩
      simp only [kv] at h1 ⊢
      cases hy : ev g y <;> rw [hy] at h1 <;> cases str <;> simp only [lenF] at h1 ⊢ <;> first | exact h1 | skip
      rename_i o w e j l
      cases hc : cur h' o w with
      | none => rw [hc] at h1; cases h1
      | some b =>
        rw [hc] at h1
        cases hc2 : cur h2' o w with
        | none => exact absurd hc2 (ha o w (by rw [hc]; simp))
        | some b2 => exact h1
  unfold Sd at *
  cases hg : x.g with
  | none => rw [hg] at hw; exact w hw
  | some tw =>
    rw [hg] at hw
    obtain ⟨b, h1, h2, h3⟩ := hw
    by_cases e : b = tw.2
    · obtain ⟨q1, q2, q3⟩ := w (h2 e)
      have ne : ¬ b = !tw.2 := by rw [e]; cases tw.2 <;> simp
      exact ⟨q1, q2, fun h5 c5 ha => ⟨b, h1, fun _ => q3 h5 c5 ha, fun e2 => absurd e2 ne⟩⟩
    · have e2 : b = !tw.2 := by cases b <;> cases h : tw.2 <;> simp_all
      obtain ⟨rfl, rfl, rfl⟩ := h3 e2
      exact ⟨rfl, rfl, fun h5 c5 _ => ⟨b, h1, fun e3 => absurd e3 e, fun _ => ⟨rfl, rfl, rfl⟩⟩⟩
theorem hcall_live {h : Heap} {os : List Rid} {obs : List Ob} (hl : obs.length = os.length) (o : Rid) (v : Nat) (hc : cur h o v ≠ none) : cur (hcall h os obs 0 0) o v ≠ none := by
  have e : tgt os 0 obs.length o = os.idxOf? o := by
    cases o with
    | r t' j => show (if t' = 0 ∧ os.length + j < obs.length then _ else _) = _; rw [if_neg (by omega)]
    | p _ => rfl
    | l _ => rfl
  unfold cur hcall at *
  rw [e]
  cases hk : os.idxOf? o with
  | none => exact hc
  | some k =>
    have hk2 := idx_some hk
    have hlt : k < os.length := (List.getElem?_eq_some_iff.1 hk2).1
    cases hb : h o with
    | none => rw [hb] at hc; exact absurd rfl hc
    | some b =>
      rw [hb] at hc
      simp only [hlt, if_true, Option.bind_some, List.getElem?_eq_getElem (show k < obs.length by omega), Option.map_some] at hc ⊢
      by_cases q : b.ver = v
      · simp [q]
      · simp [q] at hc
theorem exchange0 {x i : KOp} {ν μ : Nat} (ha : apartK x i = true) (hx8 : x.o.cls < 8) (hi8 : i.o.cls < 8) {g : Slots} {h h1 h2 : Heap} {c c1 c2 : Nat} {v u : AV} (hx : Sd C x ν g h c v h1 c1) (hi : Sd C i μ (updO g x.d v) h1 c1 u h2 c2) :
    ∃ h1' c1', Sd C i μ g h c u h1' c1' ∧ Sd C x ν (updO g i.d u) h1' c1' v h2 c2 := by
  obtain ⟨a1, a2, a3⟩ := apart_spec ha
  have ri : ∀ t ∈ i.reads, updO g x.d v t = g t := fun t ht => updO_ne fun hd => (a1 t hd).1 ht
  have rx : ∀ t ∈ x.reads, g t = updO g i.d u t := fun t ht => (updO_ne fun hd => a2 t hd ht).symm
  have hi' := Sd_congr ri hi
  rcases a3 with a3 | a3 | ⟨a3, _⟩ | ⟨_, a3⟩ | ⟨a3 | a3, _⟩ | ⟨a3, a4⟩ | ⟨a3, a4⟩ | ⟨a3, a4⟩ | ⟨a3, a4⟩ | ⟨a3, _, a4⟩ | ⟨a3, a4⟩
  · obtain ⟨rfl, rfl, hf⟩ := Sd_free a3 hx
    exact ⟨h2, c2, hi', Sd_congr rx (hf h2 c2)⟩
  · obtain ⟨rfl, rfl, hf⟩ := Sd_free (.inl a3) hi'
    exact ⟨h, c, hf h c, Sd_congr rx hx⟩
  · obtain ⟨rfl, rfl, hf⟩ := Sd_free (.inr a3) hi'
    exact ⟨h, c, hf h c, Sd_congr rx hx⟩
  · omega
  · omega
  · omega
  · obtain ⟨rfl, rfl⟩ := Sd_read a3 hx
    obtain ⟨rfl, rfl⟩ := Sd_read a4 hi'
    exact ⟨_, _, hi', Sd_congr rx hx⟩
  · obtain ⟨rfl, q⟩ := Sd_callh a3 hx
    rcases Sd_make a4 hi' with ⟨t, ob, rfl, m1⟩ | ⟨rfl, rfl, m1⟩
    · rcases q with ⟨os, obs', q1, q2, rfl, q3⟩ | ⟨rfl, q3⟩
      · refine ⟨hup h (.l t) ob, c2, m1 h, ?_⟩
        have := q3 (hup h (.l t) ob) c2 (hup_alike h t ob)
        rw [hcall_hup q1 q2] at this
        exact Sd_congr rx this
      · exact ⟨_, c2, m1 _, Sd_congr rx (q3 _ _)⟩
    · exact ⟨h, _, m1 h _, Sd_congr rx hx⟩
  · obtain ⟨rfl, q⟩ := Sd_callh a4 hi'
    rcases Sd_make a3 hx with ⟨t, ob, rfl, m1⟩ | ⟨rfl, rfl, m1⟩
    · rcases q with ⟨os, obs', q1, q2, rfl, q3⟩ | ⟨rfl, q3⟩
      · have ha : Alike (hup h (.l t) ob) h := fun o ho => (hup_alike h t ob o ho).symm
        refine ⟨hcall h os obs' 0 0, c, q3 h c ha, ?_⟩
        rw [hcall_hup q1 q2]
        exact Sd_congr rx (m1 _)
      · exact ⟨h, c, q3 h c, Sd_congr rx (m1 h)⟩
    · exact ⟨h2, _, hi', Sd_congr rx (m1 _ _)⟩
  · omega
  · obtain ⟨rfl, rfl, hf⟩ := Sd_live a3 hx
    obtain ⟨_, ⟨os, obs', q1, q2, rfl, _⟩ | ⟨rfl, _⟩⟩ := Sd_callh a4 hi'
    · exact ⟨_, _, hi', Sd_congr rx (hf _ _ fun o w hc => hcall_live q1 o w hc)⟩
    · exact ⟨_, _, hi', Sd_congr rx (hf _ _ fun o w hc => hc)⟩
  · omega

/-! operations that make memory of any version -/
theorem Sd_nu {o : KOp} (ho : o.o.cls < 8) {ν μ : Nat} {g : Slots} {h : Heap} {c : Nat} {v : AV} {h' : Heap} {c' : Nat} (hw : Sd C o ν g h c v h' c') : Sd C o μ g h c v h' c' := by
  have w : ∀ {d v h' c'}, Wd C d o.o ν g h c v h' c' → Wd C d o.o μ g h c v h' c' := by
    intro d v h' c' hw
    cases hoo : o.o <;> rw [hoo] at ho hw <;> first
      | exact hw
      | (rename_i q; have hq := mk4_cls q; omega)
      | (simp [KO.cls] at ho; done)
  unfold Sd at *
  cases hg : o.g with
  | none => rw [hg] at hw; exact w hw
  | some tw =>
    rw [hg] at hw
    obtain ⟨x, h1, h2, h3⟩ := hw
    exact ⟨x, h1, fun e => w (h2 e), h3⟩
/-- What is read of the heap. -/
def AV.rf : AV → Rid → Nat → Prop
  | .ptr o v _ _, o', v' => o' = o ∧ v' = v
  | .sl o v _ _ _, o', v' => o' = o ∧ v' = v
  | _, _, _ => False
def KO.rf (g : Slots) (k : KO) (o : Rid) (v : Nat) : Prop := match k with
  | .load _ _ x | .nilck x | .conv _ x | .slc _ x _ _ _ | .fld _ x | .idx _ x _ | .idxa _ _ x _ | .slca _ _ x _ _ | .len _ x | .cap x => (ev g x).rf o v
  | .eqt _ _ x y | .eqn _ x y => (ev g x).rf o v ∨ (ev g y).rf o v
  | _ => False
theorem kv_congr {y : KO} (hy : y.cls = 1) {g : Slots} {h h3 : Heap} (hc : ∀ o v, y.rf g o v → cur h3 o v = cur h o v) : kv h3 g y = kv h g y := by
  cases y <;> simp only [KO.cls] at hy <;> first | (omega; done) | (rename_i q; have hq := mk4_cls q; simp only [KO.cls] at hq; omega) | skip
  case load a n x => simp only [kv]; cases hx : ev g x <;> simp only [loadF]; rename_i o v e c; rw [hc o v (by simp [KO.rf, hx, AV.rf])]
  case nilck x => simp only [kv]; cases hx : ev g x <;> simp only [nilckF]; rename_i o v e c; rw [hc o v (by simp [KO.rf, hx, AV.rf])]
  case conv k x => simp only [kv]; cases hx : ev g x <;> cases k <;> simp only [convF]; rename_i o v e c l; rw [hc o v (by simp [KO.rf, hx, AV.rf])]
  case slc z x a b m => simp only [kv]; cases hx : ev g x <;> simp only [slcF]; rename_i o v e c l; rw [hc o v (by simp [KO.rf, hx, AV.rf])]
  case fld n x => simp only [kv]; cases hx : ev g x <;> simp only [fldF]; rename_i o v e c; rw [hc o v (by simp [KO.rf, hx, AV.rf])]
  case idx z x i => simp only [kv]; cases hx : ev g x <;> cases hi : ev g i <;> simp only [idxF]; rename_i o v e c l _ _; rw [hc o v (by simp [KO.rf, hx, AV.rf])]
  case idxa n z x i => simp only [kv]; cases hx : ev g x <;> cases hi : ev g i <;> simp only [idxaF]; rename_i o v e c _ _; rw [hc o v (by simp [KO.rf, hx, AV.rf])]
  case slca n z x a b =>
    simp only [kv]; cases hx : ev g x <;> simp only [slcaF]; rename_i o v e c
    cases e <;> cases c <;> simp only [slcaF]; rw [hc o v (by simp [KO.rf, hx, AV.rf])]
  case len b x => simp only [kv]; cases hx : ev g x <;> cases b <;> simp only [lenF]; rename_i o v e c l; rw [hc o v (by simp [KO.rf, hx, AV.rf])]
  case cap x => simp only [kv]; cases hx : ev g x <;> simp only [capF]; rename_i o v e c l; cases l <;> simp only [capF]; rw [hc o v (by simp [KO.rf, hx, AV.rf])]
  case eqt k b x y =>
    simp only [kv]
    cases hx : ev g x <;> cases hy : ev g y <;> cases k <;> simp only [eqtF] <;> (try rfl)
    all_goals first
      | (rename_i o v _ _; rw [hc o v (by simp [KO.rf, hx, hy, AV.rf])]; done)
      | (rename_i o v _ _ _; rw [hc o v (by simp [KO.rf, hx, hy, AV.rf])]; done)
  case eqn b x y =>
    simp only [kv]
    cases hx : ev g x <;> cases hy : ev g y <;> simp only [eqtF] <;> (try rfl)
    all_goals first
      | (rename_i o v _ _ _; rw [hc o v (by simp [KO.rf, hx, hy, AV.rf])]; done)
theorem kv_live {y : KO} (hy : y.cls = 1) {g : Slots} {h : Heap} {p : PV} (hk : kv h g y = p) (hp : p ≠ none) : ∀ o v, y.rf g o v → cur h o v ≠ none := by
  intro o v hr hn
  apply hp
  rw [← hk]
  cases y <;> simp only [KO.cls] at hy <;> first | (omega; done) | (rename_i q; have hq := mk4_cls q; simp only [KO.cls] at hq; omega) | skip
  all_goals simp only [KO.rf] at hr
  case load a n x => simp only [kv]; cases hx : ev g x <;> rw [hx] at hr <;> simp only [AV.rf] at hr <;> obtain ⟨rfl, rfl⟩ := hr <;> simp [loadF, hn]
  case nilck x => simp only [kv]; cases hx : ev g x <;> rw [hx] at hr <;> simp only [AV.rf] at hr <;> obtain ⟨rfl, rfl⟩ := hr <;> simp [nilckF, hn]
  case conv k x => simp only [kv]; cases hx : ev g x <;> rw [hx] at hr <;> simp only [AV.rf] at hr <;> obtain ⟨rfl, rfl⟩ := hr <;> cases k <;> simp [convF, hn]
  case slc z x a b m => simp only [kv]; cases hx : ev g x <;> rw [hx] at hr <;> simp only [AV.rf] at hr <;> obtain ⟨rfl, rfl⟩ := hr <;> simp [slcF, hn]
  case fld n x => simp only [kv]; cases hx : ev g x <;> rw [hx] at hr <;> simp only [AV.rf] at hr <;> obtain ⟨rfl, rfl⟩ := hr <;> simp [fldF, hn]
  case idx z x i => simp only [kv]; cases hx : ev g x <;> rw [hx] at hr <;> simp only [AV.rf] at hr <;> obtain ⟨rfl, rfl⟩ := hr <;> cases hi : ev g i <;> simp [idxF, hn]
  case idxa n z x i => simp only [kv]; cases hx : ev g x <;> rw [hx] at hr <;> simp only [AV.rf] at hr <;> obtain ⟨rfl, rfl⟩ := hr <;> cases hi : ev g i <;> simp [idxaF, hn]
  case slca n z x a b => simp only [kv]; cases hx : ev g x <;> rw [hx] at hr <;> simp only [AV.rf] at hr <;> obtain ⟨rfl, rfl⟩ := hr <;> (rename_i e c; cases e <;> cases c <;> simp [slcaF, hn])
  case len b x => simp only [kv]; cases hx : ev g x <;> rw [hx] at hr <;> simp only [AV.rf] at hr <;> obtain ⟨rfl, rfl⟩ := hr <;> cases b <;> simp [lenF, hn]
  case cap x => simp only [kv]; cases hx : ev g x <;> rw [hx] at hr <;> simp only [AV.rf] at hr <;> obtain ⟨rfl, rfl⟩ := hr <;> (rename_i l; cases l <;> simp [capF, hn])
  case eqt k b x y =>
    simp only [kv]
    rcases hr with hr | hr
    · cases hx : ev g x <;> rw [hx] at hr <;> simp only [AV.rf] at hr <;> obtain ⟨rfl, rfl⟩ := hr <;> cases hy : ev g y <;> cases k <;> simp [eqtF, hn]
    · cases hy : ev g y <;> rw [hy] at hr <;> simp only [AV.rf] at hr <;> obtain ⟨rfl, rfl⟩ := hr <;> cases hx : ev g x <;> cases k <;> simp [eqtF, hn]
  case eqn b x y =>
    simp only [kv]
    rcases hr with hr | hr
    · cases hx : ev g x <;> rw [hx] at hr <;> simp only [AV.rf] at hr <;> obtain ⟨rfl, rfl⟩ := hr <;> cases hy : ev g y <;> simp [eqtF, hn]
    · cases hy : ev g y <;> rw [hy] at hr <;> simp only [AV.rf] at hr <;> obtain ⟨rfl, rfl⟩ := hr <;> cases hx : ev g x <;> simp [eqtF, hn]
theorem Wd_1 {d : Option Nat} {y : KO} (hy : y.cls = 1) {ν : Nat} {g : Slots} {h : Heap} {c : Nat} {v : AV} {h' : Heap} {c' : Nat} : Wd C d y ν g h c v h' c' ↔ ∃ p, kv h g y = some (p, v) ∧ p ∧ h' = h ∧ c' = c := by
  cases y <;> first
    | exact Iff.rfl
    | (rename_i q; have hq := mk4_cls q; omega)
    | (simp [KO.cls] at hy; done)
/-- Read in two heaps that are alike but for one object, whose version differs: then it is read in any such heap. -/
theorem Sd_local {y : KOp} (hy : y.o.cls = 1) {ν μ : Nat} {g : Slots} {h h3 : Heap} {o : Rid} {b1 b2 : Ob} {c c2 c3 : Nat} {v1 v2 : AV} {a1 a2 : Heap} {e1 e2 : Nat} (hb : b1.ver ≠ b2.ver) (h1 : Sd C y ν g (hup h o b1) c v1 a1 e1) (h2 : Sd C y μ g (hup h o b2) c2 v2 a2 e2)
    (ha : ∀ u, u ≠ o → h3 u = h u) : Sd C y μ g h3 c3 v1 h3 c3 := by
  have w : Wd C y.d y.o ν g (hup h o b1) c v1 a1 e1 → Wd C y.d y.o μ g (hup h o b2) c2 v2 a2 e2 → Wd C y.d y.o μ g h3 c3 v1 h3 c3 := by
    intro h1 h2
    obtain ⟨p, q1, q2, _, _⟩ := (Wd_1 hy).1 h1
    obtain ⟨p', q1', _, _, _⟩ := (Wd_1 hy).1 h2
    have l1 := kv_live hy q1 (by simp)
    have l2 := kv_live hy q1' (by simp)
    refine (Wd_1 hy).2 ⟨p, ?_, q2, rfl, rfl⟩
    rw [← q1]
    refine kv_congr hy fun u vv hr => ?_
    have hu : u ≠ o := by
      intro hu; subst hu
      have m1 := l1 u vv hr
      have m2 := l2 u vv hr
      unfold cur at m1 m2
      rw [hup_at, if_pos rfl] at m1 m2
      simp only at m1 m2
      by_cases x1 : b1.ver = vv
      · by_cases x2 : b2.ver = vv
        · exact hb (x1.trans x2.symm)
        · rw [if_neg x2] at m2; exact m2 rfl
      · rw [if_neg x1] at m1; exact m1 rfl
    unfold cur; rw [ha u hu, hup_at, if_neg hu]
  unfold Sd at *
  cases hg : y.g with
  | none => rw [hg] at h1 h2; exact w h1 h2
  | some tw =>
    rw [hg] at h1 h2
    obtain ⟨x, p1, p2, p3⟩ := h1
    obtain ⟨x', p1', p2', p3'⟩ := h2
    rw [p1] at p1'; cases p1'
    exact ⟨x, p1, fun e => w (p2 e) (p2' e), fun e => ⟨(p3 e).1, rfl, rfl⟩⟩
theorem Sd_mono {y : KOp} (hy : y.o.cls = 1) {ν : Nat} {g : Slots} {h h3 : Heap} {c c3 : Nat} {v : AV} {a : Heap} {e : Nat} (h1 : Sd C y ν g h c v a e) (ha : ∀ u, h u ≠ none → h3 u = h u) : Sd C y ν g h3 c3 v h3 c3 := by
  have w : Wd C y.d y.o ν g h c v a e → Wd C y.d y.o ν g h3 c3 v h3 c3 := by
    intro h1
    obtain ⟨p, q1, q2, _, _⟩ := (Wd_1 hy).1 h1
    have l1 := kv_live hy q1 (by simp)
    refine (Wd_1 hy).2 ⟨p, ?_, q2, rfl, rfl⟩
    rw [← q1]
    refine kv_congr hy fun u vv hr => ?_
    have m1 := l1 u vv hr
    have hu : h u ≠ none := by intro hn; unfold cur at m1; rw [hn] at m1; exact m1 rfl
    unfold cur; rw [ha u hu]
  unfold Sd at *
  cases hg : y.g with
  | none => rw [hg] at h1; exact w h1
  | some tw =>
    rw [hg] at h1
    obtain ⟨x, p1, p2, p3⟩ := h1
    exact ⟨x, p1, fun e => w (p2 e), fun e => ⟨(p3 e).1, rfl, rfl⟩⟩
theorem Sd_det {y : KOp} (hy : y.o.cls = 0 ∨ y.o.cls = 1) {ν μ : Nat} {g : Slots} {h : Heap} {c c2 : Nat} {v1 v2 : AV} {a1 a2 : Heap} {e1 e2 : Nat} (h1 : Sd C y ν g h c v1 a1 e1) (h2 : Sd C y μ g h c2 v2 a2 e2) : v1 = v2 := by
  have w : Wd C y.d y.o ν g h c v1 a1 e1 → Wd C y.d y.o μ g h c2 v2 a2 e2 → v1 = v2 := by
    intro h1 h2
    have k : ∀ {ν c v a e}, Wd C y.d y.o ν g h c v a e → ∃ p, kv h g y.o = some (p, v) := by
      intro ν c v a e hw
      cases hoo : y.o <;> rw [hoo] at hy hw <;> first
        | (obtain ⟨p, q1, _⟩ := hw; exact ⟨p, q1⟩)
        | (rename_i q; have hq := mk4_cls q; omega)
        | (simp [KO.cls] at hy; done)
    obtain ⟨p, q1⟩ := k h1
    obtain ⟨p', q2⟩ := k h2
    rw [q1] at q2; simp at q2; exact q2.2
  unfold Sd at *
  cases hg : y.g with
  | none => rw [hg] at h1 h2; exact w h1 h2
  | some tw =>
    rw [hg] at h1 h2
    obtain ⟨x, p1, p2, p3⟩ := h1
    obtain ⟨x', p1', p2', p3'⟩ := h2
    rw [p1] at p1'; cases p1'
    by_cases e : x = tw.2
    · exact w (p2 e) (p2' e)
    · have e2 : x = !tw.2 := by cases x <;> cases h : tw.2 <;> simp_all
      rw [(p3 e2).1, (p3' e2).1]
/-- What makes memory of any version: where, what, and what comes of it. -/
structure Mk (C : Con) (o : KOp) (g : Slots) (ρ : Rid) (ob : Nat → Ob) (val : Nat → AV) : Prop where
  ver : ∀ ν, (ob ν).ver = ν
  go : ∀ ν h c, h ρ = none → Sd C o ν g h c (val ν) (hup h ρ (ob ν)) (c + 1)
  only : ∀ ν h c v h' c', Sd C o ν g h c v h' c' → h ρ = none ∧ v = val ν ∧ h' = hup h ρ (ob ν) ∧ c' = c + 1
theorem Sd_mk {o : KOp} (ho : o.o.cls = 8) {ν : Nat} {g : Slots} {h : Heap} {c : Nat} {v : AV} {h' : Heap} {c' : Nat} (hw : Sd C o ν g h c v h' c') :
    (∃ ρ ob val, Mk C o g ρ ob val) ∨ ((∀ ν h c, Sd C o ν g h c (.tup []) h c) ∧ ∀ ν h c v h' c', Sd C o ν g h c v h' c' → v = .tup [] ∧ h' = h ∧ c' = c) := by
  have w : Wd C o.d o.o ν g h c v h' c' → ∃ ρ, ∃ ob : Nat → Ob, ∃ val : Nat → AV, (∀ ν, (ob ν).ver = ν) ∧ (∀ ν h c, h ρ = none → Wd C o.d o.o ν g h c (val ν) (hup h ρ (ob ν)) (c + 1)) ∧ (∀ ν h c v h' c', Wd C o.d o.o ν g h c v h' c' → h ρ = none ∧ v = val ν ∧ h' = hup h ρ (ob ν) ∧ c' = c + 1) := by
    intro hw
    cases hoo : o.o <;> rw [hoo] at ho hw <;> first | (simp [KO.cls] at ho; done) | skip
    case callc f as =>
      obtain ⟨t, z, es, h1, h2, h3, h4, h5, rfl, rfl, rfl⟩ := hw
      refine ⟨.r t 0, fun ν => { ver := ν, es := es, esz := z }, fun ν => .sl (.r t 0) ν 0 es.length none, fun ν => rfl, fun ν h c hn => ⟨t, z, es, h1, h2, h3, h4, hn, rfl, rfl, rfl⟩, ?_⟩
      rintro ν h c v h' c' ⟨t', z', es', k1, k2, _, _, k5, rfl, rfl, rfl⟩
      rw [h1] at k1; cases k1
      rw [h2] at k2
      simp only [List.cons.injEq, AV.dat.injEq, and_true] at k2
      obtain ⟨rfl, rfl⟩ := k2
      exact ⟨k5, rfl, rfl, rfl⟩
    case mk4 q =>
      obtain ⟨t, p, h1, h2, h3, h4, rfl⟩ := hw
      cases q <;> simp only [KO.cls] at ho <;> simp only [ke] at h2 <;> first | (cases h2; done) | (omega; done) | skip
      case alloc cs =>
        simp only [allocF, Option.some.injEq, Prod.mk.injEq] at h2; obtain ⟨rfl, rfl, rfl, _⟩ := h2
        refine ⟨.l t, fun ν => { ver := ν, es := [cs], esz := cs.length, fixed := true, own := False }, fun ν => .ptr (.l t) ν 0 0, fun ν => rfl, fun ν h c hn => ⟨t, True, h1, rfl, trivial, hn, rfl⟩, ?_⟩
        rintro ν h c v h' c' ⟨t', p', k1, k2, k3, k4, rfl⟩
        rw [h1] at k1; cases k1
        simp only [ke, allocF, Option.some.injEq, Prod.mk.injEq] at k2; obtain ⟨_, rfl, rfl, _⟩ := k2
        exact ⟨k4, rfl, rfl, rfl⟩
      case box x =>
        simp only [boxF, Option.some.injEq, Prod.mk.injEq] at h2; obtain ⟨rfl, rfl, rfl, _⟩ := h2
        refine ⟨.l t, fun ν => { ver := ν, es := [(ev g x).cells], esz := (ev g x).cells.length, fixed := true, own := False }, fun ν => .ptr (.l t) ν 0 0, fun ν => rfl, fun ν h c hn => ⟨t, _, h1, rfl, h3, hn, rfl⟩, ?_⟩
        rintro ν h c v h' c' ⟨t', p', k1, k2, k3, k4, rfl⟩
        rw [h1] at k1; cases k1
        simp only [ke, boxF, Option.some.injEq, Prod.mk.injEq] at k2; obtain ⟨_, rfl, rfl, _⟩ := k2
        exact ⟨k4, rfl, rfl, rfl⟩
      case bslice esz n z ps =>
        simp only [bslF, Option.bind_eq_some_iff, Option.some.injEq, Prod.mk.injEq] at h2
        obtain ⟨cs, hf, rfl, rfl, rfl, _⟩ := h2
        refine ⟨.l t, fun ν => { ver := ν, es := chunk esz n cs, esz := esz, own := NoDat cs }, fun ν => .sl (.l t) ν 0 n (some n), fun ν => rfl, fun ν h c hn => ⟨t, _, h1, by simp only [ke, bslF, hf, Option.bind_some], h3, hn, rfl⟩, ?_⟩
        rintro ν h c v h' c' ⟨t', p', k1, k2, k3, k4, rfl⟩
        rw [h1] at k1; cases k1
        simp only [ke, bslF, hf, Option.bind_some, Option.some.injEq, Prod.mk.injEq] at k2; obtain ⟨_, rfl, rfl, _⟩ := k2
        exact ⟨k4, rfl, rfl, rfl⟩
      case mks esz bytes z l cp =>
        simp only [mksF, Option.bind_eq_some_iff, Option.some.injEq, Prod.mk.injEq] at h2
        obtain ⟨a, hf, b, hf2, rfl, rfl, rfl, _⟩ := h2
        refine ⟨.l t, fun ν => { ver := ν, es := List.replicate a.2.toNat z, esz := esz, own := NoDat z }, fun ν => .sl (.l t) ν 0 a.2.toNat none, fun ν => rfl, fun ν h c hn => ⟨t, _, h1, by simp only [ke, mksF, hf, hf2, Option.bind_some], h3, hn, rfl⟩, ?_⟩
        rintro ν h c v h' c' ⟨t', p', k1, k2, k3, k4, rfl⟩
        rw [h1] at k1; cases k1
        simp only [ke, mksF, hf, hf2, Option.bind_some, Option.some.injEq, Prod.mk.injEq] at k2; obtain ⟨_, rfl, rfl, _⟩ := k2
        exact ⟨k4, rfl, rfl, rfl⟩
  unfold Sd at hw
  cases hg : o.g with
  | none =>
    rw [hg] at hw
    obtain ⟨ρ, ob, val, q1, q2, q3⟩ := w hw
    exact .inl ⟨ρ, ob, val, q1, fun ν h c hn => by unfold Sd; rw [hg]; exact q2 ν h c hn, fun ν h c v h' c' hs => by unfold Sd at hs; rw [hg] at hs; exact q3 ν h c v h' c' hs⟩
  | some tw =>
    rw [hg] at hw
    obtain ⟨x, h1, h2, h3⟩ := hw
    by_cases e : x = tw.2
    · obtain ⟨ρ, ob, val, q1, q2, q3⟩ := w (h2 e)
      have ne : ¬ x = !tw.2 := by rw [e]; cases tw.2 <;> simp
      refine .inl ⟨ρ, ob, val, q1, fun ν h c hn => by unfold Sd; rw [hg]; exact ⟨x, h1, fun _ => q2 ν h c hn, fun e2 => absurd e2 ne⟩, fun ν h c v h' c' hs => ?_⟩
      unfold Sd at hs; rw [hg] at hs
      obtain ⟨x', k1, k2, _⟩ := hs
      rw [h1] at k1; cases k1
      exact q3 ν h c v h' c' (k2 e)
    · have e2 : x = !tw.2 := by cases x <;> cases h : tw.2 <;> simp_all
      refine .inr ⟨fun ν h c => by unfold Sd; rw [hg]; exact ⟨x, h1, fun e3 => absurd e3 e, fun _ => ⟨rfl, rfl, rfl⟩⟩, fun ν h c v h' c' hs => ?_⟩
      unfold Sd at hs; rw [hg] at hs
      obtain ⟨x', k1, _, k3⟩ := hs
      rw [h1] at k1; cases k1
      exact k3 e2
/-- What appends: to which object, what is there then. -/
structure Ap (C : Con) (x : KOp) (g : Slots) (h : Heap) (o : Rid) (ob : Nat → Ob) (val : Nat → AV) : Prop where
  ver : ∀ ν, (ob ν).ver = ν
  at_ : h o ≠ none
  go : ∀ ν h3 c, (∀ u, h u ≠ none → h3 u = h u) → Sd C x ν g h3 c (val ν) (hup h3 o (ob ν)) (c + 1)
  only : ∀ ν c v h' c', Sd C x ν g h c v h' c' → v = val ν ∧ h' = hup h o (ob ν) ∧ c' = c + 1
theorem srcF_live {h h3 : Heap} {esz : Nat} {x : AV} {r : Prop × List (List AV)} (hs : srcF h esz x = some r) (ha : ∀ u, h u ≠ none → h3 u = h u) : srcF h3 esz x = some r := by
  cases x <;> simp only [srcF] at hs ⊢ <;> first | exact hs | skip
  rename_i o v off len cap
  cases hc : cur h o v with
  | none => rw [hc] at hs; cases hs
  | some ob =>
    have h1 : h o ≠ none := by rw [(cur_some hc).1]; simp
    have : cur h3 o v = cur h o v := by unfold cur; rw [ha o h1]
    rw [this]; exact hs
theorem Sd_ap {x : KOp} (hx : x.o.cls = 9) {ν : Nat} {g : Slots} {h : Heap} {c : Nat} {v : AV} {h' : Heap} {c' : Nat} (hw : Sd C x ν g h c v h' c') :
    (∃ o ob val, Ap C x g h o ob val) ∨ ((∀ ν h c, Sd C x ν g h c (.tup []) h c) ∧ ∀ ν h c v h' c', Sd C x ν g h c v h' c' → v = .tup [] ∧ h' = h ∧ c' = c) := by
  have w : Wd C x.d x.o ν g h c v h' c' → ∃ o, ∃ ob : Nat → Ob, ∃ val : Nat → AV, (∀ ν, (ob ν).ver = ν) ∧ h o ≠ none ∧ (∀ ν h3 c, (∀ u, h u ≠ none → h3 u = h u) → Wd C x.d x.o ν g h3 c (val ν) (hup h3 o (ob ν)) (c + 1)) ∧ (∀ ν c v h' c', Wd C x.d x.o ν g h c v h' c' → v = val ν ∧ h' = hup h o (ob ν) ∧ c' = c + 1) := by
    intro hw
    cases hoo : x.o <;> rw [hoo] at hx hw <;> first | (simp [KO.cls] at hx; done) | skip
    rename_i q
    cases q <;> simp only [KO.cls] at hx <;> first | (omega; done) | skip
    rename_i esz bytes z s y
    obtain ⟨t, p, h1, h2, h3, h4, rfl⟩ := hw
    simp only [fr4] at h4
    cases hs : ev g s <;> rw [hs] at h4 <;> simp only [AV.isRef] at h4 <;> try (cases h4; done)
    rename_i o ver off len cap
    simp only [ke, appF, hs, Option.bind_eq_some_iff] at h2
    obtain ⟨⟨px, xs⟩, hsrc, ob, hcu, hif⟩ := h2
    have ho : h o ≠ none := by rw [(cur_some hcu).1]; simp
    by_cases hl : len = ob.es.length
    · rw [if_pos hl] at hif
      simp only [Option.some.injEq, Prod.mk.injEq] at hif
      obtain ⟨rfl, rfl, rfl, _⟩ := hif
      refine ⟨o, fun ν => { ob with ver := ν, es := ob.es ++ xs, own := ob.own ∧ Flat xs }, fun ν => .sl o ν 0 (len + xs.length) none, fun ν => rfl, ho, fun ν h3' c ha => ?_, fun ν c v h' c' => ?_⟩
      · have e1 : cur h3' o ver = some ob := by rw [← hcu]; unfold cur; rw [ha o ho]
        exact ⟨t, _, h1, by simp only [ke, appF, hs, srcF_live hsrc ha, e1, Option.bind_some, if_pos hl], h3, by simp only [fr4, hs, AV.isRef], rfl⟩
      · rintro ⟨t', p', k1, k2, k3, k4, rfl⟩
        rw [h1] at k1; cases k1
        simp only [ke, appF, hs, hsrc, hcu, Option.bind_some, if_pos hl, Option.some.injEq, Prod.mk.injEq] at k2
        obtain ⟨_, rfl, rfl, _⟩ := k2
        exact ⟨rfl, rfl, rfl⟩
    · rw [if_neg hl] at hif
      simp only [Option.some.injEq, Prod.mk.injEq] at hif
      omega
  unfold Sd at hw
  cases hg : x.g with
  | none =>
    rw [hg] at hw
    obtain ⟨o, ob, val, q1, q2, q3, q4⟩ := w hw
    exact .inl ⟨o, ob, val, q1, q2, fun ν h3 c ha => by unfold Sd; rw [hg]; exact q3 ν h3 c ha, fun ν c v h' c' hs => by unfold Sd at hs; rw [hg] at hs; exact q4 ν c v h' c' hs⟩
  | some tw =>
    rw [hg] at hw
    obtain ⟨b, h1, h2, h3⟩ := hw
    by_cases e : b = tw.2
    · obtain ⟨o, ob, val, q1, q2, q3, q4⟩ := w (h2 e)
      have ne : ¬ b = !tw.2 := by rw [e]; cases tw.2 <;> simp
      refine .inl ⟨o, ob, val, q1, q2, fun ν h3 c ha => by unfold Sd; rw [hg]; exact ⟨b, h1, fun _ => q3 ν h3 c ha, fun e2 => absurd e2 ne⟩, fun ν c v h' c' hs => ?_⟩
      unfold Sd at hs; rw [hg] at hs
      obtain ⟨b', k1, k2, _⟩ := hs
      rw [h1] at k1; cases k1
      exact q4 ν c v h' c' (k2 e)
    · have e2 : b = !tw.2 := by cases b <;> cases h : tw.2 <;> simp_all
      refine .inr ⟨fun ν h c => by unfold Sd; rw [hg]; exact ⟨b, h1, fun e3 => absurd e3 e, fun _ => ⟨rfl, rfl, rfl⟩⟩, fun ν h c v h' c' hs => ?_⟩
      unfold Sd at hs; rw [hg] at hs
      obtain ⟨b', k1, _, k3⟩ := hs
      rw [h1] at k1; cases k1
      exact k3 e2
theorem hup_comm {h : Heap} {o u : Rid} {a b : Ob} (hn : o ≠ u) : hup (hup h o a) u b = hup (hup h u b) o a := by
  funext x; unfold hup
  by_cases h1 : x = u
  · subst h1; rw [if_pos rfl, if_neg (fun e => hn e.symm), if_pos rfl]
  · by_cases h2 : x = o
    · subst h2; simp [h1]
    · simp [h1, h2]
/-- What is there stays as it is. -/
def Ext0 (h h3 : Heap) : Prop := ∀ u, h u ≠ none → h3 u = h u
theorem cur_ext {h h3 : Heap} (ha : Ext0 h h3) {o : Rid} {v : Nat} {ob : Ob} (hc : cur h o v = some ob) : cur h3 o v = some ob := by
  have h1 : h o ≠ none := by rw [(cur_some hc).1]; simp
  unfold cur at hc ⊢; rw [ha o h1]; exact hc
theorem exp_ext {h h3 : Heap} (ha : Ext0 h h3) {a : AV} (he : ExpOk h [] a) : expA h3 [] a = expA h [] a ∧ ExpOk h3 [] a := by
  have one : ∀ c : AV, (match c with
      | .sl o v off len _ => match ([] : List Rid).idxOf? o, cur h o v with
        | none, some ob => Pure ob.es ∧ off + len ≤ ob.es.length
        | some _, some _ => True
        | _, none => False
      | .ptr o v _ _ => match ([] : List Rid).idxOf? o, cur h o v with
        | some _, some _ => True
        | _, _ => False
      | c => c.pure = true) → expA h3 [] c = expA h [] c ∧ (match c with
      | .sl o v off len _ => match ([] : List Rid).idxOf? o, cur h3 o v with
        | none, some ob => Pure ob.es ∧ off + len ≤ ob.es.length
        | some _, some _ => True
        | _, none => False
      | .ptr o v _ _ => match ([] : List Rid).idxOf? o, cur h3 o v with
        | some _, some _ => True
        | _, _ => False
      | c => c.pure = true) := by
    intro c hc
    cases c with
    | sl o v off len cap =>
      simp only [List.idxOf?_nil] at hc ⊢
      cases h1 : cur h o v with
      | none => rw [h1] at hc; exact hc.elim
      | some ob => rw [h1] at hc; have h2 := cur_ext ha h1; simp only [expA, List.idxOf?_nil, h1, h2]; exact ⟨trivial, hc⟩
    | ptr o v e c => simp only [List.idxOf?_nil] at hc
    | agg _ => simp [AV.pure] at hc
    | tup _ => simp [AV.pure] at hc
    | fn _ _ => simp [AV.pure] at hc
    | eptr _ _ => simp [AV.pure] at hc
    | undef => simp [AV.pure] at hc
    | _ => exact ⟨by simp [expA], hc⟩
  have list : ∀ l : List AV, (∀ c ∈ l, match c with
      | .sl o v off len _ => match ([] : List Rid).idxOf? o, cur h o v with
        | none, some ob => Pure ob.es ∧ off + len ≤ ob.es.length
        | some _, some _ => True
        | _, none => False
      | .ptr o v _ _ => match ([] : List Rid).idxOf? o, cur h o v with
        | some _, some _ => True
        | _, _ => False
      | c => c.pure = true) → expL h3 [] l = expL h [] l := by
    intro l
    induction l with
    | nil => intro _; simp [expL]
    | cons x r ih => intro hl; rw [expL, expL, (one x (hl x List.mem_cons_self)).1, ih fun b hb => hl b (List.mem_cons_of_mem _ hb)]
  cases a with
  | agg cs => exact ⟨by rw [expA, expA, list cs he], fun c hc => (one c (he c hc)).2⟩
  | tup cs => exact ⟨by rw [expA, expA, list cs he], fun c hc => (one c (he c hc)).2⟩
  | fn f cs => exact ⟨by rw [expA, expA, list cs he], fun c hc => (one c (he c hc)).2⟩
  | sl o v off len cap => exact one _ he
  | ptr o v e c => exact one _ he
  | eptr _ _ => simp [ExpOk, AV.pure] at he
  | undef => simp [ExpOk, AV.pure] at he
  | _ => exact ⟨by simp [expA], he⟩
theorem expL_ext {h h3 : Heap} (ha : Ext0 h h3) : ∀ {l : List AV}, (∀ a ∈ l, ExpOk h [] a) → expL h3 [] l = expL h [] l
  | [], _ => by simp [expL]
  | a :: r, hl => by rw [expL, expL, (exp_ext ha (hl a List.mem_cons_self)).1, expL_ext ha fun b hb => hl b (List.mem_cons_of_mem _ hb)]
theorem callv_ext {x : KOp} (hx : x.o.cls = 5) {ν : Nat} {g : Slots} {h h3 : Heap} {c c3 : Nat} {v : AV} {a : Heap} {e : Nat} (h1 : Sd C x ν g h c v a e) (ha : Ext0 h h3) : Sd C x ν g h3 c3 v h3 c3 := by
  have w : Wd C x.d x.o ν g h c v a e → Wd C x.d x.o ν g h3 c3 v h3 c3 := by
    intro hw
    cases hoo : x.o <;> rw [hoo] at hx hw <;> first | (simp [KO.cls] at hx; done) | (rename_i q; have hq := mk4_cls q; omega) | skip
    obtain ⟨⟨fid, capt, own, k1, k2, k3, k4, k5⟩, _, _⟩ := hw
    exact ⟨⟨fid, capt, own, k1, by rw [expL_ext ha k4]; exact k2, k3, fun a ha' => (exp_ext ha (k4 a ha')).2, k5⟩, rfl, rfl⟩
  unfold Sd at *
  cases hg : x.g with
  | none => rw [hg] at h1; exact w h1
  | some tw =>
    rw [hg] at h1
    obtain ⟨b, p1, p2, p3⟩ := h1
    exact ⟨b, p1, fun e => w (p2 e), fun e => ⟨(p3 e).1, rfl, rfl⟩⟩
theorem newObs_hup {t c : Nat} {ρ : Rid} {ob : Ob} : ∀ {obs : List Ob} {k : Nat} {h : Heap}, (∀ j, k ≤ j → j < k + obs.length → ρ ≠ .r t j) → newObs t c k obs (hup h ρ ob) = hup (newObs t c k obs h) ρ ob
  | [], k, h, _ => rfl
  | b :: r, k, h, hn => by
    rw [newObs, newObs, hup_comm (hn k (Nat.le_refl _) (by simp)), newObs_hup (fun j h1 h2 => hn j (by omega) (by simp; omega))]
theorem newObs_none {t c : Nat} {u : Rid} : ∀ {obs : List Ob} {k : Nat} {h : Heap}, newObs t c k obs h u = none → h u = none ∧ ∀ j, k ≤ j → j < k + obs.length → u ≠ .r t j
  | [], k, h, hn => ⟨hn, fun j h1 h2 => by simp at h2; omega⟩
  | b :: r, k, h, hn => by
    rw [newObs] at hn
    obtain ⟨h1, h2⟩ := newObs_none hn
    rw [hup_at] at h1
    split at h1
    · cases h1
    · rename_i hne
      refine ⟨h1, fun j h3 h4 => ?_⟩
      by_cases hj : j = k
      · subst hj; exact hne
      · exact h2 j (by omega) (by simp at h4; omega)
theorem Sd_calln {x : KOp} (hx : x.o.cls = 11) {ν : Nat} {g : Slots} {h : Heap} {c : Nat} {v : AV} {h' : Heap} {c' : Nat} (hw : Sd C x ν g h c v h' c') :
    (∃ t obs', h' = newObs t ν 0 obs' h ∧ c' = nclk c [] obs' ∧ (∀ j, j < obs'.length → h (.r t j) = none) ∧ ∀ h3 c3, Ext0 h h3 → (∀ j, j < obs'.length → h3 (.r t j) = none) → Sd C x ν g h3 c3 v (newObs t ν 0 obs' h3) (nclk c3 [] obs')) ∨
    (h' = h ∧ c' = c ∧ ∀ h3 c3, Sd C x ν g h3 c3 v h3 c3) := by
  have w : Wd C x.d x.o ν g h c v h' c' → ∃ t obs', h' = newObs t ν 0 obs' h ∧ c' = nclk c [] obs' ∧ (∀ j, j < obs'.length → h (.r t j) = none) ∧ ∀ h3 c3, Ext0 h h3 → (∀ j, j < obs'.length → h3 (.r t j) = none) → Wd C x.d x.o ν g h3 c3 v (newObs t ν 0 obs' h3) (nclk c3 [] obs') := by
    intro hw
    cases hoo : x.o <;> rw [hoo] at hx hw <;> first | (simp [KO.cls] at hx; done) | (rename_i q; cases q <;> simp [KO.cls] at hx; done) | skip
    obtain ⟨t, r, obs', h1, ⟨fid, capt, own, k1, k2, k4, k5⟩, h3, rfl, rfl, rfl⟩ := hw
    exact ⟨t, obs', rfl, rfl, h3, fun h3 c3 ha hn => ⟨t, r, obs', h1, ⟨fid, capt, own, k1, by rw [expL_ext ha k4]; exact k2, fun a ha' => (exp_ext ha (k4 a ha')).2, k5⟩, hn, rfl, rfl, rfl⟩⟩
  unfold Sd at *
  cases hg : x.g with
  | none => rw [hg] at hw; exact .inl (w hw)
  | some tw =>
    rw [hg] at hw
    obtain ⟨b, h1, h2, h3⟩ := hw
    by_cases e : b = tw.2
    · obtain ⟨t, obs', q1, q2, q3, q4⟩ := w (h2 e)
      have ne : ¬ b = !tw.2 := by rw [e]; cases tw.2 <;> simp
      exact .inl ⟨t, obs', q1, q2, q3, fun h5 c5 a1 a2 => ⟨b, h1, fun _ => q4 h5 c5 a1 a2, fun e2 => absurd e2 ne⟩⟩
    · have e2 : b = !tw.2 := by cases b <;> cases h : tw.2 <;> simp_all
      obtain ⟨rfl, rfl, rfl⟩ := h3 e2
      exact .inr ⟨rfl, rfl, fun h5 c5 => ⟨b, h1, fun e3 => absurd e3 e, fun _ => ⟨rfl, rfl, rfl⟩⟩⟩
theorem Sd_ldl {x : KOp} (hx : x.o.cls = 12) {ν : Nat} {g : Slots} {h : Heap} {c : Nat} {v : AV} {h' : Heap} {c' : Nat} (hw : Sd C x ν g h c v h' c') :
    h' = h ∧ c' = c ∧ ∀ μ h2 c2, (∀ t, x.o.lim ≤ t → h (.l t) ≠ none → h2 (.l t) = h (.l t)) → Sd C x μ g h2 c2 v h2 c2 := by
  have w : Wd C x.d x.o ν g h c v h' c' → h' = h ∧ c' = c ∧ ∀ μ h2 c2, (∀ t, x.o.lim ≤ t → h (.l t) ≠ none → h2 (.l t) = h (.l t)) → Wd C x.d x.o μ g h2 c2 v h2 c2 := by
    intro hw
    cases hoo : x.o <;> rw [hoo] at hx hw <;> first | (simp [KO.cls] at hx; done) | (rename_i q; cases q <;> simp [KO.cls] at hx; done) | skip
    case ldl m a n y =>
      obtain ⟨p, h1, h2, rfl, rfl⟩ := hw
      refine ⟨rfl, rfl, fun μ h2' c2 ha => ⟨p, ?_, h2, rfl, rfl⟩⟩
      simp only [kv] at h1 ⊢
      unfold ldA at h1 ⊢
      split at h1
      · next t v' e j ea =>
        split at h1
        · next hm =>
          have : cur h2' (.l t) v' = cur h' (.l t) v' := by
            unfold cur
            cases hh : h' (.l t) with
            | none => simp [loadF, cur, hh] at h1
            | some b => rw [ha t hm (by rw [hh]; simp), hh]
          simp only [hm, if_true]
          simp only [loadF] at h1 ⊢
          rw [this]; exact h1
        · cases h1
      · cases h1
  unfold Sd at *
  cases hg : x.g with
  | none => rw [hg] at hw; exact w hw
  | some tw =>
    rw [hg] at hw
    obtain ⟨b, h1, h2, h3⟩ := hw
    by_cases e : b = tw.2
    · obtain ⟨q1, q2, q3⟩ := w (h2 e)
      have ne : ¬ b = !tw.2 := by rw [e]; cases tw.2 <;> simp
      exact ⟨q1, q2, fun μ h5 c5 ha => ⟨b, h1, fun _ => q3 μ h5 c5 ha, fun e2 => absurd e2 ne⟩⟩
    · have e2 : b = !tw.2 := by cases b <;> cases h : tw.2 <;> simp_all
      obtain ⟨rfl, rfl, rfl⟩ := h3 e2
      exact ⟨rfl, rfl, fun μ h5 c5 _ => ⟨b, h1, fun e3 => absurd e3 e, fun _ => ⟨rfl, rfl, rfl⟩⟩⟩
theorem Sd_stl {i : KOp} (hi : i.o.cls = 13) {ν : Nat} {g : Slots} {h : Heap} {c : Nat} {v : AV} {h' : Heap} {c' : Nat} (hw : Sd C i ν g h c v h' c') (t : Nat) (ht : i.o.lim ≤ t) : h' (.l t) = h (.l t) := by
  have w : Wd C i.d i.o ν g h c v h' c' → h' (.l t) = h (.l t) := by
    intro hw
    cases hoo : i.o <;> rw [hoo] at hi hw <;> first | (simp [KO.cls] at hi; done) | (rename_i q; cases q <;> simp [KO.cls] at hi; done) | skip
    case stl m n y z =>
      rw [hoo] at ht
      obtain ⟨p, h1, h2, rfl, rfl⟩ := hw
      unfold stA at h1
      split at h1
      · next o v' e j ea =>
        split at h1
        · next hm =>
          simp only [storeF, Option.bind_eq_some_iff, Option.some.injEq, Prod.mk.injEq] at h1
          obtain ⟨ob, _, cells, _, _, rfl⟩ := h1
          rw [hup_at, if_neg]
          intro e2; cases e2
          exact absurd ht (by simp only [KO.lim]; omega)
        · cases h1
      · cases h1
  unfold Sd at *
  cases hg : i.g with
  | none => rw [hg] at hw; exact w hw
  | some tw =>
    rw [hg] at hw
    obtain ⟨b, h1, h2, h3⟩ := hw
    by_cases e : b = tw.2
    · exact w (h2 e)
    · have e2 : b = !tw.2 := by cases b <;> cases h : tw.2 <;> simp_all
      rw [(h3 e2).2.1]
/-- Two operations change places. -/
theorem exchange {x i : KOp} (ha : apartK x i = true) {g : Slots} {h : Heap} {c : Nat} {KK : Slots → Heap → Nat → Prop}
    (hT : ∀ ν, ∃ v h1 c1, Sd C x ν g h c v h1 c1 ∧ ∀ μ, ∃ u h2 c2, Sd C i μ (updO g x.d v) h1 c1 u h2 c2 ∧ KK (updO (updO g x.d v) i.d u) h2 c2) :
    ∀ μ, ∃ u h1 c1, Sd C i μ g h c u h1 c1 ∧ ∀ ν, ∃ v h2 c2, Sd C x ν (updO g i.d u) h1 c1 v h2 c2 ∧ KK (updO (updO g i.d u) x.d v) h2 c2 := by
  obtain ⟨a1, a2, a3⟩ := apart_spec ha
  have comm : ∀ v u, updO (updO g x.d v) i.d u = updO (updO g i.d u) x.d v := fun v u => updO_comm (fun s hs => (a1 s hs).2)
  have ri : ∀ v, ∀ t ∈ i.reads, updO g x.d v t = g t := fun v t ht => updO_ne fun hd => (a1 t hd).1 ht
  have rx : ∀ u, ∀ t ∈ x.reads, g t = updO g i.d u t := fun u t ht => (updO_ne fun hd => a2 t hd ht).symm
  intro μ
  by_cases hx8 : x.o.cls < 8
  · obtain ⟨v, h1, c1, s1, hT1⟩ := hT 0
    by_cases hi8 : i.o.cls < 8
    · obtain ⟨u, h2, c2, s2, k⟩ := hT1 0
      obtain ⟨h1', c1', s3, s4⟩ := exchange0 ha hx8 hi8 s1 s2
      rw [comm] at k
      exact ⟨u, h1', c1', Sd_nu hi8 s3, fun ν => ⟨v, h2, c2, Sd_nu hx8 s4, k⟩⟩
    · -- i makes memory, or appends; x touches nothing
      obtain ⟨u, h2, c2, s2, k⟩ := hT1 μ
      rw [comm] at k
      have hxc : x.o.cls = 0 ∨ x.o.cls = 7 ∨ ((x.o.cls = 1 ∨ x.o.cls = 5) ∧ i.o.cls = 8) ∨ (x.o.cls = 3 ∧ i.o.cls = 8) := by omega
      rcases hxc with hxc | hxc | ⟨hxc, hic⟩ | ⟨hxc, hic⟩
      · obtain ⟨rfl, rfl, hf⟩ := Sd_free (.inl hxc) s1
        exact ⟨u, h2, c2, Sd_congr (ri v) s2, fun ν => ⟨v, h2, c2, Sd_nu hx8 (Sd_congr (rx u) (hf h2 c2)), k⟩⟩
      · obtain ⟨rfl, rfl, hf⟩ := Sd_free (.inr hxc) s1
        exact ⟨u, h2, c2, Sd_congr (ri v) s2, fun ν => ⟨v, h2, c2, Sd_nu hx8 (Sd_congr (rx u) (hf h2 c2)), k⟩⟩
      · obtain ⟨rfl, rfl⟩ := Sd_read hxc s1
        have s2' := Sd_congr (ri v) s2
        refine ⟨u, h2, c2, s2', fun ν => ⟨v, h2, c2, Sd_nu (ν := 0) hx8 (Sd_congr (rx u) ?_), k⟩⟩
        refine (show Ext0 h1 h2 → _ from fun hE => hxc.elim (fun q => Sd_mono q s1 hE) (fun q => callv_ext q s1 hE)) fun q hq => ?_
        rcases Sd_mk hic s2' with ⟨ρ, ob, val, M⟩ | ⟨_, M⟩
        · obtain ⟨m1, _, rfl, _⟩ := M.only _ _ _ _ _ _ s2'
          rw [hup_at, if_neg]; intro e; subst e; exact hq m1
        · obtain ⟨_, rfl, _⟩ := M _ _ _ _ _ _ s2'; rfl
      · obtain ⟨rfl, q⟩ := Sd_callh2 hxc s1
        have s2' := Sd_congr (ri v) s2
        rcases Sd_mk hic s2' with ⟨ρ, ob, val, M⟩ | ⟨igo, ionly⟩
        · obtain ⟨m1, rfl, rfl, rfl⟩ := M.only _ _ _ _ _ _ s2'
          rcases q with ⟨os, obs', q1, q2, rfl, q3⟩ | ⟨rfl, q3⟩
          · obtain ⟨n1, n2⟩ := hcall_free q1 q2 m1
            refine ⟨val μ, hup h ρ (ob μ), _, M.go μ h _ n2, fun ν => ⟨v, _, _, Sd_nu (ν := 0) hx8 (Sd_congr (rx _) (q3 (hup h ρ (ob μ)) _ fun o ho => ?_)), ?_⟩⟩
            · rw [hup_at, if_neg (by intro e; subst e; exact n1 ho)]
            · rw [hcall_hup2 q1 n1]; exact k
          · exact ⟨_, _, _, s2', fun ν => ⟨v, _, _, Sd_nu (ν := 0) hx8 (Sd_congr (rx _) (q3 _ _)), k⟩⟩
        · obtain ⟨rfl, rfl, rfl⟩ := ionly _ _ _ _ _ _ s2'
          exact ⟨.tup [], h, _, igo μ h _, fun ν => ⟨v, _, _, Sd_nu (ν := 0) hx8 (Sd_congr (rx _) s1), k⟩⟩
  · have hxc : (x.o.cls = 8 ∨ x.o.cls = 9) ∧ (i.o.cls = 0 ∨ i.o.cls = 1 ∨ i.o.cls = 8) ∨ i.o.cls = 0 ∨ (x.o.cls = 11 ∧ i.o.cls = 8) ∨ (x.o.cls = 12 ∧ (i.o.cls = 3 ∨ i.o.cls = 8 ∨ i.o.cls = 12)) ∨ (x.o.cls = 12 ∧ i.o.cls = 13 ∧ i.o.lim ≤ x.o.lim) := by omega
    by_cases hi0 : i.o.cls = 0
    · -- i knows nothing of the heap
      obtain ⟨v0, h10, c10, s10, hT0⟩ := hT 0
      obtain ⟨u, h20, c20, s20, _⟩ := hT0 μ
      have q := Sd_congr (ri v0) s20
      obtain ⟨_, _, hf⟩ := Sd_free (.inl hi0) q
      refine ⟨u, h, c, hf h c, fun ν => ?_⟩
      obtain ⟨v, h1, c1, s1, hT1⟩ := hT ν
      obtain ⟨u', h2, c2, s2, k⟩ := hT1 μ
      have q2 := Sd_congr (ri v) s2
      obtain ⟨rfl, rfl, hf2⟩ := Sd_free (.inl hi0) q2
      have : u' = u := Sd_det (.inl hi0) (hf2 h c) (hf h c)
      subst this
      rw [comm] at k
      exact ⟨v, h2, c2, Sd_congr (rx u') s1, k⟩
    · obtain ⟨v0, h10, c10, s10, hT0⟩ := hT 0
      by_cases hx12 : x.o.cls = 12
      · obtain ⟨rfl, rfl, hf⟩ := Sd_ldl hx12 s10
        obtain ⟨u, h2, c2, s2, k⟩ := hT0 μ
        have s2' := Sd_congr (ri v0) s2
        rw [comm] at k
        refine ⟨u, h2, c2, s2', fun ν => ⟨v0, h2, c2, Sd_congr (rx u) (hf ν h2 c2 fun t hlt ht => ?_), k⟩⟩
        rcases (by omega : i.o.cls = 3 ∨ i.o.cls = 8 ∨ (i.o.cls = 13 ∧ i.o.lim ≤ x.o.lim) ∨ i.o.cls = 12) with hi3 | hi8 | ⟨hi13, hil⟩ | hi12
        · obtain ⟨_, ⟨os, obs', q1, q2, rfl, _⟩ | ⟨rfl, _⟩⟩ := Sd_callh hi3 s2'
          · have hn : os.idxOf? (.l t) = none := by
              cases hk : os.idxOf? (.l t) with
              | none => rfl
              | some k => have := q2 _ (List.mem_of_getElem? (idx_some hk)); simp [Rid.isL] at this
            unfold hcall
            have e : tgt os 0 obs'.length (.l t) = os.idxOf? (.l t) := rfl
            rw [e, hn]
          · rfl
        · rcases Sd_mk hi8 s2' with ⟨ρ, ob, val, M⟩ | ⟨_, ionly⟩
          · obtain ⟨m1, _, rfl, _⟩ := M.only _ _ _ _ _ _ s2'
            rw [hup_at, if_neg]; intro e; subst e; exact ht m1
          · obtain ⟨_, rfl, _⟩ := ionly _ _ _ _ _ _ s2'; rfl
        · exact Sd_stl hi13 s2' t (by omega)
        · obtain ⟨rfl, _⟩ := Sd_ldl hi12 s2'; rfl
      by_cases hx11 : x.o.cls = 11
      · have hi8 : i.o.cls = 8 := by omega
        obtain ⟨u0, h20, c20, s20, _⟩ := hT0 μ
        have q0 := Sd_congr (ri v0) s20
        have low : h10 = h ∨ ∃ t obs', h10 = newObs t 0 0 obs' h := by
          rcases Sd_calln hx11 s10 with ⟨t, o', h1, _⟩ | ⟨h1, _⟩
          · exact .inr ⟨t, o', h1⟩
          · exact .inl h1
        rcases Sd_mk hi8 q0 with ⟨ρ, obi, vali, M⟩ | ⟨igo, ionly⟩
        · obtain ⟨m1, _, _, _⟩ := M.only _ _ _ _ _ _ q0
          have hρ : h ρ = none := by
            rcases low with rfl | ⟨t, o', rfl⟩
            · exact m1
            · exact (newObs_none m1).1
          refine ⟨vali μ, hup h ρ (obi μ), c + 1, M.go μ h c hρ, fun ν => ?_⟩
          obtain ⟨v, h1, c1, s1, hT2⟩ := hT ν
          obtain ⟨u', h2, c2, s2, k⟩ := hT2 μ
          obtain ⟨m2, rfl, rfl, rfl⟩ := M.only _ _ _ _ _ _ (Sd_congr (ri _) s2)
          rw [comm] at k
          have hE : Ext0 h (hup h ρ (obi μ)) := fun w hw => by rw [hup_at, if_neg]; intro e; subst e; exact hw hρ
          rcases Sd_calln hx11 s1 with ⟨t, o', rfl, rfl, n1, go⟩ | ⟨rfl, rfl, go⟩
          · obtain ⟨_, n2⟩ := newObs_none m2
            have n3 : ∀ j, 0 ≤ j → j < 0 + o'.length → ρ ≠ .r t j := fun j h1 h2 => n2 j h1 h2
            rw [← newObs_hup n3, show nclk c [] o' + 1 = nclk (c + 1) [] o' by unfold nclk; split <;> omega] at k
            refine ⟨v, _, _, Sd_congr (rx _) (go (hup h ρ (obi μ)) (c + 1) hE fun j hj => ?_), k⟩
            rw [hup_at, if_neg (fun e => n3 j (Nat.zero_le _) (by omega) e.symm)]; exact n1 j hj
          · exact ⟨v, _, _, Sd_congr (rx _) (go _ _), k⟩
        · refine ⟨.tup [], h, c, igo μ h c, fun ν => ?_⟩
          obtain ⟨v, h1, c1, s1, hT2⟩ := hT ν
          obtain ⟨u', h2, c2, s2, k⟩ := hT2 μ
          obtain ⟨rfl, rfl, rfl⟩ := ionly _ _ _ _ _ _ (Sd_congr (ri _) s2)
          rw [comm] at k
          exact ⟨v, _, _, Sd_congr (rx _) s1, k⟩
      have hx89 : x.o.cls = 8 ∨ x.o.cls = 9 := by omega
      -- where x works
      have X : (∃ o, ∃ ob : Nat → Ob, ∃ val : Nat → AV, (∀ ν, (ob ν).ver = ν) ∧ (∀ ν h3 c, (∀ u, h u ≠ none → h3 u = h u) → (x.o.cls = 8 → h3 o = none) → Sd C x ν g h3 c (val ν) (hup h3 o (ob ν)) (c + 1)) ∧ (∀ ν c v h' c', Sd C x ν g h c v h' c' → v = val ν ∧ h' = hup h o (ob ν) ∧ c' = c + 1) ∧ (x.o.cls = 8 → h o = none)) ∨
          ((∀ ν h c, Sd C x ν g h c (.tup []) h c) ∧ ∀ ν h c v h' c', Sd C x ν g h c v h' c' → v = .tup [] ∧ h' = h ∧ c' = c) := by
        rcases hx89 with hx | hx
        · rcases Sd_mk hx s10 with ⟨ρ, ob, val, M⟩ | M
          · exact .inl ⟨ρ, ob, val, M.ver, fun ν h3 c _ hn => M.go ν h3 c (hn hx), fun ν c v h' c' hs => (M.only ν h c v h' c' hs).2, fun _ => (M.only _ _ _ _ _ _ s10).1⟩
          · exact .inr M
        · rcases Sd_ap hx s10 with ⟨o, ob, val, M⟩ | M
          · exact .inl ⟨o, ob, val, M.ver, fun ν h3 c h4 _ => M.go ν h3 c h4, M.only, fun h8 => by omega⟩
          · exact .inr M
      rcases X with ⟨o, ob, val, xv, xgo, xonly, xn⟩ | ⟨xgo, xonly⟩
      · by_cases hi1 : i.o.cls = 1
        · obtain ⟨v1, h11, c11, s11, hT1⟩ := hT 1
          obtain ⟨u, h20, c20, s20, _⟩ := hT0 μ
          obtain ⟨u1, h21, c21, s21, _⟩ := hT1 μ
          obtain ⟨_, rfl, _⟩ := xonly _ _ _ _ _ s10
          obtain ⟨_, rfl, _⟩ := xonly _ _ _ _ _ s11
          have q0 := Sd_congr (ri v0) s20
          have q1 := Sd_congr (ri v1) s21
          have loc : ∀ h3 c3, (∀ u, u ≠ o → h3 u = h u) → Sd C i μ g h3 c3 u h3 c3 := fun h3 c3 h4 => Sd_local hi1 (by rw [xv, xv]; decide) q0 q1 h4
          refine ⟨u, h, c, loc h c (fun _ _ => rfl), fun ν => ?_⟩
          obtain ⟨v, h1, c1, s1, hT2⟩ := hT ν
          obtain ⟨u', h2, c2, s2, k⟩ := hT2 μ
          obtain ⟨_, rfl, _⟩ := xonly _ _ _ _ _ s1
          have q2 := Sd_congr (ri v) s2
          obtain ⟨rfl, rfl⟩ := Sd_read (.inl hi1) q2
          have : u' = u := Sd_det (.inr hi1) q2 (loc _ c2 (fun w hw => by rw [hup_at, if_neg hw]))
          subst this
          rw [comm] at k
          exact ⟨v, _, _, Sd_congr (rx u') s1, k⟩
        · have hi8 : i.o.cls = 8 := by omega
          obtain ⟨u0, h20, c20, s20, _⟩ := hT0 μ
          have q0 := Sd_congr (ri v0) s20
          obtain ⟨_, rfl, rfl⟩ := xonly _ _ _ _ _ s10
          rcases Sd_mk hi8 q0 with ⟨ρ, obi, vali, M⟩ | ⟨igo, ionly⟩
          · obtain ⟨m1, _, _, _⟩ := M.only _ _ _ _ _ _ q0
            have hρo : ρ ≠ o := by intro e; subst e; rw [hup_at, if_pos rfl] at m1; cases m1
            have hρ : h ρ = none := by rw [hup_at, if_neg hρo] at m1; exact m1
            refine ⟨vali μ, hup h ρ (obi μ), c + 1, M.go μ h c hρ, fun ν => ?_⟩
            obtain ⟨v, h1, c1, s1, hT2⟩ := hT ν
            obtain ⟨u', h2, c2, s2, k⟩ := hT2 μ
            obtain ⟨rfl, rfl, rfl⟩ := xonly _ _ _ _ _ s1
            obtain ⟨_, rfl, rfl, rfl⟩ := M.only _ _ _ _ _ _ (Sd_congr (ri _) s2)
            rw [comm, hup_comm (fun e => hρo e.symm)] at k
            refine ⟨_, _, _, Sd_congr (rx _) (xgo ν (hup h ρ (obi μ)) (c + 1) (fun q hq => ?_) (fun h8 => ?_)), k⟩
            · rw [hup_at, if_neg]; intro e; subst e; exact hq hρ
            · rw [hup_at, if_neg (fun e => hρo e.symm)]; exact xn h8
          · refine ⟨.tup [], h, c, igo μ h c, fun ν => ?_⟩
            obtain ⟨v, h1, c1, s1, hT2⟩ := hT ν
            obtain ⟨u', h2, c2, s2, k⟩ := hT2 μ
            obtain ⟨rfl, rfl, rfl⟩ := ionly _ _ _ _ _ _ (Sd_congr (ri _) s2)
            rw [comm] at k
            exact ⟨v, _, _, Sd_congr (rx _) s1, k⟩
      · obtain ⟨rfl, rfl, rfl⟩ := xonly _ _ _ _ _ _ s10
        obtain ⟨u, h2, c2, s2, k⟩ := hT0 μ
        rw [comm] at k
        exact ⟨u, h2, c2, Sd_congr (ri _) s2, fun ν => ⟨.tup [], h2, c2, Sd_congr (rx u) (xgo ν h2 c2), k⟩⟩
theorem to_front {i : KOp} (hi : i.plain) {Q : Post} : ∀ (pre post : List KOp), (∀ x ∈ pre, x.plain ∧ apartK x i = true) → ∀ {g : Slots} {h : Heap} {c : Nat}, kops C (pre ++ i :: post) Q g h c → kops C (i :: (pre ++ post)) Q g h c
  | [], post, _, g, h, c, hk => hk
  | x :: pre, post, hp, g, h, c, hk => by
    obtain ⟨hx1, hx2⟩ := hp x List.mem_cons_self
    rw [List.cons_append] at hk
    refine (kops_iff hi).2 fun μ => ?_
    obtain ⟨u, h1, c1, s, k⟩ := exchange (C := C) hx2 (KK := kops C (pre ++ post) Q) (fun ν => by
      obtain ⟨v, h1, c1, s1, hk⟩ := (kops_iff hx1).1 hk ν
      have ih := to_front hi pre post (fun y hy => hp y (List.mem_cons_of_mem _ hy)) hk
      exact ⟨v, h1, c1, s1, (kops_iff hi).1 ih⟩) μ
    refine ⟨u, h1, c1, s, ?_⟩
    rw [List.cons_append]
    exact (kops_iff hx1).2 k
end Go.AM

/-! Sx -/
namespace Go.AM

inductive Stk where
  | done (Q : Ex → Post)
  | seq (k : K) (s : Stk)
  | blk (id : Nat) (s : Stk)
  | post (A : Post) (s : Stk)

def den (C : Con) : Stk → Ex → Post
  | .done Q => Q
  | .seq k s => Ex.then (kwp C k (den C s)) (den C s)
  | .blk id s => Ex.inBlock id (den C s)
  | .post A s => Ex.then A (den C s)

def RunK (C : Con) (k : K) (s : Stk) (g : Slots) (h : Heap) (c : Nat) : Prop := kwp C k (den C s) g h c
def RunO (C : Con) (l : List KOp) (s : Stk) (g : Slots) (h : Heap) (c : Nat) : Prop := kops C l (den C s .normal) g h c
def Ret (C : Con) (e : Ex) (s : Stk) (g : Slots) (h : Heap) (c : Nat) : Prop := den C s e g h c
/-- Two operation lists, one behind the other. -/
def RunD (C : Con) (l m : List KOp) (s : Stk) (g : Slots) (h : Heap) (c : Nat) : Prop := kops C l (kops C m (den C s .normal)) g h c

/-! stops -/
def VK (C : Con) (x : PV) (d : Option Nat) (r m : List KOp) (s : Stk) (g : Slots) (h : Heap) (c : Nat) : Prop :=
  ∃ p v, x = some (p, v) ∧ p ∧ RunD C r m s (updO g d v) h c
def EK (C : Con) (x : PE) (t : Nat) (r m : List KOp) (s : Stk) (g : Slots) : Prop :=
  ∃ p v h' c', x = some (p, v, h', c') ∧ p ∧ RunD C r m s (upd g t v) h' c'
def WK (C : Con) (x : Option (Prop × Heap)) (d : Option Nat) (r m : List KOp) (s : Stk) (g : Slots) (c : Nat) : Prop :=
  ∃ p h', x = some (p, h') ∧ p ∧ RunD C r m s (updO g d .undef) h' c
def PickK (C : Con) (b : AV) (x y : AV) (d : Option Nat) (r m : List KOp) (s : Stk) (g : Slots) (h : Heap) (c : Nat) : Prop := VK C (pickF b x y) d r m s g h c
def GrdK (C : Con) (x : AV) (w : Bool) (t : Nat) (d : Option Nat) (o : KO) (r m : List KOp) (s : Stk) (g : Slots) (h : Heap) (c : Nat) : Prop :=
  ∃ b, x.says w = some b ∧ (b = w → RunD C (⟨d, none, o⟩ :: r) m s (upd g t x) h c) ∧ (b = !w → RunD C r m s (updO (upd g t x) d (.tup [])) h c)
def CndK (C : Con) (x : AV) (t : Nat) (a b : K) (s : Stk) (g : Slots) (h : Heap) (c : Nat) : Prop :=
  ∃ y, x = .b y ∧ (y = true → RunK C a s (upd g t (.b true)) h c) ∧ (y = false → RunK C b s (upd g t (.b false)) h c)
def CallK (C : Con) (f : AV) (as : List AV) (d : Option Nat) (r m : List KOp) (s : Stk) (g : Slots) (h : Heap) (c : Nat) : Prop :=
  kcall C d f as (fun g h c => RunD C r m s g h c) g h c ∨ kcallx C d f as (fun g h c => RunD C r m s g h c) g h c
/-- A call in a region whose order is drawn. -/
def CallK0 (C : Con) (f : AV) (as : List AV) (d : Option Nat) (r m : List KOp) (s : Stk) (g : Slots) (h : Heap) (c : Nat) : Prop :=
  ∃ v, kcall0 C f as v ∧ RunD C r m s (updO g d v) h c

/-- A call in a region whose order is drawn, which reads objects. -/
def CallKv (C : Con) (f : AV) (as : List AV) (d : Option Nat) (r m : List KOp) (s : Stk) (g : Slots) (h : Heap) (c : Nat) : Prop :=
  ∃ v, kcallv C f as v h ∧ RunD C r m s (updO g d v) h c
/-- Is it nil? -/
def EqnK (C : Con) (e : PV) (x y : AV) (d : Option Nat) (r m : List KOp) (s : Stk) (g : Slots) (h : Heap) (c : Nat) : Prop :=
  (∃ p v, e = some (p, v) ∧ p ∧ RunD C r m s (updO g d v) h c) ∨ (x.isSl = true ∧ y.isNils = true ∧ ∀ b, RunD C r m s (updO g d (.b b)) h c)
/-- A call that is handed objects, in such a region. -/
def CallKh (C : Con) (f : AV) (as : List AV) (d : Option Nat) (r m : List KOp) (s : Stk) (g : Slots) (h : Heap) (c : Nat) : Prop :=
  ∃ v h', kcallh C f as v h h' ∧ RunD C r m s (updO g d v) h' c

/-- A ghost step. -/
def GhK (C : Con) (r m : List KOp) (s : Stk) (g : Slots) (h : Heap) (c : Nat) : Prop := ∃ g' h' c', Gh g h c g' h' c' ∧ RunD C r m s g' h' c'
def CpyK (C : Con) (x : Option (Prop × AV × Heap)) (d : Option Nat) (r m : List KOp) (s : Stk) (g : Slots) (c : Nat) : Prop :=
  ∃ p v h', x = some (p, v, h') ∧ p ∧ RunD C r m s (updO g d v) h' c
def ClrK (C : Con) (x : Option (Prop × Heap)) (d : Option Nat) (r m : List KOp) (s : Stk) (g : Slots) (c : Nat) : Prop :=
  ∃ p h', x = some (p, h') ∧ p ∧ RunD C r m s (updO g d (.tup [])) h' c

section
variable (C : Con) (s : Stk) (g : Slots) (h : Heap) (c : Nat) (r m : List KOp) (d : Option Nat)
theorem K_seq (a b : K) : RunK C (.seq a b) s g h c = RunK C a (.seq b s) g h c := rfl
theorem K_reg (l : List KOp) : RunK C (.reg l) s g h c = RunD C l [] s g h c := rfl
theorem K_dreg (l : List KOp) (w : List (List Nat)) : RunK C (.dreg l w) s g h c = RunD C l [] s g h c := rfl
theorem K_block (i : Nat) (k : K) : RunK C (.block i k) s g h c = RunK C k (.blk i s) g h c := rfl
theorem K_skip : RunK C .skip s g h c = Ret C .normal s g h c := rfl
theorem K_exit (i : Nat) : RunK C (.exit i) s g h c = Ret C (.exit i) s g h c := rfl
theorem K_ret : RunK C .ret s g h c = Ret C .ret s g h c := rfl
theorem K_cond (t : Nat) (a b : K) : RunK C (.cond (.t t) a b) s g h c = CndK C (g t) t a b s g h c := rfl
theorem R_seq (k : K) : Ret C .normal (.seq k s) g h c = RunK C k s g h c := rfl
theorem R_seq_exit (k : K) (i : Nat) : Ret C (.exit i) (.seq k s) g h c = Ret C (.exit i) s g h c := rfl
theorem R_seq_ret (k : K) : Ret C .ret (.seq k s) g h c = Ret C .ret s g h c := rfl
theorem R_blk (i : Nat) : Ret C .normal (.blk i s) g h c = Ret C .normal s g h c := rfl
theorem R_blk_ret (i : Nat) : Ret C .ret (.blk i s) g h c = Ret C .ret s g h c := rfl
theorem R_blk_exit (i j : Nat) : Ret C (.exit j) (.blk i s) g h c = if j = i then Ret C .normal s g h c else Ret C (.exit j) s g h c := rfl
theorem R_post (A : Post) : Ret C .normal (.post A s) g h c = A g h c := rfl
theorem R_post_exit (A : Post) (i : Nat) : Ret C (.exit i) (.post A s) g h c = Ret C (.exit i) s g h c := rfl
theorem R_post_ret (A : Post) : Ret C .ret (.post A s) g h c = Ret C .ret s g h c := rfl
theorem R_done (Q : Ex → Post) (e : Ex) : Ret C e (.done Q) g h c = Q e g h c := rfl
theorem D_nil (o : KOp) (m : List KOp) : RunD C [] (o :: m) s g h c = RunD C (o :: m) [] s g h c := rfl
theorem D_end : RunD C [] [] s g h c = Ret C .normal s g h c := rfl
theorem D_if (t : Nat) (w : Bool) (o : KO) : RunD C (⟨d, some (t, w), o⟩ :: r) m s g h c = GrdK C (g t) w t d o r m s g h c := by
  unfold GrdK
  have e : upd g t (g t) = g := by funext u; unfold upd; split <;> simp_all
  rw [e]; rfl
theorem D_mv (x : KV) : RunD C (⟨d, none, .mv x⟩ :: r) m s g h c = RunD C r m s (updO g d (ev g x)) h c := by
  refine propext ⟨fun ⟨p, v, hx, hp, hq⟩ => ?_, fun hq => ⟨True, ev g x, rfl, trivial, hq⟩⟩
  cases hx; exact hq
theorem D_pick (x y z : KV) : RunD C (⟨d, none, .pick x y z⟩ :: r) m s g h c = PickK C (ev g x) (ev g y) (ev g z) d r m s g h c := rfl
theorem D_build (z : List AV) (ps : List (Nat × Nat × KV)) : RunD C (⟨d, none, .build z ps⟩ :: r) m s g h c = VK C (buildF z (ps.map fun (off, n, x) => (off, n, ev g x))) d r m s g h c := rfl
theorem D_load (a : Bool) (n : Nat) (x : KV) : RunD C (⟨d, none, .load a n x⟩ :: r) m s g h c = VK C (loadF h a n (ev g x)) d r m s g h c := rfl
theorem D_nilck (x : KV) : RunD C (⟨d, none, .nilck x⟩ :: r) m s g h c = VK C (nilckF h (ev g x)) d r m s g h c := rfl
theorem D_bin (op : BinOp) (x y : KV) : RunD C (⟨d, none, .bin op x y⟩ :: r) m s g h c = VK C (binF op (ev g x) (ev g y)) d r m s g h c := rfl
theorem D_eqt (t : EqT) (n : Bool) (x y : KV) : RunD C (⟨d, none, .eqt t n x y⟩ :: r) m s g h c = VK C (eqtF h t n (ev g x) (ev g y)) d r m s g h c := rfl
theorem D_un (op : UnOp) (x : KV) : RunD C (⟨d, none, .un op x⟩ :: r) m s g h c = VK C (unF op (ev g x)) d r m s g h c := rfl
theorem D_conv (k : KC) (x : KV) : RunD C (⟨d, none, .conv k x⟩ :: r) m s g h c = VK C (convF h k (ev g x)) d r m s g h c := rfl
theorem D_ldl (k : Nat) (b : Bool) (n : Nat) (x : KV) : RunD C (⟨d, none, .ldl k b n x⟩ :: r) m s g h c = VK C (loadF h b n (ldA k (ev g x))) d r m s g h c := rfl
theorem D_stl (k n : Nat) (a v : KV) : RunD C (⟨d, none, .stl k n a v⟩ :: r) m s g h c = WK C (storeF h n (stA k (ev g a)) (ev g v)) d r m s g c := rfl
theorem D_slc (e : Nat) (x : KV) (l k n : Option KV) : RunD C (⟨d, none, .slc e x l k n⟩ :: r) m s g h c = VK C (slcF h e (ev g x) (l.map (ev g)) (k.map (ev g)) (n.map (ev g))) d r m s g h c := rfl
theorem D_sls (x : KV) (l k : Option KV) : RunD C (⟨d, none, .sls x l k⟩ :: r) m s g h c = VK C (slsF (ev g x) (l.map (ev g)) (k.map (ev g))) d r m s g h c := rfl
theorem D_fld (n : Nat) (x : KV) : RunD C (⟨d, none, .fld n x⟩ :: r) m s g h c = VK C (fldF h n (ev g x)) d r m s g h c := rfl
theorem D_fldv (a : Bool) (k n : Nat) (x : KV) : RunD C (⟨d, none, .fldv a k n x⟩ :: r) m s g h c = VK C (fldvF a k n (ev g x)) d r m s g h c := rfl
theorem D_idx (e : Nat) (x i : KV) : RunD C (⟨d, none, .idx e x i⟩ :: r) m s g h c = VK C (idxF h e (ev g x) (ev g i)) d r m s g h c := rfl
theorem D_idxa (n e : Nat) (x i : KV) : RunD C (⟨d, none, .idxa n e x i⟩ :: r) m s g h c = VK C (idxaF h n e (ev g x) (ev g i)) d r m s g h c := rfl
theorem D_slca (n e : Nat) (x : KV) (l k : Option KV) : RunD C (⟨d, none, .slca n e x l k⟩ :: r) m s g h c = VK C (slcaF h n e (ev g x) (l.map (ev g)) (k.map (ev g))) d r m s g h c := rfl
theorem D_ids (x i : KV) : RunD C (⟨d, none, .ids x i⟩ :: r) m s g h c = VK C (idsF (ev g x) (ev g i)) d r m s g h c := rfl
theorem D_ext (x : KV) (i : Nat) : RunD C (⟨d, none, .ext x i⟩ :: r) m s g h c = VK C (extF i (ev g x)) d r m s g h c := rfl
theorem D_len (b : Bool) (x : KV) : RunD C (⟨d, none, .len b x⟩ :: r) m s g h c = VK C (lenF h b (ev g x)) d r m s g h c := rfl
theorem D_cap (x : KV) : RunD C (⟨d, none, .cap x⟩ :: r) m s g h c = VK C (capF h (ev g x)) d r m s g h c := rfl
theorem D_mm (b : Bool) (xs : List KV) : RunD C (⟨d, none, .mm b xs⟩ :: r) m s g h c = VK C (mmF b (xs.map (ev g))) d r m s g h c := rfl
theorem D_mkf (f : Nat) (xs : List KV) : RunD C (⟨d, none, .mkf f xs⟩ :: r) m s g h c = RunD C r m s (updO g d (.fn f (xs.map (ev g)))) h c := by
  refine propext ⟨fun ⟨p, v, hx, hp, hq⟩ => ?_, fun hq => ⟨True, _, rfl, trivial, hq⟩⟩
  cases hx; exact hq
theorem D_store (n : Nat) (a v : KV) : RunD C (⟨d, none, .store n a v⟩ :: r) m s g h c = WK C (storeF h n (ev g a) (ev g v)) d r m s g c := rfl
theorem D_call0 (f : KV) (as : List KV) : RunD C (⟨d, none, .call0 f as⟩ :: r) m s g h c = CallK0 C (ev g f) (as.map (ev g)) d r m s g h c := rfl
theorem D_eqn (n : Bool) (x y : KV) : RunD C (⟨d, none, .eqn n x y⟩ :: r) m s g h c = EqnK C (eqtF h .slice n (ev g x) (ev g y)) (ev g x) (ev g y) d r m s g h c := rfl
theorem D_cpy (e : Nat) (x y : KV) : RunD C (⟨d, none, .cpy e x y⟩ :: r) m s g h c = CpyK C (cpyF h e (ev g x) (ev g y)) d r m s g c := rfl
theorem D_clr (e : Nat) (z : List AV) (x : KV) : RunD C (⟨d, none, .clr e z x⟩ :: r) m s g h c = ClrK C (clrF h e z (ev g x)) d r m s g c := rfl
/-- A call in a region whose order is drawn, which reads objects and gives back new ones. -/
def CallKn (C : Con) (f : AV) (as : List AV) (t : Nat) (r m : List KOp) (s : Stk) (g : Slots) (h : Heap) (c : Nat) : Prop :=
  ∀ ν, ∃ v obs', kcalln C f as v obs' h ∧ (∀ j, j < obs'.length → h (.r t j) = none) ∧ RunD C r m s (upd g t (impA t 0 ν v)) (newObs t ν 0 obs' h) (nclk c [] obs')
theorem D_calln (t : Nat) (f : KV) (as : List KV) : RunD C (⟨some t, none, .calln f as⟩ :: r) m s g h c = CallKn C (ev g f) (as.map (ev g)) t r m s g h c := by
  refine propext ⟨fun hk ν => ?_, fun hk ν => ?_⟩
  · obtain ⟨t', v, o', h1, h2⟩ := hk ν; cases h1; exact ⟨v, o', h2⟩
  · obtain ⟨v, o', h2⟩ := hk ν; exact ⟨t, v, o', rfl, h2⟩
theorem D_callv (f : KV) (as : List KV) : RunD C (⟨d, none, .callv f as⟩ :: r) m s g h c = CallKv C (ev g f) (as.map (ev g)) d r m s g h c := rfl
theorem D_callh (f : KV) (as : List KV) : RunD C (⟨d, none, .callh f as⟩ :: r) m s g h c = CallKh C (ev g f) (as.map (ev g)) d r m s g h c := rfl
theorem D_call (f : KV) (as : List KV) : RunD C (⟨d, none, .call f as⟩ :: r) m s g h c = CallK C (ev g f) (as.map (ev g)) d r m s g h c := rfl
theorem EK_eq (t : Nat) (o : KO) (x : PE) (hx : ke t o g h c = x) : (∃ u p v h' c', some t = some u ∧ ke u o g h c = some (p, v, h', c') ∧ p ∧ kops C r (kops C m (den C s .normal)) (upd g u v) h' c') = EK C x t r m s g := by
  subst hx
  refine propext ⟨fun ⟨u, p, v, h', c', hu, hk, hp, hq⟩ => ?_, fun ⟨p, v, h', c', hk, hp, hq⟩ => ⟨t, p, v, h', c', rfl, hk, hp, hq⟩⟩
  cases hu; exact ⟨p, v, h', c', hk, hp, hq⟩
theorem D_alloc (t : Nat) (cs : List AV) : RunD C (⟨some t, none, .alloc cs⟩ :: r) m s g h c = EK C (allocF cs t h c) t r m s g := EK_eq C s g h c r m t (.alloc cs) _ rfl
theorem D_box (t : Nat) (x : KV) : RunD C (⟨some t, none, .box x⟩ :: r) m s g h c = EK C (boxF (ev g x) t h c) t r m s g := EK_eq C s g h c r m t (.box x) _ rfl
theorem D_bslice (t e n : Nat) (z : List AV) (ps : List (Nat × KV)) : RunD C (⟨some t, none, .bslice e n z ps⟩ :: r) m s g h c = EK C (bslF e n z t (ps.map fun (j, x) => (j, ev g x)) h c) t r m s g := EK_eq C s g h c r m t (.bslice e n z ps) _ rfl
theorem D_mks (t e b : Nat) (z : List AV) (l k : KV) : RunD C (⟨some t, none, .mks e b z l k⟩ :: r) m s g h c = EK C (mksF e b z t (ev g l) (ev g k) h c) t r m s g := EK_eq C s g h c r m t (.mks e b z l k) _ rfl
theorem D_app (t e b : Nat) (z : List AV) (x y : KV) : RunD C (⟨some t, none, .app e b z x y⟩ :: r) m s g h c = EK C (appF e b t (ev g x) (ev g y) h c) t r m s g := EK_eq C s g h c r m t (.app e b z x y) _ rfl

theorem D_appz (t e b : Nat) (z : List AV) (x y : KV) : RunD C (⟨some t, none, .appz e b z x y⟩ :: r) m s g h c = EK C (appzF e b z t (ev g x) (ev g y) h c) t r m s g := EK_eq C s g h c r m t (.appz e b z x y) _ rfl

theorem D_mk_alloc (t : Nat) (cs : List AV) : RunD C (⟨some t, none, .mk4 (.alloc cs)⟩ :: r) m s g h c = (h (.l t) = none ∧ ∀ v, RunD C r m s (upd g t (.ptr (.l t) v 0 0)) (hup h (.l t) { ver := v, es := [cs], esz := cs.length, fixed := true, own := False }) (c + 1)) := by
  refine propext ⟨fun hk => ?_, fun ⟨h1, h2⟩ v => ⟨t, True, _, _, rfl, rfl, trivial, h1, h2 v⟩⟩
  refine ⟨?_, fun v => ?_⟩
  · obtain ⟨t', p, val, h', h1, h2, h3, h4, h5⟩ := hk 0; cases h1; exact h4
  · obtain ⟨t', p, val, h', h1, h2, h3, h4, h5⟩ := hk v; cases h1; cases h2; exact h5
/-- Memory of any version. -/
def EKd (C : Con) (x : Nat → PE) (fr : Prop) (t : Nat) (r m : List KOp) (s : Stk) (g : Slots) (c : Nat) : Prop := ∀ v, ∃ p val h', x v = some (p, val, h', v + 1) ∧ p ∧ fr ∧ RunD C r m s (upd g t val) h' (c + 1)
theorem D_mk (t : Nat) (o : KO) : RunD C (⟨some t, none, .mk4 o⟩ :: r) m s g h c = EKd C (fun v => ke t o g h v) (fr4 t o g h) t r m s g c := by
  refine propext ⟨fun hk v => ?_, fun hk v => ?_⟩
  · obtain ⟨t', p, val, h', h1, h2, h3, h4, h5⟩ := hk v; cases h1; exact ⟨p, val, h', h2, h3, h4, h5⟩
  · obtain ⟨p, val, h', h2, h3, h4, h5⟩ := hk v; exact ⟨t, p, val, h', rfl, h2, h3, h4, h5⟩
theorem D_mk_bsl (t e n : Nat) (z : List AV) (ps : List (Nat × KV)) : RunD C (⟨some t, none, .mk4 (.bslice e n z ps)⟩ :: r) m s g h c = EKd C (fun v => bslF e n z t (ps.map fun (j, x) => (j, ev g x)) h v) (h (.l t) = none) t r m s g c := D_mk C s g h c r m t _
theorem D_mk_box (t : Nat) (x : KV) : RunD C (⟨some t, none, .mk4 (.box x)⟩ :: r) m s g h c = EKd C (fun v => boxF (ev g x) t h v) (h (.l t) = none) t r m s g c := D_mk C s g h c r m t _
theorem D_mk_mks (t e b : Nat) (z : List AV) (l k : KV) : RunD C (⟨some t, none, .mk4 (.mks e b z l k)⟩ :: r) m s g h c = EKd C (fun v => mksF e b z t (ev g l) (ev g k) h v) (h (.l t) = none) t r m s g c := D_mk C s g h c r m t _
theorem D_mk_app (t e b : Nat) (z : List AV) (x y : KV) : RunD C (⟨some t, none, .mk4 (.app e b z x y)⟩ :: r) m s g h c = EKd C (fun v => appF e b t (ev g x) (ev g y) h v) ((ev g x).isRef = true) t r m s g c := D_mk C s g h c r m t _
theorem EKd_yes (t : Nat) (val : Nat → AV) (h' : Nat → Heap) (fr : Prop) : EKd C (fun v => some (True, val v, h' v, v + 1)) fr t r m s g c = (fr ∧ ∀ v, RunD C r m s (upd g t (val v)) (h' v) (c + 1)) := by
  refine propext ⟨fun hk => ⟨?_, fun v => ?_⟩, fun ⟨h1, h2⟩ v => ⟨True, _, _, rfl, trivial, h1, h2 v⟩⟩
  · obtain ⟨p, val, h', h2, h3, h4, h5⟩ := hk 0; exact h4
  · obtain ⟨p, val, h', h2, h3, h4, h5⟩ := hk v; cases h2; exact h5
/-- A copy of a row. -/
def CpK (C : Con) (f : Nat) (as : List AV) (t : Nat) (r m : List KOp) (s : Stk) (g : Slots) (h : Heap) (c : Nat) : Prop :=
  ∃ z es, as = [.dat z es] ∧ C.cp f z es ∧ Pure es ∧ h (.r t 0) = none ∧ ∀ v, RunD C r m s (upd g t (.sl (.r t 0) v 0 es.length none)) (hup h (.r t 0) { ver := v, es := es, esz := z }) (c + 1)
theorem D_callc (t f : Nat) (as : List KV) : RunD C (⟨some t, none, .callc f as⟩ :: r) m s g h c = CpK C f (as.map (ev g)) t r m s g h c := by
  refine propext ⟨fun ⟨t', z, es, h1, h2⟩ => by cases h1; exact ⟨z, es, h2⟩, fun ⟨z, es, h2⟩ => ⟨t, z, es, rfl, h2⟩⟩
/-- A ghost step. -/
theorem D_gh : RunD C (⟨none, none, .gh⟩ :: r) m s g h c = GhK C r m s g h c := rfl

/-! what a stop gives -/
theorem VK_yes (v : AV) : VK C (some (True, v)) d r m s g h c = RunD C r m s (updO g d v) h c := by
  refine propext ⟨fun ⟨p, v, hx, hp, hq⟩ => ?_, fun hq => ⟨True, _, rfl, trivial, hq⟩⟩
  cases hx; exact hq
theorem EK_yes (t : Nat) (v : AV) : EK C (some (True, v, h, c)) t r m s g = RunD C r m s (upd g t v) h c := by
  refine propext ⟨fun ⟨p, v, h', c', hx, hp, hq⟩ => ?_, fun hq => ⟨True, _, _, _, rfl, trivial, hq⟩⟩
  cases hx; exact hq
theorem WK_yes : WK C (some (True, h)) d r m s g c = RunD C r m s (updO g d .undef) h c := by
  refine propext ⟨fun ⟨p, h', hx, hp, hq⟩ => ?_, fun hq => ⟨True, _, rfl, trivial, hq⟩⟩
  cases hx; exact hq
theorem Pick_t (x y : AV) : PickK C (.b true) x y d r m s g h c = RunD C r m s (updO g d x) h c := VK_yes C s g h c r m d x
theorem Pick_f (x y : AV) : PickK C (.b false) x y d r m s g h c = RunD C r m s (updO g d y) h c := VK_yes C s g h c r m d y
/-- What a test told. -/
def note (g : Slots) (t : Nat) (v : AV) : Slots := upd g t v
theorem note_upd (g : Slots) (t : Nat) (v : AV) : note g t v = upd g t v := rfl
theorem note_at (g : Slots) (t u : Nat) (v : AV) : note g t v u = if u = t then v else g u := rfl
theorem note_same (g : Slots) (t : Nat) (v : AV) (h : g t = v) : note g t v = g := by
  funext u; unfold note upd; split
  · rename_i e; subst e; exact h.symm
  · rfl
theorem Grd_t (w : Bool) (t : Nat) (o : KO) : GrdK C (.b true) w t d o r m s g h c = if w = true then RunD C (⟨d, none, o⟩ :: r) m s (note g t (.b true)) h c else RunD C r m s (updO (note g t (.b true)) d (.tup [])) h c := by
  cases w <;> simp [GrdK, note, AV.says]
theorem Grd_f (w : Bool) (t : Nat) (o : KO) : GrdK C (.b false) w t d o r m s g h c = if w = true then RunD C r m s (updO (note g t (.b false)) d (.tup [])) h c else RunD C (⟨d, none, o⟩ :: r) m s (note g t (.b false)) h c := by
  cases w <;> simp [GrdK, note, AV.says]
theorem Grd_u (w : Bool) (t : Nat) (o : KO) : GrdK C (.tup []) w t d o r m s g h c = RunD C r m s (updO (note g t (.tup [])) d (.tup [])) h c := by
  cases w <;> simp [GrdK, note, AV.says]
theorem Cnd_t (t : Nat) (a b : K) : CndK C (.b true) t a b s g h c = RunK C a s (note g t (.b true)) h c := by simp [CndK, note]
theorem Cnd_f (t : Nat) (a b : K) : CndK C (.b false) t a b s g h c = RunK C b s (note g t (.b false)) h c := by simp [CndK, note]
end

/-! by hand, where simp stops -/
section
variable {C : Con} {s : Stk} {g : Slots} {h : Heap} {c : Nat} {r m : List KOp} {d : Option Nat}
theorem VK_of {x : PV} {p : Prop} {v : AV} (hx : x = some (p, v)) (hp : p) (hq : RunD C r m s (updO g d v) h c) : VK C x d r m s g h c := ⟨p, v, hx, hp, hq⟩
theorem VK_p {p : Prop} {v : AV} (hp : p) (hq : RunD C r m s (updO g d v) h c) : VK C (some (p, v)) d r m s g h c := ⟨p, v, rfl, hp, hq⟩
theorem EK_p {t : Nat} {p : Prop} {v : AV} {h' : Heap} {c' : Nat} (hp : p) (hq : RunD C r m s (upd g t v) h' c') : EK C (some (p, v, h', c')) t r m s g := ⟨p, v, h', c', rfl, hp, hq⟩
theorem WK_p {p : Prop} {h' : Heap} (hp : p) (hq : RunD C r m s (updO g d .undef) h' c) : WK C (some (p, h')) d r m s g c := ⟨p, h', rfl, hp, hq⟩
theorem EqnK_p {p : Prop} {v x y : AV} (hp : p) (hq : RunD C r m s (updO g d v) h c) : EqnK C (some (p, v)) x y d r m s g h c := .inl ⟨p, v, rfl, hp, hq⟩
theorem EqnK_any {e : PV} {x y : AV} (hx : x.isSl = true) (hy : y.isNils = true) (hq : ∀ b, RunD C r m s (updO g d (.b b)) h c) : EqnK C e x y d r m s g h c := .inr ⟨hx, hy, hq⟩
theorem CpyK_p {p : Prop} {v : AV} {h' : Heap} (hp : p) (hq : RunD C r m s (updO g d v) h' c) : CpyK C (some (p, v, h')) d r m s g c := ⟨p, v, h', rfl, hp, hq⟩
theorem ClrK_p {p : Prop} {h' : Heap} (hp : p) (hq : RunD C r m s (updO g d (.tup [])) h' c) : ClrK C (some (p, h')) d r m s g c := ⟨p, h', rfl, hp, hq⟩
theorem Gh_of {g' : Slots} {h' : Heap} {c' : Nat} (hG : Gh g h c g' h' c') (hq : RunD C r m s g' h' c') : GhK C r m s g h c := ⟨g', h', c', hG, hq⟩
theorem Cp_of {f z t : Nat} {es : List (List AV)} (hc : C.cp f z es) (hp : Pure es) (hn : h (.r t 0) = none) (hq : ∀ v, RunD C r m s (upd g t (.sl (.r t 0) v 0 es.length none)) (hup h (.r t 0) { ver := v, es := es, esz := z }) (c + 1)) : CpK C f [.dat z es] t r m s g h c := ⟨z, es, rfl, hc, hp, hn, hq⟩
theorem EKd_p {t : Nat} {p : Nat → Prop} {val : Nat → AV} {h' : Nat → Heap} {fr : Prop} (hp : ∀ v, p v) (hf : fr) (hq : ∀ v, RunD C r m s (upd g t (val v)) (h' v) (c + 1)) : EKd C (fun v => some (p v, val v, h' v, v + 1)) fr t r m s g c := fun v => ⟨p v, _, _, rfl, hp v, hf, hq v⟩
theorem Grd_by {b w : Bool} {t : Nat} {o : KO} (h1 : b = true → GrdK C (.b true) w t d o r m s g h c) (h2 : b = false → GrdK C (.b false) w t d o r m s g h c) : GrdK C (.b b) w t d o r m s g h c := by
  cases b
  · exact h2 rfl
  · exact h1 rfl
theorem Cnd_by {b : Bool} {t : Nat} {x y : K} (h1 : b = true → RunK C x s (upd g t (.b true)) h c) (h2 : b = false → RunK C y s (upd g t (.b false)) h c) : CndK C (.b b) t x y s g h c := ⟨b, rfl, h1, h2⟩
theorem Pick_by {b : Bool} {x y : AV} (h1 : b = true → RunD C r m s (updO g d x) h c) (h2 : b = false → RunD C r m s (updO g d y) h c) : PickK C (.b b) x y d r m s g h c := by
  cases b
  · rw [Pick_f]; exact h2 rfl
  · rw [Pick_t]; exact h1 rfl
/-- A call, whatever comes back. -/
theorem Call_any {f : Nat} {capt args : List AV} (os : List Rid) (obs : List Ob) (own : Bool) (Φ : AV → List Ob → Prop)
    (hc : C f (expL h os (args ++ capt)) obs own Φ) (ho : os.map (fun o => (h o).map (fun b => { b with ver := 0, fixed := true })) = obs.map some) (hnd : os.Nodup)
    (he : ∀ a ∈ args ++ capt, ExpOk h os a) (hp : ∀ b ∈ obs, Pure b.es) (hr : own = true ∨ ∀ a ∈ args ++ capt, a.rooted = false)
    (hq : ∀ v obs', Φ v obs' → obs.length ≤ obs'.length ∧ (∀ b ∈ obs', Pure b.es) ∧ (own = true → ∀ b ∈ obs', b.own ∨ Flat b.es) ∧ RunD C r m s (updO g d (impA (d.getD 0) os.length c v)) (hcall h os obs' (d.getD 0) c) (nclk c os obs')) : CallK C (.fn f capt) args d r m s g h c :=
  .inl ⟨f, capt, rfl, os, obs, own, Φ, hc, ho, hnd, he, hp, hr, hq⟩
/-- A call that goes on in the same heap. -/
theorem Call_x {f : Nat} {capt args : List AV} (hx : C.x f (args ++ capt) h c (fun v h' c' => RunD C r m s (updO g d v) h' c')) : CallK C (.fn f capt) args d r m s g h c := .inr ⟨f, capt, rfl, hx⟩
/-- A call that is handed objects, or gives some back. -/
theorem Call_obs {f : Nat} {capt args : List AV} (os : List Rid) (obs : List Ob) (v : AV) (own : Bool) (obs' : List Ob)
    (hc : C.det f (expL h os (args ++ capt)) obs v own obs') (ho : os.map (fun o => (h o).map (fun b => { b with ver := 0, fixed := true })) = obs.map some) (hnd : os.Nodup) (hl : obs.length ≤ obs'.length)
    (he : ∀ a ∈ args ++ capt, ExpOk h os a) (hp : ∀ b ∈ obs, Pure b.es) (hp' : ∀ b ∈ obs', Pure b.es) (hr : own = true ∨ ∀ a ∈ args ++ capt, a.rooted = false) (hw : own = true → ∀ b ∈ obs', b.own ∨ Flat b.es)
    (hq : RunD C r m s (updO g d (impA (d.getD 0) os.length c v)) (hcall h os obs' (d.getD 0) c) (nclk c os obs')) : CallK C (.fn f capt) args d r m s g h c :=
  Call_any os obs own _ hc ho hnd he hp hr fun r' o' ⟨e1, e2⟩ => by subst e1; subst e2; exact ⟨hl, hp', hw, hq⟩
/-- A call of a function that is handed values alone. -/
theorem Call_val {f : Nat} {capt args : List AV} {v : AV} {own : Bool}
    (hc : C.det f (expL h [] (args ++ capt)) [] v own []) (he : ∀ a ∈ args ++ capt, ExpOk h [] a) (ho : own = true ∨ ∀ a ∈ args ++ capt, a.rooted = false) (hq : RunD C r m s (updO g d v) h c)
    (hi : ∀ t n c, impA t n c v = v := by intros; first | rfl | (simp [impA, impL]; done)) : CallK C (.fn f capt) args d r m s g h c :=
  Call_obs [] [] v own [] hc rfl .nil (Nat.le_refl _) he (fun _ hb => by cases hb) (fun _ hb => by cases hb) ho (fun _ _ hb => by cases hb) (by rw [hcall_nil, hi]; exact hq)
/-- A call that is handed values alone; what it answers is not told. -/
theorem Call_vals {f : Nat} {capt args : List AV} {own : Bool} {Φ : AV → List Ob → Prop}
    (hc : C f (expL h [] (args ++ capt)) [] own Φ) (he : ∀ a ∈ args ++ capt, ExpOk h [] a) (ho : own = true ∨ ∀ a ∈ args ++ capt, a.rooted = false)
    (hq : ∀ v o', Φ v o' → o' = [] ∧ (∀ t n c, impA t n c v = v) ∧ RunD C r m s (updO g d v) h c) : CallK C (.fn f capt) args d r m s g h c :=
  Call_any [] [] own Φ hc rfl .nil he (fun _ hb => by cases hb) ho fun v o' hΦ => by
    obtain ⟨rfl, hi, hq⟩ := hq v o' hΦ
    exact ⟨Nat.le_refl _, (fun _ hb => by cases hb), (fun _ _ hb => by cases hb), by rw [hcall_nil, hi]; exact hq⟩
theorem tgt_r_eq (os : List Rid) (t n t' j : Nat) : tgt os t n (.r t' j) = if t' = t ∧ os.length + j < n then some (os.length + j) else os.idxOf? (.r t' j) := rfl
theorem hcall_new (h : Heap) (ob : Ob) (t c : Nat) : hcall h [] [ob] t c = hup h (.r t 0) { ob with ver := c } := by
  funext u
  have e : tgt [] t [ob].length u = if u = .r t 0 then some 0 else none := by
    cases u with
    | r t' j =>
      rw [tgt_r_eq]
      by_cases e : t' = t ∧ j = 0
      · obtain ⟨rfl, rfl⟩ := e
        simp
      · have : ¬ (t' = t ∧ ([] : List Rid).length + j < [ob].length) := by simp; omega
        rw [if_neg this, if_neg (by intro h; cases h; exact e ⟨rfl, rfl⟩)]
        rfl
    | p _ => simp [tgt]
    | l _ => simp [tgt]
  unfold hcall hup
  rw [e]
  by_cases hu : u = .r t 0
  · simp [hu]
  · simp [hu]
theorem hcall_upd {h : Heap} {o : Rid} {b : Ob} (ho : h o = some b) (ob : Ob) (t c : Nat) : hcall h [o] [ob] t c = hup h o { ob with ver := b.ver, fixed := b.fixed } := by
  funext u
  have e : tgt [o] t [ob].length u = if u = o then some 0 else none := by
    have e0 : [o].idxOf? u = if u = o then some 0 else none := by
      by_cases hu : u = o
      · subst hu; simp [List.idxOf?_cons]
      · have : (o == u) = false := by simpa using fun h => hu h.symm
        simp [List.idxOf?_cons, this, hu]
    cases u with
    | r t' j =>
      rw [tgt_r_eq, if_neg (by simp), e0]
    | p _ => exact e0
    | l _ => exact e0
  unfold hcall hup
  rw [e]
  by_cases hu : u = o
  · subst hu; simp [ho]
  · simp [hu]
theorem newObs_r (t c : Nat) : ∀ (obs : List Ob) (k : Nat) (h : Heap) (t' j : Nat), newObs t c k obs h (.r t' j) = if t' = t ∧ k ≤ j ∧ j < k + obs.length then (obs[j - k]?).map fun b => { b with ver := c } else h (.r t' j)
  | [], k, h, t', j => by
    have : ¬ (t' = t ∧ k ≤ j ∧ j < k + ([] : List Ob).length) := by rw [List.length_nil]; omega
    rw [if_neg this]; rfl
  | b :: r, k, h, t', j => by
    rw [newObs, newObs_r t c r (k + 1)]
    by_cases h1 : t' = t ∧ k + 1 ≤ j ∧ j < k + 1 + r.length
    · have h2 : t' = t ∧ k ≤ j ∧ j < k + (b :: r).length := by rw [List.length_cons]; omega
      rw [if_pos h1, if_pos h2, show j - k = (j - (k + 1)) + 1 by omega, List.getElem?_cons_succ]
    · rw [if_neg h1]
      by_cases h2 : t' = t ∧ j = k
      · obtain ⟨rfl, rfl⟩ := h2
        rw [hup_at, if_pos rfl, if_pos (by simp)]; simp
      · have h3 : ¬ (t' = t ∧ k ≤ j ∧ j < k + (b :: r).length) := by rw [List.length_cons]; omega
        rw [if_neg h3, hup_at, if_neg (fun h4 => by cases h4; exact h2 ⟨rfl, rfl⟩)]
theorem newObs_o (t c : Nat) (u : Rid) (hu : ∀ t' j, u ≠ .r t' j) : ∀ (obs : List Ob) (k : Nat) (h : Heap), newObs t c k obs h u = h u
  | [], k, h => rfl
  | b :: r, k, h => by rw [newObs, newObs_o t c u hu r, hup_at, if_neg (hu t k)]
theorem hcall_news (h : Heap) (obs : List Ob) (t c : Nat) : hcall h [] obs t c = newObs t c 0 obs h := by
  funext u
  unfold hcall
  cases u with
  | r t' j =>
    rw [newObs_r, tgt_r_eq]
    simp only [List.length_nil, Nat.zero_add, Nat.sub_zero, Nat.zero_le, true_and]
    by_cases h1 : t' = t ∧ j < obs.length
    · rw [if_pos h1, if_pos h1]
      simp
    · rw [if_neg h1, if_neg h1]
      rfl
  | p _ => rw [newObs_o t c _ (by simp)]; rfl
  | l _ => rw [newObs_o t c _ (by simp)]; rfl
/-- A call that gives back one object. -/
theorem Call_new {f : Nat} {capt args : List AV} {v : AV} {own : Bool} (ob : Ob) (hc : C.det f (expL h [] (args ++ capt)) [] v own [ob]) (he : ∀ a ∈ args ++ capt, ExpOk h [] a) (hp : Pure ob.es) (hr : own = true ∨ ∀ a ∈ args ++ capt, a.rooted = false)
    (hw : own = true → ob.own ∨ Flat ob.es) (hq : RunD C r m s (updO g d (impA (d.getD 0) 0 c v)) (hup h (.r (d.getD 0) 0) { ob with ver := c }) (c + 1)) : CallK C (.fn f capt) args d r m s g h c :=
  Call_obs [] [] v own [ob] hc rfl .nil (by simp) he (fun _ hb => by cases hb) (fun b hb => by simp at hb; subst hb; exact hp) hr (fun e b hb => by simp at hb; subst hb; exact hw e) (by rw [hcall_new]; exact hq)
/-- A call that is handed one object. -/
theorem Call_one {f : Nat} {capt args : List AV} {v : AV} {own : Bool} (o : Rid) (b ob : Ob) (ho : h o = some b) (hc : C.det f (expL h [o] (args ++ capt)) [{ b with ver := 0, fixed := true }] v own [ob]) (he : ∀ a ∈ args ++ capt, ExpOk h [o] a) (hp : Pure b.es) (hp' : Pure ob.es)
    (hr : own = true ∨ ∀ a ∈ args ++ capt, a.rooted = false) (hw : own = true → ob.own ∨ Flat ob.es) (hq : RunD C r m s (updO g d v) (hup h o { ob with ver := b.ver, fixed := b.fixed }) c)
    (hi : ∀ t n c, impA t n c v = v := by intros; first | rfl | (simp [impA, impL]; done)) : CallK C (.fn f capt) args d r m s g h c :=
  Call_obs [o] [{ b with ver := 0, fixed := true }] v own [ob] hc (by simp [ho]) (by simp) (by simp) he (fun x hb => by simp at hb; subst hb; exact hp) (fun b hb => by simp at hb; subst hb; exact hp') hr (fun e b hb => by simp at hb; subst hb; exact hw e)
    (by rw [hcall_upd ho, hi]; exact hq)
/-- A call that is handed one object, in a region whose order is drawn. -/
theorem Callh_one {f : Nat} {capt args : List AV} {v : AV} {own : Bool} (o : Rid) (b ob : Ob) (hol : o.isL = false) (ho : h o = some b) (hc : C.det f (expL h [o] (args ++ capt)) [{ b with ver := 0, fixed := true }] v own [ob])
    (he : ∀ a ∈ args ++ capt, ExpOk h [o] a ∧ (a.free = true ∨ match a with | .ptr o' _ _ _ | .sl o' _ _ _ _ => o' ∈ [o] | _ => False)) (hp : Pure b.es) (hp' : Pure ob.es)
    (hr : own = true ∨ ∀ a ∈ args ++ capt, a.rooted = false) (hw : own = true → ob.own ∨ Flat ob.es) (hq : RunD C r m s (updO g d v) (hup h o { ob with ver := b.ver, fixed := b.fixed }) c)
    (hi : ∀ t n c, impA t n c v = v := by intros; first | rfl | (simp [impA, impL]; done)) : CallKh C (.fn f capt) args d r m s g h c :=
  ⟨v, _, ⟨f, capt, own, [o], [{ b with ver := 0, fixed := true }], [ob], rfl, hc, by simp [ho], by simp, by simpa using hol, rfl, he, (fun x hb => by simp at hb; subst hb; exact hp), (fun b hb => by simp at hb; subst hb; exact hp'), hr, (fun e b hb => by simp at hb; subst hb; exact hw e), hi, rfl⟩,
    by rw [hcall_upd ho]; exact hq⟩
/-- A call that is handed one object; what it answers is not told. -/
theorem Call_ones {f : Nat} {capt args : List AV} {own : Bool} {Φ : AV → List Ob → Prop} (o : Rid) (b : Ob) (ho : h o = some b) (hc : C f (expL h [o] (args ++ capt)) [{ b with ver := 0, fixed := true }] own Φ) (he : ∀ a ∈ args ++ capt, ExpOk h [o] a) (hp : Pure b.es)
    (hr : own = true ∨ ∀ a ∈ args ++ capt, a.rooted = false)
    (hq : ∀ v o', Φ v o' → ∃ ob, o' = [ob] ∧ Pure ob.es ∧ (own = true → ob.own ∨ Flat ob.es) ∧ (∀ t n c, impA t n c v = v) ∧ RunD C r m s (updO g d v) (hup h o { ob with ver := b.ver, fixed := b.fixed }) c) : CallK C (.fn f capt) args d r m s g h c :=
  Call_any [o] [{ b with ver := 0, fixed := true }] own Φ hc (by simp [ho]) (by simp) he (fun x hb => by simp at hb; subst hb; exact hp) hr fun v o' hΦ => by
    obtain ⟨ob, rfl, hp', hw, hi, hq⟩ := hq v o' hΦ
    exact ⟨by simp, (fun b hb => by simp at hb; subst hb; exact hp'), (fun e b hb => by simp at hb; subst hb; exact hw e), by rw [hcall_upd ho, hi]; exact hq⟩
theorem Call0_val {f : Nat} {capt args : List AV} {v : AV} (own : Bool) (hc : C.det f (args ++ capt) [] v own []) (he : ∀ a ∈ args ++ capt, a.free = true) (ho : own = true ∨ ∀ a ∈ args ++ capt, a.rooted = false) (hq : RunD C r m s (updO g d v) h c)
    (hi : ∀ t n c, impA t n c v = v := by intros; first | rfl | (simp [impA, impL]; done)) : CallK0 C (.fn f capt) args d r m s g h c :=
  ⟨v, ⟨f, capt, own, rfl, hc, hi, he, ho⟩, hq⟩
theorem Callv_val {f : Nat} {capt args : List AV} {v : AV} (own : Bool) (hc : C.det f (expL h [] (args ++ capt)) [] v own []) (he : ∀ a ∈ args ++ capt, ExpOk h [] a) (ho : own = true ∨ ∀ a ∈ args ++ capt, a.rooted = false) (hq : RunD C r m s (updO g d v) h c)
    (hi : ∀ t n c, impA t n c v = v := by intros; first | rfl | (simp [impA, impL]; done)) : CallKv C (.fn f capt) args d r m s g h c :=
  ⟨v, ⟨f, capt, own, rfl, hc, hi, he, ho⟩, hq⟩
theorem Calln_of {f t : Nat} {capt args : List AV} {v : AV} (own : Bool) {b : Ob} {obs' : List Ob} (hc : C.det f (expL h [] (args ++ capt)) [] v own (b :: obs')) (he : ∀ a ∈ args ++ capt, ExpOk h [] a) (hp : ∀ x ∈ b :: obs', Pure x.es) (hw : own = true → ∀ x ∈ b :: obs', x.own ∨ Flat x.es) (ho : own = true ∨ ∀ a ∈ args ++ capt, a.rooted = false)
    (hn : ∀ j, j < (b :: obs').length → h (.r t j) = none) (hq : ∀ ν, RunD C r m s (upd g t (impA t 0 ν v)) (newObs t ν 0 (b :: obs') h) (c + 1)) : CallKn C (.fn f capt) args t r m s g h c :=
  fun ν => ⟨v, b :: obs', ⟨f, capt, own, rfl, hc, he, hp, hw, ho⟩, hn, hq ν⟩
/-- Such a call that gives back no object. -/
theorem Calln_val {f t : Nat} {capt args : List AV} {v : AV} (own : Bool) (hc : C.det f (expL h [] (args ++ capt)) [] v own []) (he : ∀ a ∈ args ++ capt, ExpOk h [] a) (ho : own = true ∨ ∀ a ∈ args ++ capt, a.rooted = false) (hq : RunD C r m s (upd g t v) h c)
    (hi : ∀ t n c, impA t n c v = v := by intros; first | rfl | (simp [impA, impL]; done)) : CallKn C (.fn f capt) args t r m s g h c :=
  fun ν => ⟨v, [], ⟨f, capt, own, rfl, hc, he, (fun _ hb => by cases hb), (fun _ _ hb => by cases hb), ho⟩, (fun j hj => by simp at hj), by rw [hi]; exact hq⟩
theorem K_loop {k : K} (I : Post) (μ : Slots → Heap → Nat → Nat) (h0 : I g h c)
    (hr : ∀ (A : Post) (n : Nat), (∀ g h c, I g h c → μ g h c < n → A g h c) → ∀ g h c, I g h c → μ g h c = n → RunK C k (.post A s) g h c) : RunK C (.loop k) s g h c :=
  ⟨I, μ, h0, fun g h c hI => hr _ _ (fun _ _ _ hI' hl => ⟨hI', hl⟩) g h c hI rfl⟩
end
attribute [go_sem] K_seq K_reg K_dreg K_block K_skip K_exit K_ret K_cond R_seq R_seq_exit R_seq_ret R_blk R_blk_ret R_blk_exit R_post R_post_exit R_post_ret R_done D_ldl D_stl ldA stA D_nil D_end D_if D_mv D_pick D_build D_load D_nilck D_bin D_eqt eqtF eqCells eqK D_un D_conv D_slc D_sls D_fld D_fldv D_idx D_idxa D_slca idxaF slcaF D_ids D_ext D_len D_cap capF D_mm D_mkf D_store D_call D_call0 D_callv D_calln D_callh D_eqn D_cpy D_clr cpyF clrF lenA truncA laidF D_alloc D_box D_bslice D_mks D_app D_appz D_gh D_mk_alloc D_mk_bsl D_mk_box D_mk_mks D_mk_app EKd_yes D_callc appzF VK_yes EK_yes WK_yes Pick_t Pick_f Grd_t Grd_u Grd_f Cnd_t Cnd_f ev updO note_same note_at upd_at hup_at hdel_at yes cur loadF nilckF slcF slsF fldF fldvF idxF idsF extF lenF mmF buildF binF binI binS unF convF loN hiN AV.asI AV.asS AV.isDat AV.cells storeF allocF boxF srcF appF AV.storable List.all_cons List.all_nil Bool.and_true Bool.and_self Option.bind_some Option.map_some Option.map_none ne_eq bslF chunk fillA List.replicate_succ List.replicate_zero List.flatten_cons List.flatten_nil sub bytesOf Nat.mul_one Nat.one_mul Nat.zero_mul Nat.mul_zero Nat.le_refl Bool.false_eq_true Bool.true_eq_false List.getElem?_cons_zero List.getElem?_cons_succ List.length_cons List.length_nil List.drop_zero List.drop_succ_cons List.drop_nil List.take_zero List.take_succ_cons List.take_nil List.append_nil List.nil_append List.cons_append List.set_cons_zero List.set_cons_succ List.map_cons List.map_nil not_false_eq_true implies_true and_self and_true true_and false_and true_or Int.toNat_natCast Int.sub_zero Int.toNat_zero Int.natCast_nonneg List.length_map List.getElem?_map decide_true decide_false decide_not Nat.zero_add Nat.add_zero Bool.not_true Bool.not_false false_implies Rid.l.injEq Rid.r.injEq Rid.p.injEq Int.ofNat_lt
end Go.AM

/-! Draw3 -/
namespace Go.AM
variable {P : Program} {I : Ini} {C : Con} {m : Nat} {hint : Nat → Nat}

theorem expA_free {h : Heap} {a : AV} (ha : a.free = true) : expA h [] a = a := by
  have pure : ∀ x : AV, x.pure = true → expA h [] x = x := fun x hx => by cases x <;> first | (simp [AV.pure] at hx; done) | simp [expA]
  have list : ∀ l : List AV, l.all AV.pure = true → expL h [] l = l := by
    intro l
    induction l with
    | nil => intro _; simp [expL]
    | cons x r ih => intro hl; simp only [List.all_cons, Bool.and_eq_true] at hl; rw [expL, pure x hl.1, ih hl.2]
  cases a with
  | agg cs => rw [expA, list cs ha]
  | tup cs => rw [expA, list cs ha]
  | fn f cs => rw [expA, list cs ha]
  | _ => exact pure _ ha
theorem expL_free {h : Heap} : ∀ {l : List AV}, (∀ a ∈ l, a.free = true) → expL h [] l = l
  | [], _ => by simp [expL]
  | a :: r, hl => by rw [expL, expA_free (hl a List.mem_cons_self), expL_free fun b hb => hl b (List.mem_cons_of_mem _ hb)]
theorem expOk_free {h : Heap} {a : AV} (ha : a.free = true) : ExpOk h [] a := by
  have one : ∀ c : AV, c.pure = true → (match c with
      | .sl o v off len _ => match ([] : List Rid).idxOf? o, cur h o v with
        | none, some ob => Pure ob.es ∧ off + len ≤ ob.es.length
        | some _, some _ => True
        | _, none => False
      | .ptr o v _ _ => match ([] : List Rid).idxOf? o, cur h o v with
        | some _, some _ => True
        | _, _ => False
      | c => c.pure = true) := fun c hc => by cases c <;> first | (simp [AV.pure] at hc; done) | exact hc
  cases a with
  | agg cs => exact fun c hc => one c (List.all_eq_true.1 ha c hc)
  | tup cs => exact fun c hc => one c (List.all_eq_true.1 ha c hc)
  | fn f cs => exact fun c hc => one c (List.all_eq_true.1 ha c hc)
  | ptr _ _ _ _ => simp [AV.free, AV.pure] at ha
  | sl _ _ _ _ _ => simp [AV.free, AV.pure] at ha
  | _ => exact ha

theorem kop_undrawn (hcp : ∀ f z es, C.cp f z es → C.c f [.dat z es] [] true (fun r o => r = .sl (.p 0) 1 0 es.length none ∧ o = [{ ver := 1, es := es, esz := z }])) {o : KO} {d : Option Nat} {Q : Post} {g : Slots} {h : Heap} {c : Nat} (hk : kop C d (o.drawn m hint) Q g h c) : kop C d o Q g h c := by
  have c0 : ∀ {f : KV} {as : List KV}, kop C d (.call0 f as) Q g h c → kop C d (.call f as) Q g h c := by
    intro f as hk
    obtain ⟨r, ⟨fid, capt, own, h1, h2, h6, h3, h4⟩, h5⟩ := hk
    refine .inl ⟨fid, capt, h1, [], [], own, (fun r' o' => r' = r ∧ o' = []), by rw [expL_free h3]; exact h2, rfl, .nil, fun a ha => expOk_free (h3 a ha), fun _ hb => (by cases hb), h4, fun r' o' he => ?_⟩
    obtain ⟨e1, e2⟩ := he
    subst e1; subst e2
    exact ⟨Nat.le_refl _, fun _ hb => (by cases hb), fun _ _ hb => (by cases hb), by rw [hcall_nil, h6]; exact h5⟩
  have ch : ∀ {f : KV} {as : List KV}, kop C d (.callh f as) Q g h c → kop C d (.call f as) Q g h c := by
    intro f as hk
    obtain ⟨r, h', ⟨fid, capt, own, os, obs, obs', k1, k2, k3, k4, k5, k6, k7, k8, k9, k10, k11, k12, rfl⟩, h5⟩ := hk
    have hlen : obs.length = os.length := by have := congrArg List.length k3; simpa using this.symm
    refine .inl ⟨fid, capt, k1, os, obs, own, (fun r' o' => r' = r ∧ o' = obs'), k2, k3, k4, fun a ha => (k7 a ha).1, k8, k10, fun r' o' he => ?_⟩
    obtain ⟨e1, e2⟩ := he
    subst e1; subst e2
    have e3 : nclk c os o' = c := by unfold nclk; rw [if_neg (by omega)]
    exact ⟨by omega, k9, k11, by rw [hcall_same (by omega), k12, e3]; exact h5⟩
  have mk : ∀ {o : KO}, o.makes = true → kop C d (.mk4 o) Q g h c → kop C d o Q g h c := by
    intro o ho hk
    obtain ⟨t, p, val, h', h1, h2, h3, h4, h5⟩ := hk c
    cases o <;> simp only [KO.makes] at ho <;> first | (cases ho; done) | exact ⟨t, p, val, h', c + 1, h1, h2, h3, h5⟩
  have cc : ∀ {f : Nat} {as : List KV}, kop C d (.callc f as) Q g h c → kop C d (.call (.f f) as) Q g h c := by
    rintro f as ⟨t, z, es, rfl, h2, h3, h4, h5, h6⟩
    refine .inl ⟨f, [], rfl, [], [], true, (fun r o => r = .sl (.p 0) 1 0 es.length none ∧ o = [{ ver := 1, es := es, esz := z }]), ?_, rfl, .nil, ?_, (fun _ hb => by cases hb), .inl rfl, ?_⟩
    · rw [h2]; simp only [List.append_nil, expL, expA]
      exact hcp _ _ _ h3
    · rw [h2]
      intro a ha
      simp at ha; subst ha; rfl
    · rintro r o' ⟨rfl, rfl⟩
      refine ⟨by simp, fun b hb => ?_, fun _ b hb => ?_, ?_⟩
      · simp at hb; subst hb; exact h4
      · simp at hb; subst hb; exact .inl trivial
      · rw [hcall_new]
        have := h6 c
        simpa [impA, nclk, updO] using this
  have cv : ∀ {f : KV} {as : List KV}, kop C d (.callv f as) Q g h c → kop C d (.call f as) Q g h c := by
    intro f as hk
    obtain ⟨r, ⟨fid, capt, own, h1, h2, h6, h3, h4⟩, h5⟩ := hk
    refine .inl ⟨fid, capt, h1, [], [], own, (fun r' o' => r' = r ∧ o' = []), h2, rfl, .nil, h3, fun _ hb => (by cases hb), h4, fun r' o' he => ?_⟩
    obtain ⟨e1, e2⟩ := he
    subst e1; subst e2
    exact ⟨Nat.le_refl _, fun _ hb => (by cases hb), fun _ _ hb => (by cases hb), by rw [hcall_nil, h6]; exact h5⟩
  have cn : ∀ {f : KV} {as : List KV}, kop C d (.calln f as) Q g h c → kop C d (.call f as) Q g h c := by
    intro f as hk
    obtain ⟨t, r, o', rfl, ⟨fid, capt, own, h1, h2, h4, h5, h6, h7⟩, h8, h9⟩ := hk c
    refine .inl ⟨fid, capt, h1, [], [], own, (fun r' o2 => r' = r ∧ o2 = o'), h2, rfl, .nil, h4, fun _ hb => (by cases hb), h7, fun r' o2 he => ?_⟩
    obtain ⟨e1, e2⟩ := he
    subst e1; subst e2
    refine ⟨Nat.zero_le _, h5, h6, ?_⟩
    rw [hcall_news]; exact h9
  cases o
  case call f as =>
    cases f with
    | f n =>
      simp only [KO.drawn] at hk
      split at hk
      · exact ch hk
      · exact cc hk
      · exact cv hk
      · exact cn hk
      · exact c0 hk
    | t n => exact c0 hk
    | c v => exact c0 hk
    | g v => exact c0 hk
    | bad => exact c0 hk
  case eqn n x y => exact .inl hk
  case gh => obtain ⟨p, v, h1, _⟩ := hk; cases h1
  case load a n x =>
    simp only [KO.drawn] at hk
    split at hk
    · obtain ⟨p, v, h1, h2, h3⟩ := hk
      simp only [kv] at h1
      unfold ldA at h1
      split at h1
      · next ea =>
        split at h1
        · exact ⟨p, v, by simp only [kv]; rw [ea]; exact h1, h2, h3⟩
        · cases h1
      · cases h1
    · exact hk
  case store n a x =>
    simp only [KO.drawn] at hk
    split at hk
    · obtain ⟨p, h', h1, h2, h3⟩ := hk
      unfold stA at h1
      split at h1
      · next ea =>
        split at h1
        · exact ⟨p, h', by rw [ea]; exact h1, h2, h3⟩
        · cases h1
      · cases h1
    · exact hk
  all_goals first
    | exact hk
    | (simp only [KO.drawn] at hk
       split at hk
       · exact mk rfl hk
       · exact hk)
    | (simp only [KO.drawn, KO.makes, and_false, Bool.false_eq_true, if_false] at hk; exact hk)
theorem kops_undrawn (hcp : ∀ f z es, C.cp f z es → C.c f [.dat z es] [] true (fun r o => r = .sl (.p 0) 1 0 es.length none ∧ o = [{ ver := 1, es := es, esz := z }])) {o : KOp} {r : List KOp} {Q : Post} {g : Slots} {h : Heap} {c : Nat} (hk : kops C (o.drawn m hint :: r) Q g h c) : kops C (o :: r) Q g h c := by
  unfold kops at *
  have e1 : (o.drawn m hint).g = o.g := rfl
  have e2 : (o.drawn m hint).d = o.d := rfl
  rw [e1, e2] at hk
  cases hg : o.g with
  | none => rw [hg] at hk; exact kop_undrawn hcp hk
  | some tw =>
    obtain ⟨t, w⟩ := tw
    rw [hg] at hk
    obtain ⟨x, h1, h2, h3⟩ := hk
    exact ⟨x, h1, fun e => kop_undrawn hcp (h2 e), h3⟩
theorem drawn_ko (o : KO) : (∀ f as, o.drawn m hint ≠ .call f as) ∧ (o.drawn m hint).eqn? = false := by
  cases o
  case call f as =>
    cases f with
    | f n => simp only [KO.drawn]; split <;> exact ⟨fun _ _ h => (by cases h), rfl⟩
    | _ => exact ⟨fun _ _ h => (by cases h), rfl⟩
  case eqn => exact ⟨fun _ _ h => (by cases h), rfl⟩
  case gh => exact ⟨fun _ _ h => (by cases h), rfl⟩
  all_goals (simp only [KO.drawn]; split <;> exact ⟨fun _ _ h => (by cases h), rfl⟩)
theorem drawn_plain (o : KOp) : (o.drawn m hint).plain := drawn_ko o.o

theorem head_ok (hC : ConOk P C) {rd : Option Nat} {ops : Array Oper} {o : Oper} {r : List KOp} {Q : Post} {K : Act → World → Prop} {QQ : Exit → Act → World → Prop} (hK : ∀ {g : Slots} {h : Heap} {clk : Nat} {a : Act} {w : World}, Rel I g h clk a w → kops C r Q g h clk → K a w)
    {g : Slots} {h : Heap} {clk : Nat} {a : Act} {w : World} (R : Rel I g h clk a w) (hk : kops C (cop P I.n ops o :: r) Q g h clk) :
    if Region.wanted o (yielded ops a.tmps) = true then o.wpIn (Fw rd) 0 P a w K QQ else (∀ f, o.about P w a.eval = some f → (Fw rd).fn f) ∧ K (a.put o.dst Go.undef) w := by
  have done : ∀ {g h clk a w}, Rel I g h clk a w → kop C (cop P I.n ops o).d (cop P I.n ops o).o (kops C r Q) g h clk → o.wpIn (Fw rd) 0 P a w K QQ := by
    intro g h clk a w R hk
    by_cases hd : o.dst.all (· < I.n) = true
    · have e1 : (cop P I.n ops o).o = co P o.op := by simp only [cop]; rw [if_pos hd]
      rw [e1] at hk
      exact wpIn_of_wp (fun cc hcc => by rw [co_defer hcc] at hk; exact kop_bad hk) (kop_ok hC R hd hk (fun g h clk a w hq R => hK R hq))
    · have e1 : (cop P I.n ops o).o = .bad := by simp only [cop]; rw [if_neg hd]
      rw [e1] at hk
      obtain ⟨p, v, h1, _⟩ := hk
      cases h1
  unfold kops at hk
  cases hgd : o.guard with
  | none =>
    have hw : Region.wanted o (yielded ops a.tmps) = true := by unfold Region.wanted; rw [hgd]
    rw [if_pos hw]
    have e1 : (cop P I.n ops o).g = none := by simp [cop, hgd]
    rw [e1] at hk
    exact done R hk
  | some jw =>
    obtain ⟨j, wt⟩ := jw
    have e1 : (cop P I.n ops o).g = some (((ops[j]?).bind (·.dst)).getD I.n, wt) := by simp [cop, hgd]
    rw [e1] at hk
    obtain ⟨x, hx, h1, h2⟩ := hk
    obtain ⟨κ, H, E, hg⟩ := R.st
    have hy := yielded_ok hg R.sz hx
    have hw : Region.wanted o (yielded ops a.tmps) = (x == wt) := by
      unfold Region.wanted; rw [hgd]; exact hy
    rw [hw]
    by_cases hxw : x = wt
    · subst hxw
      simp only [beq_self_eq_true, if_true]
      exact done R (h1 rfl)
    · have hxn : x = !wt := by cases x <;> cases wt <;> simp_all
      have : (x == wt) = false := by simpa using hxw
      rw [this]
      simp only [Bool.false_eq_true, if_false]
      exact ⟨fun _ _ => trivial, hK (R.putU o.dst) (h2 hxn)⟩

def opAt (P : Program) (m : Nat) (hint : Nat → Nat) (n : Nat) (ops : Array Oper) (i : Nat) : KOp := ((((ops.toList.map (cop P n ops)).map (KOp.drawn m hint))[i]?).getD ⟨none, none, .bad⟩)
theorem opAt_some {n : Nat} {ops : Array Oper} {i : Nat} {o : Oper} (ho : ops[i]? = some o) : opAt P m hint n ops i = (cop P n ops o).drawn m hint := by
  unfold opAt
  simp [ho]
theorem opAt_plain {n : Nat} {ops : Array Oper} (i : Nat) : (opAt P m hint n ops i).plain := by
  unfold opAt
  cases h : (((ops.toList.map (cop P n ops)).map (KOp.drawn m hint))[i]?) with
  | none => exact ⟨fun f as hh => (by cases hh), rfl⟩
  | some o =>
    have := List.mem_of_getElem? h
    simp only [List.mem_map] at this
    obtain ⟨y, _, rfl⟩ := this
    exact drawn_plain y

theorem waits_listed {w : List (List Nat)} {listed : Array Bool} (hcl : ∀ j, listed.getD j false = true → ∀ e ∈ (w[j]?).getD [], listed.getD e false = true) : ∀ (f i x : Nat), waitsT w f i x = true → (∀ e ∈ (w[i]?).getD [], listed.getD e false = true) → listed.getD x false = true
  | 0, i, x, h, _ => by simp [waitsT] at h
  | f + 1, i, x, h, hi => by
    unfold waitsT at h
    rw [List.any_eq_true] at h
    obtain ⟨e, he, h2⟩ := h
    have hl := hi e he
    rw [Bool.or_eq_true] at h2
    rcases h2 with h2 | h2
    · have : e = x := by simpa using h2
      rw [← this]; exact hl
    · exact waits_listed hcl f e x h2 (hcl e hl)

theorem edges_mem {ops : Array Oper} {i : Nat} {o : Oper} (ho : ops[i]? = some o) {e : Nat} : e ∈ ((edges ops)[i]?).getD [] ↔ ∃ ed ∈ o.after, Region.binds .any ed = true ∧ ed.on = e := by
  unfold edges
  simp only [List.getElem?_map, Array.getElem?_toList, ho, Option.map_some, Option.getD_some, List.mem_filterMap, Array.mem_toList_iff]
  constructor
  · rintro ⟨ed, h1, h2⟩
    split at h2
    · rename_i hb; cases h2; exact ⟨ed, h1, hb, rfl⟩
    · cases h2
  · rintro ⟨ed, h1, hb, rfl⟩
    exact ⟨ed, h1, by rw [if_pos hb]⟩

theorem any_ok (hC : ConOk P C) {rd : Option Nat} {ops : Array Oper} {Q : Post} {QQ : Exit → Act → World → Prop} (hK : Lands C I Q (QQ .normal))
    (hd : drawOk ((ops.toList.map (cop P I.n ops)).map (KOp.drawn m hint)) (edges ops) = true) :
    ∀ (fuel : Nat) (listed : Array Bool) (ord : List Nat) {g : Slots} {h : Heap} {clk : Nat} {a : Act} {w : World}, ord.length = fuel → ord.Pairwise (· < ·) → (∀ i, i ∈ ord ↔ i < ops.size ∧ listed.getD i false = false) → listed.size = ops.size →
      (∀ j, listed.getD j false = true → ∀ e ∈ ((edges ops)[j]?).getD [], listed.getD e false = true) → Rel I g h clk a w → kops C (ord.map (opAt P m hint I.n ops)) Q g h clk → wpAnyIn (Fw rd) 0 P .any ops QQ fuel listed a w := by
  have hlen : ((ops.toList.map (cop P I.n ops)).map (KOp.drawn m hint)).length = ops.size := by simp
  have hall : ∀ i, i < ops.size → (∀ e ∈ ((edges ops)[i]?).getD [], e < i) ∧ ∀ x, x < i → waitsT (edges ops) ops.size i x = true ∨ apartK (opAt P m hint I.n ops x) (opAt P m hint I.n ops i) = true := by
    intro i hi
    unfold drawOk at hd
    rw [List.all_eq_true] at hd
    have h1 := hd i (by rw [hlen]; exact List.mem_range.2 hi)
    simp only [Bool.and_eq_true, List.all_eq_true, decide_eq_true_eq, List.mem_range, Bool.or_eq_true] at h1
    refine ⟨fun e he => h1.1 e he, fun x hx => ?_⟩
    rcases h1.2 x hx with h2 | h2
    · rw [hlen] at h2; exact .inl h2
    · refine .inr ?_
      unfold opAt
      split at h2
      · rename_i a b ha hb; rw [ha, hb]; exact h2
      · cases h2
  have rdy : ∀ {listed : Array Bool} {i : Nat}, listed.size = ops.size → i ∈ Region.ready .any ops listed → i < ops.size ∧ listed.getD i false = false ∧ ∀ e ∈ ((edges ops)[i]?).getD [], listed.getD e false = true := by
    intro listed i hs hi
    obtain ⟨h1, o, ho, h2⟩ := mem_ready.1 hi
    refine ⟨(Array.getElem?_eq_some_iff.1 ho).1, getD_both h1, fun e he => ?_⟩
    obtain ⟨ed, h3, h4, rfl⟩ := (edges_mem ho).1 he
    exact h2 ed h3 h4
  intro fuel
  induction fuel with
  | zero =>
    intro listed ord g h clk a w hl _ hm hs _ R hk
    have : ord = [] := List.eq_nil_of_length_eq_zero hl
    subst this
    refine ⟨?_, hK _ _ _ _ _ hk R⟩
    cases hr : Region.ready .any ops listed with
    | nil => rfl
    | cons i r =>
      have := rdy hs (i := i) (by rw [hr]; exact List.mem_cons_self)
      exact absurd ((hm i).2 ⟨this.1, this.2.1⟩) (by simp)
  | succ fuel ih =>
    intro listed ord g h clk a w hl hp hm hs hcl R hk
    refine ⟨fun hr => ?_, fun i hi => ?_⟩
    · cases ord with
      | nil => simp at hl
      | cons k r =>
        exfalso
        have hk1 := (hm k).1 List.mem_cons_self
        have hin : k ∈ Region.ready .any ops listed := by
          obtain ⟨o, ho⟩ : ∃ o, ops[k]? = some o := ⟨_, Array.getElem?_eq_getElem hk1.1⟩
          refine mem_ready.2 ⟨getD_in (by omega) hk1.2, o, ho, fun ed hed hb => ?_⟩
          have hlt := (hall k hk1.1).1 ed.on ((edges_mem ho).2 ⟨ed, hed, hb, rfl⟩)
          cases hq : listed.getD ed.on false with
          | true => rfl
          | false =>
            have := (hm ed.on).2 ⟨by omega, hq⟩
            rcases List.mem_cons.1 this with h1 | h1
            · omega
            · have := (List.pairwise_cons.1 hp).1 _ h1; omega
        rw [hr] at hin; cases hin
    · obtain ⟨hi1, hi2, hi3⟩ := rdy hs hi
      obtain ⟨o, ho⟩ : ∃ o, ops[i]? = some o := ⟨_, Array.getElem?_eq_getElem hi1⟩
      obtain ⟨pre, post, rfl⟩ := List.append_of_mem ((hm i).2 ⟨hi1, hi2⟩)
      rw [List.map_append, List.map_cons] at hk
      have hpre : ∀ x ∈ pre, x < i := fun x hx => (List.pairwise_append.1 hp).2.2 x hx i List.mem_cons_self
      have hk2 := to_front (opAt_plain (m := m) (hint := hint) i) _ _ (fun y hy => by
        obtain ⟨x, hx, rfl⟩ := List.mem_map.1 hy
        refine ⟨opAt_plain x, ?_⟩
        rcases (hall i hi1).2 x (hpre x hx) with h1 | h1
        · have h2 := waits_listed hcl _ _ _ h1 hi3
          have h3 := ((hm x).1 (List.mem_append_left _ hx)).2
          rw [h2] at h3; cases h3
        · exact h1) hk
      rw [opAt_some ho] at hk2
      have hk3 := kops_undrawn hC.2.2 hk2
      unfold wpOpIn
      simp only [ho]
      refine head_ok hC (Q := Q) (fun {g h clk a w} R hk => ?_) R hk3
      refine ih (listed.setIfInBounds i true) (pre ++ post) (by simp at hl ⊢; omega) ?_ (fun j => ?_) (by simpa using hs) (fun j hj e he => ?_) R (by rw [List.map_append]; exact hk)
      · exact List.Pairwise.sublist (by simp) hp
      · have hnd : i ∉ pre ∧ i ∉ post := ⟨fun hx => Nat.lt_irrefl _ (hpre i hx), fun hx => Nat.lt_irrefl _ ((List.pairwise_cons.1 (List.pairwise_append.1 hp).2.1).1 i hx)⟩
        have h1 := hm j
        by_cases hji : i = j
        · subst hji
          constructor
          · intro hx
            rcases List.mem_append.1 hx with h2 | h2
            · exact absurd h2 hnd.1
            · exact absurd h2 hnd.2
          · rintro ⟨_, h2⟩
            have : (listed.setIfInBounds i true).getD i false = true := by
              rw [Array.getD_eq_getD_getElem?, Array.getElem?_setIfInBounds_self_of_lt (by omega)]; rfl
            rw [this] at h2; cases h2
        · rw [getD_set_ne false hji]
          rw [← h1]
          simp only [List.mem_append, List.mem_cons]
          constructor
          · rintro (h2 | h2)
            · exact .inl h2
            · exact .inr (.inr h2)
          · rintro (h2 | h2 | h2)
            · exact .inl h2
            · exact absurd h2.symm hji
            · exact .inr h2
      · by_cases hji : i = j
        · subst hji; exact getD_set_true (hi3 e he)
        · rw [getD_set_ne false hji] at hj
          exact getD_set_true (hcl j hj e he)

theorem Rel.drew {g : Slots} {h : Heap} {clk : Nat} {a : Act} {w : World} (R : Rel I g h clk a w) : Rel I g h clk a { w with drawn := w.drawn + 1 } := by
  obtain ⟨κ, H, E, hg⟩ := R.st
  have E1 : Ext w κ h clk w.drew κ h clk := Ext.same rfl
  exact ⟨R.df, R.sz, κ, H.drew, E.trans E1, fun t => (hg t).ext E1⟩

theorem draw_ok (hC : ConOk P C) {rd : Option Nat} (hm : P.follows .mixedOrders = true) {id : Nat} {ops : Array Oper} {Q : Post} {QQ : Exit → Act → World → Prop} (hK : Lands C I Q (QQ .normal)) (hd : drawOk ((ops.toList.map (cop P I.n ops)).map (KOp.drawn m hint)) (edges ops) = true)
    {g : Slots} {h : Heap} {clk : Nat} {a : Act} {w : World} (R : Rel I g h clk a w) (hk : kops C ((ops.toList.map (cop P I.n ops)).map (KOp.drawn m hint)) Q g h clk) : (Code.region id ops true).wpIn (Fw rd) 0 P QQ a w := by
  refine wpIn_region_any hm (any_ok hC hK hd ops.size _ (List.range ops.size) (by simp) List.pairwise_lt_range (fun i => ?_) (by simp) (fun j hj => ?_) R.drew ?_)
  · rw [List.mem_range]
    exact ⟨fun hi => ⟨hi, getD_replicate_false _ _⟩, fun hi => hi.1⟩
  · rw [getD_replicate_false] at hj; cases hj
  · have e : (List.range ops.size).map (opAt P m hint I.n ops) = (ops.toList.map (cop P I.n ops)).map (KOp.drawn m hint) := by
      apply List.ext_getElem?
      intro i
      rw [List.getElem?_map]
      by_cases hi : i < ops.size
      · rw [List.getElem?_range hi, Option.map_some, opAt]
        have : i < ((ops.toList.map (cop P I.n ops)).map (KOp.drawn m hint)).length := by simpa using hi
        rw [List.getElem?_eq_getElem this]; rfl
      · rw [List.getElem?_eq_none (by simpa using hi), List.getElem?_eq_none (by simpa using hi)]; rfl
    rw [e]; exact hk
end Go.AM

/-! Code4 -/
namespace Go.AM
variable {P : Program} {I : Ini} {C : Con}

theorem cond_ok {c : Operand} {A B : K} {Q : Ex → Post} {g : Slots} {h : Heap} {clk : Nat} {a : Act} {w : World} (R : Rel I g h clk a w) (hk : kwp C (.cond (cv c) A B) Q g h clk) :
    ∃ x g', a.eval c = .bool x ∧ Rel I g' h clk a w ∧ (x = true → kwp C A Q g' h clk) ∧ (x = false → kwp C B Q g' h clk) := by
  obtain ⟨κ, H, E, hg⟩ := R.st
  have hev : VR w κ h clk (ev g (cv c)) (a.eval c) := ev_ok H.here hg c
  cases c with
  | tmp t =>
    obtain ⟨x, hx, h1, h2⟩ := hk
    have hx' : ev g (cv (.tmp t)) = .b x := hx
    rw [hx'] at hev
    refine ⟨x, upd g t (.b x), hev.of_b, R.slot hx, fun e => ?_, fun e => ?_⟩
    · subst e; exact h1 rfl
    · subst e; exact h2 rfl
  | const v =>
    obtain ⟨x, hx, h1, h2⟩ := hk
    rw [show ev g (cv (.const v)) = .b x from hx] at hev
    exact ⟨x, g, hev.of_b, R, h1, h2⟩
  | func f =>
    obtain ⟨x, hx, _⟩ := hk
    cases hx
  | global f =>
    obtain ⟨x, hx, _⟩ := hk
    cases hx

theorem least_ex (p : Nat → Prop) : ∀ n, p n → ∃ m, p m ∧ ∀ k, p k → m ≤ k := by
  intro n
  induction n using Nat.strongRecOn with
  | _ n ih =>
    intro hn
    by_cases hq : ∃ k, k < n ∧ p k
    · obtain ⟨k, hk, hp⟩ := hq; exact ih k hk hp
    · exact ⟨n, hn, fun k hk => Nat.le_of_not_lt fun hl => hq ⟨k, hl, hk⟩⟩
open Classical in
noncomputable def least (p : Nat → Prop) : Nat := if h : ∃ m, p m ∧ ∀ k, p k → m ≤ k then Classical.choose h else 0
theorem least_spec {p : Nat → Prop} (h : ∃ n, p n) : p (least p) ∧ ∀ k, p k → least p ≤ k := by
  obtain ⟨n, hn⟩ := h
  have h2 := least_ex p n hn
  unfold least
  rw [dif_pos h2]
  exact Classical.choose_spec h2

theorem strip_real : ∀ (l : List Oper) (n : Nat) (ops : Array Oper), (l.map (cop P n ops)).filter KOp.real = l.map (cop P n ops) := by
  intro l n ops
  refine List.filter_eq_self.2 fun o ho => ?_
  obtain ⟨x, _, rfl⟩ := List.mem_map.1 ho
  cases h : (cop P n ops x).real with
  | true => rfl
  | false =>
    have := congrArg KOp.o (real_gh h)
    simp only [cop] at this
    split at this
    · exact (inv_gh this).elim
    · cases this
theorem kwp_ok (hC : ConOk P C) {rd : Option Nat} (hmix : P.follows .mixedOrders = true) (hint : Nat → Nat) : ∀ (c : Code) (k : K), comp P I.n hint c = k.strip → drawsOk (comp P I.n hint c) = true → ∀ {Q : Ex → Post} {QQ : Exit → Act → World → Prop} {g : Slots} {h : Heap} {clk : Nat} {a : Act} {w : World},
    Meets C I Q QQ → Rel I g h clk a w → kwp C k Q g h clk → c.wpIn (Fw rd) 0 P QQ a w := by
  intro c
  induction c with
  | skip =>
    intro k hs hd Q QQ g h clk a w M R hk
    cases k <;> simp only [comp, K.strip] at hs <;> try cases hs
    exact wpIn_skip (M.1 _ _ _ _ _ hk R)
  | region id ops d =>
    intro k hs hd Q QQ g h clk a w M R hk
    cases d with
    | true =>
      have e : comp P I.n hint (.region id ops true) = K.dreg (drawnL hint (ops.toList.map (cop P I.n ops)) (edges ops)) (edges ops) := rfl
      rw [e] at hs hd
      cases k <;> simp only [K.strip] at hs <;> try cases hs
      exact draw_ok hC hmix M.1 hd R hk
    | false =>
      have e : comp P I.n hint (.region id ops false) = K.reg (ops.toList.map (cop P I.n ops)) := rfl
      rw [e] at hs
      cases k <;> simp only [K.strip] at hs <;> try (cases hs; done)
      simp only [K.reg.injEq] at hs
      exact wpIn_region_list (kops_ok hC M.1 _ ops.toList hs.symm R hk)
  | seq x y ihx ihy =>
    intro k hs hd Q QQ g h clk a w M R hk
    cases k <;> simp only [comp, K.strip] at hs <;> try (cases hs; done)
    rename_i kx ky
    simp only [K.seq.injEq] at hs
    simp only [comp, drawsOk, Bool.and_eq_true] at hd
    refine wpIn_seq (ihx kx hs.1 hd.1 (Q := Ex.then (kwp C ky Q) Q) ⟨fun g h clk a w hq R => ihy ky hs.2 hd.2 M R hq, fun id => M.2.1 id, M.2.2⟩ R hk)
  | cond c x y ihx ihy =>
    intro k hs hd Q QQ g h clk a w M R hk
    cases k <;> simp only [comp, K.strip] at hs <;> try (cases hs; done)
    rename_i kc kx ky
    simp only [K.cond.injEq] at hs
    obtain ⟨rfl, hs⟩ := hs
    obtain ⟨b, g', hb, R', h1, h2⟩ := cond_ok R hk
    simp only [comp, drawsOk, Bool.and_eq_true] at hd
    exact wpIn_cond_split hb (fun e => ihx kx hs.1 hd.1 M R' (h1 e)) (fun e => ihy ky hs.2 hd.2 M R' (h2 e))
  | block id x ih =>
    intro k hs hd Q QQ g h clk a w M R hk
    cases k <;> simp only [comp, K.strip] at hs <;> try (cases hs; done)
    rename_i id' kx
    simp only [K.block.injEq] at hs
    obtain ⟨rfl, hs⟩ := hs
    refine wpIn_block (ih kx hs hd (Q := Ex.inBlock id Q) ⟨M.1, fun j g h clk a w hq R => ?_, M.2.2⟩ R hk)
    simp only [Ex.inBlock] at hq
    simp only [Exit.inBlock]
    split at hq
    · rename_i e; rw [if_pos e]; exact M.1 _ _ _ _ _ hq R
    · rename_i e; rw [if_neg e]; exact M.2.1 j _ _ _ _ _ hq R
  | loop x ih =>
    intro k hs hd Q QQ g h clk a w M R hk
    cases k <;> simp only [comp, K.strip] at hs <;> try (cases hs; done)
    rename_i kx
    simp only [K.loop.injEq] at hs
    obtain ⟨J, μ, h0, hr⟩ := hk
    let T : Act → World → Nat → Prop := fun a w m => ∃ g h clk, J g h clk ∧ Rel I g h clk a w ∧ μ g h clk = m
    refine wpIn_loop (fun a w => ∃ m, T a w m) (fun a w => least (T a w)) ⟨_, g, h, clk, h0, R, rfl⟩ fun a w hI => ?_
    obtain ⟨⟨g1, h1, c1, hJ, R1, hm⟩, _⟩ := least_spec hI
    refine ih kx hs hd (Q := Ex.then (fun g' h' c' => J g' h' c' ∧ μ g' h' c' < μ g1 h1 c1) Q) ⟨fun g h clk a w hq R => ?_, fun id => M.2.1 id, M.2.2⟩ R1 (hr _ _ _ hJ)
    have hx : T a w (μ g h clk) := ⟨g, h, clk, hq.1, R, rfl⟩
    refine ⟨⟨_, hx⟩, ?_⟩
    rw [← hm]
    exact Nat.lt_of_le_of_lt ((least_spec ⟨_, hx⟩).2 _ hx) hq.2
  | exit id =>
    intro k hs hd Q QQ g h clk a w M R hk
    cases k <;> simp only [comp, K.strip] at hs <;> try (cases hs; done)
    simp only [K.exit.injEq] at hs
    subst hs
    exact wpIn_exit (M.2.1 id _ _ _ _ _ hk R)
  | ret =>
    intro k hs hd Q QQ g h clk a w M R hk
    cases k <;> simp only [comp, K.strip] at hs <;> try cases hs
    exact wpIn_ret (M.2.2 _ _ _ _ _ hk R)
  | _ =>
    intro k hs hd Q QQ g h clk a w M R hk
    cases k <;> simp only [comp, K.strip] at hs <;> try (cases hs; done)
    exact hk.elim
end Go.AM

