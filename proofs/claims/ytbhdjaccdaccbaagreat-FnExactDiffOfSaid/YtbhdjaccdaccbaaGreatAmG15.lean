/- Code. No condition. -/
import Derived.OrdersIn
import Derived.TacticsIn
import Derived.Test.YtbhdjaccdaccbaaGreatAmG13
import Derived.Test.YtbhdjaccdaccbaaGreatAmG14
set_option linter.all false
set_option linter.unusedSimpArgs false
set_option linter.unusedVariables false
set_option linter.deprecated false
/-! Code3 -/
section
namespace Go.AM
variable {P : Program} {I : Ini} {C : Con}

theorem undef_not_b {b : Bool} : Go.undef ≠ .bool b := by intro h; cases h

theorem yielded_ok {ops : Array Oper} {g : Slots} {h : Heap} {clk : Nat} {a : Act} {w : World} {κ : Cfg} {j : Nat} {x wt : Bool} (hg : ∀ t, VR w κ h clk (g t) (a.tmps.getD t Go.undef)) (hsz : a.tmps.size = I.n)
    (hx : (g (((ops[j]?).bind (·.dst)).getD I.n)).says wt = some x) : (yielded ops a.tmps j == some wt) = (x == wt) := by
  have h1 := hg (((ops[j]?).bind (·.dst)).getD I.n)
  have h2 : (a.tmps.getD (((ops[j]?).bind (·.dst)).getD I.n) Go.undef = .bool x) ∨ (a.tmps.getD (((ops[j]?).bind (·.dst)).getD I.n) Go.undef = .tuple #[] ∧ x = !wt) := by
    cases he : g (((ops[j]?).bind (·.dst)).getD I.n) <;> rw [he] at hx h1
    case b y => simp only [AV.says, Option.some.injEq] at hx; subst hx; exact .inl h1.of_b
    case tup l =>
      cases l with
      | nil =>
        simp only [AV.says, Option.some.injEq] at hx
        obtain ⟨vs, hv, hl, _⟩ := h1.of_tup
        have : vs = #[] := by apply Array.eq_empty_of_size_eq_zero; simpa using hl.symm
        exact .inr ⟨by rw [hv, this], hx.symm⟩
      | cons _ _ => simp [AV.says] at hx
    all_goals simp [AV.says] at hx
  have no : ∀ {v : Option Bool}, v = none → x = !wt → (v == some wt) = (x == wt) := by
    intro v hv hx; subst hv; subst hx; cases wt <;> rfl
  unfold yielded
  cases hd : (ops[j]?).bind (·.dst) with
  | none =>
    rw [hd] at h2
    simp only [Option.getD_none] at h2
    rw [Array.getD_eq_getD_getElem?, Array.getElem?_eq_none (by omega)] at h2
    rcases h2 with h2 | ⟨_, h3⟩
    · exact absurd h2 undef_not_b
    · exact no rfl h3
  | some d =>
    rw [hd] at h2
    simp only [Option.getD_some] at h2
    simp only [Option.bind_some]
    cases ht : a.tmps[d]? with
    | none =>
      rw [Array.getD_eq_getD_getElem?, ht] at h2
      rcases h2 with h2 | ⟨_, h3⟩
      · exact absurd h2 undef_not_b
      · exact no rfl h3
    | some v =>
      rw [Array.getD_eq_getD_getElem?, ht] at h2
      simp only [Option.getD_some] at h2
      rcases h2 with h2 | ⟨h2, h3⟩
      · rw [h2]; cases x <;> cases wt <;> rfl
      · rw [h2]; exact no rfl h3

theorem Rel.slot {g : Slots} {h : Heap} {clk : Nat} {a : Act} {w : World} (R : Rel I g h clk a w) {t : Nat} {x : Bool} (hx : g t = .b x) : Rel I (upd g t (.b x)) h clk a w := by
  obtain ⟨κ, H, E, hg⟩ := R.st
  refine ⟨R.df, R.sz, κ, H, E, fun s => ?_⟩
  unfold upd
  by_cases hs : s = t
  · subst hs; rw [if_pos rfl, ← hx]; exact hg s
  · rw [if_neg hs]; exact hg s

theorem Rel.putU {g : Slots} {h : Heap} {clk : Nat} {a : Act} {w : World} (R : Rel I g h clk a w) (d : Option Nat) : Rel I (updO g d (.tup [])) h clk (a.put d Go.undef) w := by
  obtain ⟨κ, H, E, hg⟩ := R.st
  cases d with
  | none => exact R
  | some t =>
    refine ⟨R.df, by simp [Act.put, R.sz], κ, H, E, fun s => ?_⟩
    simp only [updO, upd]
    by_cases hs : s = t
    · rw [if_pos hs]
      have e : (a.put (some t) Go.undef).tmps.getD s Go.undef = Go.undef := by
        simp only [Act.put, Array.getD_eq_getD_getElem?]
        subst hs
        by_cases hlt : s < a.tmps.size
        · rw [Array.getElem?_setIfInBounds_self_of_lt hlt]; rfl
        · rw [Array.getElem?_eq_none (by simp; omega)]; rfl
      rw [e]
      exact .tup [] #[] rfl (fun j x hx => by simp at hx)
    · rw [if_neg hs]
      have := hg s
      rw [Array.getD_eq_getD_getElem?] at this ⊢
      simp only [Act.put]
      rw [Array.getElem?_setIfInBounds_ne (by omega)]
      exact this

/-- Ghost steps are sound: what is stays what it is. -/
theorem gh_rel {g : Slots} {h : Heap} {clk : Nat} {g' : Slots} {h' : Heap} {clk' : Nat} {a : Act} {w : World} (G : Gh g h clk g' h' clk') (R : Rel I g h clk a w) : Rel I g' h' clk' a w := by
  obtain ⟨κ, H, E, hg⟩ := R.st
  obtain ⟨κ', H', E', hg'⟩ := gh_ok G H hg
  exact ⟨R.df, R.sz, κ', H', E.trans E', hg'⟩
theorem real_gh {o : KOp} (h : o.real = false) : o = ⟨none, none, .gh⟩ := by
  unfold KOp.real at h
  split at h
  · rfl
  · cases h
/-- The fence that holds nothing out: a function's frame, or a round's. -/
def Fw (r : Option Nat) : Fence := { fn := fun _ => True, depth := none, alive := false, round := r }
theorem callsIn_Fw {r : Option Nat} {f : FuncId} {args : Array Value} {w : World} {R : Ending → World → Prop} (h : Calls P f args w R) : CallsIn (Fw r) 0 P f args w R := (show CallsIn Fence.wide 0 P f args w R from callsIn_wide.2 h)
theorem wpIn_of_wp {r : Option Nat} {o : Oper} {a : Act} {w : World} {K : Act → World → Prop} {QQ : Exit → Act → World → Prop} (hd : ∀ c, o.op ≠ .defer c) (h : o.wp P a w K QQ) : o.wpIn (Fw r) 0 P a w K QQ := by
  unfold Oper.wpIn
  unfold Oper.wp at h
  refine ⟨fun _ _ => trivial, ?_⟩
  rw [Oper.semAt_eq _ _ _ hd]
  generalize (execOp a.eval o).run P w = x at *
  cases x with
  | ok v w' =>
    cases v <;> simp only [Oper.upon, Oper.uponIn] at h ⊢ <;> first
      | exact h
      | exact h.elim
      | exact ⟨fun hh => (by cases hh), callsIn_Fw h⟩
      | exact ⟨fun hh => (by cases hh), fun c cs _ => let ⟨v, w', q1, q2⟩ := h c cs; ⟨v, w', q1, show StepsIn (Machine.fenced P Fence.wide) P _ _ from stepsIn_wide.2 q2⟩⟩
  | halt v w' => cases v <;> simp only [Oper.upon, Oper.uponIn] at h ⊢ <;> first | exact h | exact h.elim
theorem co_defer {op : Op} {c : Call} (h : op = .defer c) : co P op = .bad := by subst h; rfl
theorem kop_bad {d : Option Nat} {Q : Post} {g : Slots} {h : Heap} {clk : Nat} : ¬ kop C d .bad Q g h clk := by rintro ⟨p, v, h1, _⟩; cases h1
theorem kops_ok (hC : ConOk P C) {r : Option Nat} {ops : Array Oper} {Q : Post} {QQ : Exit → Act → World → Prop} (hK : Lands C I Q (QQ .normal)) :
    ∀ (m : List KOp) (l : List Oper) {g : Slots} {h : Heap} {clk : Nat} {a : Act} {w : World}, m.filter KOp.real = l.map (cop P I.n ops) → Rel I g h clk a w → kops C m Q g h clk → wpListIn (Fw r) 0 P ops QQ l a w
  | [], [], g, h, clk, a, w, _, R, hk => hK _ _ _ _ _ hk R
  | [], _ :: _, g, h, clk, a, w, hm, _, _ => by simp at hm
  | o' :: m, l, g, h, clk, a, w, hm, R, hk => by
    cases hreal : o'.real with
    | false =>
      have hm2 : m.filter KOp.real = l.map (cop P I.n ops) := by rw [List.filter_cons_of_neg (by simp [hreal])] at hm; exact hm
      obtain rfl := real_gh hreal
      unfold kops at hk
      obtain ⟨g', h', c', G, hk⟩ := hk
      exact kops_ok hC hK m l hm2 (gh_rel G R) hk
    | true =>
    rw [List.filter_cons_of_pos hreal] at hm
    cases l with
    | nil => simp at hm
    | cons o l =>
    rw [List.map_cons] at hm
    simp only [List.cons.injEq] at hm
    obtain ⟨rfl, hm2⟩ := hm
    have ih : ∀ {g : Slots} {h : Heap} {clk : Nat} {a : Act} {w : World}, Rel I g h clk a w → kops C m Q g h clk → wpListIn (Fw r) 0 P ops QQ l a w := fun R hk => kops_ok hC hK m l hm2 R hk
    have done : ∀ {g h clk a w}, Rel I g h clk a w → kop C (cop P I.n ops o).d (cop P I.n ops o).o (kops C m Q) g h clk → o.wpIn (Fw r) 0 P a w (wpListIn (Fw r) 0 P ops QQ l) QQ := by
      intro g h clk a w R hk
      by_cases hd : o.dst.all (· < I.n) = true
      · have e1 : (cop P I.n ops o).o = co P o.op := by simp only [cop]; rw [if_pos hd]
        rw [e1] at hk
        exact wpIn_of_wp (fun cc hcc => by rw [co_defer hcc] at hk; exact kop_bad hk) (kop_ok hC R hd hk (fun g h clk a w hq R => ih R hq))
      · have e1 : (cop P I.n ops o).o = .bad := by simp only [cop]; rw [if_neg hd]
        rw [e1] at hk
        obtain ⟨p, v, h1, _⟩ := hk
        cases h1
    unfold wpListIn
    unfold kops at hk
    cases hgd : o.guard with
    | none =>
      have hw : Region.wanted o (yielded ops a.tmps) = true := by unfold Region.wanted; rw [hgd]
      rw [if_pos hw]
      have e1 : (cop P I.n ops o).g = none := by simp [cop, hgd]
      rw [e1] at hk
      exact done R hk
    | some jw =>
      obtain ⟨j, wt⟩ := jw
      have e1 : (cop P I.n ops o).g = some (((ops[j]?).bind (·.dst)).getD I.n, wt) := by simp [cop, hgd]
      rw [e1] at hk
      obtain ⟨x, hx, h1, h2⟩ := hk
      obtain ⟨κ, H, E, hg⟩ := R.st
      have hy := yielded_ok hg R.sz hx
      have hw : Region.wanted o (yielded ops a.tmps) = (x == wt) := by
        unfold Region.wanted; rw [hgd]; exact hy
      rw [hw]
      by_cases hxw : x = wt
      · subst hxw
        simp only [beq_self_eq_true, if_true]
        exact done R (h1 rfl)
      · have hxn : x = !wt := by cases x <;> cases wt <;> simp_all
        have : (x == wt) = false := by simpa using hxw
        rw [this]
        simp only [Bool.false_eq_true, if_false]
        exact ⟨fun _ _ => trivial, ih (R.putU o.dst) (h2 hxn)⟩

/-- The exits' sides. -/
def Meets (C : Con) (I : Ini) (Q : Ex → Post) (QQ : Exit → Act → World → Prop) : Prop :=
  Lands C I (Q .normal) (QQ .normal) ∧ (∀ id, Lands C I (Q (.exit id)) (QQ (.exit id))) ∧ Lands C I (Q .ret) (QQ .ret)

end Go.AM
end
/-! Draw1 -/
section
namespace Go.AM
variable {P : Program} {C : Con}

theorem ev_congr {g g' : Slots} {x : KV} (hx : ∀ t ∈ x.reads, g t = g' t) : ev g x = ev g' x := by
  cases x <;> first | rfl | exact hx _ (by simp [KV.reads])
theorem evO_congr {g g' : Slots} {x : Option KV} (hx : ∀ t ∈ readsO x, g t = g' t) : x.map (ev g) = x.map (ev g') := by
  cases x with
  | none => rfl
  | some y => simp only [Option.map_some]; rw [ev_congr hx]
theorem evL_congr {g g' : Slots} {xs : List KV} (hx : ∀ t ∈ xs.flatMap KV.reads, g t = g' t) : xs.map (ev g) = xs.map (ev g') :=
  List.map_congr_left fun y hy => ev_congr fun t ht => hx t (List.mem_flatMap.2 ⟨y, hy, ht⟩)

/-- What an operation may come to. -/
def Wd (C : Con) (d : Option Nat) (o : KO) (ν : Nat) (g : Slots) (h : Heap) (c : Nat) (v : AV) (h' : Heap) (c' : Nat) : Prop :=
  match o with
  | .mk4 o => ∃ t p, d = some t ∧ ke t o g h ν = some (p, v, h', ν + 1) ∧ p ∧ fr4 t o g h ∧ c' = c + 1
  | .callc f as => ∃ t z es, d = some t ∧ as.map (ev g) = [.dat z es] ∧ C.cp f z es ∧ Pure es ∧ h (.r t 0) = none ∧ v = .sl (.r t 0) ν 0 es.length none ∧ h' = hup h (.r t 0) { ver := ν, es := es, esz := z } ∧ c' = c + 1
  | .store n a x => ∃ p, storeF h n (ev g a) (ev g x) = some (p, h') ∧ p ∧ v = .undef ∧ c' = c
  | .stl m n a x => ∃ p, storeF h n (stA m (ev g a)) (ev g x) = some (p, h') ∧ p ∧ v = .undef ∧ c' = c
  | .call _ _ => False
  | .call0 f as => kcall0 C (ev g f) (as.map (ev g)) v ∧ h' = h ∧ c' = c
  | .calln f as => ∃ t r obs', d = some t ∧ kcalln C (ev g f) (as.map (ev g)) r obs' h ∧ (∀ j, j < obs'.length → h (.r t j) = none) ∧ v = impA t 0 ν r ∧ h' = newObs t ν 0 obs' h ∧ c' = nclk c [] obs'
  | .callv f as => kcallv C (ev g f) (as.map (ev g)) v h ∧ h' = h ∧ c' = c
  | .callh f as => kcallh C false (ev g f) (as.map (ev g)) v h h' ∧ c' = c
  | .callg f as => kcallh C true (ev g f) (as.map (ev g)) v h h' ∧ c' = c
  | .cpy esz x y => ∃ p, cpyF h esz (ev g x) (ev g y) = some (p, v, h') ∧ p ∧ c' = c
  | .clr esz z x => ∃ p, clrF h esz z (ev g x) = some (p, h') ∧ p ∧ v = .tup [] ∧ c' = c
  | .alloc .. | .box .. | .bslice .. | .mks .. | .app .. | .appz .. => ∃ t p, d = some t ∧ ke t o g h c = some (p, v, h', c') ∧ p
  | o => ∃ p, kv h g o = some (p, v) ∧ p ∧ h' = h ∧ c' = c
def Sd (C : Con) (o : KOp) (ν : Nat) (g : Slots) (h : Heap) (c : Nat) (v : AV) (h' : Heap) (c' : Nat) : Prop :=
  match o.g with
  | none => Wd C o.d o.o ν g h c v h' c'
  | some (t, w) => ∃ x, (g t).says w = some x ∧ (x = w → Wd C o.d o.o ν g h c v h' c') ∧ (x = !w → v = .tup [] ∧ h' = h ∧ c' = c)
def KO.eqn? : KO → Bool | .eqn .. | .gh => true | _ => false
def KOp.plain (o : KOp) : Prop := (∀ f as, o.o ≠ .call f as) ∧ o.o.eqn? = false

theorem kop_iff {o : KO} (hn : (∀ f as, o ≠ .call f as) ∧ o.eqn? = false) {d : Option Nat} {Q : Post} {g : Slots} {h : Heap} {c : Nat} : kop C d o Q g h c ↔ ∀ ν, ∃ v h' c', Wd C d o ν g h c v h' c' ∧ Q (updO g d v) h' c' := by
  cases o
  case call f as => exact absurd rfl (hn.1 f as)
  case eqn n x y => exact absurd hn.2 (by simp [KO.eqn?])
  case gh => exact absurd hn.2 (by simp [KO.eqn?])
  case mk4 o =>
    constructor
    · intro hk ν
      obtain ⟨t, p, val, h', rfl, h2, h3, h4, h5⟩ := hk ν
      exact ⟨val, h', c + 1, ⟨t, p, rfl, h2, h3, h4, rfl⟩, h5⟩
    · intro hk ν
      obtain ⟨v, h', c', ⟨t, p, rfl, h2, h3, h4, rfl⟩, h5⟩ := hk ν
      exact ⟨t, p, v, h', rfl, h2, h3, h4, h5⟩
  case callc f as =>
    constructor
    · rintro ⟨t, z, es, rfl, h2, h3, h4, h5, h6⟩ ν
      exact ⟨_, _, _, ⟨t, z, es, rfl, h2, h3, h4, h5, rfl, rfl, rfl⟩, h6 ν⟩
    · intro hk
      obtain ⟨v, h', c', ⟨t, z, es, rfl, h2, h3, h4, h5, rfl, rfl, rfl⟩, h6⟩ := hk 0
      refine ⟨t, z, es, rfl, h2, h3, h4, h5, fun ν => ?_⟩
      obtain ⟨v, h', c', ⟨t', z', es', e1, e2, _, _, _, rfl, rfl, rfl⟩, h7⟩ := hk ν
      cases e1
      rw [h2] at e2
      simp only [List.cons.injEq, AV.dat.injEq, and_true] at e2
      obtain ⟨rfl, rfl⟩ := e2
      exact h7
  case store n a x =>
    refine Iff.trans (b := ∃ v h' c', Wd C d _ 0 g h c v h' c' ∧ Q (updO g d v) h' c') ?_ ⟨fun h _ => h, fun h => h 0⟩
    constructor
    · rintro ⟨p, h', h1, h2, h3⟩; exact ⟨.undef, h', c, ⟨p, h1, h2, rfl, rfl⟩, h3⟩
    · rintro ⟨v, h', c', ⟨p, h1, h2, rfl, rfl⟩, h3⟩; exact ⟨p, h', h1, h2, h3⟩
  case stl m n a x =>
    refine Iff.trans (b := ∃ v h' c', Wd C d _ 0 g h c v h' c' ∧ Q (updO g d v) h' c') ?_ ⟨fun h _ => h, fun h => h 0⟩
    constructor
    · rintro ⟨p, h', h1, h2, h3⟩; exact ⟨.undef, h', c, ⟨p, h1, h2, rfl, rfl⟩, h3⟩
    · rintro ⟨v, h', c', ⟨p, h1, h2, rfl, rfl⟩, h3⟩; exact ⟨p, h', h1, h2, h3⟩
  case call0 f as =>
    refine Iff.trans (b := ∃ v h' c', Wd C d _ 0 g h c v h' c' ∧ Q (updO g d v) h' c') ?_ ⟨fun h _ => h, fun h => h 0⟩
    constructor
    · rintro ⟨r, h1, h2⟩; exact ⟨r, h, c, ⟨h1, rfl, rfl⟩, h2⟩
    · rintro ⟨v, h', c', ⟨h1, rfl, rfl⟩, h3⟩; exact ⟨v, h1, h3⟩
  case calln f as =>
    constructor
    · intro hk ν
      obtain ⟨t, r, o', rfl, h2, h3, h4⟩ := hk ν
      exact ⟨_, _, _, ⟨t, r, o', rfl, h2, h3, rfl, rfl, rfl⟩, h4⟩
    · intro hk ν
      obtain ⟨v, h', c', ⟨t, r, o', rfl, h2, h3, rfl, rfl, rfl⟩, h4⟩ := hk ν
      exact ⟨t, r, o', rfl, h2, h3, h4⟩
  case callv f as =>
    refine Iff.trans (b := ∃ v h' c', Wd C d _ 0 g h c v h' c' ∧ Q (updO g d v) h' c') ?_ ⟨fun h _ => h, fun h => h 0⟩
    constructor
    · rintro ⟨r, h1, h2⟩; exact ⟨r, h, c, ⟨h1, rfl, rfl⟩, h2⟩
    · rintro ⟨v, h', c', ⟨h1, rfl, rfl⟩, h3⟩; exact ⟨v, h1, h3⟩
  case cpy esz x y =>
    refine Iff.trans (b := ∃ v h' c', Wd C d _ 0 g h c v h' c' ∧ Q (updO g d v) h' c') ?_ ⟨fun h _ => h, fun h => h 0⟩
    constructor
    · rintro ⟨p, r, h', h1, h2, h3⟩; exact ⟨r, h', c, ⟨p, h1, h2, rfl⟩, h3⟩
    · rintro ⟨v, h', c', ⟨p, h1, h2, rfl⟩, h3⟩; exact ⟨p, v, h', h1, h2, h3⟩
  case clr esz z x =>
    refine Iff.trans (b := ∃ v h' c', Wd C d _ 0 g h c v h' c' ∧ Q (updO g d v) h' c') ?_ ⟨fun h _ => h, fun h => h 0⟩
    constructor
    · rintro ⟨p, h', h1, h2, h3⟩; exact ⟨.tup [], h', c, ⟨p, h1, h2, rfl, rfl⟩, h3⟩
    · rintro ⟨v, h', c', ⟨p, h1, h2, rfl, rfl⟩, h3⟩; exact ⟨p, h', h1, h2, h3⟩
  case callh f as =>
    refine Iff.trans (b := ∃ v h' c', Wd C d _ 0 g h c v h' c' ∧ Q (updO g d v) h' c') ?_ ⟨fun h _ => h, fun h => h 0⟩
    constructor
    · rintro ⟨r, h', h1, h2⟩; exact ⟨r, h', c, ⟨h1, rfl⟩, h2⟩
    · rintro ⟨v, h', c', ⟨h1, rfl⟩, h3⟩; exact ⟨v, h', h1, h3⟩
  case callg f as =>
    refine Iff.trans (b := ∃ v h' c', Wd C d _ 0 g h c v h' c' ∧ Q (updO g d v) h' c') ?_ ⟨fun h _ => h, fun h => h 0⟩
    constructor
    · rintro ⟨r, h', h1, h2⟩; exact ⟨r, h', c, ⟨h1, rfl⟩, h2⟩
    · rintro ⟨v, h', c', ⟨h1, rfl⟩, h3⟩; exact ⟨v, h', h1, h3⟩
  all_goals first
    | (refine Iff.trans (b := ∃ v h' c', Wd C d _ 0 g h c v h' c' ∧ Q (updO g d v) h' c') ?_ ⟨fun h _ => h, fun h => h 0⟩
       constructor
       · rintro ⟨t, p, v, h', c', rfl, h2, h3, h4⟩; exact ⟨v, h', c', ⟨t, p, rfl, h2, h3⟩, h4⟩
       · rintro ⟨v, h', c', ⟨t, p, rfl, h2, h3⟩, h4⟩; exact ⟨t, p, v, h', c', rfl, h2, h3, h4⟩)
    | (refine Iff.trans (b := ∃ v h' c', Wd C d _ 0 g h c v h' c' ∧ Q (updO g d v) h' c') ?_ ⟨fun h _ => h, fun h => h 0⟩
       constructor
       · rintro ⟨p, v, h1, h2, h3⟩; exact ⟨v, h, c, ⟨p, h1, h2, rfl, rfl⟩, h3⟩
       · rintro ⟨v, h', c', ⟨p, h1, h2, rfl, rfl⟩, h3⟩; exact ⟨p, v, h1, h2, h3⟩)

theorem kops_iff {o : KOp} (hn : o.plain) {r : List KOp} {Q : Post} {g : Slots} {h : Heap} {c : Nat} : kops C (o :: r) Q g h c ↔ ∀ ν, ∃ v h' c', Sd C o ν g h c v h' c' ∧ kops C r Q (updO g o.d v) h' c' := by
  conv => lhs; unfold kops
  unfold Sd
  cases hg : o.g with
  | none => exact kop_iff hn
  | some tw =>
    obtain ⟨t, w⟩ := tw
    constructor
    · rintro ⟨x, hx, h1, h2⟩ ν
      by_cases e : x = w
      · subst e
        have h3 := h1 rfl
        obtain ⟨v, h', c', h4, h5⟩ := (kop_iff hn).1 h3 ν
        exact ⟨v, h', c', ⟨x, hx, fun _ => h4, fun h6 => by cases x <;> simp at h6⟩, h5⟩
      · have e2 : x = !w := by cases x <;> cases w <;> simp_all
        have h3 := h2 e2
        exact ⟨.tup [], h, c, ⟨x, hx, fun h6 => absurd h6 e, fun _ => ⟨rfl, rfl, rfl⟩⟩, h3⟩
    · intro hk
      obtain ⟨_, _, _, ⟨x, hx, _⟩, _⟩ := hk 0
      refine ⟨x, hx, fun e => ?_, fun e => ?_⟩
      · subst e
        refine (kop_iff hn).2 fun ν => ?_
        obtain ⟨v, h', c', ⟨x', hx', h1, _⟩, h3⟩ := hk ν
        rw [hx] at hx'; cases hx'
        exact ⟨v, h', c', h1 rfl, h3⟩
      · obtain ⟨v, h', c', ⟨x', hx', _, h2⟩, h3⟩ := hk 0
        rw [hx] at hx'; cases hx'
        obtain ⟨rfl, rfl, rfl⟩ := h2 e
        exact h3

theorem ke_congr {o : KO} {t : Nat} {g g' : Slots} {h : Heap} {c : Nat} (hx : ∀ t ∈ o.reads, g t = g' t) : ke t o g h c = ke t o g' h c := by
  have sp : ∀ {x : KV}, (∀ t ∈ x.reads, t ∈ o.reads) → ev g x = ev g' x := fun hs => ev_congr fun t ht => hx t (hs t ht)
  cases o <;> try rfl
  case box x => simp only [ke]; rw [sp (x := x) (fun t ht => ht)]
  case bslice esz n z ps =>
    have e : ps.map (fun (j, x) => (j, ev g x)) = ps.map (fun (j, x) => (j, ev g' x)) := List.map_congr_left fun p hp => by
      show (p.1, ev g p.2) = (p.1, ev g' p.2)
      rw [show ev g p.2 = ev g' p.2 from ev_congr fun t ht => hx t (List.mem_flatMap.2 ⟨p, hp, ht⟩)]
    simp only [ke]; rw [e]
  case mks a b z x y => simp only [ke]; rw [sp (x := x) (fun t ht => List.mem_append_left _ ht), sp (x := y) (fun t ht => List.mem_append_right _ ht)]
  case app a b z x y => simp only [ke]; rw [sp (x := x) (fun t ht => List.mem_append_left _ ht), sp (x := y) (fun t ht => List.mem_append_right _ ht)]
  case appz a b z x y => simp only [ke]; rw [sp (x := x) (fun t ht => List.mem_append_left _ ht), sp (x := y) (fun t ht => List.mem_append_right _ ht)]
theorem fr4_congr {o : KO} {t : Nat} {g g' : Slots} {h : Heap} (hx : ∀ t ∈ o.reads, g t = g' t) : fr4 t o g h = fr4 t o g' h := by
  cases o <;> try rfl
  case app a b z x y => simp only [fr4]; rw [show ev g x = ev g' x from ev_congr fun t ht => hx t (List.mem_append_left _ ht)]
theorem Wd_congr {d : Option Nat} {o : KO} {ν : Nat} {g g' : Slots} {h : Heap} {c : Nat} {v : AV} {h' : Heap} {c' : Nat} (hx : ∀ t ∈ o.reads, g t = g' t) (hw : Wd C d o ν g h c v h' c') : Wd C d o ν g' h c v h' c' := by
  have sp : ∀ {x : KV}, (∀ t ∈ x.reads, t ∈ o.reads) → ev g x = ev g' x := fun hs => ev_congr fun t ht => hx t (hs t ht)
  have spO : ∀ {x : Option KV}, (∀ t ∈ readsO x, t ∈ o.reads) → x.map (ev g) = x.map (ev g') := fun hs => evO_congr fun t ht => hx t (hs t ht)
  have spL : ∀ {x : List KV}, (∀ t ∈ x.flatMap KV.reads, t ∈ o.reads) → x.map (ev g) = x.map (ev g') := fun hs => evL_congr fun t ht => hx t (hs t ht)
  cases o
  case mk4 o =>
    simp only [Wd] at hw ⊢
    obtain ⟨t, p, h1, h2, h3, h4, h5⟩ := hw
    have hx' : ∀ t ∈ o.reads, g t = g' t := hx
    exact ⟨t, p, h1, by rw [← ke_congr hx']; exact h2, h3, by rw [← fr4_congr hx']; exact h4, h5⟩
  case callc f as => simp only [Wd] at hw ⊢; rw [← spL (x := as) (fun t ht => ht)]; exact hw
  case build z ps =>
    have e : ps.map (fun (off, n, x) => (off, n, ev g x)) = ps.map (fun (off, n, x) => (off, n, ev g' x)) := List.map_congr_left fun p hp => by
      show (p.1, p.2.1, ev g p.2.2) = (p.1, p.2.1, ev g' p.2.2)
      rw [show ev g p.2.2 = ev g' p.2.2 from ev_congr fun t ht => hx t (List.mem_flatMap.2 ⟨p, hp, ht⟩)]
    simp only [Wd, kv] at hw ⊢; rw [← e]; exact hw
  case bslice esz n z ps =>
    have e : ps.map (fun (j, x) => (j, ev g x)) = ps.map (fun (j, x) => (j, ev g' x)) := List.map_congr_left fun p hp => by
      show (p.1, ev g p.2) = (p.1, ev g' p.2)
      rw [show ev g p.2 = ev g' p.2 from ev_congr fun t ht => hx t (List.mem_flatMap.2 ⟨p, hp, ht⟩)]
    simp only [Wd, ke] at hw ⊢; rw [← e]; exact hw
  case mm m xs => simp only [Wd, kv] at hw ⊢; rw [← spL (x := xs) (fun t ht => ht)]; exact hw
  case mkf f as => simp only [Wd, kv] at hw ⊢; rw [← spL (x := as) (fun t ht => ht)]; exact hw
  case call0 f as =>
    simp only [Wd] at hw ⊢
    rw [← spL (x := as) (fun t ht => List.mem_append_right _ ht), ← sp (x := f) (fun t ht => List.mem_append_left _ ht)]; exact hw
  case calln f as =>
    simp only [Wd] at hw ⊢
    rw [← spL (x := as) (fun t ht => List.mem_append_right _ ht), ← sp (x := f) (fun t ht => List.mem_append_left _ ht)]; exact hw
  case callv f as =>
    simp only [Wd] at hw ⊢
    rw [← spL (x := as) (fun t ht => List.mem_append_right _ ht), ← sp (x := f) (fun t ht => List.mem_append_left _ ht)]; exact hw
  case callh f as =>
    simp only [Wd] at hw ⊢
    rw [← spL (x := as) (fun t ht => List.mem_append_right _ ht), ← sp (x := f) (fun t ht => List.mem_append_left _ ht)]; exact hw
  case callg f as =>
    simp only [Wd] at hw ⊢
    rw [← spL (x := as) (fun t ht => List.mem_append_right _ ht), ← sp (x := f) (fun t ht => List.mem_append_left _ ht)]; exact hw
  case call f as => exact hw
  case pick a b e =>
    simp only [Wd, kv] at hw ⊢
    rw [← sp (x := a) (fun t ht => by simp [KO.reads, ht]), ← sp (x := b) (fun t ht => by simp [KO.reads, ht]), ← sp (x := e) (fun t ht => by simp [KO.reads, ht])]; exact hw
  case slc esz x lo hi mx =>
    simp only [Wd, kv] at hw ⊢
    rw [← sp (x := x) (fun t ht => by simp [KO.reads, ht]), ← spO (x := lo) (fun t ht => by simp [KO.reads, ht]), ← spO (x := hi) (fun t ht => by simp [KO.reads, ht]), ← spO (x := mx) (fun t ht => by simp [KO.reads, ht])]; exact hw
  case sls x lo hi =>
    simp only [Wd, kv] at hw ⊢
    rw [← sp (x := x) (fun t ht => by simp [KO.reads, ht]), ← spO (x := lo) (fun t ht => by simp [KO.reads, ht]), ← spO (x := hi) (fun t ht => by simp [KO.reads, ht])]; exact hw
  case alloc cs => exact hw
  case bad => exact hw
  case gh => exact hw
  case cpy a x y => simp only [Wd] at hw ⊢; rw [← sp (x := x) (fun t ht => List.mem_append_left _ ht), ← sp (x := y) (fun t ht => List.mem_append_right _ ht)]; exact hw
  case clr a b x => simp only [Wd] at hw ⊢; rw [← sp (x := x) (fun t ht => ht)]; exact hw
  case store n x y => simp only [Wd] at hw ⊢; rw [← sp (x := x) (fun t ht => List.mem_append_left _ ht), ← sp (x := y) (fun t ht => List.mem_append_right _ ht)]; exact hw
  case stl m n x y => simp only [Wd] at hw ⊢; rw [← sp (x := x) (fun t ht => List.mem_append_left _ ht), ← sp (x := y) (fun t ht => List.mem_append_right _ ht)]; exact hw
  case bin op x y => simp only [Wd, kv] at hw ⊢; rw [← sp (x := x) (fun t ht => List.mem_append_left _ ht), ← sp (x := y) (fun t ht => List.mem_append_right _ ht)]; exact hw
  case eqt a b x y => simp only [Wd, kv] at hw ⊢; rw [← sp (x := x) (fun t ht => List.mem_append_left _ ht), ← sp (x := y) (fun t ht => List.mem_append_right _ ht)]; exact hw
  case eqn b x y => simp only [Wd, kv] at hw ⊢; rw [← sp (x := x) (fun t ht => List.mem_append_left _ ht), ← sp (x := y) (fun t ht => List.mem_append_right _ ht)]; exact hw
  case idx a x y => simp only [Wd, kv] at hw ⊢; rw [← sp (x := x) (fun t ht => List.mem_append_left _ ht), ← sp (x := y) (fun t ht => List.mem_append_right _ ht)]; exact hw
  case idxa a b x y => simp only [Wd, kv] at hw ⊢; rw [← sp (x := x) (fun t ht => List.mem_append_left _ ht), ← sp (x := y) (fun t ht => List.mem_append_right _ ht)]; exact hw
  case slca n esz x lo hi =>
    simp only [Wd, kv] at hw ⊢
    rw [← sp (x := x) (fun t ht => by simp [KO.reads, ht]), ← spO (x := lo) (fun t ht => by simp [KO.reads, ht]), ← spO (x := hi) (fun t ht => by simp [KO.reads, ht])]; exact hw
  case ids x y => simp only [Wd, kv] at hw ⊢; rw [← sp (x := x) (fun t ht => List.mem_append_left _ ht), ← sp (x := y) (fun t ht => List.mem_append_right _ ht)]; exact hw
  case mks a b z x y => simp only [Wd, ke] at hw ⊢; rw [← sp (x := x) (fun t ht => List.mem_append_left _ ht), ← sp (x := y) (fun t ht => List.mem_append_right _ ht)]; exact hw
  case appz a b z x y => simp only [Wd, ke] at hw ⊢; rw [← sp (x := x) (fun t ht => List.mem_append_left _ ht), ← sp (x := y) (fun t ht => List.mem_append_right _ ht)]; exact hw
  case app a b z x y => simp only [Wd, ke] at hw ⊢; rw [← sp (x := x) (fun t ht => List.mem_append_left _ ht), ← sp (x := y) (fun t ht => List.mem_append_right _ ht)]; exact hw
  case box x => simp only [Wd, ke] at hw ⊢; rw [← sp (x := x) (fun t ht => ht)]; exact hw
  all_goals (rename_i x; simp only [Wd, kv] at hw ⊢; rw [← ev_congr hx]; exact hw)
end Go.AM
end
