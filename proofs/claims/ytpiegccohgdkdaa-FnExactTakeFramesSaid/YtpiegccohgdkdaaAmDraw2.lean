/- Operations change places: the exchange. No condition. -/
import Derived.Test.YtpiegccohgdkdaaAmDraw1
set_option linter.all false
set_option linter.unusedSimpArgs false
set_option linter.unusedVariables false
set_option linter.deprecated false
namespace Go.AM
variable {P : Program} {C : Con}

theorem Sd_congr {o : KOp} {g g' : Slots} {h : Heap} {c : Nat} {v : AV} {h' : Heap} {c' : Nat} (hx : ∀ t ∈ o.reads, g t = g' t) (hw : Sd C o g h c v h' c') : Sd C o g' h c v h' c' := by
  unfold Sd KOp.reads at *
  cases hg : o.g with
  | none => rw [hg] at hw; exact Wd_congr (fun t ht => hx t (by simp [ht])) hw
  | some tw =>
    obtain ⟨t, w⟩ := tw
    rw [hg] at hw hx
    obtain ⟨x, h1, h2, h3⟩ := hw
    exact ⟨x, by rw [← h1]; exact (hx t (by simp)).symm, fun e => Wd_congr (fun t ht => hx t (by simp [ht])) (h2 e), h3⟩

theorem Wd_free {d : Option Nat} {o : KO} (ho : o.cls = 0) {g : Slots} {h : Heap} {c : Nat} {v : AV} {h' : Heap} {c' : Nat} (hw : Wd C d o g h c v h' c') : h' = h ∧ c' = c ∧ ∀ h2 c2, Wd C d o g h2 c2 v h2 c2 := by
  cases o <;> first
    | (simp [KO.cls] at ho; done)
    | (obtain ⟨p, h1, h2, rfl, rfl⟩ := hw; exact ⟨rfl, rfl, fun h2' c2 => ⟨p, h1, h2, rfl, rfl⟩⟩)
    | (obtain ⟨h1, rfl, rfl⟩ := hw; exact ⟨rfl, rfl, fun h2 c2 => ⟨h1, rfl, rfl⟩⟩)
theorem Wd_read {d : Option Nat} {o : KO} (ho : o.cls = 1) {g : Slots} {h : Heap} {c : Nat} {v : AV} {h' : Heap} {c' : Nat} (hw : Wd C d o g h c v h' c') : h' = h ∧ c' = c := by
  cases o <;> first
    | (simp [KO.cls] at ho; done)
    | (obtain ⟨p, h1, h2, rfl, rfl⟩ := hw; exact ⟨rfl, rfl⟩)
theorem Sd_free {o : KOp} (ho : o.o.cls = 0) {g : Slots} {h : Heap} {c : Nat} {v : AV} {h' : Heap} {c' : Nat} (hw : Sd C o g h c v h' c') : h' = h ∧ c' = c ∧ ∀ h2 c2, Sd C o g h2 c2 v h2 c2 := by
  unfold Sd at *
  cases hg : o.g with
  | none => rw [hg] at hw; exact Wd_free ho hw
  | some tw =>
    obtain ⟨t, w⟩ := tw
    rw [hg] at hw
    obtain ⟨x, h1, h2, h3⟩ := hw
    by_cases e : x = w
    · obtain ⟨q1, q2, q3⟩ := Wd_free ho (h2 e)
      exact ⟨q1, q2, fun h4 c4 => ⟨x, h1, fun _ => q3 h4 c4, fun e2 => by subst e; cases x <;> simp at e2⟩⟩
    · have e2 : x = !w := by cases x <;> cases w <;> simp_all
      obtain ⟨rfl, rfl, rfl⟩ := h3 e2
      exact ⟨rfl, rfl, fun h4 c4 => ⟨x, h1, fun e3 => absurd e3 e, fun _ => ⟨rfl, rfl, rfl⟩⟩⟩
theorem Sd_read {o : KOp} (ho : o.o.cls = 1) {g : Slots} {h : Heap} {c : Nat} {v : AV} {h' : Heap} {c' : Nat} (hw : Sd C o g h c v h' c') : h' = h ∧ c' = c := by
  unfold Sd at *
  cases hg : o.g with
  | none => rw [hg] at hw; exact Wd_read ho hw
  | some tw =>
    obtain ⟨t, w⟩ := tw
    rw [hg] at hw
    obtain ⟨x, h1, h2, h3⟩ := hw
    by_cases e : x = w
    · exact Wd_read ho (h2 e)
    · have e2 : x = !w := by cases x <;> cases w <;> simp_all
      exact ⟨(h3 e2).2.1, (h3 e2).2.2⟩

theorem updO_ne {g : Slots} {d : Option Nat} {v : AV} {t : Nat} (hd : d ≠ some t) : updO g d v t = g t := by
  cases d with
  | none => rfl
  | some s => simp only [updO, upd]; rw [if_neg (fun e => hd (by rw [e]))]
theorem updO_comm {g : Slots} {d e : Option Nat} {v u : AV} (hd : ∀ s, d = some s → e ≠ some s) : updO (updO g d v) e u = updO (updO g e u) d v := by
  cases d with
  | none => rfl
  | some s =>
    cases e with
    | none => rfl
    | some t =>
      have : t ≠ s := fun h => hd s rfl (by rw [h])
      funext x
      simp only [updO, upd]
      by_cases h1 : x = t
      · subst h1; rw [if_pos rfl, if_neg this, if_pos rfl]
      · rw [if_neg h1, if_neg h1]

theorem apart_spec {x y : KOp} (h : apartK x y = true) : (∀ s, x.d = some s → s ∉ y.reads ∧ y.d ≠ some s) ∧ (∀ s, y.d = some s → s ∉ x.reads) ∧ (x.o.cls = 0 ∨ y.o.cls = 0 ∨ (x.o.cls = 1 ∧ y.o.cls = 1)) := by
  simp only [apartK, Bool.and_eq_true, Bool.or_eq_true, beq_iff_eq] at h
  obtain ⟨⟨h1, h2⟩, h3⟩ := h
  refine ⟨fun s hs => ?_, fun s hs => ?_, ?_⟩
  · rw [hs] at h1
    simp at h1
    exact ⟨h1.1, fun e => h1.2 e⟩
  · rw [hs] at h2
    simpa using h2
  · rcases h3 with (h3 | h3) | h3
    · exact .inl h3
    · exact .inr (.inl h3)
    · exact .inr (.inr h3)

theorem exchange {x i : KOp} (ha : apartK x i = true) {g : Slots} {h h1 h2 : Heap} {c c1 c2 : Nat} {v u : AV} (hx : Sd C x g h c v h1 c1) (hi : Sd C i (updO g x.d v) h1 c1 u h2 c2) :
    ∃ h1' c1', Sd C i g h c u h1' c1' ∧ Sd C x (updO g i.d u) h1' c1' v h2 c2 ∧ updO (updO g x.d v) i.d u = updO (updO g i.d u) x.d v := by
  obtain ⟨a1, a2, a3⟩ := apart_spec ha
  have e := updO_comm (g := g) (v := v) (u := u) (d := x.d) (e := i.d) (fun s hs => (a1 s hs).2)
  have ri : ∀ t ∈ i.reads, updO g x.d v t = g t := fun t ht => updO_ne fun hd => (a1 t hd).1 ht
  have rx : ∀ t ∈ x.reads, g t = updO g i.d u t := fun t ht => (updO_ne fun hd => a2 t hd ht).symm
  have hi' := Sd_congr ri hi
  rcases a3 with a3 | a3 | ⟨a3, a4⟩
  · obtain ⟨rfl, rfl, hf⟩ := Sd_free a3 hx
    exact ⟨h2, c2, hi', Sd_congr rx (hf h2 c2), e⟩
  · obtain ⟨rfl, rfl, hf⟩ := Sd_free a3 hi'
    exact ⟨h, c, hf h c, Sd_congr rx hx, e⟩
  · obtain ⟨rfl, rfl⟩ := Sd_read a3 hx
    obtain ⟨rfl, rfl⟩ := Sd_read a4 hi'
    exact ⟨_, _, hi', Sd_congr rx hx, e⟩

theorem to_front {i : KOp} (hi : i.plain) {Q : Post} : ∀ (pre post : List KOp), (∀ x ∈ pre, x.plain ∧ apartK x i = true) → ∀ {g : Slots} {h : Heap} {c : Nat}, kops C (pre ++ i :: post) Q g h c → kops C (i :: (pre ++ post)) Q g h c
  | [], post, _, g, h, c, hk => hk
  | x :: pre, post, hp, g, h, c, hk => by
    obtain ⟨hx1, hx2⟩ := hp x List.mem_cons_self
    rw [List.cons_append] at hk
    obtain ⟨v, h1, c1, s1, hk⟩ := (kops_iff hx1).1 hk
    have ih := to_front hi pre post (fun y hy => hp y (List.mem_cons_of_mem _ hy)) hk
    obtain ⟨u, h2, c2, s2, hk⟩ := (kops_iff hi).1 ih
    obtain ⟨h1', c1', s3, s4, e⟩ := exchange hx2 s1 s2
    rw [e] at hk
    refine (kops_iff hi).2 ⟨u, h1', c1', s3, ?_⟩
    rw [List.cons_append]
    exact (kops_iff hx1).2 ⟨v, h2, c2, s4, hk⟩
end Go.AM
