/- Finding by a function that may hold objects: IndexFunc, ContainsFunc, for all kinds of elements. Walked. No condition. -/
import Derived.Test.YtbhdjaccdaccbaaGreatAmG24
import Derived.Test.YtbhdjaccdaccbaaGreatAmG18
set_option linter.all false
set_option linter.unusedSimpArgs false
set_option linter.unusedVariables false
set_option linter.deprecated false
/-! GnF -/
section
open Go Go.AM
namespace FrA
open Go.Proofs
set_option maxRecDepth 100000
set_option linter.unusedSimpArgs false
open Go.AM.L
/-- What a function holds: values, and whole objects. -/
def CaptOk (obs : List Ob) (capt : List AV) : Prop := ∀ a ∈ capt, a.pure = true ∨ ∃ k, k < obs.length ∧ a = .ptr (.p k) 0 0 0
/-- Objects as they are handed over. -/
def ObsOk (obs : List Ob) : Prop := ∀ b ∈ obs, b.ver = 0 ∧ b.fixed = true ∧ AM.Pure b.es
def osOf (obs : List Ob) : List Rid := (List.range obs.length).map .p
theorem osOf_len (obs : List Ob) : (osOf obs).length = obs.length := by simp [osOf]
theorem osOf_nodup (obs : List Ob) : (osOf obs).Nodup := by
  unfold osOf
  have := srcs_nodup0 obs.length
  exact this
where srcs_nodup0 (n : Nat) : ((List.range n).map Rid.p).Nodup := List.Pairwise.map Rid.p (fun a b h e => h (by cases e; rfl)) List.nodup_range
theorem osOf_at {obs : List Ob} {k : Nat} (h : k < obs.length) : (osOf obs)[k]? = some (.p k) := by simp [osOf, h]
theorem osOf_idx {obs : List Ob} {k : Nat} (h : k < obs.length) : (osOf obs).idxOf? (.p k) = some k := idx_nodup (osOf_nodup obs) (osOf_at h)
theorem hcall_same (obs : List Ob) (hv : ObsOk obs) (t c : Nat) : hcall (objs obs) (osOf obs) obs t c = objs obs := by
  funext u
  have key : ∀ k, tgt (osOf obs) t obs.length u = some k → u = .p k ∧ k < obs.length := by
    intro k hk
    have hk2 : (osOf obs).idxOf? u = some k := by
      cases u with
      | p j => exact hk
      | l j => exact hk
      | r t' j =>
        rw [tgt_r_eq, osOf_len, if_neg (by omega)] at hk
        exact hk
    have h1 := idx_some hk2
    have h2 := (List.getElem?_eq_some_iff.1 h1).1
    rw [osOf_len] at h2
    rw [osOf_at h2] at h1
    cases h1
    exact ⟨rfl, h2⟩
  unfold hcall
  cases hk : tgt (osOf obs) t obs.length u with
  | none => rfl
  | some k =>
    obtain ⟨rfl, hlt⟩ := key k hk
    have hb := hv _ (List.getElem_mem hlt)
    simp only [osOf_len, hlt, if_true, objs, List.getElem?_eq_getElem hlt, Option.bind_some, Option.map_some]
theorem capt_exp {obs : List Ob} (hv : ObsOk obs) : ∀ {capt : List AV}, CaptOk obs capt → expL (objs obs) (osOf obs) capt = capt
  | [], _ => rfl
  | a :: r, hc => by
    rw [expL, capt_exp hv fun x hx => hc x (List.mem_cons_of_mem _ hx)]
    congr 1
    rcases hc a (by simp) with hp | ⟨k, hk, rfl⟩
    · cases a <;> simp_all [AV.pure, expA]
    · have hb := (hv _ (List.getElem_mem hk)).1
      simp [expA, osOf_idx hk, cur, objs, List.getElem?_eq_getElem hk, hb]
theorem capt_ok {obs : List Ob} (hv : ObsOk obs) {capt : List AV} (hc : CaptOk obs capt) {a : AV} (ha : a ∈ capt) : ExpOk (objs obs) (osOf obs) a := by
  rcases hc a ha with hp | ⟨k, hk, rfl⟩
  · cases a <;> simp_all [AV.pure, ExpOk]
  · have hb := (hv _ (List.getElem_mem hk)).1
    simp [ExpOk, osOf_idx hk, cur, objs, List.getElem?_eq_getElem hk, hb]
theorem capt_ok2 {obs : List Ob} (hv : ObsOk obs) {capt : List AV} (hc : CaptOk obs capt) (f : Nat) : ExpOk (objs obs) (osOf obs) (.fn f capt) := by
  intro a ha
  have := capt_ok hv hc ha
  rcases hc a ha with hp | ⟨k, hk, rfl⟩
  · cases a <;> simp_all [AV.pure]
  · exact this
theorem root_pure {cs : List AV} (hp : ∀ x ∈ cs, x.pure = true) : (AV.agg cs).rooted = false := by
  show cs.any AV.ref1 = false
  rw [List.any_eq_false]
  intro x hx
  have := hp x hx
  cases x <;> simp_all [AV.pure, AV.ref1]
theorem root_capt {obs : List Ob} {capt : List AV} (hc : CaptOk obs capt) {a : AV} (ha : a ∈ capt) : a.rooted = false := by
  rcases hc a ha with hp | ⟨k, hk, rfl⟩
  · cases a <;> simp_all [AV.pure, AV.rooted]
  · rfl
theorem root_fn {obs : List Ob} {capt : List AV} (hc : CaptOk obs capt) (f : Nat) : (AV.fn f capt).rooted = false := by
  show capt.any AV.ref1 = false
  rw [List.any_eq_false]
  intro x hx
  rcases hc x hx with hp | ⟨k, hk, rfl⟩
  · cases x <;> simp_all [AV.pure, AV.ref1]
  · simp [AV.ref1]
section
variable {s : Stk} {g : Slots} {c : Nat} {r m : List KOp} {d : Option Nat}
/-- A call that is handed all objects, and leaves them as they were. -/
theorem Call_keep {f : Nat} {capt args : List AV} {v : AV} (own : Bool) (obs : List Ob) (hv : ObsOk obs) (how : own = true → ∀ b ∈ obs, b.own ∨ AM.Flat b.es) (hc : HT f (expL (objs obs) (osOf obs) (args ++ capt)) obs v own obs)
    (hroot : ∀ a ∈ args ++ capt, a.rooted = false) (he : ∀ a ∈ args ++ capt, ExpOk (objs obs) (osOf obs) a) (hi : ∀ t n c, impA t n c v = v) (hq : RunD HC r m s (updO g d v) (objs obs) c) : CallK HC (.fn f capt) args d r m s g (objs obs) c :=
  Call_obs (osOf obs) obs v own obs hc (by
      unfold osOf
      apply List.ext_getElem?
      intro k
      rw [List.getElem?_map, List.getElem?_map, List.getElem?_map]
      by_cases hk : k < obs.length
      · have hb := hv _ (List.getElem_mem hk)
        simp only [List.getElem?_range hk, Option.map_some, objs, List.getElem?_eq_getElem hk]
        congr 2
        cases hob : obs[k] with
        | mk ver es esz own fixed tmp => rw [hob] at hb; simp only at hb; simp [hb.1, hb.2.1]
      · simp [List.getElem?_eq_none (l := List.range obs.length) (i := k) (by simpa using hk), List.getElem?_eq_none (l := obs) (i := k) (by omega)])
    (osOf_nodup obs) (Nat.le_refl _) he (fun b hb => (hv b hb).2.2) (fun b hb => (hv b hb).2.2) (.inr hroot) how (by
      rw [hcall_same obs hv, hi, nclk, osOf_len, if_neg (by omega)]
      exact hq)
end
/-- The place of the first that is so; -1: there is none. -/
def ix {α : Type} (p : α → Bool) (l : List α) : Int := match l.findIdx? p with | some i => (i : Int) | none => -1
theorem ix_some {α : Type} {p : α → Bool} {l : List α} {i : Nat} (d : α) (hi : i < l.length) (hb : ∀ x ∈ l.take i, p x = false) (hp : p (l.getD i d) = true) : ix p l = (i : Int) := by
  unfold ix
  have : l.findIdx? p = some i := by
    rw [List.findIdx?_eq_some_iff_getElem]
    refine ⟨hi, ?_, fun j hj => ?_⟩
    · rwa [List.getD_eq_getElem?_getD, List.getElem?_eq_getElem hi] at hp
    · have := hb (l[j]) (by rw [List.mem_take_iff_getElem]; exact ⟨j, by omega, rfl⟩)
      simp [this]
  rw [this]
theorem ix_none {α : Type} {p : α → Bool} {l : List α} (hb : ∀ x ∈ l, p x = false) : ix p l = -1 := by
  unfold ix
  have : l.findIdx? p = none := List.findIdx?_eq_none_iff.2 hb
  rw [this]
theorem ix_any {α : Type} (p : α → Bool) (l : List α) : decide (ix p l ≥ 0) = l.any p := by
  unfold ix
  cases h : l.findIdx? p with
  | none =>
    have := List.findIdx?_eq_none_iff.1 h
    have e : l.any p = false := by rw [List.any_eq_false]; intro x hx; simp [this x hx]
    rw [e]; rfl
  | some i =>
    obtain ⟨h1, h2, _⟩ := List.findIdx?_eq_some_iff_getElem.1 h
    have e : l.any p = true := List.any_eq_true.2 ⟨_, List.getElem_mem h1, h2⟩
    rw [e]; simp
def kIdxF (ag : Bool) (z : Nat) : K := .seq (R [o 4 (.mv (n 0))]) (.seq (.seq (R [m 6 0, o 7 (.len false (.t 6)), o 8 (.mv (n 0))]) (.block 0 (.loop (.seq (R [o 9 (.bin .lss (.t 8) (.t 7))]) (.seq (.cond (.t 9) .skip (.exit 0)) (.seq (.block 1 (.seq (R [m 10 8, m 5 10]) (.seq (R [m 11 1, m 12 0, m 13 5, o 14 (.idx z (.t 12) (.t 13)), o 15 (.load ag z (.t 14)), o 16 (.call (.t 11) [.t 15])]) (.cond (.t 16) (.seq (R [m 17 5, m 4 17]) .ret) .skip)))) (R [o 18 (.bin .add (.t 8) (n 1)), m 8 18]))))))) (.seq (R [o 4 (.mv (n (-1)))]) .ret))
theorem idxF_k {α : Type} (enc : α → List AV) (z : Nat) (d : α) (hz : ∀ a, (enc a).length = z ∧ ∀ x ∈ enc a, x.pure = true) (f : Nat) (capt : List AV) (obs : List Ob) (hv : ObsOk obs) (own : Bool) (how : own = true → ∀ b ∈ obs, b.own ∨ AM.Flat b.es) (hcp : CaptOk obs capt) (p : α → Bool)
    (l : List α) (hn : l.length ≤ 9000000000000000) (hf : ∀ a ∈ l, HT f (.agg (enc a) :: capt) obs (.b (p a)) own obs) :
    RunK HC (kIdxF true z) (.done (FinP [4] obs own fun r o' => r = i64 (ix p l) ∧ o' = obs)) (slots0 [.dat z (l.map enc), .fn f capt]) (objs obs) 1 := by
  unfold kIdxF
  have fin : ∀ (g : Slots) (v : Int), g 4 = i64 v → v = ix p l → FinB [4] obs (i64 (ix p l)) own obs g (objs obs) := fun g v h4 hv2 => by
    refine Fin_obs (by simp [resV, h4, retA, hv2]) (by simp [resV, h4, ResOk]) rfl fun j ob hj => ?_
    have hm := List.mem_of_getElem? hj
    exact ⟨(hv ob hm).2.2, ob.own, .inr Iff.rfl, hj, (hv ob hm).1⟩
  simp -implicitDefEqProofs -dsimp only [S_0, S_1, go_sem, ↓reduceIte, Nat.reduceEqDiff, Int.reduceLE, Int.reduceLT, Int.reduceNeg, Int.reduceEq, Int.reduceBEq, Int.reduceBNe, Nat.reduceMul, Nat.reduceAdd, Nat.reduceLeDiff, reduceCtorEq, Int.reduceToNat]
  refine K_for l.length (fun i g h c => g 0 = .dat z (l.map enc) ∧ g 1 = .fn f capt ∧ g 7 = i64 l.length ∧ g 8 = i64 i ∧ h = objs obs ∧ ∀ x ∈ l.take i, p x = false) ?_ ?_ ?_
  · exact ⟨by simp [upd_at, S_0], by simp [upd_at, S_1], by simp [upd_at], by simp [upd_at], rfl, by simp⟩
  · rintro i A hi hA g h c ⟨q0, q1, q7, q8, rfl, hb⟩
    have hc : (i : Int) < (l.length : Int) := by omega
    have w2 : IntKind.i64.wrap ((i : Int) + 1) = ((i + 1 : Nat) : Int) := wnat1 (by omega)
    have hf1 := hf _ (mmem d hi)
    have hg1 := mget d hi
    have hst := fun hp => mall_step (p := fun x => p x = false) d hi hb hp
    have hix := fun hp => ix_some (p := p) d hi hb hp
    generalize l.getD i d = cc at hf1 hg1 hst hix
    have l1 := (hz cc).1
    have tk : (enc cc).take z = enc cc := List.take_of_length_le (by omega)
    have pu := (hz cc).2
    simp -implicitDefEqProofs -dsimp only [q0, q1, q7, q8, hc, hg1, l1, tk, go_sem, ↓reduceIte, Nat.reduceEqDiff, Int.reduceLE, Int.reduceLT, Int.reduceNeg, Int.reduceEq, Int.reduceBEq, Int.reduceBNe, Nat.reduceMul, Nat.reduceAdd, Nat.reduceLeDiff, reduceCtorEq, Int.reduceToNat]
    refine Call_keep own obs hv how (by simpa [expL, expA, expL_pure pu, capt_exp hv hcp] using hf1) (fun a ha => by
      rcases List.mem_append.1 ha with ha | ha
      · simp only [List.mem_cons, List.not_mem_nil, or_false] at ha; subst ha; exact root_pure pu
      · exact root_capt hcp ha) (fun a ha => by
      rcases List.mem_append.1 ha with ha | ha
      · simp only [List.mem_cons, List.not_mem_nil, or_false] at ha; subst ha; exact ExpOk_pure pu
      · exact capt_ok hv hcp ha) (fun _ _ _ => rfl) ?_
    cases hp : p cc with
    | true =>
      simp -implicitDefEqProofs -dsimp only [go_sem, ↓reduceIte, Nat.reduceEqDiff, Int.reduceLE, Int.reduceLT, Int.reduceNeg, Int.reduceEq, Int.reduceBEq, Int.reduceBNe, Nat.reduceMul, Nat.reduceAdd, Nat.reduceLeDiff, reduceCtorEq, Int.reduceToNat]
      exact fin _ i (by simp [upd_at]) (hix hp).symm
    | false =>
      simp -implicitDefEqProofs -dsimp only [q8, w2, go_sem, ↓reduceIte, Nat.reduceEqDiff, Int.reduceLE, Int.reduceLT, Int.reduceNeg, Int.reduceEq, Int.reduceBEq, Int.reduceBNe, Nat.reduceMul, Nat.reduceAdd, Nat.reduceLeDiff, reduceCtorEq, Int.reduceToNat]
      exact hA _ _ _ ⟨by simp [upd_at, q0], by simp [upd_at, q1], by simp [upd_at, q7], by simp [upd_at], rfl, hst hp⟩
  · rintro A g h c ⟨q0, q1, q7, q8, rfl, hb⟩
    rw [List.take_length] at hb
    have hc : ¬ (l.length : Int) < (l.length : Int) := by omega
    simp -implicitDefEqProofs -dsimp only [q0, q1, q7, q8, hc, go_sem, ↓reduceIte, Nat.reduceEqDiff, Int.reduceLE, Int.reduceLT, Int.reduceNeg, Int.reduceEq, Int.reduceBEq, Int.reduceBNe, Nat.reduceMul, Nat.reduceAdd, Nat.reduceLeDiff, reduceCtorEq, Int.reduceToNat]
    exact fin _ (-1) (by simp [upd_at]) (ix_none hb).symm
theorem idxI_k (f : Nat) (capt : List AV) (obs : List Ob) (hv : ObsOk obs) (own : Bool) (how : own = true → ∀ b ∈ obs, b.own ∨ AM.Flat b.es) (hcp : CaptOk obs capt) (p : Int → Bool)
    (l : List Int) (hn : l.length ≤ 9000000000000000) (hf : ∀ a ∈ l, HT f (i64 a :: capt) obs (.b (p a)) own obs) :
    RunK HC (kIdxF false 1) (.done (FinP [4] obs own fun r o' => r = i64 (ix p l) ∧ o' = obs)) (slots0 [.dat 1 (l.map inC), .fn f capt]) (objs obs) 1 := by
  unfold kIdxF
  have fin : ∀ (g : Slots) (v : Int), g 4 = i64 v → v = ix p l → FinB [4] obs (i64 (ix p l)) own obs g (objs obs) := fun g v h4 hv2 => by
    refine Fin_obs (by simp [resV, h4, retA, hv2]) (by simp [resV, h4, ResOk]) rfl fun j ob hj => ?_
    have hm := List.mem_of_getElem? hj
    exact ⟨(hv ob hm).2.2, ob.own, .inr Iff.rfl, hj, (hv ob hm).1⟩
  simp -implicitDefEqProofs -dsimp only [S_0, S_1, go_sem, ↓reduceIte, Nat.reduceEqDiff, Int.reduceLE, Int.reduceLT, Int.reduceNeg, Int.reduceEq, Int.reduceBEq, Int.reduceBNe, Nat.reduceMul, Nat.reduceAdd, Nat.reduceLeDiff, reduceCtorEq, Int.reduceToNat]
  refine K_for l.length (fun i g h c => g 0 = .dat 1 (l.map inC) ∧ g 1 = .fn f capt ∧ g 7 = i64 l.length ∧ g 8 = i64 i ∧ h = objs obs ∧ ∀ x ∈ l.take i, p x = false) ?_ ?_ ?_
  · exact ⟨by simp [upd_at, S_0], by simp [upd_at, S_1], by simp [upd_at], by simp [upd_at], rfl, by simp⟩
  · rintro i A hi hA g h c ⟨q0, q1, q7, q8, rfl, hb⟩
    have hc : (i : Int) < (l.length : Int) := by omega
    have w2 : IntKind.i64.wrap ((i : Int) + 1) = ((i + 1 : Nat) : Int) := wnat1 (by omega)
    have hf1 := hf _ (mmem (0 : Int) hi)
    have hg1 := mget (0 : Int) hi
    have hst := fun hp => mall_step (p := fun x => p x = false) (0 : Int) hi hb hp
    have hix := fun hp => ix_some (p := p) (0 : Int) hi hb hp
    generalize l.getD i 0 = cc at hf1 hg1 hst hix
    simp -implicitDefEqProofs -dsimp only [q0, q1, q7, q8, hc, hg1, inC, go_sem, ↓reduceIte, Nat.reduceEqDiff, Int.reduceLE, Int.reduceLT, Int.reduceNeg, Int.reduceEq, Int.reduceBEq, Int.reduceBNe, Nat.reduceMul, Nat.reduceAdd, Nat.reduceLeDiff, reduceCtorEq, Int.reduceToNat]
    refine Call_keep own obs hv how (by simpa [expL, expA, capt_exp hv hcp] using hf1) (fun a ha => by
      rcases List.mem_append.1 ha with ha | ha
      · simp only [List.mem_cons, List.not_mem_nil, or_false] at ha; subst ha; rfl
      · exact root_capt hcp ha) (fun a ha => by
      rcases List.mem_append.1 ha with ha | ha
      · simp only [List.mem_cons, List.not_mem_nil, or_false] at ha; subst ha; rfl
      · exact capt_ok hv hcp ha) (fun _ _ _ => rfl) ?_
    cases hp : p cc with
    | true =>
      simp -implicitDefEqProofs -dsimp only [go_sem, ↓reduceIte, Nat.reduceEqDiff, Int.reduceLE, Int.reduceLT, Int.reduceNeg, Int.reduceEq, Int.reduceBEq, Int.reduceBNe, Nat.reduceMul, Nat.reduceAdd, Nat.reduceLeDiff, reduceCtorEq, Int.reduceToNat]
      exact fin _ i (by simp [upd_at]) (hix hp).symm
    | false =>
      simp -implicitDefEqProofs -dsimp only [q8, w2, go_sem, ↓reduceIte, Nat.reduceEqDiff, Int.reduceLE, Int.reduceLT, Int.reduceNeg, Int.reduceEq, Int.reduceBEq, Int.reduceBNe, Nat.reduceMul, Nat.reduceAdd, Nat.reduceLeDiff, reduceCtorEq, Int.reduceToNat]
      exact hA _ _ _ ⟨by simp [upd_at, q0], by simp [upd_at, q1], by simp [upd_at, q7], by simp [upd_at], rfl, hst hp⟩
  · rintro A g h c ⟨q0, q1, q7, q8, rfl, hb⟩
    rw [List.take_length] at hb
    have hc : ¬ (l.length : Int) < (l.length : Int) := by omega
    simp -implicitDefEqProofs -dsimp only [q0, q1, q7, q8, hc, go_sem, ↓reduceIte, Nat.reduceEqDiff, Int.reduceLE, Int.reduceLT, Int.reduceNeg, Int.reduceEq, Int.reduceBEq, Int.reduceBNe, Nat.reduceMul, Nat.reduceAdd, Nat.reduceLeDiff, reduceCtorEq, Int.reduceToNat]
    exact fin _ (-1) (by simp [upd_at]) (ix_none hb).symm
def kCntF (ix : Nat) : K := .seq (R [o 4 (.mv (.c (.b false)))]) (.seq (R [m 5 0, m 6 1, o 7 (.call (.f ix) [.t 5, .t 6]), o 8 (.bin .geq (.t 7) (n 0)), m 4 8]) .ret)
theorem cntF_k (idx z : Nat) (es : List (List AV)) (f : Nat) (capt : List AV) (obs : List Ob) (hv : ObsOk obs) (own : Bool) (how : own = true → ∀ b ∈ obs, b.own ∨ AM.Flat b.es) (hcp : CaptOk obs capt) (v : Int) (hf : HT idx [.dat z es, .fn f capt] obs (i64 v) own obs) :
    RunK HC (kCntF idx) (.done (FinP [4] obs own fun r o' => r = .b (decide (v ≥ 0)) ∧ o' = obs)) (slots0 [.dat z es, .fn f capt]) (objs obs) 1 := by
  unfold kCntF
  simp -implicitDefEqProofs -dsimp only [S_0, S_1, go_sem, ↓reduceIte, Nat.reduceEqDiff, Int.reduceLE, Int.reduceLT, Int.reduceNeg, Int.reduceEq, Int.reduceBEq, Int.reduceBNe, Nat.reduceMul, Nat.reduceAdd, Nat.reduceLeDiff, reduceCtorEq, Int.reduceToNat]
  refine Call_keep own obs hv how (by simpa [expL, expA, capt_exp hv hcp] using hf) (fun a ha => by
      simp only [List.append_nil, List.mem_cons, List.not_mem_nil, or_false] at ha
      rcases ha with rfl | rfl
      · rfl
      · exact root_fn hcp f) (fun a ha => by
      simp only [List.append_nil, List.mem_cons, List.not_mem_nil, or_false] at ha
      rcases ha with rfl | rfl
      · rfl
      · exact capt_ok2 hv hcp f) (fun _ _ _ => rfl) ?_
  simp -implicitDefEqProofs -dsimp only [go_sem, ↓reduceIte, Nat.reduceEqDiff, Int.reduceLE, Int.reduceLT, Int.reduceNeg, Int.reduceEq, Int.reduceBEq, Int.reduceBNe, Nat.reduceMul, Nat.reduceAdd, Nat.reduceLeDiff, reduceCtorEq, Int.reduceToNat]
  refine Fin_obs (by simp [resV, upd_at, retA]) (by simp [resV, upd_at, ResOk]) rfl fun j ob hj => ?_
  have hm := List.mem_of_getElem? hj
  exact ⟨(hv ob hm).2.2, ob.own, .inr Iff.rfl, hj, (hv ob hm).1⟩
end FrA
end
/-! IxA -/
section
open Go Go.AM
namespace FrA
open Go.Proofs
set_option maxRecDepth 100000
set_option linter.unusedSimpArgs false
open Go.AM.L
section
variable (f : Nat) (capt : List AV) (obs : List Ob) (hv : ObsOk obs) (own : Bool) (how : own = true → ∀ b ∈ obs, b.own ∨ AM.Flat b.es) (hcp : CaptOk obs capt)
include hv how hcp
theorem ixCl (p : Cl → Bool) (l : List Cl) (hn : l.length ≤ 9000000000000000) (hf : ∀ a ∈ l, HT f (.agg (clC a) :: capt) obs (.b (p a)) own obs) : HT 259 [cls l, .fn f capt] obs (i64 (ix p l)) own obs := by
  refine holds_of (c := Tryz.f259.body.getD .skip) (k := kIdxF true 6) (ts := [4]) HOk mixedT hintT Tryz.func259 (by kernel_rfl) (by kernel_rfl) (by kernel_rfl) (by kernel_rfl) (by kernel_rfl) (le_of 2 _ (by kernel_rfl)) ?_
  exact idxF_k clC 6 c0 (fun a => ⟨rfl, by simp [clC, AV.pure]⟩) f capt obs hv own how hcp p l hn hf
theorem ctCl (p : Cl → Bool) (l : List Cl) (hn : l.length ≤ 9000000000000000) (hf : ∀ a ∈ l, HT f (.agg (clC a) :: capt) obs (.b (p a)) own obs) : HT 238 [cls l, .fn f capt] obs (.b (l.any p)) own obs := by
  refine holds_of (c := Tryz.f238.body.getD .skip) (k := kCntF 259) (ts := [4]) HOk mixedT hintT Tryz.func238 (by kernel_rfl) (by kernel_rfl) (by kernel_rfl) (by kernel_rfl) (by kernel_rfl) (le_of 2 _ (by kernel_rfl)) ?_
  rw [← ix_any]
  exact cntF_k 259 6 (l.map clC) f capt obs hv own how hcp _ (ixCl f capt obs hv own how hcp p l hn hf)
theorem ixUn (p : (List Int) → Bool) (l : List (List Int)) (hn : l.length ≤ 9000000000000000) (hf : ∀ a ∈ l, HT f (.agg (unC a) :: capt) obs (.b (p a)) own obs) : HT 242 [uns l, .fn f capt] obs (i64 (ix p l)) own obs := by
  refine holds_of (c := Tryz.f242.body.getD .skip) (k := kIdxF true 1) (ts := [4]) HOk mixedT hintT Tryz.func242 (by kernel_rfl) (by kernel_rfl) (by kernel_rfl) (by kernel_rfl) (by kernel_rfl) (le_of 2 _ (by kernel_rfl)) ?_
  exact idxF_k unC 1 [] (fun a => ⟨rfl, by simp [unC, ils, AV.pure]⟩) f capt obs hv own how hcp p l hn hf
theorem ctUn (p : (List Int) → Bool) (l : List (List Int)) (hn : l.length ≤ 9000000000000000) (hf : ∀ a ∈ l, HT f (.agg (unC a) :: capt) obs (.b (p a)) own obs) : HT 202 [uns l, .fn f capt] obs (.b (l.any p)) own obs := by
  refine holds_of (c := Tryz.f202.body.getD .skip) (k := kCntF 242) (ts := [4]) HOk mixedT hintT Tryz.func202 (by kernel_rfl) (by kernel_rfl) (by kernel_rfl) (by kernel_rfl) (by kernel_rfl) (le_of 2 _ (by kernel_rfl)) ?_
  rw [← ix_any]
  exact cntF_k 242 1 (l.map unC) f capt obs hv own how hcp _ (ixUn f capt obs hv own how hcp p l hn hf)
theorem ixCk (p : (List Tk) → Bool) (l : List (List Tk)) (hn : l.length ≤ 9000000000000000) (hf : ∀ a ∈ l, HT f (.agg (ckC a) :: capt) obs (.b (p a)) own obs) : HT 243 [cks l, .fn f capt] obs (i64 (ix p l)) own obs := by
  refine holds_of (c := Tryz.f243.body.getD .skip) (k := kIdxF true 1) (ts := [4]) HOk mixedT hintT Tryz.func243 (by kernel_rfl) (by kernel_rfl) (by kernel_rfl) (by kernel_rfl) (by kernel_rfl) (le_of 2 _ (by kernel_rfl)) ?_
  exact idxF_k ckC 1 [] (fun a => ⟨rfl, by simp [ckC, tks, AV.pure]⟩) f capt obs hv own how hcp p l hn hf
theorem ctCk (p : (List Tk) → Bool) (l : List (List Tk)) (hn : l.length ≤ 9000000000000000) (hf : ∀ a ∈ l, HT f (.agg (ckC a) :: capt) obs (.b (p a)) own obs) : HT 204 [cks l, .fn f capt] obs (.b (l.any p)) own obs := by
  refine holds_of (c := Tryz.f204.body.getD .skip) (k := kCntF 243) (ts := [4]) HOk mixedT hintT Tryz.func204 (by kernel_rfl) (by kernel_rfl) (by kernel_rfl) (by kernel_rfl) (by kernel_rfl) (le_of 2 _ (by kernel_rfl)) ?_
  rw [← ix_any]
  exact cntF_k 243 1 (l.map ckC) f capt obs hv own how hcp _ (ixCk f capt obs hv own how hcp p l hn hf)
theorem ixFk (p : Fk → Bool) (l : List Fk) (hn : l.length ≤ 9000000000000000) (hf : ∀ a ∈ l, HT f (.agg (fkC a) :: capt) obs (.b (p a)) own obs) : HT 211 [fkk l, .fn f capt] obs (i64 (ix p l)) own obs := by
  refine holds_of (c := Tryz.f211.body.getD .skip) (k := kIdxF true 5) (ts := [4]) HOk mixedT hintT Tryz.func211 (by kernel_rfl) (by kernel_rfl) (by kernel_rfl) (by kernel_rfl) (by kernel_rfl) (le_of 2 _ (by kernel_rfl)) ?_
  exact idxF_k fkC 5 f0 (fun a => ⟨rfl, by simp [fkC, ils, AV.pure]⟩) f capt obs hv own how hcp p l hn hf
theorem ctFk (p : Fk → Bool) (l : List Fk) (hn : l.length ≤ 9000000000000000) (hf : ∀ a ∈ l, HT f (.agg (fkC a) :: capt) obs (.b (p a)) own obs) : HT 144 [fkk l, .fn f capt] obs (.b (l.any p)) own obs := by
  refine holds_of (c := Tryz.f144.body.getD .skip) (k := kCntF 211) (ts := [4]) HOk mixedT hintT Tryz.func144 (by kernel_rfl) (by kernel_rfl) (by kernel_rfl) (by kernel_rfl) (by kernel_rfl) (le_of 2 _ (by kernel_rfl)) ?_
  rw [← ix_any]
  exact cntF_k 211 5 (l.map fkC) f capt obs hv own how hcp _ (ixFk f capt obs hv own how hcp p l hn hf)
theorem ixTb (p : Tb → Bool) (l : List Tb) (hn : l.length ≤ 9000000000000000) (hf : ∀ a ∈ l, HT f (.agg (tbC a) :: capt) obs (.b (p a)) own obs) : HT 209 [tbs l, .fn f capt] obs (i64 (ix p l)) own obs := by
  refine holds_of (c := Tryz.f209.body.getD .skip) (k := kIdxF true 6) (ts := [4]) HOk mixedT hintT Tryz.func209 (by kernel_rfl) (by kernel_rfl) (by kernel_rfl) (by kernel_rfl) (by kernel_rfl) (le_of 2 _ (by kernel_rfl)) ?_
  exact idxF_k tbC 6 t0 (fun a => ⟨rfl, by simp [tbC, cls, ils, uns, cks, fkk, AV.pure]⟩) f capt obs hv own how hcp p l hn hf
theorem ctTb (p : Tb → Bool) (l : List Tb) (hn : l.length ≤ 9000000000000000) (hf : ∀ a ∈ l, HT f (.agg (tbC a) :: capt) obs (.b (p a)) own obs) : HT 142 [tbs l, .fn f capt] obs (.b (l.any p)) own obs := by
  refine holds_of (c := Tryz.f142.body.getD .skip) (k := kCntF 209) (ts := [4]) HOk mixedT hintT Tryz.func142 (by kernel_rfl) (by kernel_rfl) (by kernel_rfl) (by kernel_rfl) (by kernel_rfl) (le_of 2 _ (by kernel_rfl)) ?_
  rw [← ix_any]
  exact cntF_k 209 6 (l.map tbC) f capt obs hv own how hcp _ (ixTb f capt obs hv own how hcp p l hn hf)
theorem ixRw (p : Rw → Bool) (l : List Rw) (hn : l.length ≤ 9000000000000000) (hf : ∀ a ∈ l, HT f (.agg (rwC a) :: capt) obs (.b (p a)) own obs) : HT 109 [rws l, .fn f capt] obs (i64 (ix p l)) own obs := by
  refine holds_of (c := Tryz.f109.body.getD .skip) (k := kIdxF true 2) (ts := [4]) HOk mixedT hintT Tryz.func109 (by kernel_rfl) (by kernel_rfl) (by kernel_rfl) (by kernel_rfl) (by kernel_rfl) (le_of 2 _ (by kernel_rfl)) ?_
  exact idxF_k rwC 2 r0 (fun a => ⟨rfl, by simp [rwC, vls, AV.pure]⟩) f capt obs hv own how hcp p l hn hf
theorem ixIn (p : Int → Bool) (l : List Int) (hn : l.length ≤ 9000000000000000) (hf : ∀ a ∈ l, HT f (i64 a :: capt) obs (.b (p a)) own obs) : HT 241 [ils l, .fn f capt] obs (i64 (ix p l)) own obs := by
  refine holds_of (c := Tryz.f241.body.getD .skip) (k := kIdxF false 1) (ts := [4]) HOk mixedT hintT Tryz.func241 (by kernel_rfl) (by kernel_rfl) (by kernel_rfl) (by kernel_rfl) (by kernel_rfl) (le_of 2 _ (by kernel_rfl)) ?_
  exact idxI_k f capt obs hv own how hcp p l hn hf
theorem ctIn (p : Int → Bool) (l : List Int) (hn : l.length ≤ 9000000000000000) (hf : ∀ a ∈ l, HT f (i64 a :: capt) obs (.b (p a)) own obs) : HT 200 [ils l, .fn f capt] obs (.b (l.any p)) own obs := by
  refine holds_of (c := Tryz.f200.body.getD .skip) (k := kCntF 241) (ts := [4]) HOk mixedT hintT Tryz.func200 (by kernel_rfl) (by kernel_rfl) (by kernel_rfl) (by kernel_rfl) (by kernel_rfl) (le_of 2 _ (by kernel_rfl)) ?_
  rw [← ix_any]
  exact cntF_k 241 1 (l.map inC) f capt obs hv own how hcp _ (ixIn f capt obs hv own how hcp p l hn hf)
end
end FrA
end
/-! PrB -/
section
open Go Go.AM
namespace FrA
open Go.Proofs
set_option maxRecDepth 100000
set_option linter.unusedSimpArgs false
theorem tt_T : tt True = true := tt_t trivial
theorem tt_F : tt False = false := tt_f id
def coOk (l : List Int) (n : Int) (i : Nat) : Prop := (0 ≤ l.getD i 0 ∧ l.getD i 0 ≤ n - 1) ∧ l.getD i 0 ∉ l.take i
theorem co_bad {l : List Int} {n : Int} {i : Nat} (h : i < l.length) (hb : ¬ coOk l n i) : tt (colsOk l n) = false := tt_f fun k => hb (k.1 i h)
theorem co_end {l : List Int} {n : Int} (h : ∀ i, i < l.length → coOk l n i) : tt (colsOk l n) = decide ((l.length : Int) > 0) := by
  by_cases hh : (l.length : Int) > 0
  · rw [tt_t ⟨h, by omega⟩, decide_eq_true hh]
  · rw [tt_f fun k => hh (by have := k.2; omega), decide_eq_false hh]
theorem upto_step {P : Nat → Prop} {i : Nat} (h : ∀ j, j < i → P j) (hi : P i) : ∀ j, j < i + 1 → P j := fun j hj => by
  by_cases he : j = i
  · subst he; exact hi
  · exact h j (by omega)
theorem h199 (l : List Int) (n : Nat) (hl : l.length ≤ 9000000000000000) (hn : n ≤ 9000000000000000) : HT 199 [ils l, i64 n] [] (.b (tt (colsOk l n))) true [] := by
  refine holds_of (c := Tryz.f199.body.getD .skip) (k := k199.1) (ts := [4]) HOk mixedT hintT Tryz.func199 (by kernel_rfl) (by kernel_rfl) (by kernel_rfl) k199.2 (by kernel_rfl) (le_of 2 _ (by kernel_rfl)) ?_
  unfold ils
  have wn : IntKind.i64.wrap ((n : Int) - 1) = (n : Int) - 1 := IntWalk.i64_in _ ⟨by omega, by omega⟩
  simp -implicitDefEqProofs -dsimp only [k199, go_sem, ↓reduceIte, Nat.reduceEqDiff, Int.reduceLE, Int.reduceLT, Int.reduceNeg, Int.reduceEq, Int.reduceBEq, Int.reduceBNe, Nat.reduceMul, Nat.reduceAdd, Nat.reduceLeDiff, reduceCtorEq, Int.reduceToNat]
  refine K_for l.length (fun i g h c => g 0 = .dat 1 (l.map inC) ∧ g 1 = i64 n ∧ g 7 = .dat 1 (l.map inC) ∧ g 8 = i64 l.length ∧ g 9 = i64 i ∧ ∀ j, j < i → coOk l n j) ?_ ?_ ?_
  · exact ⟨by simp [upd_at, S_0], by simp [upd_at, S_1], by simp [upd_at, S_0], by simp [upd_at], by simp [upd_at], fun j hj => absurd hj (by omega)⟩
  · rintro i A hi hA g h c ⟨q0, q1, q7, q8, q9, hb⟩
    have hc : (i : Int) < (l.length : Int) := by omega
    have hle : (i : Int) ≤ (l.length : Int) := by omega
    have hne : ¬ i = l.length := by omega
    have w2 : IntKind.i64.wrap ((i : Int) + 1) = ((i + 1 : Nat) : Int) := wnat1 (by omega)
    have hg := mget (0 : Int) hi
    have hbad := co_bad (l := l) (n := n) hi
    have hst := upto_step (P := coOk l n) hb
    unfold coOk at hbad hst
    have d2 := h240 (l.take i) (l.getD i 0) (by rw [List.length_take]; omega)
    generalize l.getD i 0 = y at hg hbad hst d2
    have d1 := h81 y 0 ((n : Int) - 1)
    unfold ils at d2
    rw [List.map_take] at d2
    simp -implicitDefEqProofs -dsimp only [q0, q1, q7, q8, q9, hc, hg, inC, wn, go_sem, ↓reduceIte, Nat.reduceEqDiff, Int.reduceLE, Int.reduceLT, Int.reduceNeg, Int.reduceEq, Int.reduceBEq, Int.reduceBNe, Nat.reduceMul, Nat.reduceAdd, Nat.reduceLeDiff, reduceCtorEq, Int.reduceToNat]
    refine Call_val (own := true) (d1) (by simp [ExpOk, AV.pure]) (.inl rfl) ?_
    by_cases h1 : 0 ≤ y ∧ y ≤ (n : Int) - 1
    · simp -implicitDefEqProofs -dsimp only [q0, q1, q7, q8, q9, hc, hle, hne, hg, inC, wn, h1, go_sem, ↓reduceIte, Nat.reduceEqDiff, Int.reduceLE, Int.reduceLT, Int.reduceNeg, Int.reduceEq, Int.reduceBEq, Int.reduceBNe, Nat.reduceMul, Nat.reduceAdd, Nat.reduceLeDiff, reduceCtorEq, Int.reduceToNat]
      refine VK_p (by first | omega | (simp only [List.length_cons, List.length_nil, List.length_append]; omega) | (refine ⟨by omega, by omega, ?_⟩; first | omega | (simp only [List.length_cons, List.length_nil, List.length_append]; omega)) | (simp; omega) | (simp; done)) ?_
      simp -implicitDefEqProofs -dsimp only [q0, q1, q7, q8, q9, hc, hle, hne, hg, inC, wn, h1, go_sem, ↓reduceIte, Nat.reduceEqDiff, Int.reduceLE, Int.reduceLT, Int.reduceNeg, Int.reduceEq, Int.reduceBEq, Int.reduceBNe, Nat.reduceMul, Nat.reduceAdd, Nat.reduceLeDiff, reduceCtorEq, Int.reduceToNat]
      refine Call_val (own := true) (d2) (by simp [ExpOk, AV.pure]) (.inl rfl) ?_
      by_cases h2 : y ∈ l.take i
      · simp -implicitDefEqProofs -dsimp only [h2, go_sem, ↓reduceIte, Nat.reduceEqDiff, Int.reduceLE, Int.reduceLT, Int.reduceNeg, Int.reduceEq, Int.reduceBEq, Int.reduceBNe, Nat.reduceMul, Nat.reduceAdd, Nat.reduceLeDiff, reduceCtorEq, Int.reduceToNat]
        exact Fin_val (by simp [resV, upd_at, retA, hbad (fun k => k.2 h2)]) (by simp [resV, upd_at, ResOk])
      · simp -implicitDefEqProofs -dsimp only [h2, q9, w2, go_sem, ↓reduceIte, Nat.reduceEqDiff, Int.reduceLE, Int.reduceLT, Int.reduceNeg, Int.reduceEq, Int.reduceBEq, Int.reduceBNe, Nat.reduceMul, Nat.reduceAdd, Nat.reduceLeDiff, reduceCtorEq, Int.reduceToNat]
        exact hA _ _ _ ⟨by simp [upd_at, q0], by simp [upd_at, q1], by simp [upd_at, q7], by simp [upd_at, q8], by simp [upd_at], hst ⟨h1, h2⟩⟩
    · simp -implicitDefEqProofs -dsimp only [h1, go_sem, ↓reduceIte, Nat.reduceEqDiff, Int.reduceLE, Int.reduceLT, Int.reduceNeg, Int.reduceEq, Int.reduceBEq, Int.reduceBNe, Nat.reduceMul, Nat.reduceAdd, Nat.reduceLeDiff, reduceCtorEq, Int.reduceToNat]
      exact Fin_val (by simp [resV, upd_at, retA, hbad (fun k => h1 k.1)]) (by simp [resV, upd_at, ResOk])
  · rintro A g h c ⟨q0, q1, q7, q8, q9, hb⟩
    have hc : ¬ (l.length : Int) < (l.length : Int) := by omega
    rw [co_end hb]
    simp -implicitDefEqProofs -dsimp only [q0, q1, q7, q8, q9, hc, go_sem, ↓reduceIte, Nat.reduceEqDiff, Int.reduceLE, Int.reduceLT, Int.reduceNeg, Int.reduceEq, Int.reduceBEq, Int.reduceBNe, Nat.reduceMul, Nat.reduceAdd, Nat.reduceLeDiff, reduceCtorEq, Int.reduceToNat]
    exact Fin_val (by simp [resV, upd_at, retA]) (by simp [resV, upd_at, ResOk])
theorem h214 (l : List Int) (n : Nat) (hl : l.length ≤ 9000000000000000) (hn : n ≤ 9000000000000000) : HT 214 [ils l, i64 n] [] (.b (tt (colsOk l n))) true [] := by
  refine holds_of (c := Tryz.f214.body.getD .skip) (k := k214.1) (ts := [4]) HOk mixedT hintT Tryz.func214 (by kernel_rfl) (by kernel_rfl) (by kernel_rfl) k214.2 (by kernel_rfl) (le_of 2 _ (by kernel_rfl)) ?_
  unfold ils
  have wn : IntKind.i64.wrap ((n : Int) - 1) = (n : Int) - 1 := IntWalk.i64_in _ ⟨by omega, by omega⟩
  simp -implicitDefEqProofs -dsimp only [k214, go_sem, ↓reduceIte, Nat.reduceEqDiff, Int.reduceLE, Int.reduceLT, Int.reduceNeg, Int.reduceEq, Int.reduceBEq, Int.reduceBNe, Nat.reduceMul, Nat.reduceAdd, Nat.reduceLeDiff, reduceCtorEq, Int.reduceToNat]
  refine K_for l.length (fun i g h c => g 0 = .dat 1 (l.map inC) ∧ g 1 = i64 n ∧ g 5 = i64 i ∧ ∀ j, j < i → coOk l n j) ?_ ?_ ?_
  · exact ⟨by simp [upd_at, S_0], by simp [upd_at, S_1], by simp [upd_at], fun j hj => absurd hj (by omega)⟩
  · rintro i A hi hA g h c ⟨q0, q1, q5, hb⟩
    have hc : (i : Int) < (l.length : Int) := by omega
    have hle : (i : Int) ≤ (l.length : Int) := by omega
    have hne : ¬ i = l.length := by omega
    have w2 : IntKind.i64.wrap ((i : Int) + 1) = ((i + 1 : Nat) : Int) := wnat1 (by omega)
    have hg := mget (0 : Int) hi
    have hbad := co_bad (l := l) (n := n) hi
    have hst := upto_step (P := coOk l n) hb
    unfold coOk at hbad hst
    have d2 := h39 (l.take i) (l.getD i 0) (by rw [List.length_take]; omega)
    generalize l.getD i 0 = y at hg hbad hst d2
    have d1 := h132 y 0 ((n : Int) - 1)
    unfold ils at d2
    rw [List.map_take] at d2
    simp -implicitDefEqProofs -dsimp only [q0, q1, q5, hc, hg, inC, wn, go_sem, ↓reduceIte, Nat.reduceEqDiff, Int.reduceLE, Int.reduceLT, Int.reduceNeg, Int.reduceEq, Int.reduceBEq, Int.reduceBNe, Nat.reduceMul, Nat.reduceAdd, Nat.reduceLeDiff, reduceCtorEq, Int.reduceToNat]
    refine Call0_val true (d1) (by simp [AV.free, AV.pure]) (.inl rfl) ?_
    by_cases h1 : 0 ≤ y ∧ y ≤ (n : Int) - 1
    · simp -implicitDefEqProofs -dsimp only [q0, q1, q5, hc, hle, hne, hg, inC, wn, h1, go_sem, ↓reduceIte, Nat.reduceEqDiff, Int.reduceLE, Int.reduceLT, Int.reduceNeg, Int.reduceEq, Int.reduceBEq, Int.reduceBNe, Nat.reduceMul, Nat.reduceAdd, Nat.reduceLeDiff, reduceCtorEq, Int.reduceToNat]
      refine VK_p (by first | omega | (simp only [List.length_cons, List.length_nil, List.length_append]; omega) | (refine ⟨by omega, by omega, ?_⟩; first | omega | (simp only [List.length_cons, List.length_nil, List.length_append]; omega)) | (simp; omega) | (simp; done)) ?_
      simp -implicitDefEqProofs -dsimp only [q0, q1, q5, hc, hle, hne, hg, inC, wn, h1, go_sem, ↓reduceIte, Nat.reduceEqDiff, Int.reduceLE, Int.reduceLT, Int.reduceNeg, Int.reduceEq, Int.reduceBEq, Int.reduceBNe, Nat.reduceMul, Nat.reduceAdd, Nat.reduceLeDiff, reduceCtorEq, Int.reduceToNat]
      refine Call0_val true (d2) (by simp [AV.free, AV.pure]) (.inl rfl) ?_
      by_cases h2 : y ∈ l.take i
      · simp -implicitDefEqProofs -dsimp only [h2, go_sem, ↓reduceIte, Nat.reduceEqDiff, Int.reduceLE, Int.reduceLT, Int.reduceNeg, Int.reduceEq, Int.reduceBEq, Int.reduceBNe, Nat.reduceMul, Nat.reduceAdd, Nat.reduceLeDiff, reduceCtorEq, Int.reduceToNat]
        exact Fin_val (by simp [resV, upd_at, retA, hbad (fun k => k.2 h2)]) (by simp [resV, upd_at, ResOk])
      · simp -implicitDefEqProofs -dsimp only [h2, q5, w2, go_sem, ↓reduceIte, Nat.reduceEqDiff, Int.reduceLE, Int.reduceLT, Int.reduceNeg, Int.reduceEq, Int.reduceBEq, Int.reduceBNe, Nat.reduceMul, Nat.reduceAdd, Nat.reduceLeDiff, reduceCtorEq, Int.reduceToNat]
        exact hA _ _ _ ⟨by simp [upd_at, q0], by simp [upd_at, q1], by simp [upd_at], hst ⟨h1, h2⟩⟩
    · simp -implicitDefEqProofs -dsimp only [h1, go_sem, ↓reduceIte, Nat.reduceEqDiff, Int.reduceLE, Int.reduceLT, Int.reduceNeg, Int.reduceEq, Int.reduceBEq, Int.reduceBNe, Nat.reduceMul, Nat.reduceAdd, Nat.reduceLeDiff, reduceCtorEq, Int.reduceToNat]
      exact Fin_val (by simp [resV, upd_at, retA, hbad (fun k => h1 k.1)]) (by simp [resV, upd_at, ResOk])
  · rintro A g h c ⟨q0, q1, q5, hb⟩
    have hc : ¬ (l.length : Int) < (l.length : Int) := by omega
    rw [co_end hb]
    simp -implicitDefEqProofs -dsimp only [q0, q1, q5, hc, go_sem, ↓reduceIte, Nat.reduceEqDiff, Int.reduceLE, Int.reduceLT, Int.reduceNeg, Int.reduceEq, Int.reduceBEq, Int.reduceBNe, Nat.reduceMul, Nat.reduceAdd, Nat.reduceLeDiff, reduceCtorEq, Int.reduceToNat]
    exact Fin_val (by simp [resV, upd_at, retA]) (by simp [resV, upd_at, ResOk])
theorem h136 (v : Vl) (k : Int) : HT 136 [.agg (vC v), i64 k] [] (.b (tt (isOfP v k))) true [] := by
  refine holds_of (c := Tryz.f136.body.getD .skip) (k := k136.1) (ts := [4]) HOk mixedT hintT Tryz.func136 (by kernel_rfl) (by kernel_rfl) (by kernel_rfl) k136.2 (by kernel_rfl) (le_of 2 _ (by kernel_rfl)) ?_
  have d1 := h188 v
  obtain ⟨a, b, s⟩ := v
  simp only [vC] at d1 ⊢
  unfold isOfP
  simp -implicitDefEqProofs -dsimp only [k136, go_sem, ↓reduceIte, Nat.reduceEqDiff, Int.reduceLE, Int.reduceLT, Int.reduceNeg, Int.reduceEq, Int.reduceBEq, Int.reduceBNe, Nat.reduceMul, Nat.reduceAdd, Nat.reduceLeDiff, reduceCtorEq, Int.reduceToNat]
  refine Call_val (own := true) (d1) (by simp [ExpOk, AV.pure]) (.inl rfl) ?_
  by_cases h1 : vOk (a, b, s)
  · by_cases h2 : a = 0
    · subst h2
      simp -implicitDefEqProofs -dsimp only [h1, go_sem, ↓reduceIte, Nat.reduceEqDiff, Int.reduceLE, Int.reduceLT, Int.reduceNeg, Int.reduceEq, Int.reduceBEq, Int.reduceBNe, Nat.reduceMul, Nat.reduceAdd, Nat.reduceLeDiff, reduceCtorEq, Int.reduceToNat]
      exact Fin_val (by simp [resV, upd_at, retA, h1, tt_T]) (by simp [resV, upd_at, ResOk])
    · have e2 : (a == 0) = false := by simp [h2]
      have e3 : (a == k) = tt (vOk (a, b, s) ∧ (a = 0 ∨ a = k)) := by
        by_cases h3 : a = k
        · rw [tt_t ⟨h1, .inr h3⟩]; simp [h3]
        · rw [tt_f fun q => q.2.elim h2 h3]; simp [h3]
      simp -implicitDefEqProofs -dsimp only [h1, e2, e3, go_sem, ↓reduceIte, Nat.reduceEqDiff, Int.reduceLE, Int.reduceLT, Int.reduceNeg, Int.reduceEq, Int.reduceBEq, Int.reduceBNe, Nat.reduceMul, Nat.reduceAdd, Nat.reduceLeDiff, reduceCtorEq, Int.reduceToNat]
      exact Fin_val (by simp [resV, upd_at, retA]) (by simp [resV, upd_at, ResOk])
  · simp -implicitDefEqProofs -dsimp only [h1, go_sem, ↓reduceIte, Nat.reduceEqDiff, Int.reduceLE, Int.reduceLT, Int.reduceNeg, Int.reduceEq, Int.reduceBEq, Int.reduceBNe, Nat.reduceMul, Nat.reduceAdd, Nat.reduceLeDiff, reduceCtorEq, Int.reduceToNat]
    exact Fin_val (by simp [resV, upd_at, retA, h1, tt_F]) (by simp [resV, upd_at, ResOk])
end FrA
end
/-! PrC -/
section
open Go Go.AM
namespace FrA
open Go.Proofs
set_option maxRecDepth 100000
set_option linter.unusedSimpArgs false
theorem kne {k m : Int} (h : ¬ k = m) : (k == m) = false := by simp [h]
theorem knn {k m : Int} (h : ¬ k = m) : (k != m) = true := by simp [h]
theorem eqv0 (a b : Int) (s : List UInt8) : (a == 0 && (b == 0 && (s == [] && true))) = tt ((a, b, s) = v0) := by
  by_cases h : (a, b, s) = v0
  · rw [tt_t h]; cases h; rfl
  · rw [tt_f h]
    by_cases h1 : a = 0
    · by_cases h2 : b = 0
      · have h3 : ¬ s = [] := fun h3 => h (by rw [h1, h2, h3]; rfl)
        cases s with
        | nil => exact absurd rfl h3
        | cons x r => simp
      · simp [h2]
    · simp [h1]
theorem h245 (t : Tk) : HT 245 [.agg (tkC t)] [] (i64 (tkTakes t)) true [] := by
  refine holds_of (c := Tryz.f245.body.getD .skip) (k := k245.1) (ts := [2]) HOk mixedT hintT Tryz.func245 (by kernel_rfl) (by kernel_rfl) (by kernel_rfl) k245.2 (by kernel_rfl) (le_of 1 _ (by kernel_rfl)) ?_
  obtain ⟨k, c, a, b, s⟩ := t
  simp only [tkC, tkTakes]
  by_cases h1 : k = 1
  · subst h1; simp -implicitDefEqProofs -dsimp only [k245, go_sem, ↓reduceIte, Nat.reduceEqDiff, Int.reduceLE, Int.reduceLT, Int.reduceNeg, Int.reduceEq, Int.reduceBEq, Int.reduceBNe, Nat.reduceMul, Nat.reduceAdd, Nat.reduceLeDiff, reduceCtorEq, Int.reduceToNat]
    exact Fin_val (by simp [resV, upd_at, retA]) (by simp [resV, upd_at, ResOk])
  · by_cases h2 : k = 2
    · subst h2; simp -implicitDefEqProofs -dsimp only [k245, go_sem, ↓reduceIte, Nat.reduceEqDiff, Int.reduceLE, Int.reduceLT, Int.reduceNeg, Int.reduceEq, Int.reduceBEq, Int.reduceBNe, Nat.reduceMul, Nat.reduceAdd, Nat.reduceLeDiff, reduceCtorEq, Int.reduceToNat]
      exact Fin_val (by simp [resV, upd_at, retA]) (by simp [resV, upd_at, ResOk])
    · by_cases h7 : k = 7
      · subst h7; simp -implicitDefEqProofs -dsimp only [k245, go_sem, ↓reduceIte, Nat.reduceEqDiff, Int.reduceLE, Int.reduceLT, Int.reduceNeg, Int.reduceEq, Int.reduceBEq, Int.reduceBNe, Nat.reduceMul, Nat.reduceAdd, Nat.reduceLeDiff, reduceCtorEq, Int.reduceToNat]
        exact Fin_val (by simp [resV, upd_at, retA]) (by simp [resV, upd_at, ResOk])
      · by_cases h8 : k = 8
        · subst h8; simp -implicitDefEqProofs -dsimp only [k245, go_sem, ↓reduceIte, Nat.reduceEqDiff, Int.reduceLE, Int.reduceLT, Int.reduceNeg, Int.reduceEq, Int.reduceBEq, Int.reduceBNe, Nat.reduceMul, Nat.reduceAdd, Nat.reduceLeDiff, reduceCtorEq, Int.reduceToNat]
          exact Fin_val (by simp [resV, upd_at, retA]) (by simp [resV, upd_at, ResOk])
        · simp -implicitDefEqProofs -dsimp only [k245, kne h1, kne h2, kne h7, kne h8, go_sem, ↓reduceIte, Nat.reduceEqDiff, Int.reduceLE, Int.reduceLT, Int.reduceNeg, Int.reduceEq, Int.reduceBEq, Int.reduceBNe, Nat.reduceMul, Nat.reduceAdd, Nat.reduceLeDiff, reduceCtorEq, Int.reduceToNat]
          exact Fin_val (by simp [resV, upd_at, retA, h1, h2, h7, h8]) (by simp [resV, upd_at, ResOk])
theorem h244 (t : Tk) (n : Nat) (hn : n ≤ 9000000000000000) : HT 244 [.agg (tkC t), i64 n] [] (.b (tt (tkOk t n))) true [] := by
  refine holds_of (c := Tryz.f244.body.getD .skip) (k := k244.1) (ts := [4]) HOk mixedT hintT Tryz.func244 (by kernel_rfl) (by kernel_rfl) (by kernel_rfl) k244.2 (by kernel_rfl) (le_of 2 _ (by kernel_rfl)) ?_
  have wn : IntKind.i64.wrap ((n : Int) - 1) = (n : Int) - 1 := IntWalk.i64_in _ ⟨by omega, by omega⟩
  obtain ⟨k, c, a, b, s⟩ := t
  have dv := h188 (a, b, s)
  simp only [vC] at dv
  have d1 := h81 c 0 ((n : Int) - 1)
  have d2 := h81 k 3 10
  have ev := eqv0 a b s
  simp only [tkC]
  by_cases h1 : k = 1
  · subst h1
    have e : tkOk ⟨1, c, a, b, s⟩ n ↔ (0 ≤ c ∧ c ≤ (n : Int) - 1) ∧ (a, b, s) = v0 := by simp [tkOk]
    rw [tt_iff e]
    by_cases h2 : 0 ≤ c ∧ c ≤ (n : Int) - 1
    · rw [tt_iff (show ((0 ≤ c ∧ c ≤ (n : Int) - 1) ∧ (a, b, s) = v0) ↔ (a, b, s) = v0 from ⟨fun q => q.2, fun q => ⟨h2, q⟩⟩), ← ev]
      simp -implicitDefEqProofs -dsimp only [k244, wn, go_sem, ↓reduceIte, Nat.reduceEqDiff, Int.reduceLE, Int.reduceLT, Int.reduceNeg, Int.reduceEq, Int.reduceBEq, Int.reduceBNe, Nat.reduceMul, Nat.reduceAdd, Nat.reduceLeDiff, reduceCtorEq, Int.reduceToNat]
      refine Call_val (own := true) (d1) (by simp [ExpOk, AV.pure]) (.inl rfl) ?_
      simp -implicitDefEqProofs -dsimp only [h2, go_sem, ↓reduceIte, Nat.reduceEqDiff, Int.reduceLE, Int.reduceLT, Int.reduceNeg, Int.reduceEq, Int.reduceBEq, Int.reduceBNe, Nat.reduceMul, Nat.reduceAdd, Nat.reduceLeDiff, reduceCtorEq, Int.reduceToNat]
      exact Fin_val (by simp [resV, upd_at, retA]) (by simp [resV, upd_at, ResOk])
    · rw [tt_f (fun q : (0 ≤ c ∧ c ≤ (n : Int) - 1) ∧ (a, b, s) = v0 => h2 q.1)]
      simp -implicitDefEqProofs -dsimp only [k244, wn, go_sem, ↓reduceIte, Nat.reduceEqDiff, Int.reduceLE, Int.reduceLT, Int.reduceNeg, Int.reduceEq, Int.reduceBEq, Int.reduceBNe, Nat.reduceMul, Nat.reduceAdd, Nat.reduceLeDiff, reduceCtorEq, Int.reduceToNat]
      refine Call_val (own := true) (d1) (by simp [ExpOk, AV.pure]) (.inl rfl) ?_
      simp -implicitDefEqProofs -dsimp only [h2, go_sem, ↓reduceIte, Nat.reduceEqDiff, Int.reduceLE, Int.reduceLT, Int.reduceNeg, Int.reduceEq, Int.reduceBEq, Int.reduceBNe, Nat.reduceMul, Nat.reduceAdd, Nat.reduceLeDiff, reduceCtorEq, Int.reduceToNat]
      exact Fin_val (by simp [resV, upd_at, retA]) (by simp [resV, upd_at, ResOk])
  · by_cases h2 : k = 2
    · subst h2
      have e : tkOk ⟨2, c, a, b, s⟩ n ↔ c = 0 ∧ vOk (a, b, s) := by simp [tkOk]
      rw [tt_iff e]
      by_cases h3 : c = 0
      · subst h3
        rw [tt_iff (show ((0 : Int) = 0 ∧ vOk (a, b, s)) ↔ (decide (vOk (a, b, s)) = true) by simp), tt_b]
        simp -implicitDefEqProofs -dsimp only [k244, kne h1, go_sem, ↓reduceIte, Nat.reduceEqDiff, Int.reduceLE, Int.reduceLT, Int.reduceNeg, Int.reduceEq, Int.reduceBEq, Int.reduceBNe, Nat.reduceMul, Nat.reduceAdd, Nat.reduceLeDiff, reduceCtorEq, Int.reduceToNat]
        refine Call_val (own := true) (dv) (by simp [ExpOk, AV.pure]) (.inl rfl) ?_
        simp -implicitDefEqProofs -dsimp only [go_sem, ↓reduceIte, Nat.reduceEqDiff, Int.reduceLE, Int.reduceLT, Int.reduceNeg, Int.reduceEq, Int.reduceBEq, Int.reduceBNe, Nat.reduceMul, Nat.reduceAdd, Nat.reduceLeDiff, reduceCtorEq, Int.reduceToNat]
        exact Fin_val (by simp [resV, upd_at, retA]) (by simp [resV, upd_at, ResOk])
      · rw [tt_f (fun q : c = 0 ∧ vOk (a, b, s) => h3 q.1)]
        simp -implicitDefEqProofs -dsimp only [k244, kne h1, kne h3, go_sem, ↓reduceIte, Nat.reduceEqDiff, Int.reduceLE, Int.reduceLT, Int.reduceNeg, Int.reduceEq, Int.reduceBEq, Int.reduceBNe, Nat.reduceMul, Nat.reduceAdd, Nat.reduceLeDiff, reduceCtorEq, Int.reduceToNat]
        exact Fin_val (by simp [resV, upd_at, retA]) (by simp [resV, upd_at, ResOk])
    · have e : tkOk ⟨k, c, a, b, s⟩ n ↔ (3 ≤ k ∧ k ≤ 10) ∧ c = 0 ∧ (a, b, s) = v0 := by simp [tkOk, h1, h2]
      rw [tt_iff e]
      by_cases h5 : 3 ≤ k ∧ k ≤ 10
      · by_cases h3 : c = 0
        · subst h3
          rw [tt_iff (show ((3 ≤ k ∧ k ≤ 10) ∧ (0 : Int) = 0 ∧ (a, b, s) = v0) ↔ (a, b, s) = v0 from ⟨fun q => q.2.2, fun q => ⟨h5, rfl, q⟩⟩), ← ev]
          simp -implicitDefEqProofs -dsimp only [k244, kne h1, kne h2, go_sem, ↓reduceIte, Nat.reduceEqDiff, Int.reduceLE, Int.reduceLT, Int.reduceNeg, Int.reduceEq, Int.reduceBEq, Int.reduceBNe, Nat.reduceMul, Nat.reduceAdd, Nat.reduceLeDiff, reduceCtorEq, Int.reduceToNat]
          refine Call_val (own := true) (d2) (by simp [ExpOk, AV.pure]) (.inl rfl) ?_
          simp -implicitDefEqProofs -dsimp only [h5, go_sem, ↓reduceIte, Nat.reduceEqDiff, Int.reduceLE, Int.reduceLT, Int.reduceNeg, Int.reduceEq, Int.reduceBEq, Int.reduceBNe, Nat.reduceMul, Nat.reduceAdd, Nat.reduceLeDiff, reduceCtorEq, Int.reduceToNat]
          exact Fin_val (by simp [resV, upd_at, retA]) (by simp [resV, upd_at, ResOk])
        · rw [tt_f (fun q : (3 ≤ k ∧ k ≤ 10) ∧ c = 0 ∧ (a, b, s) = v0 => h3 q.2.1)]
          simp -implicitDefEqProofs -dsimp only [k244, kne h1, kne h2, go_sem, ↓reduceIte, Nat.reduceEqDiff, Int.reduceLE, Int.reduceLT, Int.reduceNeg, Int.reduceEq, Int.reduceBEq, Int.reduceBNe, Nat.reduceMul, Nat.reduceAdd, Nat.reduceLeDiff, reduceCtorEq, Int.reduceToNat]
          refine Call_val (own := true) (d2) (by simp [ExpOk, AV.pure]) (.inl rfl) ?_
          simp -implicitDefEqProofs -dsimp only [h5, kne h3, go_sem, ↓reduceIte, Nat.reduceEqDiff, Int.reduceLE, Int.reduceLT, Int.reduceNeg, Int.reduceEq, Int.reduceBEq, Int.reduceBNe, Nat.reduceMul, Nat.reduceAdd, Nat.reduceLeDiff, reduceCtorEq, Int.reduceToNat]
          exact Fin_val (by simp [resV, upd_at, retA]) (by simp [resV, upd_at, ResOk])
      · rw [tt_f (fun q : (3 ≤ k ∧ k ≤ 10) ∧ c = 0 ∧ (a, b, s) = v0 => h5 q.1)]
        simp -implicitDefEqProofs -dsimp only [k244, kne h1, kne h2, go_sem, ↓reduceIte, Nat.reduceEqDiff, Int.reduceLE, Int.reduceLT, Int.reduceNeg, Int.reduceEq, Int.reduceBEq, Int.reduceBNe, Nat.reduceMul, Nat.reduceAdd, Nat.reduceLeDiff, reduceCtorEq, Int.reduceToNat]
        refine Call_val (own := true) (d2) (by simp [ExpOk, AV.pure]) (.inl rfl) ?_
        simp -implicitDefEqProofs -dsimp only [h5, go_sem, ↓reduceIte, Nat.reduceEqDiff, Int.reduceLE, Int.reduceLT, Int.reduceNeg, Int.reduceEq, Int.reduceBEq, Int.reduceBNe, Nat.reduceMul, Nat.reduceAdd, Nat.reduceLeDiff, reduceCtorEq, Int.reduceToNat]
        exact Fin_val (by simp [resV, upd_at, retA]) (by simp [resV, upd_at, ResOk])
theorem tk_range (t : Tk) : 0 ≤ tkTakes t ∧ tkTakes t ≤ 2 := by unfold tkTakes; split <;> (try split) <;> omega
theorem exLeft_rng : ∀ (e : List Tk) (k : Int), k - e.length ≤ exLeft e k ∧ exLeft e k ≤ k + e.length
  | [], k => by simp [exLeft]
  | t :: e, k => by
    have h1 := exLeft_rng e (k + (1 - tkTakes t))
    have h2 := tk_range t
    rw [exLeft, List.length_cons]
    omega
def exOk1 (e : List Tk) (n : Int) (i : Nat) : Prop := tkOk (e.getD i k0) n ∧ tkTakes (e.getD i k0) ≤ exLeft (e.take i) 0
theorem ex_bad {e : List Tk} {n : Int} {i : Nat} (h : i < e.length) (hb : ¬ exOk1 e n i) : tt (exOk e n) = false := tt_f fun k => hb (k.1 i h)
theorem ex_long {e : List Tk} {n : Int} (h : ¬ e.length ≤ 24) : tt (exOk e n) = false := tt_f fun k => h k.2.2
theorem ex_end {e : List Tk} {n : Int} (h : ∀ i, i < e.length → exOk1 e n i) (hl : e.length ≤ 24) : tt (exOk e n) = (exLeft e 0 == 1) := by
  by_cases hh : exLeft e 0 = 1
  · rw [tt_t ⟨h, hh, hl⟩]; simp [hh]
  · rw [tt_f fun k => hh k.2.1]; simp [hh]
theorem h206 (e : List Tk) (n : Nat) (he : e.length ≤ 9000000000000000) (hn : n ≤ 16) : HT 206 [tks e, i64 n] [] (.b (tt (exOk e n))) true [] := by
  refine holds_of (c := Tryz.f206.body.getD .skip) (k := k206.1) (ts := [4]) HOk mixedT hintT Tryz.func206 (by kernel_rfl) (by kernel_rfl) (by kernel_rfl) k206.2 (by kernel_rfl) (le_of 2 _ (by kernel_rfl)) ?_
  have d0 := h81 n 0 16
  have h016 : (0 : Int) ≤ (n : Int) ∧ (n : Int) ≤ 16 := by omega
  unfold tks
  by_cases hl : e.length ≤ 24
  · have hl2 : ¬ (e.length : Int) > 24 := by omega
    simp -implicitDefEqProofs -dsimp only [k206, hl2, go_sem, ↓reduceIte, Nat.reduceEqDiff, Int.reduceLE, Int.reduceLT, Int.reduceNeg, Int.reduceEq, Int.reduceBEq, Int.reduceBNe, Nat.reduceMul, Nat.reduceAdd, Nat.reduceLeDiff, reduceCtorEq, Int.reduceToNat]
    refine Call_val (own := true) (d0) (by simp [ExpOk, AV.pure]) (.inl rfl) ?_
    simp -implicitDefEqProofs -dsimp only [h016, go_sem, ↓reduceIte, Nat.reduceEqDiff, Int.reduceLE, Int.reduceLT, Int.reduceNeg, Int.reduceEq, Int.reduceBEq, Int.reduceBNe, Nat.reduceMul, Nat.reduceAdd, Nat.reduceLeDiff, reduceCtorEq, Int.reduceToNat]
    refine K_for e.length (fun i g h c => g 0 = .dat 5 (e.map tkC) ∧ g 1 = i64 n ∧ g 5 = i64 (exLeft (e.take i) 0) ∧ g 16 = .dat 5 (e.map tkC) ∧ g 17 = i64 e.length ∧ g 18 = i64 i ∧ ∀ j, j < i → exOk1 e n j) ?_ ?_ ?_
    · exact ⟨by simp [upd_at, S_0], by simp [upd_at, S_1], by simp [upd_at, exLeft], by simp [upd_at, S_0], by simp [upd_at], by simp [upd_at], fun j hj => absurd hj (by omega)⟩
    · rintro i A hi hA g h c ⟨q0, q1, q5, q16, q17, q18, hb⟩
      have hc : (i : Int) < (e.length : Int) := by omega
      have w2 : IntKind.i64.wrap ((i : Int) + 1) = ((i + 1 : Nat) : Int) := wnat1 (by omega)
      have hg := mget k0 hi
      have hbad := ex_bad (e := e) (n := n) hi
      have hst := upto_step (P := exOk1 e n) hb
      have hex := exLeft_step hi
      have hr := exLeft_rng (e.take i) 0
      have hr2 : (e.take i).length = i := by rw [List.length_take]; omega
      rw [hr2] at hr
      unfold exOk1 at hbad hst
      generalize e.getD i k0 = t at hg hbad hst hex
      have d1 := h244 t n (by omega)
      have d2 := h245 t
      have ht := tk_range t
      generalize tkTakes t = m at hbad hst hex d2 ht
      generalize exLeft (e.take i) 0 = L at q5 hbad hst hex hr
      have w3 : IntKind.i64.wrap (1 - m) = 1 - m := IntWalk.i64_in _ ⟨by omega, by omega⟩
      have w4 : IntKind.i64.wrap (L + (1 - m)) = L + (1 - m) := IntWalk.i64_in _ ⟨by omega, by omega⟩
      obtain ⟨k, c', a, b, s⟩ := t
      simp only [tkC] at d1 d2
      simp -implicitDefEqProofs -dsimp only [q0, q1, q5, q16, q17, q18, hc, hg, tkC, go_sem, ↓reduceIte, Nat.reduceEqDiff, Int.reduceLE, Int.reduceLT, Int.reduceNeg, Int.reduceEq, Int.reduceBEq, Int.reduceBNe, Nat.reduceMul, Nat.reduceAdd, Nat.reduceLeDiff, reduceCtorEq, Int.reduceToNat]
      refine Call_val (own := true) (d1) (by simp [ExpOk, AV.pure]) (.inl rfl) ?_
      by_cases h1 : tkOk ⟨k, c', a, b, s⟩ n
      · rw [tt_t h1]
        simp -implicitDefEqProofs -dsimp only [q5, go_sem, ↓reduceIte, Nat.reduceEqDiff, Int.reduceLE, Int.reduceLT, Int.reduceNeg, Int.reduceEq, Int.reduceBEq, Int.reduceBNe, Nat.reduceMul, Nat.reduceAdd, Nat.reduceLeDiff, reduceCtorEq, Int.reduceToNat]
        refine Call_val (own := true) (d2) (by simp [ExpOk, AV.pure]) (.inl rfl) ?_
        by_cases h2 : L < m
        · simp -implicitDefEqProofs -dsimp only [h2, go_sem, ↓reduceIte, Nat.reduceEqDiff, Int.reduceLE, Int.reduceLT, Int.reduceNeg, Int.reduceEq, Int.reduceBEq, Int.reduceBNe, Nat.reduceMul, Nat.reduceAdd, Nat.reduceLeDiff, reduceCtorEq, Int.reduceToNat]
          exact Fin_val (by simp [resV, upd_at, retA, hbad (fun q => by have := q.2; omega)]) (by simp [resV, upd_at, ResOk])
        · simp -implicitDefEqProofs -dsimp only [h2, q5, go_sem, ↓reduceIte, Nat.reduceEqDiff, Int.reduceLE, Int.reduceLT, Int.reduceNeg, Int.reduceEq, Int.reduceBEq, Int.reduceBNe, Nat.reduceMul, Nat.reduceAdd, Nat.reduceLeDiff, reduceCtorEq, Int.reduceToNat]
          refine Call_val (own := true) (d2) (by simp [ExpOk, AV.pure]) (.inl rfl) ?_
          simp -implicitDefEqProofs -dsimp only [w3, w4, q18, w2, go_sem, ↓reduceIte, Nat.reduceEqDiff, Int.reduceLE, Int.reduceLT, Int.reduceNeg, Int.reduceEq, Int.reduceBEq, Int.reduceBNe, Nat.reduceMul, Nat.reduceAdd, Nat.reduceLeDiff, reduceCtorEq, Int.reduceToNat]
          exact hA _ _ _ ⟨by simp [upd_at, q0], by simp [upd_at, q1], by simp [upd_at, hex], by simp [upd_at, q16], by simp [upd_at, q17], by simp [upd_at], hst ⟨h1, by omega⟩⟩
      · rw [tt_f h1]
        simp -implicitDefEqProofs -dsimp only [go_sem, ↓reduceIte, Nat.reduceEqDiff, Int.reduceLE, Int.reduceLT, Int.reduceNeg, Int.reduceEq, Int.reduceBEq, Int.reduceBNe, Nat.reduceMul, Nat.reduceAdd, Nat.reduceLeDiff, reduceCtorEq, Int.reduceToNat]
        exact Fin_val (by simp [resV, upd_at, retA, hbad (fun q => h1 q.1)]) (by simp [resV, upd_at, ResOk])
    · rintro A g h c ⟨q0, q1, q5, q16, q17, q18, hb⟩
      have hc : ¬ (e.length : Int) < (e.length : Int) := by omega
      rw [List.take_length] at q5
      rw [ex_end hb hl]
      simp -implicitDefEqProofs -dsimp only [q0, q1, q5, q16, q17, q18, hc, go_sem, ↓reduceIte, Nat.reduceEqDiff, Int.reduceLE, Int.reduceLT, Int.reduceNeg, Int.reduceEq, Int.reduceBEq, Int.reduceBNe, Nat.reduceMul, Nat.reduceAdd, Nat.reduceLeDiff, reduceCtorEq, Int.reduceToNat]
      exact Fin_val (by simp [resV, upd_at, retA]) (by simp [resV, upd_at, ResOk])
  · have hl2 : (e.length : Int) > 24 := by omega
    rw [ex_long hl]
    simp -implicitDefEqProofs -dsimp only [k206, hl2, go_sem, ↓reduceIte, Nat.reduceEqDiff, Int.reduceLE, Int.reduceLT, Int.reduceNeg, Int.reduceEq, Int.reduceBEq, Int.reduceBNe, Nat.reduceMul, Nat.reduceAdd, Nat.reduceLeDiff, reduceCtorEq, Int.reduceToNat]
    exact Fin_val (by simp [resV, upd_at, retA]) (by simp [resV, upd_at, ResOk])
end FrA
end
/-! PrE -/
section
open Go Go.AM
namespace FrA
open Go.Proofs
set_option maxRecDepth 100000
set_option linter.unusedSimpArgs false
/-- A variable that a function holds. -/
def capO (z : Nat) (cs : List AV) (q : Prop) : Ob := { ver := 0, es := [cs], esz := z, own := q, fixed := true }
theorem capO_ok {z : Nat} {cs : List AV} {q : Prop} (h : ∀ x ∈ cs, x.pure = true) : ObsOk [capO z cs q] := by
  intro b hb
  simp only [List.mem_cons, List.not_mem_nil, or_false] at hb; subst hb
  exact ⟨rfl, rfl, fun e he x hx => by simp only [capO, List.mem_cons, List.not_mem_nil, or_false] at he; subst he; exact h x hx⟩
theorem cap1 {b : Ob} : CaptOk [b] [.ptr (.p 0) 0 0 0] := fun a ha => by
  simp only [List.mem_cons, List.not_mem_nil, or_false] at ha; subst ha; exact .inr ⟨0, by simp, rfl⟩
theorem clC_pure (c : Cl) : ∀ x ∈ clC c, x.pure = true := by simp [clC, AV.pure]
theorem nofalse {b : Ob} : false = true → ∀ x ∈ [b], x.own ∨ AM.Flat x.es := fun h => by cases h
theorem fin_cap {ts : List Nat} {r : AV} {z : Nat} {cs : List AV} {q : Prop} {g : Slots} {h : Heap} (hp : ∀ x ∈ cs, x.pure = true) (h1 : retA h [] 1 (resV g ts) = r) (h2 : ResOk h [] false (resV g ts)) (hh : h (.p 0) = some (capO z cs q)) : FinB ts [capO z cs q] r false [capO z cs q] g h :=
  Fin_obs h1 h2 rfl fun j ob hj => by
    match j, hj with
    | 0, hj => simp at hj; subst hj; exact ⟨(capO_ok (z := z) (q := q) hp _ (List.mem_singleton.2 rfl)).2.2, q, .inr Iff.rfl, hh, rfl⟩
    | j + 1, hj => simp at hj
theorem h239 (d cc : Cl) (q : Prop) : HT 239 [.agg (clC d), .ptr (.p 0) 0 0 0] [capO 6 (clC cc) q] (.b (d.name == cc.name)) false [capO 6 (clC cc) q] := by
  refine holds_of (c := Tryz.f239.body.getD .skip) (k := k239.1) (ts := [3]) HOk mixedT hintT Tryz.func239 (by kernel_rfl) (by kernel_rfl) (by kernel_rfl) k239.2 (by kernel_rfl) (le_of 2 _ (by kernel_rfl)) ?_
  have hpu := clC_pure cc
  obtain ⟨n1, a1, a2, a3, a4, a5⟩ := d
  obtain ⟨n2, b1, b2, b3, b4, b5⟩ := cc
  simp only [clC] at hpu ⊢
  simp -implicitDefEqProofs -dsimp only [k239, objs_p, capO, S_0, S_1, go_sem, ↓reduceIte, Nat.reduceEqDiff, Int.reduceLE, Int.reduceLT, Int.reduceNeg, Int.reduceEq, Int.reduceBEq, Int.reduceBNe, Nat.reduceMul, Nat.reduceAdd, Nat.reduceLeDiff, reduceCtorEq, Int.reduceToNat]
  exact fin_cap hpu (by simp [resV, upd_at, retA]) (by simp [resV, upd_at, ResOk]) (by simp [hup_at, objs_p, capO])
def cl1 (l : List Cl) (i : Nat) : Prop := i < 8 ∧ clOk1 (l.getD i c0) ∧ (l.take i).any (fun d => d.name == (l.getD i c0).name) = false
theorem cl_bad {l : List Cl} {i : Nat} (h : i < l.length) (hb : ¬ cl1 l i) : tt (clsOk l) = false := tt_f fun k => hb (k.1 i h)
theorem cl_end {l : List Cl} (h : ∀ i, i < l.length → cl1 l i) : tt (clsOk l) = decide ((l.length : Int) > 0) := by
  by_cases hh : (l.length : Int) > 0
  · rw [tt_t ⟨h, by omega⟩, decide_eq_true hh]
  · rw [tt_f fun k => hh (by have := k.2; omega), decide_eq_false hh]
theorem h198 (l : List Cl) (hl : l.length ≤ 1048576) (hnm : ∀ c ∈ l, c.name.length ≤ 1048576) : HT 198 [cls l] [] (.b (tt (clsOk l))) true [] := by
  refine holds_of (c := Tryz.f198.body.getD .skip) (k := k198.1) (ts := [2]) HOk mixedT hintT Tryz.func198 (by kernel_rfl) (by kernel_rfl) (by kernel_rfl) k198.2 (by kernel_rfl) (le_of 1 _ (by kernel_rfl)) ?_
  unfold cls
  simp -implicitDefEqProofs -dsimp only [k198, go_sem, ↓reduceIte, Nat.reduceEqDiff, Int.reduceLE, Int.reduceLT, Int.reduceNeg, Int.reduceEq, Int.reduceBEq, Int.reduceBNe, Nat.reduceMul, Nat.reduceAdd, Nat.reduceLeDiff, reduceCtorEq, Int.reduceToNat]
  refine K_for l.length (fun i g h c => g 0 = .dat 6 (l.map clC) ∧ g 5 = .dat 6 (l.map clC) ∧ g 6 = i64 l.length ∧ g 7 = i64 i ∧ ∀ j, j < i → cl1 l j) ?_ ?_ ?_
  · exact ⟨by simp [upd_at, S_0], by simp [upd_at, S_0], by simp [upd_at], by simp [upd_at], fun j hj => absurd hj (by omega)⟩
  · rintro i A hi hA g h c ⟨q0, q5, q6, q7, hb⟩
    have hc : (i : Int) < (l.length : Int) := by omega
    have hle : (i : Int) ≤ (l.length : Int) := by omega
    have hne : ¬ i = l.length := by omega
    have w2 : IntKind.i64.wrap ((i : Int) + 1) = ((i + 1 : Nat) : Int) := wnat1 (by omega)
    have hg := mget c0 hi
    have hbad := cl_bad (l := l) hi
    have hst := upto_step (P := cl1 l) hb
    have hm := hnm _ (mmem c0 hi)
    unfold cl1 clOk1 at hbad hst
    generalize l.getD i c0 = cc at hg hbad hst hm
    have dn := h197 cc.name (by omega)
    have dq := h136 cc.dflt cc.kind
    have dc := fun q => ctCl 239 [.ptr (.p 0) 0 0 0] [capO 6 (clC cc) q] (capO_ok (clC_pure cc)) false nofalse cap1 (fun d => d.name == cc.name) (l.take i) (by rw [List.length_take]; omega) (fun a _ => h239 a cc q)
    obtain ⟨nm, k, b, x1, x2, x3⟩ := cc
    simp only [clC, vC] at dn dq dc hbad hst hm
    unfold cls at dc
    rw [List.map_take] at dc
    by_cases h8 : i = 8
    · have e8 : ((i : Int) == 8) = true := by simp [h8]
      simp -implicitDefEqProofs -dsimp only [q0, q5, q6, q7, hc, hg, clC, e8, go_sem, ↓reduceIte, Nat.reduceEqDiff, Int.reduceLE, Int.reduceLT, Int.reduceNeg, Int.reduceEq, Int.reduceBEq, Int.reduceBNe, Nat.reduceMul, Nat.reduceAdd, Nat.reduceLeDiff, reduceCtorEq, Int.reduceToNat]
      exact Fin_val (by simp [resV, upd_at, retA, hbad (fun q => by have := q.1; omega)]) (by simp [resV, upd_at, ResOk])
    · have e8 : ((i : Int) == 8) = false := by simp; omega
      have i8 : i < 8 := by
        by_cases h9 : 8 < i
        · have := (hb 8 h9).1; omega
        · omega
      simp -implicitDefEqProofs -dsimp only [q0, q5, q6, q7, hc, hg, clC, e8, go_sem, ↓reduceIte, Nat.reduceEqDiff, Int.reduceLE, Int.reduceLT, Int.reduceNeg, Int.reduceEq, Int.reduceBEq, Int.reduceBNe, Nat.reduceMul, Nat.reduceAdd, Nat.reduceLeDiff, reduceCtorEq, Int.reduceToNat]
      refine Call_val (own := true) (dn) (by simp [ExpOk, AV.pure]) (.inl rfl) ?_
      by_cases h1 : nmOk nm
      · rw [tt_t h1]
        by_cases h2 : k = 1 ∨ k = 2
        · have tail : ∀ (g' : Slots) (h' : Heap) (c' : Nat), True → True := fun _ _ _ _ => trivial
          by_cases h3 : isOfP (x1, x2, x3) k
          · rw [tt_t h3] at dq
            have key : ∀ X : Bool, X = (l.take i).any (fun d => d.name == nm) → (X = true → tt (clsOk l) = false) ∧ (X = false → ∀ j, j < i + 1 → cl1 l j) := fun X hX => ⟨fun hx => hbad (fun q => by have := hX.trans q.2.2; rw [this] at hx; cases hx), fun hx => hst ⟨i8, ⟨h1, h2, h3⟩, by rw [← hX, hx]⟩⟩
            cases hany : (l.take i).any (fun d => d.name == nm) with
            | true =>
              have hf := (key _ hany.symm).1 rfl
              rw [hany] at dc
              rcases h2 with rfl | rfl
              all_goals
                simp -implicitDefEqProofs -dsimp only [q7, go_sem, ↓reduceIte, Nat.reduceEqDiff, Int.reduceLE, Int.reduceLT, Int.reduceNeg, Int.reduceEq, Int.reduceBEq, Int.reduceBNe, Nat.reduceMul, Nat.reduceAdd, Nat.reduceLeDiff, reduceCtorEq, Int.reduceToNat]
                refine Call_val (own := true) (dq) (by simp [ExpOk, AV.pure]) (.inl rfl) ?_
                simp -implicitDefEqProofs -dsimp only [q0, q7, hle, hne, go_sem, ↓reduceIte, Nat.reduceEqDiff, Int.reduceLE, Int.reduceLT, Int.reduceNeg, Int.reduceEq, Int.reduceBEq, Int.reduceBNe, Nat.reduceMul, Nat.reduceAdd, Nat.reduceLeDiff, reduceCtorEq, Int.reduceToNat]
                refine VK_p (by first | omega | (simp only [List.length_cons, List.length_nil, List.length_append]; omega) | (refine ⟨by omega, by omega, ?_⟩; first | omega | (simp only [List.length_cons, List.length_nil, List.length_append]; omega)) | (simp; omega) | (simp; done)) ?_
                simp -implicitDefEqProofs -dsimp only [q0, q7, hle, hne, go_sem, ↓reduceIte, Nat.reduceEqDiff, Int.reduceLE, Int.reduceLT, Int.reduceNeg, Int.reduceEq, Int.reduceBEq, Int.reduceBNe, Nat.reduceMul, Nat.reduceAdd, Nat.reduceLeDiff, reduceCtorEq, Int.reduceToNat]
                refine Call_one (own := false) (v := .b true) (.l 4) _ (capO 6 _ _) (by simp only [hup_at, newObs, ↓reduceIte, Nat.reduceEqDiff, reduceCtorEq, Rid.r.injEq, Rid.l.injEq, Nat.reduceAdd, Nat.zero_add, and_self, and_true, and_false, false_and, true_and] <;> rfl) (by simpa [expL, expA, cur, hup_at, List.idxOf?_cons, List.idxOf?_nil, objs_l, objs_r, objs_p, capO] using dc _) (by simp [ExpOk, AV.pure, cur, hup_at, List.idxOf?_cons, List.idxOf?_nil, objs_l, objs_r, objs_p]) (fun e he x hx => by simp at he; subst he; simp at hx; rcases hx with rfl | rfl | rfl | rfl | rfl | rfl <;> rfl) (fun e he x hx => by simp [capO] at he; subst he; simp at hx; rcases hx with rfl | rfl | rfl | rfl | rfl | rfl <;> rfl) (.inr (by simp [AV.rooted, AV.ref1])) (fun h => by cases h) ?_
                simp -implicitDefEqProofs -dsimp only [go_sem, ↓reduceIte, Nat.reduceEqDiff, Int.reduceLE, Int.reduceLT, Int.reduceNeg, Int.reduceEq, Int.reduceBEq, Int.reduceBNe, Nat.reduceMul, Nat.reduceAdd, Nat.reduceLeDiff, reduceCtorEq, Int.reduceToNat]
                exact Fin_val (by simp [resV, upd_at, retA, hf]) (by simp [resV, upd_at, ResOk])
            | false =>
              have hf := (key _ hany.symm).2 rfl
              rw [hany] at dc
              rcases h2 with rfl | rfl
              all_goals
                simp -implicitDefEqProofs -dsimp only [q7, go_sem, ↓reduceIte, Nat.reduceEqDiff, Int.reduceLE, Int.reduceLT, Int.reduceNeg, Int.reduceEq, Int.reduceBEq, Int.reduceBNe, Nat.reduceMul, Nat.reduceAdd, Nat.reduceLeDiff, reduceCtorEq, Int.reduceToNat]
                refine Call_val (own := true) (dq) (by simp [ExpOk, AV.pure]) (.inl rfl) ?_
                simp -implicitDefEqProofs -dsimp only [q0, q7, hle, hne, go_sem, ↓reduceIte, Nat.reduceEqDiff, Int.reduceLE, Int.reduceLT, Int.reduceNeg, Int.reduceEq, Int.reduceBEq, Int.reduceBNe, Nat.reduceMul, Nat.reduceAdd, Nat.reduceLeDiff, reduceCtorEq, Int.reduceToNat]
                refine VK_p (by first | omega | (simp only [List.length_cons, List.length_nil, List.length_append]; omega) | (refine ⟨by omega, by omega, ?_⟩; first | omega | (simp only [List.length_cons, List.length_nil, List.length_append]; omega)) | (simp; omega) | (simp; done)) ?_
                simp -implicitDefEqProofs -dsimp only [q0, q7, hle, hne, go_sem, ↓reduceIte, Nat.reduceEqDiff, Int.reduceLE, Int.reduceLT, Int.reduceNeg, Int.reduceEq, Int.reduceBEq, Int.reduceBNe, Nat.reduceMul, Nat.reduceAdd, Nat.reduceLeDiff, reduceCtorEq, Int.reduceToNat]
                refine Call_one (own := false) (v := .b false) (.l 4) _ (capO 6 _ _) (by simp only [hup_at, newObs, ↓reduceIte, Nat.reduceEqDiff, reduceCtorEq, Rid.r.injEq, Rid.l.injEq, Nat.reduceAdd, Nat.zero_add, and_self, and_true, and_false, false_and, true_and] <;> rfl) (by simpa [expL, expA, cur, hup_at, List.idxOf?_cons, List.idxOf?_nil, objs_l, objs_r, objs_p, capO] using dc _) (by simp [ExpOk, AV.pure, cur, hup_at, List.idxOf?_cons, List.idxOf?_nil, objs_l, objs_r, objs_p]) (fun e he x hx => by simp at he; subst he; simp at hx; rcases hx with rfl | rfl | rfl | rfl | rfl | rfl <;> rfl) (fun e he x hx => by simp [capO] at he; subst he; simp at hx; rcases hx with rfl | rfl | rfl | rfl | rfl | rfl <;> rfl) (.inr (by simp [AV.rooted, AV.ref1])) (fun h => by cases h) ?_
                simp -implicitDefEqProofs -dsimp only [q7, w2, go_sem, ↓reduceIte, Nat.reduceEqDiff, Int.reduceLE, Int.reduceLT, Int.reduceNeg, Int.reduceEq, Int.reduceBEq, Int.reduceBNe, Nat.reduceMul, Nat.reduceAdd, Nat.reduceLeDiff, reduceCtorEq, Int.reduceToNat]
                exact hA _ _ _ ⟨by simp [upd_at, q0], by simp [upd_at, q5], by simp [upd_at, q6], by simp [upd_at], hf⟩
          · rw [tt_f h3] at dq
            rcases h2 with rfl | rfl
            all_goals
              simp -implicitDefEqProofs -dsimp only [q7, go_sem, ↓reduceIte, Nat.reduceEqDiff, Int.reduceLE, Int.reduceLT, Int.reduceNeg, Int.reduceEq, Int.reduceBEq, Int.reduceBNe, Nat.reduceMul, Nat.reduceAdd, Nat.reduceLeDiff, reduceCtorEq, Int.reduceToNat]
              refine Call_val (own := true) (dq) (by simp [ExpOk, AV.pure]) (.inl rfl) ?_
              simp -implicitDefEqProofs -dsimp only [go_sem, ↓reduceIte, Nat.reduceEqDiff, Int.reduceLE, Int.reduceLT, Int.reduceNeg, Int.reduceEq, Int.reduceBEq, Int.reduceBNe, Nat.reduceMul, Nat.reduceAdd, Nat.reduceLeDiff, reduceCtorEq, Int.reduceToNat]
              exact Fin_val (by simp [resV, upd_at, retA, hbad (fun q => h3 q.2.1.2.2)]) (by simp [resV, upd_at, ResOk])
        · simp -implicitDefEqProofs -dsimp only [knn (show ¬ k = 1 from fun q => h2 (.inl q)), knn (show ¬ k = 2 from fun q => h2 (.inr q)), go_sem, ↓reduceIte, Nat.reduceEqDiff, Int.reduceLE, Int.reduceLT, Int.reduceNeg, Int.reduceEq, Int.reduceBEq, Int.reduceBNe, Nat.reduceMul, Nat.reduceAdd, Nat.reduceLeDiff, reduceCtorEq, Int.reduceToNat]
          exact Fin_val (by simp [resV, upd_at, retA, hbad (fun q => h2 q.2.1.2.1)]) (by simp [resV, upd_at, ResOk])
      · rw [tt_f h1]
        simp -implicitDefEqProofs -dsimp only [go_sem, ↓reduceIte, Nat.reduceEqDiff, Int.reduceLE, Int.reduceLT, Int.reduceNeg, Int.reduceEq, Int.reduceBEq, Int.reduceBNe, Nat.reduceMul, Nat.reduceAdd, Nat.reduceLeDiff, reduceCtorEq, Int.reduceToNat]
        exact Fin_val (by simp [resV, upd_at, retA, hbad (fun q => h1 q.2.1.1)]) (by simp [resV, upd_at, ResOk])
  · rintro A g h c ⟨q0, q5, q6, q7, hb⟩
    have hc : ¬ (l.length : Int) < (l.length : Int) := by omega
    rw [cl_end hb]
    simp -implicitDefEqProofs -dsimp only [q0, q5, q6, q7, hc, go_sem, ↓reduceIte, Nat.reduceEqDiff, Int.reduceLE, Int.reduceLT, Int.reduceNeg, Int.reduceEq, Int.reduceBEq, Int.reduceBNe, Nat.reduceMul, Nat.reduceAdd, Nat.reduceLeDiff, reduceCtorEq, Int.reduceToNat]
    exact Fin_val (by simp [resV, upd_at, retA]) (by simp [resV, upd_at, ResOk])
end FrA
end
