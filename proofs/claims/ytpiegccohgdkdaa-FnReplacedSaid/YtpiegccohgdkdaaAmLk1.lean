/- Files by their names, in plain Lean. No condition. -/
import Derived.Test.YtpiegccohgdkdaaAmPl1
import Derived.Test.YtpiegccohgdkdaaAmDkUb
set_option linter.all false
set_option linter.unusedSimpArgs false
set_option linter.unusedVariables false
set_option linter.deprecated false
/-! DkLk -/
open Go Go.AM
namespace FrA
/-- What stands under a name. -/
def lk (n : List UInt8) : List File → Option (List UInt8)
  | [] => none
  | f :: l => if cmpB f.1 n < 0 then lk n l else if cmpB f.1 n = 0 then some f.2 else none
theorem lk_cons (n : List UInt8) (f : File) (l : List File) : lk n (f :: l) = if cmpB f.1 n < 0 then lk n l else if cmpB f.1 n = 0 then some f.2 else none := rfl
theorem has_lk (n : List UInt8) : ∀ l : List File, has n l = (lk n l).isSome
  | [] => rfl
  | f :: l => by
    rw [lk_cons, has]
    by_cases h1 : cmpB f.1 n < 0
    · rw [if_pos h1, if_pos h1]; exact has_lk n l
    · rw [if_neg h1, if_neg h1]
      by_cases h2 : cmpB f.1 n = 0 <;> simp [h2]
theorem olda_cons (n : List UInt8) (f : File) (l : List File) : olda (f :: l) n = if cmpB f.1 n < 0 then olda l n else if cmpB f.1 n = 0 then f.2 else [] := by
  unfold olda; simp only [has, pos]
  by_cases h1 : cmpB f.1 n < 0
  · simp only [h1, if_true]; split <;> simp
  · simp only [h1, if_false]
    by_cases h2 : cmpB f.1 n = 0 <;> simp [h2]
theorem olda_lk (n : List UInt8) : ∀ l : List File, olda l n = (lk n l).getD []
  | [] => rfl
  | f :: l => by
    rw [olda_cons, lk_cons]
    by_cases h1 : cmpB f.1 n < 0
    · rw [if_pos h1, if_pos h1]; exact olda_lk n l
    · rw [if_neg h1, if_neg h1]
      by_cases h2 : cmpB f.1 n = 0 <;> simp [h2]
theorem cmpB_ne {a b : List UInt8} (h : a ≠ b) : cmpB b a ≠ 0 := fun x => h (cmpB_eq _ _ x).symm
theorem lk_put (n d m : List UInt8) : ∀ l : List File, lk m (put l n d) = if m = n then some d else lk m l
  | [] => by
    have e : put [] n d = [(n, d)] := by simp [put, has, pos]
    rw [e, lk_cons]
    by_cases hm : m = n
    · subst hm; simp [cmpB_self]
    · have := cmpB_ne hm
      simp [this, hm, lk]
  | f :: l => by
    rw [put_cons]
    by_cases h1 : cmpB f.1 n < 0
    · rw [if_pos h1, lk_cons, lk_put n d m l, lk_cons]
      by_cases e : m = n
      · subst e; simp [h1]
      · simp [e]
    · rw [if_neg h1]
      by_cases h2 : cmpB f.1 n = 0
      · have e2 := cmpB_eq _ _ h2
        rw [if_pos h2, lk_cons, lk_cons, e2]
        by_cases e : m = n
        · subst e; simp [cmpB_self]
        · have := cmpB_ne e
          simp [e, this]
      · rw [if_neg h2, lk_cons]
        by_cases e : m = n
        · subst e; simp [cmpB_self]
        · have hne := cmpB_ne e
          simp only [e, hne, if_false]
          by_cases h3 : cmpB n m < 0
          · simp [h3]
          · have g1 : cmpB m n < 0 := by have := cmpB_flip n m; omega
            have g2 : cmpB n f.1 < 0 := by have := cmpB_flip f.1 n; omega
            have g3 := cmpB_trans _ _ _ g1 g2
            have g4 := cmpB_flip f.1 m
            rw [lk_cons, if_neg h3, if_neg (by omega), if_neg (by omega)]
theorem lk_gt {m : List UInt8} : ∀ {l : List File}, (∀ g ∈ l, ¬ cmpB g.1 m < 0 ∧ cmpB g.1 m ≠ 0) → lk m l = none
  | [], _ => rfl
  | f :: l, h => by
    obtain ⟨h1, h2⟩ := h f (by simp)
    rw [lk_cons, if_neg h1, if_neg h2]
theorem cut_cons (f : File) (l : List File) (n : List UInt8) : cut (f :: l) n = if cmpB f.1 n < 0 then f :: cut l n else if cmpB f.1 n = 0 then l else f :: l := by
  unfold cut
  simp only [has, pos]
  by_cases h1 : cmpB f.1 n < 0
  · simp only [h1, if_true]; split <;> simp
  · simp only [h1, if_false]
    by_cases h2 : cmpB f.1 n = 0 <;> simp [h2]
theorem lk_cut (n m : List UInt8) : ∀ l : List File, Srt l → lk m (cut l n) = if m = n then none else lk m l
  | [], _ => by
    have e : cut [] n = [] := by simp [cut, has]
    rw [e]; simp [lk]
  | f :: l, hs => by
    rw [cut_cons]
    by_cases h1 : cmpB f.1 n < 0
    · rw [if_pos h1, lk_cons, lk_cut n m l (List.pairwise_cons.1 hs).2, lk_cons]
      by_cases e : m = n
      · subst e; simp [h1]
      · simp [e]
    · rw [if_neg h1]
      have hg := srt_gt hs h1
      by_cases h2 : cmpB f.1 n = 0
      · have e2 := cmpB_eq _ _ h2
        rw [if_pos h2, lk_cons, e2]
        by_cases e : m = n
        · subst e; rw [lk_gt hg]; simp
        · have hne := cmpB_ne e
          by_cases h3 : cmpB n m < 0
          · simp [e, h3]
          · rw [lk_gt (srt_gt hs (by rw [e2]; exact h3))]; simp [e, h3, hne]
      · rw [if_neg h2]
        by_cases e : m = n
        · subst e; rw [lk_cons, if_neg h1, if_neg h2]; simp
        · simp [e]
theorem doC_0 {L : List File} {O : List Dop} {op : Dop} (h : doC L O op = 0) : form op = true ∧ actB L op = true ∧ O.length ≠ 200 ∧ okF (act L op) = true := by
  unfold doC at h
  split at h
  · cases h
  · next h1 =>
    split at h
    · cases h
    · next h2 =>
      split at h
      · cases h
      · next h3 =>
        refine ⟨by simpa using h1, by simpa using h2, fun e => h3 (.inl e), ?_⟩
        cases e : okF (act L op)
        · exact absurd (.inr e) h3
        · rfl
theorem doL_0 {L : List File} {O : List Dop} {op : Dop} (h : doC L O op = 0) : doL L O op = act L op ∧ doO L O op = O ++ [op] := by unfold doL doO; rw [if_pos h, if_pos h]; exact ⟨rfl, rfl⟩
theorem eqFs_self (a : List File) : eqFs a a = true := by unfold eqFs; exact @decide_eq_true _ (Classical.propDecidable _) rfl
theorem diskB_mk {L S : List File} {O : List Dop} (h1 : okF L = true) (h2 : okF S = true) (h3 : O.length ≤ 200) (h4 : runOps S O = some L) : diskB L S O = true := by
  unfold diskB; rw [h1, h2, h4]; simp [h3, eqFs_self]
theorem disk_done {L S : List File} {O : List Dop} {op : Dop} (hk : diskB L S O = true) (hc : doC L O op = 0) : diskB (act L op) S (O ++ [op]) = true := by
  obtain ⟨c1, c2, c3, c4⟩ := doC_0 hc
  obtain ⟨k1, k2, k3⟩ := diskB_ok hk
  refine diskB_mk c4 (okF_t.2 k2) (by simp; omega) ?_
  rw [run_app, diskB_run hk, Option.bind_some, runOps_yes c1 c2 c4, runOps]
/-- What is read behind an op. -/
theorem rd_append {L : List File} {op : Dop} (h1 : op.1 = 1) : has op.2.1 (act L op) = true ∧ olda (act L op) op.2.1 = olda L op.2.1 ++ op.2.2.2 := by
  have e : act L op = put L op.2.1 (olda L op.2.1 ++ op.2.2.2) := by unfold act; rw [if_pos h1]
  rw [e, has_lk, olda_lk op.2.1 (put _ _ _), lk_put]; simp
theorem rd_rename {L : List File} {op : Dop} (hs : Srt L) (h1 : op.1 = 2) (hb : actB L op = true) : has op.2.2.1 (act L op) = true ∧ olda (act L op) op.2.2.1 = olda L op.2.1 ∧ has op.2.1 (act L op) = (op.2.2.1 == op.2.1) := by
  have hh : has op.2.1 L = true := by unfold actB at hb; rw [h1] at hb; simpa using hb
  have e : act L op = put (cut L op.2.1) op.2.2.1 (olda L op.2.1) := by unfold act; rw [h1, hh]; simp
  refine ⟨?_, ?_, ?_⟩
  · rw [e, has_lk, lk_put]; simp
  · rw [e, olda_lk op.2.2.1 (put _ _ _), lk_put]; simp
  · rw [e, has_lk, lk_put, lk_cut _ _ _ hs]
    by_cases q : op.2.1 = op.2.2.1
    · simp [q]
    · simp [q, Ne.symm q]
theorem rd_remove {L : List File} {op : Dop} (hs : Srt L) (h1 : op.1 = 3) (hb : actB L op = true) : has op.2.1 (act L op) = false := by
  have hh : has op.2.1 L = true := by unfold actB at hb; rw [h1] at hb; simpa using hb
  have e : act L op = cut L op.2.1 := by unfold act; rw [h1, hh]; simp
  rw [e, has_lk, lk_cut _ _ _ hs]; simp
theorem form_kind {op : Dop} (h : form op = true) : op.1 = 1 ∨ op.1 = 2 ∨ op.1 = 3 := by
  unfold form at h
  split at h
  · next h1 => exact .inl h1
  · split at h
    · next h2 => exact .inr (.inl h2)
    · simp only [Bool.and_eq_true, beq_iff_eq] at h
      exact .inr (.inr h.1.1.1)
end FrA

