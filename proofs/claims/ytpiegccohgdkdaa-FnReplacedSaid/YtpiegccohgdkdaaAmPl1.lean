/- What a loss of power leaves, when all or nothing is kept, in plain Lean. No condition. -/
import Derived.Test.YtpiegccohgdkdaaAmDk9
set_option linter.all false
set_option linter.unusedSimpArgs false
set_option linter.unusedVariables false
set_option linter.deprecated false
/-! DkPl -/
open Go Go.AM
namespace FrA
theorem diskB_run {live safe : List File} {ops : List Dop} (h : diskB live safe ops = true) : runOps safe ops = some live := by
  unfold diskB at h
  simp only [Bool.and_eq_true] at h
  have h1 := h.2.2.2
  cases hr : runOps safe ops with
  | none => rw [hr] at h1; cases h1
  | some l =>
    rw [hr] at h1
    by_cases e : l = live
    · rw [e]
    · simp only [eqFs_f e] at h1; cases h1
theorem run_app (b : List Dop) : ∀ (a : List Dop) (l : List File), runOps l (a ++ b) = (runOps l a).bind fun m => runOps m b
  | [], l => by simp [runOps]
  | o :: r, l => by
    rw [List.cons_append, runOps, runOps]
    split
    · exact run_app b r _
    · rfl
theorem run_cons {l m : List File} {o : Dop} {r : List Dop} (h : runOps l (o :: r) = some m) : form o = true ∧ actB l o = true ∧ okF (act l o) = true ∧ runOps (act l o) r = some m := by
  rw [runOps] at h
  split at h
  · next hc => exact ⟨hc.1, hc.2.1, hc.2.2, h⟩
  · cases h
def allI (n : Nat) : List Int := (List.range n).map fun (i : Nat) => (i : Int)
theorem allI_len (n : Nat) : (allI n).length = n := by simp [allI]
theorem allI_get {n i : Nat} (h : i < n) : (allI n).getD i 0 = (i : Int) := by
  rw [List.getD_eq_getElem?_getD, allI, List.getElem?_map, List.getElem?_range h]; rfl
theorem allI_ok (n : Nat) : kOk n (allI n) := fun i hi => by
  rw [allI_len] at hi
  refine ⟨by rw [allI_get hi]; omega, by rw [allI_get hi]; omega, fun h0 => ?_⟩
  rw [allI_get hi, allI_get (by omega)]; omega
theorem tear_no (b : Bool) (t : Int) (o : Dop) (h : (o.2.2.2.length : Int) ≤ t) : tear b t o = o := by
  unfold tear; split
  · rw [List.take_of_length_le (by omega)]
  · rfl
theorem run_all {live safe : List File} {ops : List Dop} {torn : Int} (hr : runOps safe ops = some live) (hd : ∀ o ∈ ops, (o.2.2.2.length : Int) ≤ torn) : ∀ i, i ≤ ops.length → runOps safe (ops.take i) = some (crN ops (allI ops.length) torn safe i)
  | 0, _ => by simp [runOps, crN]
  | i + 1, hi => by
    have ih := run_all hr hd i (by omega)
    have hlt : i < ops.length := by omega
    have e1 : ops.take i ++ ops.getD i dop0 :: ops.drop (i + 1) = ops := by
      rw [List.getD_eq_getElem?_getD, List.getElem?_eq_getElem hlt, Option.getD_some, ← List.drop_eq_getElem_cons hlt, List.take_append_drop]
    have e2 : ops.take (i + 1) = ops.take i ++ [ops.getD i dop0] := by
      rw [List.getD_eq_getElem?_getD, List.getElem?_eq_getElem hlt, Option.getD_some, List.take_succ_eq_append_getElem hlt]
    have hr2 := hr
    rw [← e1, run_app, ih, Option.bind_some] at hr2
    obtain ⟨f1, f2, f3, _⟩ := run_cons hr2
    have hm : ops.getD i dop0 ∈ ops := getO_mem hlt
    have ek : opK ops (allI ops.length) torn i = ops.getD i dop0 := by
      unfold opK
      rw [allI_get hlt, Int.toNat_natCast, tear_no _ _ _ (hd _ hm)]
    rw [e2, run_app, ih, Option.bind_some, runOps_yes f1 f2 f3, runOps, crN, ek]
theorem crN_all {live safe : List File} {ops : List Dop} {torn : Int} (hk : diskB live safe ops = true) (hd : ∀ o ∈ ops, (o.2.2.2.length : Int) ≤ torn) : crN ops (allI ops.length) torn safe ops.length = live := by
  have h1 := run_all (diskB_run hk) hd ops.length (Nat.le_refl _)
  rw [List.take_length, diskB_run hk] at h1
  exact (Option.some.inj h1).symm
theorem crB_all {live safe : List File} {ops : List Dop} {torn : Int} (hk : diskB live safe ops = true) (ht : 0 ≤ torn) (hd : ∀ o ∈ ops, (o.2.2.2.length : Int) ≤ torn) : crB live safe ops (allI ops.length) torn = true :=
  crB_t.2 ⟨hk, ht, allI_ok _, by rw [allI_len, crN_all hk hd]; exact (diskB_ok hk).1⟩
theorem crB_none {live safe : List File} {ops : List Dop} (hk : diskB live safe ops = true) : crB live safe ops [] 0 = true :=
  crB_t.2 ⟨hk, by omega, fun i hi => by simp at hi, (diskB_ok hk).2.1⟩
end FrA

