/- FnExactDiffOf answers true at every input. No condition. -/
import Derived.Test.YtbhdjaccdaccbaaGreatAmG35
import Derived.Test.YtbhdjaccdaccbaaGreatAmRwDfJ
import Derived.Test.YtbhdjaccdaccbaaGreatAmG33
import Derived.Test.YtbhdjaccdaccbaaGreatAmG22
import Derived.Test.YtbhdjaccdaccbaaGreatRows
import Derived.WalkKit
import Derived.ProofKit
import Derived.OpenShut
set_option linter.all false
set_option linter.unusedSimpArgs false
set_option linter.unusedVariables false
set_option linter.deprecated false
open Go Go.AM
namespace Go.Proofs.YtbhdjaccdaccbaaGreat.fnExactDiffOf
open Go.ChangeShapes Go.WideShapes Go.ChangeAt Go.RowKit
open Go.ChangeMaps (open_string shut_string)
set_option linter.unusedVariables false

theorem own : ownKnob Tryz.prog.godebug = none := by kernel_rfl

set_option maxRecDepth 100000 in
theorem lifted (os : Os) (started : os.Started) (H : Type) (enc : TypeId × Value → H) :
    ReturnsInHanded {} Tryz.checked os 3 .any (Rows.fnExactDiffOfSpec.pre6 enc Tryz.prog Tryz.f3 Rows.fnExactDiffOfRow.domain false) (Rows.fnExactDiffOfSpec.post enc Tryz.prog Tryz.f3 false true false false) := by
  refine returnsInHanded_of_change (C := Tryz.checked) own started (by kernel_rfl) Tryz.func3
    (ChangeSpec.witness6 (enc := enc) (C := Tryz.checked) false ⟨#[], #[.slice none 0 0, .slice none 0 0, .slice none 0 0], []⟩ 8 (by kernel_rfl) (by kernel_rfl) (by kernel_rfl) (by kernel_rfl)) ?_
  intro W base args ds gs before hval0 hW hcnd _
  have hval : ∀ (j : Nat) t v, Tryz.f3.params[j]? = some t → args[j]? = some v → Value.okWide Tryz.prog W .any base t v := hval0
  have hW' := hW
  obtain ⟨p, q, hA0, hV, rfl, hfz, hnd⟩ := hW
  have hA : DataW.TrodAll enc Tryz.prog W 0 (fun _ => true) true Tryz.f3.params.toList args.toList ds p := hA0
  rw [Tryz.params3] at hA hval
  obtain ⟨v0, vs0, d0, ds0, p0, q0, hargs, rfl, rfl, h0, r0⟩ := trodAll_cons hA
  obtain ⟨v1, vs1, d1, ds1, p1, q1, rfl, rfl, rfl, h1, r1⟩ := trodAll_cons r0
  obtain ⟨v2, vs2, d2, ds2, p2, q2, rfl, rfl, rfl, h2, r2⟩ := trodAll_cons r1
  obtain ⟨rfl, rfl, rfl⟩ := trodAll_nil r2
  obtain rfl : args = #[v0, v1, v2] := by cases args; simp_all
  obtain ⟨rfl, rfl⟩ := trodVars_none hV
  obtain ⟨a0, g0, x0⟩ := FrA.rdc_slice Tryz.underlying22 FrA.rd_ltb (hval 0 22 v0 rfl rfl) h0
  obtain ⟨a1, g1, x1⟩ := FrA.rdc_slice Tryz.underlying23 FrA.rd_ldat (hval 1 23 v1 rfl rfl) h1
  obtain ⟨a2, g2, x2⟩ := FrA.rdc_slice Tryz.underlying23 FrA.rd_ldat (hval 2 23 v2 rfl rfl) h2
  clear hA0 hval0
  refine (law_row (FrA.h3 a0 a1 a2 g0 g1 g2) W ⟨fun n h => absurd rfl h, fun x hx => by cases hx⟩ #[v0, v1, v2] rfl (fun j x hx => ?_)).mono fun e W' ⟨he, hg, hold⟩ => ?_
  · match j, hx with
    | 0, hx => simp at hx; subst hx; exact x0
    | 1, hx => simp at hx; subst hx; exact x1
    | 2, hx => simp at hx; subst hx; exact x2
    | j + 3, hx => simp at hx
  subst he
  have hst0 : ∀ sp : Nat → Bool, (∀ x ∈ p0, sp x.block = true) → DataW.Trod enc Tryz.prog W' 0 sp true 22 v0 d0 p0 := fun sp hsp => WideElems.Trod_stays (P := Tryz.prog) (by kernel_rfl) (by kernel_rfl) (of_decide_eq_true (by kernel_rfl)) h0 (fun x hx => sameAt_of hold x (hW'.lt x (by simp [hx]))) hsp
  have hst1 : ∀ sp : Nat → Bool, (∀ x ∈ p1, sp x.block = true) → DataW.Trod enc Tryz.prog W' 0 sp true 23 v1 d1 p1 := fun sp hsp => WideElems.Trod_stays (P := Tryz.prog) (by kernel_rfl) (by kernel_rfl) (of_decide_eq_true (by kernel_rfl)) h1 (fun x hx => sameAt_of hold x (hW'.lt x (by simp [hx]))) hsp
  have hst2 : ∀ sp : Nat → Bool, (∀ x ∈ p2, sp x.block = true) → DataW.Trod enc Tryz.prog W' 0 sp true 23 v2 d2 p2 := fun sp hsp => WideElems.Trod_stays (P := Tryz.prog) (by kernel_rfl) (by kernel_rfl) (of_decide_eq_true (by kernel_rfl)) h2 (fun x hx => sameAt_of hold x (hW'.lt x (by simp [hx]))) hsp
  exact ⟨_, rfl, post_low (pa := (p0 ++ (p1 ++ (p2 ++ [])))) (pv := []) hW' (fun _ _ _ => (trodAll_cons_mk (shut_bool Tryz.underlying4 _) trodAll_mk0)) (fun sp hsp => (trodAll_cons_mk (hst0 sp (fun x hx => hsp x (by simp [hx]))) (trodAll_cons_mk (hst1 sp (fun x hx => hsp x (by simp [hx]))) (trodAll_cons_mk (hst2 sp (fun x hx => hsp x (by simp [hx]))) trodAll_mk0)))) (fun _ _ => rfl) rfl
    (hg.frame _) hg.2.1 (ok_one (by kernel_rfl) rfl (okWide_bool_mk Tryz.underlying4 _))⟩

theorem over : Rows.fnExactDiffOfRow.holds Tryz.pinned (OpenSpec.ofChange Rows.fnExactDiffOfSpec) :=
  OpenClaim.holds_of_wide 3 Tryz.f3 rfl rfl rfl rfl rfl rfl rfl ⟨rfl, rfl, rfl, rfl, rfl⟩ rfl rfl rfl rfl rfl (by kernel_rfl) Tryz.func3 joined
    (of_decide_eq_true (by kernel_rfl)) (by unfold Func.isWrapper; first | (rw [if_pos (by decide +kernel)]; kernel_rfl) | (rw [if_neg (by decide +kernel)]; exact ⟨rfl, rfl⟩))
    (fun os started H enc _ => lifted os started H enc)

theorem proved : Rows.FnExactDiffOfSaid := over
#print axioms proved
end Go.Proofs.YtbhdjaccdaccbaaGreat.fnExactDiffOf
