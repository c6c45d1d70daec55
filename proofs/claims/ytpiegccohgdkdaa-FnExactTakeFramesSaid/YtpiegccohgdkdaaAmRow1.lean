/- From a walk to a row. No condition. -/
import Derived.Test.YtpiegccohgdkdaaAmFun1
import Derived.WalkKit
import Derived.ProofKit
import Derived.OpenShut
set_option linter.all false
set_option linter.unusedSimpArgs false
set_option linter.unusedVariables false
set_option linter.deprecated false
namespace Go.AM
/-- What a walk without handed-over objects leaves of the world. -/
theorem HR.grown {w0 w : World} {κ : Cfg} {h : Heap} {clk : Nat} (H : HR w0 (fun _ => False) w κ h clk) : RowKit.Grown w0 w := by
  refine ⟨⟨H.os.1, H.output, fun i hi => ?_⟩, H.os.2, H.size⟩
  have e := H.old i hi (fun h => h)
  rw [e]
  split
  · rename_i c t fr c' t' fr' h1 h2
    rw [h1] at h2; cases h2
    exact ⟨rfl, rfl, rfl, fun _ _ => rfl⟩
  · rename_i h1 h2
    rw [h1] at h2; cases h2
    exact .inr ⟨rfl, rfl⟩
  · rfl
def κ0 : Cfg := { ι := fun _ => (0, 0), re := fun _ => False, F := fun _ _ _ _ => False, A := fun _ => True }
theorem HR.start (w : World) : HR w (fun _ => False) w κ0 (objs []) 1 := by
  have no : ∀ (o : Rid) (ob : Ob), objs [] o = some ob → False := fun o ob ho => by
    obtain ⟨k, _, hk⟩ := cur_objs ho; simp at hk
  exact ⟨fun o ob ho => (no o ob ho).elim, fun o _ ob _ _ ho => (no o ob ho).elim, fun o ob _ ho => (no o ob ho).elim, ⟨rfl, fun _ => rfl⟩, rfl, rfl, Nat.le_refl _, fun _ _ _ => rfl, fun _ _ => trivial⟩
end Go.AM
