/- impl.ValText, as the machine's. No condition. -/
import Derived.Test.YtdlaklminigoaaaDoorAmSfD
import Derived.Test.YtdlaklminigoaaaDoorAmVaA
set_option linter.all false
set_option linter.unusedSimpArgs false
set_option linter.unusedVariables false
set_option linter.deprecated false
/-! SfE -/
open Go Go.AM Go.RowKit
namespace FrA
open Go.Proofs
set_option maxRecDepth 100000
theorem agg3 {w : World} {κ : Cfg} {h : Heap} {clk : Nat} {k n : Int} {s : List UInt8} {u : Value} (hu : VR w κ h clk (.agg [i64 k, i64 n, .s s]) u) : u = .agg #[.int .i64 k, .int .i64 n, .string ⟨s.toArray⟩] := by
  obtain ⟨vs, rfl, hl, hr⟩ := hu.of_agg
  obtain ⟨l⟩ := vs
  match l, hl with
  | [a, b, c], _ =>
    have h1 := (hr 0 _ rfl).of_i
    have h2 := (hr 1 _ rfl).of_i
    have h3 := (hr 2 _ rfl).of_s
    simp at h1 h2 h3
    rw [h1, h2, h3]
theorem h18 (v : Vl) : HT 18 [.agg (vC v)] [] (.s (vText v)) true [] := by
  refine holds_below (Φ := fun r => r = .s (vText v)) (callFunc_run Tryd.func18 (by kernel_rfl) (by kernel_rfl)) fun w κ P0 vs H hP hl hv => ?_
  obtain ⟨u, rfl, hu⟩ := arg1 hl hv
  obtain ⟨k, n, s⟩ := v
  rw [agg3 hu]
  refine (valText_walk k n ⟨s.toArray⟩ w (tab_of H.glob)).mono ?_
  rintro e w' ⟨rfl, B⟩
  exact ⟨_, _, rfl, B, rfl, fun X => .ro _ _ (.s _)⟩
end FrA

