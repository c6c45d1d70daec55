/- What every walk of this seat uses. No condition. -/
import Derived.Test.YtbhdjaccdaccbaaGreatAmG18
import Derived.IntWalk
import Derived.Test.YtbhdjaccdaccbaaGreatProg
import Derived.StillTailTactics
set_option linter.all false
set_option linter.unusedSimpArgs false
set_option linter.unusedVariables false
set_option linter.deprecated false
/-! Bas -/
section
open Go Go.AM
namespace FrA
theorem wr {n : Int} (h1 : 0 ≤ n) (h2 : n ≤ 9000000000000000000) : IntKind.i64.wrap n = n := IntWalk.i64_in _ ⟨by omega, by omega⟩
theorem mixedT : Go.Proofs.Tryz.prog.follows .mixedOrders = true := by kernel_rfl
theorem le_of (a b : Nat) (h : Nat.ble a b = true) : a ≤ b := Nat.le_of_ble_eq_true h
def HC : Con := ⟨Holds Go.Proofs.Tryz.prog, HoldsX Go.Proofs.Tryz.prog, Copies Go.Proofs.Tryz.prog⟩
abbrev HT := HC.det
theorem HOk : ConOk Go.Proofs.Tryz.prog HC := ⟨fun _ _ _ _ _ h => h, fun _ _ _ _ _ h => h, fun _ _ _ h => h⟩
theorem S_0 (a : AV) (l : List AV) : slots0 (a :: l) 0 = a := rfl
theorem S_1 (a b : AV) (l : List AV) : slots0 (a :: b :: l) 1 = b := rfl
theorem S_2 (a b c : AV) (l : List AV) : slots0 (a :: b :: c :: l) 2 = c := rfl
theorem F_02 : ((0 : Nat) < 2) = True := by decide
theorem F_12 : ((1 : Nat) < 2) = True := by decide
theorem F_03 : ((0 : Nat) < 3) = True := by decide
theorem F_13 : ((1 : Nat) < 3) = True := by decide
theorem F_23 : ((2 : Nat) < 3) = True := by decide
theorem F_04 : ((0 : Nat) < 4) = True := by decide
theorem F_14 : ((1 : Nat) < 4) = True := by decide
theorem F_24 : ((2 : Nat) < 4) = True := by decide
theorem F_34 : ((3 : Nat) < 4) = True := by decide
theorem B_tt : (true == true) = true := rfl
theorem B_ff : (false == false) = true := rfl
theorem B_tf : (true == false) = false := rfl
theorem B_ft : (false == true) = false := rfl
theorem N_tt : (true != true) = false := rfl
theorem N_ff : (false != false) = false := rfl
theorem N_tf : (true != false) = true := rfl
theorem N_ft : (false != true) = true := rfl
attribute [go_sem] B_tt B_ff B_tf B_ft N_tt N_ff N_tf N_ft S_0 S_1 S_2 F_02 F_12 F_03 F_13 F_23 F_04 F_14 F_24 F_34
end FrA
end
