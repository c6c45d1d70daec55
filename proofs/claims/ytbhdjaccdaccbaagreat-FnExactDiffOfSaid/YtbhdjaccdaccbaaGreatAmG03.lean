/- Values, rows of values, and their texts. No condition. -/
import Derived.Lib.ItoaNum
import Derived.Lib.ItoaMem
import Derived.Lib.ItoaLen
set_option linter.all false
set_option linter.unusedSimpArgs false
set_option linter.unusedVariables false
set_option linter.deprecated false
/-! PvA -/
section
namespace FrA
open Go
abbrev Vl := Int × Int × List UInt8
def vOk (v : Vl) : Prop := (v.1 = 0 ∧ v.2.1 = 0 ∧ v.2.2 = []) ∨ (v.1 = 1 ∧ (-1000000000 ≤ v.2.1 ∧ v.2.1 ≤ 1000000000) ∧ v.2.2 = []) ∨ (v.1 = 2 ∧ v.2.1 = 0 ∧ v.2.2.length ≤ 12)
instance (v : Vl) : Decidable (vOk v) := by unfold vOk; infer_instance
def hexd (n : Nat) : UInt8 := if n < 10 then UInt8.ofNat (48 + n) else UInt8.ofNat (87 + n)
def plainB (b : UInt8) : Bool := decide (33 ≤ b.toNat ∧ b.toNat ≤ 126 ∧ b ≠ 39 ∧ b ≠ 37 ∧ b ≠ 44)
def enc (b : UInt8) : List UInt8 := if plainB b then [b] else [37, hexd (b.toNat / 16), hexd (b.toNat % 16)]
/-! ### numerals -/
/-! ### texts -/
/-! ### words -/
def words (c : UInt8) : List UInt8 → List (List UInt8)
  | [] => [[]]
  | b :: s => if b = c then [] :: words c s else match words c s with
    | w :: r => (b :: w) :: r
    | [] => [[b]]
/-! ### rows -/
def rOk (l : List Vl) : Prop := l.length ≤ 16 ∧ ∀ v ∈ l, vOk v
instance (l : List Vl) : Decidable (rOk l) := by unfold rOk; infer_instance
end FrA
end
