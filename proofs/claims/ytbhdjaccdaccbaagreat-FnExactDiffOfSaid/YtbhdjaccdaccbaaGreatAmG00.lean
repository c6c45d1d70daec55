/- The program's variables that are looked at. No condition. -/
import Derived.Calls
set_option linter.all false
set_option linter.unusedSimpArgs false
set_option linter.unusedVariables false
set_option linter.deprecated false
/-! Glo -/
section
namespace Go.AM
/-- What cells a variable holds: numbers; none: whatever. -/
def globT : Nat → List (Option (IntKind × Int))
  | _ => []
/-- The tables and variables of the library that its contracts ask for: none. -/
def globX : List (Nat × (Option Obj → Prop)) := []
end Go.AM
end
