/- The program's variables that are looked at. No condition. -/
import Derived.Calls
set_option linter.all false
set_option linter.unusedSimpArgs false
set_option linter.unusedVariables false
set_option linter.deprecated false
/-! Glo -/
namespace Go.AM
/-- What cells a variable holds: numbers; none: whatever. -/
def globT : Nat → List (Option (IntKind × Int))
  | _ => []
def gxPow : Option Obj → Prop := fun o => ∃ t f, o = some (.cells #[.int .u64 1, .int .u64 10, .int .u64 100, .int .u64 1000, .int .u64 10000, .int .u64 100000, .int .u64 1000000, .int .u64 10000000, .int .u64 100000000, .int .u64 1000000000, .int .u64 10000000000, .int .u64 100000000000, .int .u64 1000000000000, .int .u64 10000000000000, .int .u64 100000000000000, .int .u64 1000000000000000, .int .u64 10000000000000000, .int .u64 100000000000000000, .int .u64 1000000000000000000, .int .u64 10000000000000000000] t f)
def gxInt : Option Obj → Prop := fun o => ∃ m t f, o = some (.cells #[.int .i64 m] t f)
def gxErr : Option Obj → Prop := fun o => ∃ a p t f, o = some (.cells #[.iface a p] t f)
/-- The tables and variables of the library that its contracts ask for: a block, and what it holds. -/
def globX : List (Nat × (Option Obj → Prop)) := [(0, gxPow), (1, gxInt), (2, gxErr), (3, gxErr)]
end Go.AM

