/- Which functions are handed objects in regions whose order is drawn. No condition. -/
import Derived.Test.YtpiegccohgdkdaaAmFun1
set_option linter.all false
set_option linter.unusedSimpArgs false
set_option linter.unusedVariables false
set_option linter.deprecated false
namespace Go.AM
def hintT : Nat → Bool := fun n => [65, 66, 67, 68, 77, 97, 98, 101, 111, 116, 128, 140, 164].contains n
end Go.AM
