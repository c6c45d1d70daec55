/- A disk behind an op keeps its bounds. No condition. -/
import Derived.Test.YtpiegccohgdkdaaAmDk6
set_option linter.all false
set_option linter.unusedSimpArgs false
set_option linter.unusedVariables false
set_option linter.deprecated false
/-! DkUb -/
open Go Go.AM
namespace FrA
theorem doL_ok {live : List File} {ops : List Dop} {op : Dop} (h : okP live) : okP (doL live ops op) := by
  unfold doL
  split
  · next hc =>
    unfold doC at hc
    split at hc
    · cases hc
    · split at hc
      · cases hc
      · split at hc
        · cases hc
        · next hn =>
          cases e : okF (act live op)
          · exact absurd (.inr e) hn
          · exact okF_t.1 e
  · exact h
theorem doO_le {live : List File} {ops : List Dop} {op : Dop} (h : ops.length ≤ 200) : (doO live ops op).length ≤ 200 := by
  unfold doO
  split
  · next hc =>
    unfold doC at hc
    split at hc
    · cases hc
    · split at hc
      · cases hc
      · split at hc
        · cases hc
        · next hn => simp; omega
  · exact h
end FrA

