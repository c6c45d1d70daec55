/- Rows of bytes. No condition. -/
import Derived.Test.YtdlaklminigoaaaDoorAmFuns
set_option linter.all false
set_option linter.unusedSimpArgs false
set_option linter.unusedVariables false
set_option linter.deprecated false
/-! BtA -/
open Go Go.AM
namespace FrA
def bts (l : List UInt8) : List (List AV) := l.map fun b => [.i .u8 b.toNat]
theorem bts_len (l : List UInt8) : (bts l).length = l.length := by simp [bts]
theorem bts_get {l : List UInt8} {i : Nat} (h : i < l.length) : (bts l)[i]? = some [.i .u8 (l.getD i 0).toNat] := by
  simp [bts, List.getElem?_eq_getElem h]
theorem bts_mem {l : List UInt8} {e : List AV} (h : e ∈ bts l) : ∃ b : UInt8, e = [.i .u8 b.toNat] := by
  simp only [bts, List.mem_map] at h
  obtain ⟨b, _, rfl⟩ := h
  exact ⟨b, rfl⟩
theorem bts_pure (l : List UInt8) : AM.Pure (bts l) := by
  intro e he c hc
  obtain ⟨b, rfl⟩ := bts_mem he
  simp at hc; subst hc; rfl
theorem bts_flat (l : List UInt8) : AM.Flat (bts l) := by
  intro e he c hc
  obtain ⟨b, rfl⟩ := bts_mem he
  simp at hc; subst hc; rfl
theorem bts_good (l : List UInt8) : AM.Good (bts l) 1 := by
  intro e he
  obtain ⟨b, rfl⟩ := bts_mem he
  simp [AV.storable]
theorem bts_app (a b : List UInt8) : bts (a ++ b) = bts a ++ bts b := by simp [bts]
theorem bytesOf_bts : ∀ l : List UInt8, bytesOf (bts l) = some l
  | [] => rfl
  | b :: l => by
    have ih := bytesOf_bts l
    simp only [bts] at ih
    simp only [bts, List.map_cons, bytesOf, ih, Option.map_some, Int.toNat_natCast]
    simp
theorem sub_whole {es : List (List AV)} {n : Nat} (h : n = es.length) : sub es 0 n = es := by unfold sub; rw [if_pos ⟨rfl, h⟩]
theorem sub_bts (l : List UInt8) : sub (bts l) 0 l.length = bts l := sub_whole (bts_len l).symm
theorem bts_one (b : UInt8) : bts [b] = [[.i .u8 b.toNat]] := rfl
end FrA

