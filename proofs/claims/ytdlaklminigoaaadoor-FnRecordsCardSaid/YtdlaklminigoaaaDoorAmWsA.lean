/- Rows of texts. No condition. -/
import Derived.Test.YtdlaklminigoaaaDoorAmFuns
set_option linter.all false
set_option linter.unusedSimpArgs false
set_option linter.unusedVariables false
set_option linter.deprecated false
/-! WsA -/
open Go Go.AM
namespace FrA
def capE (n : Nat) : Option Nat := if n = 0 then some 0 else none
def ws (l : List (List UInt8)) : List (List AV) := l.map fun w => [.s w]
def wsO (l : List (List UInt8)) : Ob := { ver := 1, es := ws l, esz := 1, own := True }
theorem ws_len (l : List (List UInt8)) : (ws l).length = l.length := by simp [ws]
theorem ws_get {l : List (List UInt8)} {i : Nat} (h : i < l.length) : (ws l)[i]? = some [.s (l.getD i [])] := by simp [ws, List.getElem?_eq_getElem h]
theorem ws_pure (l : List (List UInt8)) : AM.Pure (ws l) := by
  intro e he c hc
  simp only [ws, List.mem_map] at he
  obtain ⟨v, _, rfl⟩ := he
  simp at hc; subst hc; rfl
theorem ws_flat (l : List (List UInt8)) : AM.Flat (ws l) := by
  intro e he c hc
  simp only [ws, List.mem_map] at he
  obtain ⟨v, _, rfl⟩ := he
  simp at hc; subst hc; rfl
theorem ws_good (l : List (List UInt8)) : AM.Good (ws l) 1 := by
  intro e he
  simp only [ws, List.mem_map] at he
  obtain ⟨v, _, rfl⟩ := he
  simp [AV.storable]
theorem ws_app (a b : List (List UInt8)) : ws (a ++ b) = ws a ++ ws b := by simp [ws]
end FrA

