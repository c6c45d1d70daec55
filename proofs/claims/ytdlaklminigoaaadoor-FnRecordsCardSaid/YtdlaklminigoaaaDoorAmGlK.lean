/- What the library's variables hold, from the row's conditions. No condition. -/
import Derived.Test.YtdlaklminigoaaaDoorAmBase
import Derived.Test.YtdlaklminigoaaaDoorRows
import Derived.LaidLaws
import Derived.Shelf.Vars
import Derived.Stop.LaidErr
import Derived.Lib.LaidTab
import Derived.Lib.LaidU8
import Derived.Shelf.Strconv.Itoa4
set_option linter.all false
set_option linter.unusedSimpArgs false
set_option linter.unusedVariables false
set_option linter.deprecated false
/-! GlK -/
open Go Go.AM
namespace FrA
open Go.Proofs Go.Proofs.YtdlaklminigoaaaDoor
theorem var_heap {P : Program} {W : World} {n : String} {g : Nat} {cs : Array Value} (hg : P.globalNamed n = some g) (h : W.var? P n = some cs) : ∃ t f, W.heap[g]? = some (.cells cs t f) := by
  unfold World.var? at h
  rw [hg] at h
  simp only [Option.bind_some] at h
  split at h
  · rename_i c t f hh
    cases h
    exact ⟨t, f, hh⟩
  · cases h
theorem g_lt {W : World} {g : Nat} {o : Obj} (h : W.heap[g]? = some o) : g < W.heap.size := (Array.getElem?_eq_some_iff.1 h).1
theorem starN : "*" ++ "errors.errorString" = "*errors.errorString" := by decide
theorem errRow (u : TypeId) (h : Tryd.prog.typeName? 3 u = some "*errors.errorString") : u = 119 :=
  typeName_ptr_named (nm := "errors.errorString") (by rw [starN]; kernel_rfl) (by kernel_rfl) (by decide) u (by rw [starN]; exact h)
theorem max_cell {W : World} (hsh : W.ShapedOpen Tryd.prog) : gxInt W.heap[1]? := by
  obtain ⟨cs, hh, hs, hr⟩ := hsh.1 1 #[.int .i64 0] 3 (of_decide_eq_true (by kernel_rfl)) (by kernel_rfl)
  obtain ⟨m, hm⟩ := cell_of_shapedOpen_int (zero := #[.int .i64 0]) (t := 3) (g := 1) hsh (of_decide_eq_true (by kernel_rfl)) (by kernel_rfl) rfl (by kernel_rfl) (by kernel_rfl) Tryd.underlying3
  have h1 : cs = #[.int .i64 m] := by
    simp [World.cell?, hh] at hm
    obtain ⟨l⟩ := cs
    simp at hs
    match l, hs with
    | [a], _ => simp at hm; rw [hm]
  rw [h1] at hh
  exact ⟨m, _, _, hh⟩
theorem glob_ok {W : World} (hsh : W.ShapedOpen Tryd.prog) (hL : laidMet Tryd.prog Rows.fnRecordsRow.laid W) : GlobOk W (fun _ => False) (fun _ => True) := by
  have e0 : Tryd.prog.globalNamed "internal/strconv.uint64pow10" = some 0 := by kernel_rfl
  have e2 : Tryd.prog.globalNamed "strconv.ErrSyntax" = some 2 := by kernel_rfl
  have e3 : Tryd.prog.globalNamed "strconv.ErrRange" = some 3 := by kernel_rfl
  have L1 := hL.tail
  have L2 := L1.tail
  have h0 : gxPow W.heap[0]? := by
    have ht := Lib.tabIs_of_head (k := .u64) (zs := Lib.pow10Tab) e0 (by kernel_rfl : (Tryd.prog.globals[0]?).map (·.type) = some 103) Tryd.underlying103 Tryd.underlying84 (by kernel_rfl) (by kernel_rfl) L2
    unfold Lib.TabIs at ht
    obtain ⟨t, f, hh⟩ := var_heap e0 ht
    exact ⟨t, f, hh⟩
  have L3 := L2.tail
  have L4 := L3.tail
  have L5 := L4.tail
  have h3 : gxErr W.heap[3]? := by
    obtain ⟨a, s, hv, _⟩ := laid_sentinel L4 e3 (by kernel_rfl : (Tryd.prog.globals[3]?).map (·.type) = some 58) Tryd.underlying58 errRow Tryd.underlying119 Tryd.underlying121 rfl rfl Tryd.underlying9 (by kernel_rfl) (by kernel_rfl)
    obtain ⟨t, f, hh⟩ := var_heap e3 hv
    exact ⟨_, _, t, f, hh⟩
  have h2 : gxErr W.heap[2]? := by
    obtain ⟨a, s, hv, _⟩ := laid_sentinel L5 e2 (by kernel_rfl : (Tryd.prog.globals[2]?).map (·.type) = some 58) Tryd.underlying58 errRow Tryd.underlying119 Tryd.underlying121 rfl rfl Tryd.underlying9 (by kernel_rfl) (by kernel_rfl)
    obtain ⟨t, f, hh⟩ := var_heap e2 hv
    exact ⟨_, _, t, f, hh⟩
  have h1 := max_cell hsh
  refine ⟨fun n hn => absurd rfl hn, fun x hx => ?_⟩
  simp only [globX, List.mem_cons, List.not_mem_nil, or_false] at hx
  rcases hx with rfl | rfl | rfl | rfl
  · obtain ⟨t, f, hh⟩ := h0; exact ⟨fun h => h, g_lt hh, trivial, t, f, hh⟩
  · obtain ⟨m, t, f, hh⟩ := h1; exact ⟨fun h => h, g_lt hh, trivial, m, t, f, hh⟩
  · obtain ⟨a, p, t, f, hh⟩ := h2; exact ⟨fun h => h, g_lt hh, trivial, a, p, t, f, hh⟩
  · obtain ⟨a, p, t, f, hh⟩ := h3; exact ⟨fun h => h, g_lt hh, trivial, a, p, t, f, hh⟩
end FrA

