/- The library's functions that values and records call. No condition. -/
import Derived.Test.YtdlaklminigoaaaDoorAmSfA
import Derived.Test.YtdlaklminigoaaaDoorAmShf
import Derived.Test.YtdlaklminigoaaaDoorAmSeat
import Derived.Test.YtdlaklminigoaaaDoorAmPvC
import Derived.Test.YtdlaklminigoaaaDoorAmPvD
set_option linter.all false
set_option linter.unusedSimpArgs false
set_option linter.unusedVariables false
set_option linter.deprecated false
/-! SfB -/
open Go Go.AM Go.RowKit
namespace FrA
open Go.Proofs
set_option maxRecDepth 100000
theorem below_grow (w : World) (k : Nat) (os : Array Obj) : Below w.heap.size w (Go.Sort.grow (w.drewN k) os) :=
  ⟨rfl, rfl, rfl, by simp [Go.Sort.grow, World.drewN], fun b hb => by
    show ((w.heap ++ os)[b]? : Option Obj) = w.heap[b]?
    rw [Array.getElem?_append_left hb]⟩
theorem arg1 {w : World} {κ : Cfg} {h : Heap} {clk : Nat} {a : AV} {vs : Array Value} (hl : vs.size = [a].length) (hv : ∀ (j : Nat) x, [a][j]? = some x → VR w κ h clk x (vs.getD j Go.undef)) : ∃ u, vs = #[u] ∧ VR w κ h clk a u := by
  obtain ⟨l⟩ := vs
  match l, hl with
  | [u], _ => exact ⟨u, rfl, hv 0 a rfl⟩
theorem arg2 {w : World} {κ : Cfg} {h : Heap} {clk : Nat} {a b : AV} {vs : Array Value} (hl : vs.size = [a, b].length) (hv : ∀ (j : Nat) x, [a, b][j]? = some x → VR w κ h clk x (vs.getD j Go.undef)) : ∃ u v, vs = #[u, v] ∧ VR w κ h clk a u ∧ VR w κ h clk b v := by
  obtain ⟨l⟩ := vs
  match l, hl with
  | [u, v], _ => exact ⟨u, v, rfl, hv 0 a rfl, hv 1 b rfl⟩
theorem arg3 {w : World} {κ : Cfg} {h : Heap} {clk : Nat} {a b c : AV} {vs : Array Value} (hl : vs.size = [a, b, c].length) (hv : ∀ (j : Nat) x, [a, b, c][j]? = some x → VR w κ h clk x (vs.getD j Go.undef)) : ∃ u v x, vs = #[u, v, x] ∧ VR w κ h clk a u ∧ VR w κ h clk b v ∧ VR w κ h clk c x := by
  obtain ⟨l⟩ := vs
  match l, hl with
  | [u, v, x], _ => exact ⟨u, v, x, rfl, hv 0 a rfl, hv 1 b rfl, hv 2 c rfl⟩
theorem tab_of {w : World} {P0 : Bs} {A : Bs} (hG : GlobOk w P0 A) : Lib.TabIs Tryd.prog w "internal/strconv.uint64pow10" .u64 Lib.pow10Tab := by
  obtain ⟨_, _, _, t, f, hc⟩ := hG.2 (0, gxPow) (by simp [globX])
  have hn : Tryd.prog.globalNamed "internal/strconv.uint64pow10" = some 0 := by kernel_rfl
  unfold Lib.TabIs World.var?
  rw [hn]
  simp only [Option.bind_some, hc]
  rfl
theorem h29 (n : Int) (h0 : -9223372036854775808 ≤ n) (h1 : n ≤ 9223372036854775807) : HT 29 [i64 n, i64 10] [] (.s (Lib.itoa n)) true [] := by
  refine holds_below (Φ := fun r => r = .s (Lib.itoa n)) (callFunc_run Tryd.func29 (by kernel_rfl) (by kernel_rfl)) fun w κ P0 vs H hP hl hv => ?_
  obtain ⟨u, v, rfl, hu, hv⟩ := arg2 hl hv
  rw [hu.of_i, hv.of_i]
  refine (Tryd.strconv_FormatInt_10 n h0 h1 w (tab_of H.glob)).mono ?_
  rintro e w' ⟨rfl, k, os, rfl⟩
  exact ⟨_, _, rfl, below_grow w k os, rfl, fun X => .ro _ _ (.s _)⟩
theorem h53 (s : List UInt8) (c : Int) : HT 53 [.s s, .i .u8 c] [] (i64 (Lib.indexByte s c.toNat.toUInt8)) true [] := by
  refine holds_below (Φ := fun r => r = i64 (Lib.indexByte s c.toNat.toUInt8)) (callFunc_run Tryd.func53 (by kernel_rfl) (by kernel_rfl)) fun w κ P0 vs H hP hl hv => ?_
  obtain ⟨u, v, rfl, hu, hv⟩ := arg2 hl hv
  rw [hu.of_s, hv.of_i]
  refine (Tryd.strings_IndexByte ⟨s.toArray⟩ c w).mono ?_
  rintro e w' ⟨rfl, rfl⟩
  exact ⟨_, _, rfl, Below.refl _ _, rfl, fun X => .ro _ _ (.i _ _)⟩
theorem h34 (s p : List UInt8) : HT 34 [.s s, .s p] [] (.b (Lib.hasPrefix s p)) true [] := by
  refine holds_below (Φ := fun r => r = .b (Lib.hasPrefix s p)) (callFunc_run Tryd.func34 (by kernel_rfl) (by kernel_rfl)) fun w κ P0 vs H hP hl hv => ?_
  obtain ⟨u, v, rfl, hu, hv⟩ := arg2 hl hv
  rw [hu.of_s, hv.of_s]
  refine (Tryd.strings_HasPrefix ⟨s.toArray⟩ ⟨p.toArray⟩ w).mono ?_
  rintro e w' ⟨rfl, rfl⟩
  exact ⟨_, _, rfl, Below.refl _ _, rfl, fun X => .ro _ _ (.b _)⟩
/-- A number, the one that the text spells if it spells one; and whatever error. -/
def piΦ (s : List UInt8) (r : AV) : Prop := ∃ n : Int, r = .tup [i64 n, .undef] ∧ ∀ k, Lib.parseIntB 64 s = .ok k → n = k
theorem h36 (s : List UInt8) (hs : s.length ≤ 140737488355328) : HC 36 [.s s, i64 10, i64 64] [] true (fun r o => piΦ s r ∧ o = []) := by
  refine holds_below (Φ := piΦ s) (callFunc_run Tryd.func36 (by kernel_rfl) (by kernel_rfl)) fun w κ P0 vs H hP hl hv => ?_
  obtain ⟨u, v, x, rfl, hu, hv, hx⟩ := arg3 hl hv
  rw [hu.of_s, hv.of_i, hx.of_i]
  have hsz : (⟨s.toArray⟩ : ByteArray).size = s.length := rfl
  have tup : ∀ (n : Int) (e : Value) (w' : World) (X : Bs), Rs w' κ [] 0 X (.tup [i64 n, .undef]) (.tuple #[.int .i64 n, e]) := fun n e w' X => .tup _ _ rfl fun j y hy => by
    match j, hy with
    | 0, hy => cases hy; exact .ro _ _ (.i _ _)
    | 1, hy => cases hy; exact .ro _ _ (.undef _)
  have cellOf : ∀ n : Nat, (∃ a p t f, w.heap[n]? = some (.cells #[.iface a p] t f)) → ∃ a p, w.cell? ⟨n, 0, none⟩ = some (.iface a p) := fun n ⟨a, p, t, f, h⟩ => ⟨a, p, by simp [World.cell?, h]⟩
  cases hr : Lib.parseIntB 64 s with
  | ok k =>
    refine (Tryd.strconv_ParseInt_10_at64_ok ⟨s.toArray⟩ (by rw [hsz]; omega) k hr w).mono ?_
    rintro e w' ⟨rfl, hw⟩
    have B : Below w.heap.size w w' := by
      rcases hw with rfl | ⟨t, rfl⟩
      · exact Below.refl _ _
      · exact Lib.bytesWorld_below _ _ _
    exact ⟨_, _, rfl, B, ⟨k, rfl, fun k' hk => by rw [hr] at hk; cases hk; rfl⟩, tup k _ w'⟩
  | «syntax» =>
    obtain ⟨_, _, _, h4⟩ := H.glob.2 (2, gxErr) (by simp [globX])
    obtain ⟨a, p, hc⟩ := cellOf 2 h4
    refine (Tryd.strconv_ParseInt_10_at64_syntax ⟨s.toArray⟩ (by rw [hsz]; omega) hr _ w hc (.inr ⟨a, p, rfl⟩)).mono ?_
    rintro e w' ⟨N, rfl, _, _, B⟩
    exact ⟨_, _, rfl, B, ⟨0, rfl, fun k' hk => by rw [hr] at hk; cases hk⟩, tup 0 _ w'⟩
  | range =>
    obtain ⟨_, _, _, h4⟩ := H.glob.2 (3, gxErr) (by simp [globX])
    obtain ⟨a, p, hc⟩ := cellOf 3 h4
    refine (Tryd.strconv_ParseInt_10_at64_range ⟨s.toArray⟩ (by rw [hsz]; omega) hr _ w hc (.inr ⟨a, p, rfl⟩)).mono ?_
    rintro e w' ⟨N, rfl, _, _, B⟩
    exact ⟨_, _, rfl, B, ⟨_, rfl, fun k' hk => by rw [hr] at hk; cases hk⟩, tup _ _ w'⟩
end FrA

