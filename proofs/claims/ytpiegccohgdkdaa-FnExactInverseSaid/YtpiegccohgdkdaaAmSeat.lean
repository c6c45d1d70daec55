/- What every walk of this seat uses. No condition. -/
import Derived.Test.YtpiegccohgdkdaaAmFuns
import Derived.IntWalk
import Derived.Test.YtpiegccohgdkdaaProg
import Derived.StillTailTactics
import Derived.Lib.Bytealg
import Derived.Lib.Overlaps
import Derived.Laws.Externs
set_option linter.all false
set_option linter.unusedSimpArgs false
set_option linter.unusedVariables false
set_option linter.deprecated false
/-! Bas -/
open Go Go.AM
namespace FrA
theorem wr {n : Int} (h1 : 0 ≤ n) (h2 : n ≤ 9000000000000000000) : IntKind.i64.wrap n = n := IntWalk.i64_in _ ⟨by omega, by omega⟩
theorem mixedT : Go.Proofs.Try.prog.follows .mixedOrders = true := by kernel_rfl
theorem le_of (a b : Nat) (h : Nat.ble a b = true) : a ≤ b := Nat.le_of_ble_eq_true h
def HC : Con := ⟨Holds Go.Proofs.Try.prog, HoldsX Go.Proofs.Try.prog, Copies Go.Proofs.Try.prog⟩
abbrev HT := HC.det
theorem HOk : ConOk Go.Proofs.Try.prog HC := ⟨fun _ _ _ _ _ h => h, fun _ _ _ _ _ h => h, fun _ _ _ h => h⟩
theorem S_0 (a : AV) (l : List AV) : slots0 (a :: l) 0 = a := rfl
theorem S_1 (a b : AV) (l : List AV) : slots0 (a :: b :: l) 1 = b := rfl
theorem S_2 (a b c : AV) (l : List AV) : slots0 (a :: b :: c :: l) 2 = c := rfl
theorem F_02 : ((0 : Nat) < 2) = True := by decide
theorem F_12 : ((1 : Nat) < 2) = True := by decide
theorem F_04 : ((0 : Nat) < 4) = True := by decide
theorem F_14 : ((1 : Nat) < 4) = True := by decide
theorem F_24 : ((2 : Nat) < 4) = True := by decide
theorem F_34 : ((3 : Nat) < 4) = True := by decide
attribute [go_sem] S_0 S_1 S_2 F_02 F_12 F_04 F_14 F_24 F_34
end FrA

/-! Ext1 -/
open Go Go.AM
namespace FrA
open Go.Proofs
set_option maxRecDepth 100000
theorem args2 {w : World} {κ : Cfg} {h : Heap} {clk : Nat} {a b : AV} {vs : Array Value} (hl : vs.size = [a, b].length) (hv : ∀ (j : Nat) x, [a, b][j]? = some x → VR w κ h clk x (vs.getD j Go.undef)) : ∃ u v, vs = #[u, v] ∧ VR w κ h clk a u ∧ VR w κ h clk b v := by
  have hl2 : vs.size = 2 := hl
  have e : vs = #[vs[0], vs[1]] := by
    apply Array.ext <;> simp [hl2]
    intro i hi
    rcases (by omega : i = 0 ∨ i = 1) with rfl | rfl <;> (intro _; rfl)
  have h0 := hv 0 a rfl
  have h1 := hv 1 b rfl
  rw [Array.getD_eq_getD_getElem?, Array.getElem?_eq_getElem (by omega), Option.getD_some] at h0 h1
  exact ⟨_, _, e, h0, h1⟩
theorem x146 (a b : List UInt8) (h : Heap) (clk : Nat) (Q : AV → Heap → Nat → Prop) (hq : Q (i64 (Lib.compareBytes a b)) h clk) : HoldsX Try.prog 146 [.s a, .s b] h clk Q := by
  intro w0 P0 w κ vs H hl hv
  obtain ⟨u, v, rfl, hu, hv'⟩ := args2 hl hv
  have e1 := hu.of_s
  have e2 := hv'.of_s
  subst e1; subst e2
  refine .inr ⟨.int .i64 (Lib.compareBytes a b), w, ?_, _, h, κ, clk, hq, H, Ext.same rfl, .ro _ _ (.i _ _)⟩
  rw [run_callFunc_extern (e := Extern.BytealgCompare.compare) Try.func146 (by kernel_rfl) (by kernel_rfl) (by kernel_rfl) (by kernel_rfl)]
  rw [Lib.run_compareString]
  rfl
theorem x143 {o o2 : Rid} {v v2 off off2 len len2 : Nat} {cap cap2 : Option Nat} {ob ob2 : Ob} {h : Heap} (clk : Nat) (Q : AV → Heap → Nat → Prop) (hc : cur h o v = some ob) (hc2 : cur h o2 v2 = some ob2) (hne : o ≠ o2) (hl0 : len ≠ 0) (hl1 : len2 ≠ 0) (hz : ob2.esz ≠ 0)
    (hq : Q (.b false) h clk) : HoldsX Try.prog 143 [.sl o v off len cap, .sl o2 v2 off2 len2 cap2] h clk Q := by
  intro w0 P0 w κ vs H hl hv
  obtain ⟨u, u2, rfl, hu, hu2⟩ := args2 hl hv
  refine .inr ⟨.bool false, w, ?_, _, h, κ, clk, hq, H, Ext.same rfl, .ro _ _ (.b _)⟩
  rcases hu.of_sl hc with ⟨h1, _⟩ | ⟨rc, hre, rfl, hoff, hle, _, _, c1, t1, f1, q1, q2, q3⟩
  · exact absurd h1 hl0
  rcases hu2.of_sl hc2 with ⟨h1, _⟩ | ⟨rc2, hre2, rfl, hoff2, hle2, _, _, c2, t2, f2, r1, r2, r3⟩
  · exact absurd h1 hl1
  rw [run_callFunc_extern (e := Extern.SlicesOverlaps.overlaps #[40, 40] #[4]) Try.func143 (by kernel_rfl) (by kernel_rfl) (by kernel_rfl) (by kernel_rfl)]
  have hb : (κ.ι o).1 ≠ (κ.ι o2).1 := fun he => H.apart o o2 ob ob2 (κ.ι o).1 (cur_some hc).1 (cur_some hc2).1 hne (.inl ⟨hre, rfl⟩) (.inl ⟨hre2, he⟩)
  have hpos : c2.size ≠ 0 := by
    intro h0
    rw [h0] at r2
    have : 0 < (off2 + rc2) * ob2.esz := Nat.mul_pos (by omega) (by omega)
    omega
  have := Lib.run_overlaps_apart (P := Try.prog) w 40 4 112 Try.underlying40 2 (fun w => sizeOf_run (by kernel_rfl)) (κ.addr o ob.esz off 0) (κ.addr o2 ob2.esz off2 0) len rc len2 rc2 hb t1 t2 c1.size c2.size
    (by show w.shape? (κ.ι o).1 = _; unfold World.shape?; rw [q1]) (by show w.shape? (κ.ι o2).1 = _; unfold World.shape?; rw [r1]) hpos (q3 _) (q3 _)
  rw [this]; rfl
end FrA

