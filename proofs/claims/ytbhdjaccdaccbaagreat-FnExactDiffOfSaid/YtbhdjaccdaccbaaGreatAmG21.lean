/- Contracts of the library's shelf, as the machine's. No condition. -/
import Derived.Test.YtbhdjaccdaccbaaGreatAmG18
import Derived.Below
set_option linter.all false
set_option linter.unusedSimpArgs false
set_option linter.unusedVariables false
set_option linter.deprecated false
/-! SfA -/
section
namespace Go.AM
open Go.RowKit
variable {w0 : World} {P0 : Bs} {w : World} {κ : Cfg} {h : Heap} {clk : Nat} {P : Program}
theorem ownBlk_lt {b n : Nat} (hn : OwnBlk w b n) : b < w.heap.size := by
  obtain ⟨c, t, f, h1, _⟩ := hn
  exact (Array.getElem?_eq_some_iff.1 h1).1
/-- Whatever is made beyond what was there leaves it as it was. -/
theorem HR.below {w' : World} (H : HR w0 P0 w κ h clk) (B : Below w.heap.size w w') : HR w0 P0 w' κ h clk ∧ Ext w κ h clk w' κ h clk := by
  have E : Ext w κ h clk w' κ h clk := ⟨Nat.le_refl _, fun o v ob _ hc => ⟨ob, hc, rfl, rfl, rfl, id, fun _ _ hn => hn.same (B.block _ (ownBlk_lt hn))⟩, fun b hb => ⟨⟨Nat.lt_of_lt_of_le hb.1 B.size, hb.2⟩, B.block b hb.1⟩, rfl⟩
  refine ⟨⟨fun o ob ho => ?_, H.apart, fun o ob b ho hf => ⟨(H.base o ob b ho hf).1, Nat.lt_of_lt_of_le (H.base o ob b ho hf).2 B.size⟩, ⟨B.os.trans H.os.1, fun a ha => ?_⟩, B.tape.trans H.tape, B.output.trans H.output, Nat.le_trans H.size B.size,
    fun b hb hn => (B.block b (Nat.lt_of_lt_of_le hb H.size)).trans (H.old b hb hn), H.free, H.glob⟩, E⟩
  · have R := H.ob o ob ho
    refine ⟨R.ver, R.esz, fun hne => ⟨(R.blk hne).1, (R.blk hne).2.same (B.block _ (ownBlk_lt (R.blk hne).2))⟩, fun e j x hx => ?_, R.sep, R.disj⟩
    obtain ⟨v, h1, h2⟩ := R.cells e j x hx
    have hne : ob.es ≠ [] := by intro h0; rw [h0] at hx; simp [cellOf] at hx
    refine ⟨v, ?_, ?_⟩
    · rw [← h1]; exact cell_same (B.block _ (ownBlk_lt (R.blk hne).2)) _
    · exact h2.ext E (fun _ _ hb => hb) (fun b hb => B.block b (H.base o ob b ho (.inr ⟨e, j, hb⟩)).2) id (fun h3 h4 => (h3 h4).elim)
  · have hb := B.block a.block (Nat.lt_of_lt_of_le ha H.size)
    rw [← H.os.2 a ha]
    simp [World.frozen?, hb]
end Go.AM
end
