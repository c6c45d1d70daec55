/- Readers of what comes in, put together. No condition. -/
import Derived.Test.YtbhdjaccdaccbaaGreatAmG22
import Derived.Test.YtbhdjaccdaccbaaGreatAmG24
import Derived.Test.YtbhdjaccdaccbaaGreatProg
set_option linter.all false
set_option linter.unusedSimpArgs false
set_option linter.unusedVariables false
set_option linter.deprecated false
/-! RdC -/
section
open Go Go.AM
namespace FrA
/-- What comes in as this type reads as such cells. -/
def RdC {H : Type} (enc : TypeId × Value → H) (P : Program) (W : World) (sp : Nat → Bool) (hd : Bool) {α : Type} (t : TypeId) (z : Nat) (C : α → List AV) (Q : α → Prop) : Prop :=
  ∀ (m : Nat) (cs : List Value) (y : DataW H × List MemPlace), DataW.trod enc P W 0 sp hd m t cs = some y → ∃ a, Q a ∧ (C a).length = z ∧ ∀ (j : Nat) x, (C a)[j]? = some x → ∃ u, cs[j]? = some u ∧ Ro W (fun b => b < W.heap.size) x u
section
variable {H : Type} {enc : TypeId × Value → H} {P : Program} {W : World} {sp : Nat → Bool} {hd : Bool} {α : Type} {t e : TypeId} {z : Nat} {C : α → List AV} {Q Q' : α → Prop}
theorem rdc_weak (hq : ∀ a, Q a → Q' a) (h : RdC enc P W sp hd t z C Q) : RdC enc P W sp hd t z C Q' := fun m cs y hy => by
  obtain ⟨a, h1, h2⟩ := h m cs y hy
  exact ⟨a, hq a h1, h2⟩
theorem one_cell {x : AV} {u : Value} {cs : List Value} (hc : cs = [u]) (hr : Ro W (fun b => b < W.heap.size) x u) : ∀ (j : Nat) y, [x][j]? = some y → ∃ u, cs[j]? = some u ∧ Ro W (fun b => b < W.heap.size) y u := by
  intro j y hy
  subst hc
  match j, hy with
  | 0, hy => simp at hy; subst hy; exact ⟨u, rfl, hr⟩
theorem rdc_int (ht : P.underlying t = some (.int .i64)) : RdC enc P W sp hd t 1 (fun n : Int => [.i .i64 n]) (fun _ => True) := fun m cs y h => by
  obtain ⟨k, hk⟩ := trod_i .i64 ht h
  exact ⟨k, trivial, rfl, one_cell hk (.i _ k)⟩
theorem rdc_str (ht : P.underlying t = some .string) : RdC enc P W sp hd t 1 (fun l : List UInt8 => [.s l]) (fun l => Lg l.length) := fun m cs y h => by
  obtain ⟨b, hb, hl⟩ := trod_str ht h
  exact ⟨b, hl, rfl, one_cell hb (.s b)⟩
theorem trod_b (ht : P.underlying t = some .bool) {base : Nat} {fuel : Nat} {cs : List Value} {x : DataW H × List MemPlace} (h : DataW.trod enc P W base sp hd fuel t cs = some x) : ∃ b, cs = [.bool b] := by
  cases fuel with
  | zero => simp [DataW.trod] at h
  | succ n =>
    unfold DataW.trod at h
    rw [ht] at h
    split at h <;> simp_all
theorem rdc_bool (ht : P.underlying t = some .bool) : RdC enc P W sp hd t 1 (fun b : Bool => [.b b]) (fun _ => True) := fun m cs y h => by
  obtain ⟨b, hb⟩ := trod_b ht h
  exact ⟨b, trivial, rfl, one_cell hb (.b b)⟩
theorem rdc_list (ht : P.underlying t = some (.slice e)) (hn : P.cellsOf e = z) (hpos : 0 < z) (h : RdC enc P W sp hd e z C Q) : RdC enc P W sp hd t 1 (fun l : List α => [.dat z (l.map C)]) (LL Q) := fun m cs y hy => by
  obtain ⟨v, rfl⟩ : ∃ v, cs = [v] := by
    rcases DataW.trod_slice ht hy with ⟨h1, _⟩ | ⟨a, len, cap, elems, rest, m, _, hv, _⟩
    · exact ⟨_, h1⟩
    · exact ⟨_, hv⟩
  obtain ⟨es, h1, h2, h3⟩ := read_rows2 (R := fun r => ∃ a, r = C a ∧ Q a) ht hn hpos (fun m cs y hy => by
    obtain ⟨a, q1, q2, q3⟩ := h m cs y hy
    exact ⟨C a, ⟨a, rfl, q1⟩, q2, q3⟩) hy
  obtain ⟨l, rfl, hq⟩ := unmap2 es h3
  exact ⟨l, ⟨(by simpa using h2 : l.length ≤ maxLen), hq⟩, rfl, one_cell rfl h1⟩
/-- An argument that is a slice. -/
theorem rdc_slice {c : α → AV} {v : Value} {d : DataW H} {ps : List MemPlace} (ht : P.underlying t = some (.slice e)) (rd : RdC enc P W sp hd t 1 (fun a => [c a]) Q) (hval : Value.okWide P W .any 0 t v) (h : DataW.Trod enc P W 0 sp hd t v d ps) :
    ∃ a, Q a ∧ VR W κ0 (objs []) 1 (c a) v := by
  obtain ⟨fuel, h⟩ := h
  obtain ⟨a1, len, cap, rfl⟩ := WideShapes.okWide_slice ht hval
  have h : DataW.trod enc P W 0 sp hd fuel t [.slice a1 len cap] = some (d, ps) := h
  obtain ⟨a, q, _, r⟩ := rd _ _ _ h
  obtain ⟨u, hu, hr⟩ := r 0 _ rfl
  simp only [List.getElem?_cons_zero, Option.some.injEq] at hu
  subst hu
  exact ⟨a, q, .ro _ _ (hr.frame (fun b hb => (X0 W b).2 hb) (fun _ _ => rfl))⟩
end
end FrA
end
/-! RdT -/
section
open Go Go.AM
namespace FrA
open Go.Proofs
set_option maxRecDepth 100000
section
variable {H : Type} {enc : TypeId × Value → H} {W : World} {sp : Nat → Bool} {hd : Bool}
theorem rd_int : RdC enc Tryz.prog W sp hd 2 1 (fun n : Int => [.i .i64 n]) (fun _ => True) := rdc_int Tryz.underlying2
theorem rd_bool : RdC enc Tryz.prog W sp hd 4 1 (fun b : Bool => [.b b]) (fun _ => True) := rdc_bool Tryz.underlying4
theorem rd_str : RdC enc Tryz.prog W sp hd 9 1 (fun l : List UInt8 => [.s l]) (fun l => Lg l.length) := rdc_str Tryz.underlying9
theorem rd_lint : RdC enc Tryz.prog W sp hd 60 1 (fun l : List Int => [ils l]) (fun l => Lg l.length) := rdc_weak (fun _ h => h.1) (rdc_list (C := inC) Tryz.underlying60 (by kernel_rfl) (by decide) rd_int)
theorem rd_val : RdC enc Tryz.prog W sp hd 202 3 vC LgVl := by
  intro m cs y h
  obtain ⟨xs, n, _, _, hcl, hxl, hf⟩ := DataW.trod_struct Tryz.underlying202 h
  have cz : Tryz.prog.cellsOf 202 = 3 := by kernel_rfl
  rw [cz] at hcl
  obtain ⟨w0, w1, w2, rfl⟩ : ∃ w0 w1 w2, cs = [w0, w1, w2] := by
    match cs, hcl with
    | [w0, w1, w2], _ => exact ⟨w0, w1, w2, rfl⟩
  have f0 : DataW.trod enc Tryz.prog W 0 sp hd n 2 ((List.drop 0 [w0, w1, w2]).take (Tryz.prog.cellsOf 2)) = xs[0]? := hf 0 _ rfl
  rw [show Tryz.prog.cellsOf 2 = 1 by kernel_rfl, List.getElem?_eq_getElem (by rw [hxl]; decide)] at f0
  obtain ⟨a0, q0, l0, r0⟩ := rd_int _ _ _ f0
  have f1 : DataW.trod enc Tryz.prog W 0 sp hd n 2 ((List.drop 1 [w0, w1, w2]).take (Tryz.prog.cellsOf 2)) = xs[1]? := hf 1 _ rfl
  rw [show Tryz.prog.cellsOf 2 = 1 by kernel_rfl, List.getElem?_eq_getElem (by rw [hxl]; decide)] at f1
  obtain ⟨a1, q1, l1, r1⟩ := rd_int _ _ _ f1
  have f2 : DataW.trod enc Tryz.prog W 0 sp hd n 9 ((List.drop 2 [w0, w1, w2]).take (Tryz.prog.cellsOf 9)) = xs[2]? := hf 2 _ rfl
  rw [show Tryz.prog.cellsOf 9 = 1 by kernel_rfl, List.getElem?_eq_getElem (by rw [hxl]; decide)] at f2
  obtain ⟨a2, q2, l2, r2⟩ := rd_str _ _ _ f2
  refine ⟨(a0, a1, a2), q2, rfl, fun j x hx => ?_⟩
  match j, hx with
  | 0, hx => exact r0 0 x hx
  | 1, hx => exact r1 0 x hx
  | 2, hx => exact r2 0 x hx
theorem rd_lval : RdC enc Tryz.prog W sp hd 119 1 (fun l : List (Vl) => [vls l]) (LL LgVl) := rdc_list (C := vC) Tryz.underlying119 (by kernel_rfl) (by decide) rd_val
theorem rd_tok : RdC enc Tryz.prog W sp hd 301 5 tkC LgTk := by
  intro m cs y h
  obtain ⟨xs, n, _, _, hcl, hxl, hf⟩ := DataW.trod_struct Tryz.underlying301 h
  have cz : Tryz.prog.cellsOf 301 = 5 := by kernel_rfl
  rw [cz] at hcl
  obtain ⟨w0, w1, w2, w3, w4, rfl⟩ : ∃ w0 w1 w2 w3 w4, cs = [w0, w1, w2, w3, w4] := by
    match cs, hcl with
    | [w0, w1, w2, w3, w4], _ => exact ⟨w0, w1, w2, w3, w4, rfl⟩
  have f0 : DataW.trod enc Tryz.prog W 0 sp hd n 2 ((List.drop 0 [w0, w1, w2, w3, w4]).take (Tryz.prog.cellsOf 2)) = xs[0]? := hf 0 _ rfl
  rw [show Tryz.prog.cellsOf 2 = 1 by kernel_rfl, List.getElem?_eq_getElem (by rw [hxl]; decide)] at f0
  obtain ⟨a0, q0, l0, r0⟩ := rd_int _ _ _ f0
  have f1 : DataW.trod enc Tryz.prog W 0 sp hd n 2 ((List.drop 1 [w0, w1, w2, w3, w4]).take (Tryz.prog.cellsOf 2)) = xs[1]? := hf 1 _ rfl
  rw [show Tryz.prog.cellsOf 2 = 1 by kernel_rfl, List.getElem?_eq_getElem (by rw [hxl]; decide)] at f1
  obtain ⟨a1, q1, l1, r1⟩ := rd_int _ _ _ f1
  have f2 : DataW.trod enc Tryz.prog W 0 sp hd n 202 ((List.drop 2 [w0, w1, w2, w3, w4]).take (Tryz.prog.cellsOf 202)) = xs[2]? := hf 2 _ rfl
  rw [show Tryz.prog.cellsOf 202 = 3 by kernel_rfl, List.getElem?_eq_getElem (by rw [hxl]; decide)] at f2
  obtain ⟨a2, q2, l2, r2⟩ := rd_val _ _ _ f2
  refine ⟨⟨a0, a1, a2⟩, q2, rfl, fun j x hx => ?_⟩
  match j, hx with
  | 0, hx => exact r0 0 x hx
  | 1, hx => exact r1 0 x hx
  | 2, hx => exact r2 0 x hx
  | 3, hx => exact r2 1 x hx
  | 4, hx => exact r2 2 x hx
theorem rd_ltok : RdC enc Tryz.prog W sp hd 208 1 (fun l : List (Tk) => [tks l]) (LL LgTk) := rdc_list (C := tkC) Tryz.underlying208 (by kernel_rfl) (by decide) rd_tok
theorem rd_col : RdC enc Tryz.prog W sp hd 204 6 clC LgCl := by
  intro m cs y h
  obtain ⟨xs, n, _, _, hcl, hxl, hf⟩ := DataW.trod_struct Tryz.underlying204 h
  have cz : Tryz.prog.cellsOf 204 = 6 := by kernel_rfl
  rw [cz] at hcl
  obtain ⟨w0, w1, w2, w3, w4, w5, rfl⟩ : ∃ w0 w1 w2 w3 w4 w5, cs = [w0, w1, w2, w3, w4, w5] := by
    match cs, hcl with
    | [w0, w1, w2, w3, w4, w5], _ => exact ⟨w0, w1, w2, w3, w4, w5, rfl⟩
  have f0 : DataW.trod enc Tryz.prog W 0 sp hd n 9 ((List.drop 0 [w0, w1, w2, w3, w4, w5]).take (Tryz.prog.cellsOf 9)) = xs[0]? := hf 0 _ rfl
  rw [show Tryz.prog.cellsOf 9 = 1 by kernel_rfl, List.getElem?_eq_getElem (by rw [hxl]; decide)] at f0
  obtain ⟨a0, q0, l0, r0⟩ := rd_str _ _ _ f0
  have f1 : DataW.trod enc Tryz.prog W 0 sp hd n 2 ((List.drop 1 [w0, w1, w2, w3, w4, w5]).take (Tryz.prog.cellsOf 2)) = xs[1]? := hf 1 _ rfl
  rw [show Tryz.prog.cellsOf 2 = 1 by kernel_rfl, List.getElem?_eq_getElem (by rw [hxl]; decide)] at f1
  obtain ⟨a1, q1, l1, r1⟩ := rd_int _ _ _ f1
  have f2 : DataW.trod enc Tryz.prog W 0 sp hd n 4 ((List.drop 2 [w0, w1, w2, w3, w4, w5]).take (Tryz.prog.cellsOf 4)) = xs[2]? := hf 2 _ rfl
  rw [show Tryz.prog.cellsOf 4 = 1 by kernel_rfl, List.getElem?_eq_getElem (by rw [hxl]; decide)] at f2
  obtain ⟨a2, q2, l2, r2⟩ := rd_bool _ _ _ f2
  have f3 : DataW.trod enc Tryz.prog W 0 sp hd n 202 ((List.drop 3 [w0, w1, w2, w3, w4, w5]).take (Tryz.prog.cellsOf 202)) = xs[3]? := hf 3 _ rfl
  rw [show Tryz.prog.cellsOf 202 = 3 by kernel_rfl, List.getElem?_eq_getElem (by rw [hxl]; decide)] at f3
  obtain ⟨a3, q3, l3, r3⟩ := rd_val _ _ _ f3
  refine ⟨⟨a0, a1, a2, a3⟩, ⟨q0, q3⟩, rfl, fun j x hx => ?_⟩
  match j, hx with
  | 0, hx => exact r0 0 x hx
  | 1, hx => exact r1 0 x hx
  | 2, hx => exact r2 0 x hx
  | 3, hx => exact r3 0 x hx
  | 4, hx => exact r3 1 x hx
  | 5, hx => exact r3 2 x hx
theorem rd_lcol : RdC enc Tryz.prog W sp hd 59 1 (fun l : List (Cl) => [cls l]) (LL LgCl) := rdc_list (C := clC) Tryz.underlying59 (by kernel_rfl) (by decide) rd_col
theorem rd_fk : RdC enc Tryz.prog W sp hd 212 5 fkC LgFk := by
  intro m cs y h
  obtain ⟨xs, n, _, _, hcl, hxl, hf⟩ := DataW.trod_struct Tryz.underlying212 h
  have cz : Tryz.prog.cellsOf 212 = 5 := by kernel_rfl
  rw [cz] at hcl
  obtain ⟨w0, w1, w2, w3, w4, rfl⟩ : ∃ w0 w1 w2 w3 w4, cs = [w0, w1, w2, w3, w4] := by
    match cs, hcl with
    | [w0, w1, w2, w3, w4], _ => exact ⟨w0, w1, w2, w3, w4, rfl⟩
  have f0 : DataW.trod enc Tryz.prog W 0 sp hd n 60 ((List.drop 0 [w0, w1, w2, w3, w4]).take (Tryz.prog.cellsOf 60)) = xs[0]? := hf 0 _ rfl
  rw [show Tryz.prog.cellsOf 60 = 1 by kernel_rfl, List.getElem?_eq_getElem (by rw [hxl]; decide)] at f0
  obtain ⟨a0, q0, l0, r0⟩ := rd_lint _ _ _ f0
  have f1 : DataW.trod enc Tryz.prog W 0 sp hd n 9 ((List.drop 1 [w0, w1, w2, w3, w4]).take (Tryz.prog.cellsOf 9)) = xs[1]? := hf 1 _ rfl
  rw [show Tryz.prog.cellsOf 9 = 1 by kernel_rfl, List.getElem?_eq_getElem (by rw [hxl]; decide)] at f1
  obtain ⟨a1, q1, l1, r1⟩ := rd_str _ _ _ f1
  have f2 : DataW.trod enc Tryz.prog W 0 sp hd n 2 ((List.drop 2 [w0, w1, w2, w3, w4]).take (Tryz.prog.cellsOf 2)) = xs[2]? := hf 2 _ rfl
  rw [show Tryz.prog.cellsOf 2 = 1 by kernel_rfl, List.getElem?_eq_getElem (by rw [hxl]; decide)] at f2
  obtain ⟨a2, q2, l2, r2⟩ := rd_int _ _ _ f2
  have f3 : DataW.trod enc Tryz.prog W 0 sp hd n 2 ((List.drop 3 [w0, w1, w2, w3, w4]).take (Tryz.prog.cellsOf 2)) = xs[3]? := hf 3 _ rfl
  rw [show Tryz.prog.cellsOf 2 = 1 by kernel_rfl, List.getElem?_eq_getElem (by rw [hxl]; decide)] at f3
  obtain ⟨a3, q3, l3, r3⟩ := rd_int _ _ _ f3
  have f4 : DataW.trod enc Tryz.prog W 0 sp hd n 4 ((List.drop 4 [w0, w1, w2, w3, w4]).take (Tryz.prog.cellsOf 4)) = xs[4]? := hf 4 _ rfl
  rw [show Tryz.prog.cellsOf 4 = 1 by kernel_rfl, List.getElem?_eq_getElem (by rw [hxl]; decide)] at f4
  obtain ⟨a4, q4, l4, r4⟩ := rd_bool _ _ _ f4
  refine ⟨⟨a0, a1, a2, a3, a4⟩, ⟨q0, q1⟩, rfl, fun j x hx => ?_⟩
  match j, hx with
  | 0, hx => exact r0 0 x hx
  | 1, hx => exact r1 0 x hx
  | 2, hx => exact r2 0 x hx
  | 3, hx => exact r3 0 x hx
  | 4, hx => exact r4 0 x hx
theorem rd_lfk : RdC enc Tryz.prog W sp hd 63 1 (fun l : List (Fk) => [fkk l]) (LL LgFk) := rdc_list (C := fkC) Tryz.underlying63 (by kernel_rfl) (by decide) rd_fk
theorem rd_un : RdC enc Tryz.prog W sp hd 206 1 unC LgUn := by
  intro m cs y h
  obtain ⟨xs, n, _, _, hcl, hxl, hf⟩ := DataW.trod_struct Tryz.underlying206 h
  have cz : Tryz.prog.cellsOf 206 = 1 := by kernel_rfl
  rw [cz] at hcl
  obtain ⟨w0, rfl⟩ : ∃ w0, cs = [w0] := by
    match cs, hcl with
    | [w0], _ => exact ⟨w0, rfl⟩
  have f0 : DataW.trod enc Tryz.prog W 0 sp hd n 60 ((List.drop 0 [w0]).take (Tryz.prog.cellsOf 60)) = xs[0]? := hf 0 _ rfl
  rw [show Tryz.prog.cellsOf 60 = 1 by kernel_rfl, List.getElem?_eq_getElem (by rw [hxl]; decide)] at f0
  obtain ⟨a0, q0, l0, r0⟩ := rd_lint _ _ _ f0
  refine ⟨a0, q0, rfl, fun j x hx => ?_⟩
  match j, hx with
  | 0, hx => exact r0 0 x hx
theorem rd_lun : RdC enc Tryz.prog W sp hd 61 1 (fun l : List (List Int) => [uns l]) (LL LgUn) := rdc_list (C := unC) Tryz.underlying61 (by kernel_rfl) (by decide) rd_un
theorem rd_ck : RdC enc Tryz.prog W sp hd 210 1 ckC (LL LgTk) := by
  intro m cs y h
  obtain ⟨xs, n, _, _, hcl, hxl, hf⟩ := DataW.trod_struct Tryz.underlying210 h
  have cz : Tryz.prog.cellsOf 210 = 1 := by kernel_rfl
  rw [cz] at hcl
  obtain ⟨w0, rfl⟩ : ∃ w0, cs = [w0] := by
    match cs, hcl with
    | [w0], _ => exact ⟨w0, rfl⟩
  have f0 : DataW.trod enc Tryz.prog W 0 sp hd n 208 ((List.drop 0 [w0]).take (Tryz.prog.cellsOf 208)) = xs[0]? := hf 0 _ rfl
  rw [show Tryz.prog.cellsOf 208 = 1 by kernel_rfl, List.getElem?_eq_getElem (by rw [hxl]; decide)] at f0
  obtain ⟨a0, q0, l0, r0⟩ := rd_ltok _ _ _ f0
  refine ⟨a0, q0, rfl, fun j x hx => ?_⟩
  match j, hx with
  | 0, hx => exact r0 0 x hx
theorem rd_lck : RdC enc Tryz.prog W sp hd 62 1 (fun l : List (List Tk) => [cks l]) (LL (LL LgTk)) := rdc_list (C := ckC) Tryz.underlying62 (by kernel_rfl) (by decide) rd_ck
theorem rd_tb : RdC enc Tryz.prog W sp hd 65 6 tbC LgTb := by
  intro m cs y h
  obtain ⟨xs, n, _, _, hcl, hxl, hf⟩ := DataW.trod_struct Tryz.underlying65 h
  have cz : Tryz.prog.cellsOf 65 = 6 := by kernel_rfl
  rw [cz] at hcl
  obtain ⟨w0, w1, w2, w3, w4, w5, rfl⟩ : ∃ w0 w1 w2 w3 w4 w5, cs = [w0, w1, w2, w3, w4, w5] := by
    match cs, hcl with
    | [w0, w1, w2, w3, w4, w5], _ => exact ⟨w0, w1, w2, w3, w4, w5, rfl⟩
  have f0 : DataW.trod enc Tryz.prog W 0 sp hd n 9 ((List.drop 0 [w0, w1, w2, w3, w4, w5]).take (Tryz.prog.cellsOf 9)) = xs[0]? := hf 0 _ rfl
  rw [show Tryz.prog.cellsOf 9 = 1 by kernel_rfl, List.getElem?_eq_getElem (by rw [hxl]; decide)] at f0
  obtain ⟨a0, q0, l0, r0⟩ := rd_str _ _ _ f0
  have f1 : DataW.trod enc Tryz.prog W 0 sp hd n 59 ((List.drop 1 [w0, w1, w2, w3, w4, w5]).take (Tryz.prog.cellsOf 59)) = xs[1]? := hf 1 _ rfl
  rw [show Tryz.prog.cellsOf 59 = 1 by kernel_rfl, List.getElem?_eq_getElem (by rw [hxl]; decide)] at f1
  obtain ⟨a1, q1, l1, r1⟩ := rd_lcol _ _ _ f1
  have f2 : DataW.trod enc Tryz.prog W 0 sp hd n 60 ((List.drop 2 [w0, w1, w2, w3, w4, w5]).take (Tryz.prog.cellsOf 60)) = xs[2]? := hf 2 _ rfl
  rw [show Tryz.prog.cellsOf 60 = 1 by kernel_rfl, List.getElem?_eq_getElem (by rw [hxl]; decide)] at f2
  obtain ⟨a2, q2, l2, r2⟩ := rd_lint _ _ _ f2
  have f3 : DataW.trod enc Tryz.prog W 0 sp hd n 61 ((List.drop 3 [w0, w1, w2, w3, w4, w5]).take (Tryz.prog.cellsOf 61)) = xs[3]? := hf 3 _ rfl
  rw [show Tryz.prog.cellsOf 61 = 1 by kernel_rfl, List.getElem?_eq_getElem (by rw [hxl]; decide)] at f3
  obtain ⟨a3, q3, l3, r3⟩ := rd_lun _ _ _ f3
  have f4 : DataW.trod enc Tryz.prog W 0 sp hd n 62 ((List.drop 4 [w0, w1, w2, w3, w4, w5]).take (Tryz.prog.cellsOf 62)) = xs[4]? := hf 4 _ rfl
  rw [show Tryz.prog.cellsOf 62 = 1 by kernel_rfl, List.getElem?_eq_getElem (by rw [hxl]; decide)] at f4
  obtain ⟨a4, q4, l4, r4⟩ := rd_lck _ _ _ f4
  have f5 : DataW.trod enc Tryz.prog W 0 sp hd n 63 ((List.drop 5 [w0, w1, w2, w3, w4, w5]).take (Tryz.prog.cellsOf 63)) = xs[5]? := hf 5 _ rfl
  rw [show Tryz.prog.cellsOf 63 = 1 by kernel_rfl, List.getElem?_eq_getElem (by rw [hxl]; decide)] at f5
  obtain ⟨a5, q5, l5, r5⟩ := rd_lfk _ _ _ f5
  refine ⟨⟨a0, a1, a2, a3, a4, a5⟩, ⟨q0, q1, q2, q3, q4, q5⟩, rfl, fun j x hx => ?_⟩
  match j, hx with
  | 0, hx => exact r0 0 x hx
  | 1, hx => exact r1 0 x hx
  | 2, hx => exact r2 0 x hx
  | 3, hx => exact r3 0 x hx
  | 4, hx => exact r4 0 x hx
  | 5, hx => exact r5 0 x hx
theorem rd_ltb : RdC enc Tryz.prog W sp hd 22 1 (fun l : List (Tb) => [tbs l]) (LL LgTb) := rdc_list (C := tbC) Tryz.underlying22 (by kernel_rfl) (by decide) rd_tb
theorem rd_row : RdC enc Tryz.prog W sp hd 215 2 rwC LgRw := by
  intro m cs y h
  obtain ⟨xs, n, _, _, hcl, hxl, hf⟩ := DataW.trod_struct Tryz.underlying215 h
  have cz : Tryz.prog.cellsOf 215 = 2 := by kernel_rfl
  rw [cz] at hcl
  obtain ⟨w0, w1, rfl⟩ : ∃ w0 w1, cs = [w0, w1] := by
    match cs, hcl with
    | [w0, w1], _ => exact ⟨w0, w1, rfl⟩
  have f0 : DataW.trod enc Tryz.prog W 0 sp hd n 2 ((List.drop 0 [w0, w1]).take (Tryz.prog.cellsOf 2)) = xs[0]? := hf 0 _ rfl
  rw [show Tryz.prog.cellsOf 2 = 1 by kernel_rfl, List.getElem?_eq_getElem (by rw [hxl]; decide)] at f0
  obtain ⟨a0, q0, l0, r0⟩ := rd_int _ _ _ f0
  have f1 : DataW.trod enc Tryz.prog W 0 sp hd n 119 ((List.drop 1 [w0, w1]).take (Tryz.prog.cellsOf 119)) = xs[1]? := hf 1 _ rfl
  rw [show Tryz.prog.cellsOf 119 = 1 by kernel_rfl, List.getElem?_eq_getElem (by rw [hxl]; decide)] at f1
  obtain ⟨a1, q1, l1, r1⟩ := rd_lval _ _ _ f1
  refine ⟨⟨a0, a1⟩, q1, rfl, fun j x hx => ?_⟩
  match j, hx with
  | 0, hx => exact r0 0 x hx
  | 1, hx => exact r1 0 x hx
theorem rd_lrow : RdC enc Tryz.prog W sp hd 67 1 (fun l : List (Rw) => [rws l]) (LL LgRw) := rdc_list (C := rwC) Tryz.underlying67 (by kernel_rfl) (by decide) rd_row
theorem rd_dat : RdC enc Tryz.prog W sp hd 69 1 dtC (LL LgRw) := by
  intro m cs y h
  obtain ⟨xs, n, _, _, hcl, hxl, hf⟩ := DataW.trod_struct Tryz.underlying69 h
  have cz : Tryz.prog.cellsOf 69 = 1 := by kernel_rfl
  rw [cz] at hcl
  obtain ⟨w0, rfl⟩ : ∃ w0, cs = [w0] := by
    match cs, hcl with
    | [w0], _ => exact ⟨w0, rfl⟩
  have f0 : DataW.trod enc Tryz.prog W 0 sp hd n 67 ((List.drop 0 [w0]).take (Tryz.prog.cellsOf 67)) = xs[0]? := hf 0 _ rfl
  rw [show Tryz.prog.cellsOf 67 = 1 by kernel_rfl, List.getElem?_eq_getElem (by rw [hxl]; decide)] at f0
  obtain ⟨a0, q0, l0, r0⟩ := rd_lrow _ _ _ f0
  refine ⟨a0, q0, rfl, fun j x hx => ?_⟩
  match j, hx with
  | 0, hx => exact r0 0 x hx
theorem rd_ldat : RdC enc Tryz.prog W sp hd 23 1 (fun l : List (Dt) => [dbs l]) (LL (LL LgRw)) := rdc_list (C := dtC) Tryz.underlying23 (by kernel_rfl) (by decide) rd_dat
end
end FrA
end
