/- FnExactFrameOf answers true at every input. No condition. -/
import Derived.Test.YtpiegccohgdkdaaAmFrC
import Derived.Test.YtpiegccohgdkdaaAmRow1
import Derived.Test.YtpiegccohgdkdaaRows
import Derived.WalkKit
import Derived.ProofKit
import Derived.OpenShut
set_option linter.all false
set_option linter.unusedSimpArgs false
set_option linter.unusedVariables false
set_option linter.deprecated false
open Go Go.AM
namespace Go.Proofs.Ytpiegccohgdkdaa.fnExactFrameOf
open Go.ChangeShapes Go.WideShapes Go.ChangeAt Go.RowKit
open Go.ChangeMaps (open_string shut_string)
set_option linter.unusedVariables false

theorem own : ownKnob Try.prog.godebug = none := by kernel_rfl
theorem mixed : Try.prog.follows .mixedOrders = true := by kernel_rfl
theorem le_of (a b : Nat) (h : Nat.ble a b = true) : a ≤ b := Nat.le_of_ble_eq_true h
def C0 : Con := fun _ _ _ _ _ _ => False
theorem C0_ok : ConOk Try.prog C0 := fun _ _ _ _ _ _ h => h.elim
theorem h61 (l : List UInt8) (hl : l.length ≤ 1048576) : Holds Try.prog 61 [.s l] [] (.i .u32 (FrA.crcV l)) true [] :=
  holds_of (c := Try.f61.body.getD .skip) (k := FrA.k61.1) (ts := [2]) C0_ok mixed (fun _ => false) Try.func61 (by kernel_rfl) (by kernel_rfl) (by kernel_rfl) FrA.k61.2 (by kernel_rfl) (le_of 1 _ (by kernel_rfl)) (FrA.walk61 _ l hl)
theorem h60 (l : List UInt8) (hl : l.length ≤ 1048576) : Holds Try.prog 60 [.s l] [] (.s (FrA.sumB (FrA.crcV2 l))) true [] :=
  holds_of (c := Try.f60.body.getD .skip) (k := FrA.k60.1) (ts := [2]) C0_ok mixed (fun _ => false) Try.func60 (by kernel_rfl) (by kernel_rfl) (by kernel_rfl) FrA.k60.2 (by kernel_rfl) (le_of 1 _ (by kernel_rfl)) (FrA.walk60 _ l hl)
def C1 : Con := fun f args obs r own obs' => ∃ l : List UInt8, l.length ≤ 1048576 ∧ args = [.s l] ∧ obs = [] ∧ own = true ∧ obs' = [] ∧ ((f = 60 ∧ r = .s (FrA.sumB (FrA.crcV2 l))) ∨ (f = 61 ∧ r = .i .u32 (FrA.crcV l)))
theorem C1_ok : ConOk Try.prog C1 := by
  rintro f args obs r own obs' ⟨l, hl, rfl, rfl, rfl, rfl, ⟨rfl, rfl⟩ | ⟨rfl, rfl⟩⟩
  · exact h60 l hl
  · exact h61 l hl
theorem h16 (l : List UInt8) (hl : l.length ≤ 1048576) : Holds Try.prog 16 [.s l] [] (.s (FrA.frame (FrA.crcV2 l) l)) true [] :=
  holds_of (c := Try.f16.body.getD .skip) (k := FrA.k16.1) (ts := [2]) C1_ok mixed (fun _ => false) Try.func16 (by kernel_rfl) (by kernel_rfl) (by kernel_rfl) FrA.k16.2 (by kernel_rfl) (le_of 1 _ (by kernel_rfl))
    (FrA.walk16 _ l hl fun l hl => ⟨l, hl, rfl, rfl, rfl, rfl, .inl ⟨rfl, rfl⟩⟩)
theorem h17 (l : List UInt8) (hl : l.length ≤ 1048576) : Holds Try.prog 17 [.s l] [] (.s (FrA.frame (FrA.crcV l) l)) true [] :=
  holds_of (c := Try.f17.body.getD .skip) (k := FrA.k17.1) (ts := [2]) C1_ok mixed (fun _ => false) Try.func17 (by kernel_rfl) (by kernel_rfl) (by kernel_rfl) FrA.k17.2 (by kernel_rfl) (le_of 1 _ (by kernel_rfl))
    (FrA.walk17 _ l hl fun l hl => ⟨l, hl, rfl, rfl, rfl, rfl, .inr ⟨rfl, rfl⟩⟩)
def C2 : Con := fun f args obs r own obs' => ∃ l : List UInt8, l.length ≤ 1048576 ∧ args = [.s l] ∧ obs = [] ∧ own = true ∧ obs' = [] ∧ ((f = 16 ∧ r = .s (FrA.frame (FrA.crcV2 l) l)) ∨ (f = 17 ∧ r = .s (FrA.frame (FrA.crcV l) l)))
theorem C2_ok : ConOk Try.prog C2 := by
  rintro f args obs r own obs' ⟨l, hl, rfl, rfl, rfl, rfl, ⟨rfl, rfl⟩ | ⟨rfl, rfl⟩⟩
  · exact h16 l hl
  · exact h17 l hl
theorem h3 (l : List UInt8) : Holds Try.prog 3 [.s l] [] (.b true) true [] :=
  holds_of (c := Try.f3.body.getD .skip) (k := FrA.k3.1) (ts := [2]) C2_ok mixed (fun _ => false) Try.func3 (by kernel_rfl) (by kernel_rfl) (by kernel_rfl) FrA.k3.2 (by kernel_rfl) (le_of 1 _ (by kernel_rfl))
    (FrA.walk3 _ l (fun l hl => ⟨l, hl, rfl, rfl, rfl, rfl, .inl ⟨rfl, rfl⟩⟩) (fun l hl => ⟨l, hl, rfl, rfl, rfl, rfl, .inr ⟨rfl, rfl⟩⟩))

theorem walk (s : ByteArray) (w : World) : Calls Try.prog 3 #[.string s] w fun e w' => e = .returned (.bool true) ∧ Grown w w' := by
  have h := (h3 s.data.toList).2 w κ0 #[.string s] (fun _ => False) (HR.start w) (fun b => ⟨fun hf => hf.elim, fun ⟨k, ob, hk, _⟩ => by simp at hk⟩) rfl
    (fun j x hx => by
      cases j with
      | zero => simp at hx; subst hx; exact .ro _ _ (by have := Ro.s (w := w) (X := κ0.X (objs []) w) s.data.toList; simpa using this)
      | succ j => simp at hx)
  refine h.mono fun e w' he => ?_
  cases e with
  | returned v =>
    obtain ⟨κ', clk', H', _, _, hr⟩ := he
    refine ⟨?_, H'.grown⟩
    cases hr with
    | ro _ _ hr => cases hr; rfl
  | panicked _ => exact he.elim
  | outgrown => exact he.elim

set_option maxRecDepth 100000 in
theorem lifted (os : Os) (started : os.Started) (H : Type) (enc : TypeId × Value → H) :
    ReturnsInHanded {} Try.checked os 3 .any (Rows.fnExactFrameOfSpec.pre6 enc Try.prog Try.f3 Rows.fnExactFrameOfRow.domain false) (Rows.fnExactFrameOfSpec.post enc Try.prog Try.f3 false true false false) := by
  refine returnsInHanded_of_change (C := Try.checked) own started (by kernel_rfl) Try.func3
    (ChangeSpec.witness6 (enc := enc) (C := Try.checked) false ⟨#[], #[.string ⟨#[]⟩], []⟩ 8 (by kernel_rfl) (by kernel_rfl) (by kernel_rfl) (by kernel_rfl)) ?_
  intro W base args ds gs before hval0 hW hcnd _
  have hval : ∀ (j : Nat) t v, Try.f3.params[j]? = some t → args[j]? = some v → Value.okWide Try.prog W .any base t v := hval0
  have hW' := hW
  obtain ⟨p, q, hA0, hV, rfl, hfz, hnd⟩ := hW
  have hA : DataW.TrodAll enc Try.prog W 0 (fun _ => true) true Try.f3.params.toList args.toList ds p := hA0
  rw [Try.params3] at hA hval
  obtain ⟨v0, vs0, d0, ds0, p0, q0, hargs, rfl, rfl, h0, r0⟩ := trodAll_cons hA
  obtain ⟨rfl, rfl, rfl⟩ := trodAll_nil r0
  obtain rfl : args = #[v0] := by cases args; simp_all
  obtain ⟨rfl, rfl⟩ := trodVars_none hV
  obtain ⟨a0, rfl, rfl, rfl, w0⟩ := open_string Try.underlying9 (hval 0 9 v0 rfl rfl) h0
  clear hA0 hval0
  simp only [List.append_nil] at hW'
  refine (walk a0 W).mono fun e W' ⟨he, hg⟩ => ?_
  subst he
  exact ⟨_, rfl, post_of_same (pa := []) (pv := []) hW' (fun _ _ _ => (trodAll_cons_mk (shut_bool Try.underlying4 _) trodAll_mk0)) (fun sp _ => (trodAll_cons_mk (shut_string Try.underlying9 w0) trodAll_mk0)) (fun _ _ => rfl) rfl
    (hg.frame _) hg.2.1 (ok_one (by kernel_rfl) rfl (okWide_bool_mk Try.underlying4 _))⟩

theorem over : Rows.fnExactFrameOfRow.holds Try.pinned (OpenSpec.ofChange Rows.fnExactFrameOfSpec) :=
  OpenClaim.holds_of_wide 3 Try.f3 rfl rfl rfl rfl rfl rfl rfl ⟨rfl, rfl, rfl, rfl, rfl⟩ rfl rfl rfl rfl rfl (by kernel_rfl) Try.func3 (by kernel_rfl)
    (of_decide_eq_true (by kernel_rfl)) (by unfold Func.isWrapper; first | (rw [if_pos (by decide +kernel)]; kernel_rfl) | (rw [if_neg (by decide +kernel)]; exact ⟨rfl, rfl⟩))
    (fun os started H enc _ => lifted os started H enc)

theorem proved : Rows.FnExactFrameOfSaid := over
#print axioms proved
end Go.Proofs.Ytpiegccohgdkdaa.fnExactFrameOf
