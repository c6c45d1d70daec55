/- From a walk to a row. No condition. -/
import Derived.Test.YtpiegccohgdkdaaAmFun1
import Derived.WalkKit
import Derived.ProofKit
import Derived.OpenShut
import Derived.WideKeyArgs
set_option linter.all false
set_option linter.unusedSimpArgs false
set_option linter.unusedVariables false
set_option linter.deprecated false
namespace Go.AM
/-- What a walk without handed-over objects leaves of the world. -/
theorem HR.grown {w0 w : World} {κ : Cfg} {h : Heap} {clk : Nat} (H : HR w0 (fun _ => False) w κ h clk) : RowKit.Grown w0 w := by
  refine ⟨⟨H.os.1, H.output, fun i hi => ?_⟩, H.os.2, H.size⟩
  have e := H.old i hi (fun h => h)
  rw [e]
  split
  · rename_i c t fr c' t' fr' h1 h2
    rw [h1] at h2; cases h2
    exact ⟨rfl, rfl, rfl, fun _ _ => rfl⟩
  · rename_i h1 h2
    rw [h1] at h2; cases h2
    exact .inr ⟨rfl, rfl⟩
  · rfl
def κ0 : Cfg := { ι := fun _ => (0, 0), re := fun _ => False, F := fun _ _ _ _ => False, A := fun _ => True }
theorem HR.start (w : World) : HR w (fun _ => False) w κ0 (objs []) 1 := by
  have no : ∀ (o : Rid) (ob : Ob), objs [] o = some ob → False := fun o ob ho => by
    obtain ⟨k, _, hk⟩ := cur_objs ho; simp at hk
  exact ⟨fun o ob ho => (no o ob ho).elim, fun o _ ob _ _ ho => (no o ob ho).elim, fun o ob _ ho => (no o ob ho).elim, ⟨rfl, fun _ => rfl⟩, rfl, rfl, Nat.le_refl _, fun _ _ _ => rfl, fun _ _ => trivial⟩
/-- What a law's walk shows of the world. -/
theorem law_row {P : Program} {fid : Nat} {args : List AV} (h : Holds P fid args [] true (fun r o' => r = .b true ∧ o' = [])) (w : World) (vs : Array Value) (hl : vs.size = args.length)
    (hv : ∀ (j : Nat) x, args[j]? = some x → VR w κ0 (objs []) 1 x (vs.getD j Go.undef)) :
    Calls P fid vs w fun e w' => e = .returned (.bool true) ∧ RowKit.Grown w w' ∧ ∀ b, b < w.heap.size → w'.heap[b]? = w.heap[b]? := by
  refine (h.2 w κ0 vs (fun _ => False) (HR.start w) (fun b => ⟨fun hf => hf.elim, fun ⟨k, ob, hk, _⟩ => by simp at hk⟩) hl hv).mono fun e w' he => ?_
  cases e with
  | returned v =>
    obtain ⟨r, obs', κ', clk', ⟨hr1, hr2⟩, H', _, _, hr⟩ := he
    subst hr1; subst hr2
    refine ⟨?_, H'.grown, fun b hb => H'.old b hb (fun h => h)⟩
    cases hr with
    | ro _ _ hr => cases hr; rfl
  | panicked _ => exact he.elim
  | outgrown => exact he.elim
theorem sameAt_of {W W' : World} (ho : ∀ b, b < W.heap.size → W'.heap[b]? = W.heap[b]?) (p : MemPlace) (hp : p.block < W.heap.size) : W.sameAt W' p := by
  cases p with
  | cell b off => exact cell_same (ho b hp) off
  | map b => exact ho b hp
theorem X0 (w : World) (b : Nat) : κ0.X (objs []) w b ↔ b < w.heap.size := by
  refine ⟨fun h => h.1, fun h => ⟨h, trivial, fun o ob ho => ?_⟩⟩
  obtain ⟨k, _, hk⟩ := cur_objs ho; simp at hk
/-- A row of bytes, as it came in. -/
theorem read_bytes {H : Type} {enc : TypeId × Value → H} {P : Program} {W : World} {base : Nat} {sp : Nat → Bool} {t e : TypeId} {v : Value} {d : DataW H} {ps : List MemPlace} (ht : P.underlying t = some (.slice e)) (he : P.underlying e = some (.int .u8)) (hc : P.cellsOf e = 1)
    (hval : Value.okWide P W .any base t v) (h : DataW.Trod enc P W 0 sp true t v d ps) : ∃ l : List UInt8, Ro W (fun b => b < W.heap.size) (.dat (l.map fun b => [.i .u8 b.toNat])) v := by
  obtain ⟨a1, len, cap, rfl⟩ := WideShapes.okWide_slice ht hval
  obtain ⟨fuel, hf⟩ := h
  rcases ChangeShapes.open_ints ht he hc hf with ⟨hcs, hx⟩ | ⟨a, len', cap', zs, hcs, _, hl, hm, hz, hx, hcell, hwz⟩
  · simp [Value.cells] at hcs
    obtain ⟨rfl, rfl, rfl⟩ := hcs
    exact ⟨[], .dat0 _ _⟩
  · simp [Value.cells] at hcs
    obtain ⟨rfl, rfl, rfl⟩ := hcs
    have hlz : len ≤ zs.length := by rw [hz]; split <;> omega
    refine ⟨(zs.take len).map fun n => UInt8.ofNat n.toNat, ?_⟩
    have hll : (((zs.take len).map fun n => UInt8.ofNat n.toNat).map fun b => [AV.i .u8 b.toNat]).length = len := by simp; omega
    by_cases h0 : len = 0
    · subst h0
      simp only [List.take_zero, List.map_nil]
      exact .dat0 _ _
    · obtain ⟨ab, ao, spot⟩ := a
      have hspot : spot = none := by simpa [Addr.add] using World.cell?_spot (hcell 0 (by omega))
      subst hspot
      have := Ro.dat (w := W) (X := fun b => b < W.heap.size) (((zs.take len).map fun n => UInt8.ofNat n.toNat).map fun b => [AV.i .u8 b.toNat]) ab ao cap 1 (fun e _ => .int .u8 (zs.getD e 0))
        (World.block_lt_of_cell? W ⟨ab, ao + 0, none⟩ (by have := hcell 0 (by omega); rw [Addr.add_lit] at this; exact this)) (by rw [hll]; exact hl)
        (fun e he => by rw [List.mem_map] at he; obtain ⟨_, _, rfl⟩ := he; rfl)
        (fun e j x hx => by
          unfold cellOf at hx
          simp only [List.map_map, List.getElem?_map] at hx
          cases hz2 : (zs.take len)[e]? with
          | none => rw [hz2] at hx; cases hx
          | some n =>
            rw [hz2] at hx
            simp only [Option.map_some, Option.bind_some] at hx
            have he2 : e < (zs.take len).length := (List.getElem?_eq_some_iff.1 hz2).1
            have hj : j = 0 := by
              cases j with
              | zero => rfl
              | succ j => simp at hx
            subst hj
            have := hcell e (by simp at he2; omega)
            rw [Addr.add_lit] at this
            simpa using this)
        (fun e j x hx => by
          unfold cellOf at hx
          simp only [List.map_map, List.getElem?_map] at hx
          cases hz2 : (zs.take len)[e]? with
          | none => rw [hz2] at hx; cases hx
          | some n =>
            rw [hz2] at hx
            simp only [Option.map_some, Option.bind_some] at hx
            have he2 : e < len := by have := (List.getElem?_eq_some_iff.1 hz2).1; simp at this; omega
            cases j with
            | succ j => simp at hx
            | zero =>
              simp only [Function.comp, List.getElem?_cons_zero, Option.some.injEq] at hx
              subst hx
              rw [List.getElem?_take_of_lt he2] at hz2
              have hn := range_u8 hwz e
              rw [hz2] at hn
              simp only [Option.getD_some] at hn
              have e1 : zs.getD e 0 = n := by rw [List.getD_eq_getElem?_getD, hz2]; rfl
              rw [e1]
              have e2 : (((UInt8.ofNat n.toNat).toNat : Nat) : Int) = n := by simp only [UInt8.toNat_ofNat']; omega
              rw [e2]
              exact .i _ _)
      rw [hll] at this
      exact this
end Go.AM
