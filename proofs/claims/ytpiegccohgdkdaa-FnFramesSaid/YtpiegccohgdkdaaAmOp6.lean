/- Structs built; the least and the greatest; what is held against each other. No condition. -/
import Derived.Test.YtpiegccohgdkdaaAmOp5
set_option linter.all false
set_option linter.unusedSimpArgs false
set_option linter.unusedVariables false
set_option linter.deprecated false
namespace Go.AM
variable {w : World} {κ : Cfg} {h : Heap} {clk : Nat} {P : Program}

/-- Cells that read so. -/
def Cells (w : World) (κ : Cfg) (h : Heap) (clk : Nat) (xs : List AV) (vs : Array Value) : Prop := xs.length = vs.size ∧ ∀ (j : Nat) x, xs[j]? = some x → VR w κ h clk x (vs.getD j Go.undef)

theorem VR.cells {x : AV} {v : Value} (hv : VR w κ h clk x v) (hs : x.cells.all AV.storable = true) : Cells w κ h clk x.cells v.cells := by
  have one : ∀ (y : AV) (u : Value), VR w κ h clk y u → (∀ cs, u ≠ .agg cs) → Cells w κ h clk [y] u.cells := by
    intro y u hy hu
    have : u.cells = #[u] := by
      cases u <;> first | rfl | exact absurd rfl (hu _)
    rw [this]
    refine ⟨rfl, fun j x hx => ?_⟩
    cases j with
    | zero => simp at hx; subst hx; exact hy
    | succ j => simp at hx
  cases x with
  | agg cs =>
    obtain ⟨vs, rfl, hl, hr⟩ := hv.of_agg
    exact ⟨hl, hr⟩
  | tup cs => simp [AV.cells, AV.storable] at hs
  | undef => simp [AV.cells, AV.storable] at hs
  | b t => have e := hv.of_b; subst e; exact one _ _ hv (by simp)
  | i k n => have e := hv.of_i; subst e; exact one _ _ hv (by simp)
  | s l => have e := hv.of_s; subst e; exact one _ _ hv (by simp)
  | nilp => have e := hv.of_nilp; subst e; exact one _ _ hv (by simp)
  | nils => have e := hv.of_nils; subst e; exact one _ _ hv (by simp)
  | nilf => have e := hv.of_nilf; subst e; exact one _ _ hv (by simp)
  | ptr o ver e c =>
    cases hv with
    | ro _ _ hr => cases hr
    | ptr _ _ _ _ _ hs hl hp => obtain ⟨a, rfl⟩ := hs; exact one _ _ (.ptr _ _ _ _ _ ⟨_, rfl⟩ hl hp) (by simp)
  | sl o ver off len cap =>
    cases hv with
    | ro _ _ hr => cases hr
    | sl _ _ _ _ _ _ hs hl hp => obtain ⟨a, l, c, rfl⟩ := hs; exact one _ _ (.sl _ _ _ _ _ _ ⟨_, _, _, rfl⟩ hl hp) (by simp)
  | dat es => obtain ⟨a, rc, e⟩ := hv.of_dat.slice; subst e; exact one _ _ hv (by simp)
  | eptr cs c => obtain ⟨blk, off, val, e, _⟩ := hv.of_eptr; subst e; exact one _ _ hv (by simp)
  | fn f cs => obtain ⟨vs, e, _⟩ := hv.of_fn; subst e; exact one _ _ hv (by simp)

theorem foldl_set (vs : List Value) : ∀ (k : Nat) (cs : Array Value) (off : Nat), off + k + vs.length ≤ cs.size →
    ((vs.zipIdx k).foldl (fun cs (c, j) => cs.setIfInBounds (off + j) c) cs).size = cs.size ∧
    ∀ i, ((vs.zipIdx k).foldl (fun cs (c, j) => cs.setIfInBounds (off + j) c) cs).getD i Go.undef = if off + k ≤ i ∧ i < off + k + vs.length then vs.getD (i - (off + k)) Go.undef else cs.getD i Go.undef := by
  induction vs with
  | nil =>
    intro k cs off hl
    refine ⟨rfl, fun i => ?_⟩
    rw [if_neg (by intro hh; simp at hh; omega)]
    rfl
  | cons v r ih =>
    intro k cs off hl
    simp only [List.length_cons] at hl
    simp only [List.zipIdx_cons, List.foldl_cons]
    obtain ⟨h1, h2⟩ := ih (k + 1) (cs.setIfInBounds (off + k) v) off (by simp; omega)
    refine ⟨by rw [h1]; simp, fun i => ?_⟩
    rw [h2 i]
    simp only [List.length_cons]
    by_cases hi : off + (k + 1) ≤ i ∧ i < off + (k + 1) + r.length
    · rw [if_pos hi, if_pos (by omega)]
      rw [show i - (off + k) = (i - (off + (k + 1))) + 1 by omega]
      simp
    · rw [if_neg hi]
      by_cases hk : i = off + k
      · subst hk
        rw [if_pos (by omega)]
        have : off + k < cs.size := by omega
        simp [Array.getD_eq_getD_getElem?, Array.getElem?_setIfInBounds, this]
      · rw [if_neg (by omega)]
        simp [Array.getD_eq_getD_getElem?, Array.getElem?_setIfInBounds, show ¬ off + k = i from fun h => hk h.symm]

theorem fill_ok (place : Nat → Option (Nat × Nat)) (ρ : Operand → Value) : ∀ (ps : List (Nat × Operand)) (z : List AV) (cs : Array Value) (gs : List (Nat × Nat × AV)) (out : List AV),
    Cells w κ h clk z cs → gs.length = ps.length → (∀ (k : Nat) (i : Nat) (x : Operand), ps[k]? = some (i, x) → ∃ off n y, gs[k]? = some (off, n, y) ∧ place i = some (off, n) ∧ VR w κ h clk y (ρ x)) →
    fillA z (gs.map fun (off, n, x) => (off, n, x.cells)) = some out →
    ∃ cs', Instr.fill place cs (ps.map fun (i, x) => (i, ρ x)) = some cs' ∧ Cells w κ h clk out cs'
  | [], z, cs, gs, out, hz, hl, _, hf => by
    have : gs = [] := List.eq_nil_of_length_eq_zero hl
    subst this
    simp [fillA] at hf; subst hf
    exact ⟨cs, rfl, hz⟩
  | (i, x) :: ps, z, cs, gs, out, hz, hl, hp, hf => by
    obtain ⟨off, n, y, hg0, hpl, hv⟩ := hp 0 i x rfl
    cases gs with
    | nil => simp at hl
    | cons g0 gs =>
      simp at hg0; subst hg0
      simp only [List.map_cons, fillA] at hf
      split at hf
      · rename_i hc
        obtain ⟨h1, h2, h3⟩ := hc
        obtain ⟨hcl, hcr⟩ := hv.cells h3
        have hsz : (ρ x).cells.size = n := by rw [← hcl, h1]
        have hzl := hz.1
        have hfs := foldl_set (ρ x).cells.toList 0 cs off (by simp; omega)
        simp only [Nat.add_zero, Array.length_toList] at hfs
        have step : Cells w κ h clk (z.take off ++ y.cells ++ z.drop (off + n)) (((ρ x).cells.toList.zipIdx 0).foldl (fun cs (c, j) => cs.setIfInBounds (off + j) c) cs) := by
          refine ⟨by simp [hfs.1, h1]; omega, fun j u hu => ?_⟩
          rw [hfs.2 j]
          rw [List.append_assoc] at hu
          by_cases hj : j < off
          · rw [if_neg (by omega)]
            rw [List.getElem?_append_left (by simp; omega), List.getElem?_take, if_pos hj] at hu
            exact hz.2 j u hu
          · by_cases hj2 : j < off + n
            · rw [if_pos (by omega)]
              rw [List.getElem?_append_right (by simp; omega), List.getElem?_append_left (by simp; omega)] at hu
              have := hcr _ u hu
              have el : (List.take off z).length = off := by simp; omega
              rw [el] at this
              have et : (ρ x).cells.toList.getD (j - off) Go.undef = (ρ x).cells.getD (j - off) Go.undef := by simp [Array.getD_eq_getD_getElem?, List.getD]
              rw [et]; exact this
            · rw [if_neg (by omega)]
              rw [List.getElem?_append_right (by simp; omega), List.getElem?_append_right (by simp; omega), List.getElem?_drop] at hu
              have hidx : off + n + (j - (z.take off).length - y.cells.length) = j := by simp; omega
              rw [hidx] at hu
              exact hz.2 j u hu
        obtain ⟨cs', hf', hc'⟩ := fill_ok place ρ ps _ _ gs out step (by simpa using hl) (fun k i' x' hk => by simpa using hp (k + 1) i' x' (by simpa using hk)) hf
        refine ⟨cs', ?_, hc'⟩
        simp only [List.map_cons, Instr.fill, hpl]
        rw [if_neg (by simp [hsz]; omega)]
        have hzip : (ρ x).cells.zipIdx.foldl (fun cs (c, j) => cs.setIfInBounds (off + j) c) cs = ((ρ x).cells.toList.zipIdx 0).foldl (fun cs (c, j) => cs.setIfInBounds (off + j) c) cs := by
          rw [← Array.foldl_toList]; simp
        rw [hzip]; exact hf'
      · cases hf
end Go.AM
