/- What is held against each other. No condition. -/
import Derived.Test.YtbhdjaccdaccbaaGreatAmG05
import Derived.Laws.StructEq
set_option linter.all false
set_option linter.unusedSimpArgs false
set_option linter.unusedVariables false
set_option linter.deprecated false
/-! Op7 -/
section
namespace Go.AM
variable {w : World} {κ : Cfg} {h : Heap} {clk : Nat} {P : Program}

theorem beq_bytes (x y : List UInt8) : ((⟨x.toArray⟩ : ByteArray) == ⟨y.toArray⟩) = (x == y) := by
  rw [beq_toListBytes, Lib.toList_data, Lib.toList_data]
theorem eqK_ok {D : Nat} {t : TypeId} {k : SK} {a b : AV} {va vb : Value} {r : Bool} (ht : flatT P 1 t = some [k]) (ha : VR w κ h clk a va) (hb : VR w κ h clk b vb) (hk : eqK k a b = some r) :
    (Op.equalIn (D + 1) t va vb).run P w = .ok r w := by
  unfold flatT at ht
  unfold eqK at hk
  split at hk
  · have e1 := ha.of_b; have e2 := hb.of_b; subst e1; subst e2; cases hk
    split at ht <;> try (first | cases ht | (simp at ht; done))
    · rename_i hu; simp only [Op.equalIn, Sem.run_bind, und_run hu, Result.andThen]; rfl
    · split at ht
      · cases ht
      · rename_i fs _ _
        exfalso
        cases hfs : fs.toList with
        | nil => rw [hfs] at ht; simp [flatF] at ht
        | cons f fs' => rw [hfs] at ht; simp only [flatF] at ht; split at ht <;> first | cases ht | (simp [flatT] at ht)
  · have e1 := ha.of_i; have e2 := hb.of_i; subst e1; subst e2
    split at hk
    · rename_i hkk; subst hkk; cases hk
      split at ht <;> try (first | cases ht | (simp at ht; done))
      · rename_i hu; simp only [Op.equalIn, Sem.run_bind, und_run hu, Result.andThen, if_true]; rfl
      · split at ht
        · cases ht
        · rename_i fs _ _
          exfalso
          cases hfs : fs.toList with
          | nil => rw [hfs] at ht; simp [flatF] at ht
          | cons f fs' => rw [hfs] at ht; simp only [flatF] at ht; split at ht <;> first | cases ht | (simp [flatT] at ht)
    · cases hk
  · have e1 := ha.of_s; have e2 := hb.of_s; subst e1; subst e2; cases hk
    split at ht <;> try (first | cases ht | (simp at ht; done))
    · rename_i hu; simp only [Op.equalIn, Sem.run_bind, und_run hu, Result.andThen, ← beq_bytes]; rfl
    · split at ht
      · cases ht
      · rename_i fs _ _
        exfalso
        cases hfs : fs.toList with
        | nil => rw [hfs] at ht; simp [flatF] at ht
        | cons f fs' => rw [hfs] at ht; simp only [flatF] at ht; split at ht <;> first | cases ht | (simp [flatT] at ht)
  · cases hk

/-- The value at a place among cells. -/
def partV (agg : Bool) (xs : Array Value) (off n : Nat) : Value := if agg then .agg (xs.extract off (off + n)) else xs.getD off Go.undef
theorem part_run {t : TypeId} {xs : Array Value} {off n : Nat} (hi : (P.info? t).isSome = true) (hu : (P.underlying t).isSome = true) (hn : P.cellsOf t = n) (hl : off + n ≤ xs.size) (h1 : isAggT P t = false → n = 1) :
    (part t xs off).run P w = .ok (partV (isAggT P t) xs off n) w := by
  unfold part partV
  simp only [Sem.run_bind, isAgg_run hu, Result.andThen]
  cases ha : isAggT P t with
  | true => simp only [if_true, Sem.run_bind, sizeOf_run hi, hn, Result.andThen, Sem.run_pure]
  | false =>
    have := h1 ha
    have hlt : off < xs.size := by omega
    simp [Array.getElem?_eq_getElem hlt, Array.getD_eq_getD_getElem?]

theorem eqCells_split {k1 k2 : List SK} : ∀ {xs ys : List AV} {r : Bool}, eqCells (k1 ++ k2) xs ys = some r →
    ∃ a b, eqCells k1 (xs.take k1.length) (ys.take k1.length) = some a ∧ eqCells k2 (xs.drop k1.length) (ys.drop k1.length) = some b ∧ r = (a && b) := by
  induction k1 with
  | nil => intro xs ys r hr; exact ⟨true, r, by simp [eqCells], by simpa using hr, by simp⟩
  | cons k ks ih =>
    intro xs ys r hr
    cases xs with
    | nil => simp [eqCells] at hr
    | cons x xs =>
      cases ys with
      | nil => simp [eqCells] at hr
      | cons y ys =>
        simp only [List.cons_append, eqCells] at hr
        cases h1 : eqK k x y with
        | none => rw [h1] at hr; cases hr
        | some a =>
          cases h2 : eqCells (ks ++ k2) xs ys with
          | none => rw [h1, h2] at hr; cases hr
          | some b =>
            rw [h1, h2] at hr
            simp only [Option.bind_some, Option.some.injEq] at hr
            obtain ⟨c, d, h3, h4, h5⟩ := ih h2
            refine ⟨a && c, d, by simp [eqCells, h1, h3], by simpa using h4, ?_⟩
            rw [← hr, h5, Bool.and_assoc]
theorem eqCells_len {ks : List SK} : ∀ {xs ys : List AV} {r : Bool}, eqCells ks xs ys = some r → xs.length = ks.length ∧ ys.length = ks.length := by
  induction ks with
  | nil => intro xs ys r hr; cases xs <;> cases ys <;> simp_all [eqCells]
  | cons k ks ih =>
    intro xs ys r hr
    cases xs with
    | nil => simp [eqCells] at hr
    | cons x xs =>
      cases ys with
      | nil => simp [eqCells] at hr
      | cons y ys =>
        simp only [eqCells] at hr
        cases h1 : eqK k x y with
        | none => rw [h1] at hr; cases hr
        | some a =>
          cases h2 : eqCells ks xs ys with
          | none => rw [h1, h2] at hr; cases hr
          | some b => have := ih h2; simp [this.1, this.2]

theorem Cells.part {as : List AV} {xs : Array Value} {off n : Nat} (hc : Cells w κ h clk as xs) (hl : off + n ≤ as.length) : Cells w κ h clk ((as.drop off).take n) (xs.extract off (off + n)) := by
  have := hc.1
  refine ⟨by simp; omega, fun j x hx => ?_⟩
  have hj : j < n := by
    have := (List.getElem?_eq_some_iff.1 hx).1
    simp at this; omega
  rw [List.getElem?_take, if_pos hj, List.getElem?_drop] at hx
  have h2 := hc.2 _ x hx
  have : (xs.extract off (off + n)).getD j Go.undef = xs.getD (off + j) Go.undef := by
    simp only [Array.getD_eq_getD_getElem?, Array.getElem?_extract]
    rw [if_pos (by omega)]
  rw [this]; exact h2

theorem eq_flat : ∀ (d : Nat) (t : TypeId) (ks : List SK), flatT P d t = some ks → ∀ (D : Nat), d ≤ D →
    (isAggT P t = true → ∀ (as bs : List AV) (xs ys : Array Value) (r : Bool), Cells w κ h clk as xs → Cells w κ h clk bs ys → eqCells ks as bs = some r → (Op.equalIn D t (.agg xs) (.agg ys)).run P w = .ok r w) ∧
    (isAggT P t = false → ∃ k, ks = [k] ∧ flatT P 1 t = some [k])
  | 0, t, ks, ht, _, _ => by simp [flatT] at ht
  | d + 1, t, ks, ht, D, hD => by
    obtain ⟨D, rfl⟩ : ∃ E, D = E + 1 := ⟨D - 1, by omega⟩
    constructor
    · intro hagg as bs xs ys r ha hb hr
      unfold flatT at ht
      split at ht
      · rename_i hu; simp [isAggT, hu] at hagg
      · rename_i hu; simp [isAggT, hu] at hagg
      · rename_i hu; simp [isAggT, hu] at hagg
      · rename_i fs hu
        split at ht
        · cases ht
        · rename_i hst
          have hst' : P.stoodInHeld t = false := by simpa using hst
          have hf : P.fieldsOf t = fs := by simp [Program.fieldsOf, hu]
          rw [run_equalIn_struct w D t xs ys (by rw [hf]; exact hu) hst', hf]
          have key : ∀ (l : List Field) (off : Nat) (kk : List SK) (q : Bool), flatF P (flatT P d) l off = some kk → eqCells kk (as.drop off) (bs.drop off) = some q → off ≤ as.length → off ≤ bs.length →
              (Op.eqFields D xs ys l).run P w = .ok q w := by
            intro l
            induction l with
            | nil =>
              intro off kk q h1 h2 hla hlb
              simp [flatF] at h1; subst h1
              have : as.drop off = [] ∧ bs.drop off = [] := by
                have := eqCells_len h2
                exact ⟨List.eq_nil_of_length_eq_zero (by simpa using this.1), List.eq_nil_of_length_eq_zero (by simpa using this.2)⟩
              rw [this.1, this.2] at h2; simp [eqCells] at h2; subst h2
              rfl
            | cons f l ih =>
              intro off kk q h1 h2 hla hlb
              simp only [flatF] at h1
              split at h1
              · rename_i hc
                simp only [Bool.and_eq_true, bne_iff_ne, ne_eq, beq_iff_eq] at hc
                obtain ⟨⟨⟨hn, ho⟩, hi⟩, hu'⟩ := hc
                split at h1
                · rename_i k1 hk1
                  split at h1
                  · rename_i hc2
                    simp only [Bool.and_eq_true, beq_iff_eq, Bool.or_eq_true] at hc2
                    cases h3 : flatF P (flatT P d) l (off + k1.length) with
                    | none => rw [h3] at h1; cases h1
                    | some k2 =>
                      rw [h3] at h1; simp at h1; subst h1
                      obtain ⟨a, b, e1, e2, e3⟩ := eqCells_split h2
                      rw [List.drop_drop, List.drop_drop] at e2
                      have hl1 := eqCells_len h2
                      simp only [List.length_drop, List.length_append] at hl1
                      have hrest := ih (off + k1.length) k2 b h3 e2 (by omega) (by omega)
                      have h1a : isAggT P f.type = false → k1.length = 1 := fun hh => by
                        rcases hc2.2 with h5 | h5
                        · rw [hh] at h5; cases h5
                        · exact h5
                      have sa := ha.1; have sb := hb.1
                      have pa := part_run (P := P) (w := w) (xs := xs) (off := off) hi hu' hc2.1 (by omega) h1a
                      have pb := part_run (P := P) (w := w) (xs := ys) (off := off) hi hu' hc2.1 (by omega) h1a
                      have ih' := eq_flat d f.type k1 hk1 D (by omega)
                      have heq : (Op.equalIn D f.type (partV (isAggT P f.type) xs off k1.length) (partV (isAggT P f.type) ys off k1.length)).run P w = .ok a w := by
                        cases hag : isAggT P f.type with
                        | true =>
                          have := ih'.1 hag _ _ _ _ a (ha.part (off := off) (n := k1.length) (by omega)) (hb.part (off := off) (n := k1.length) (by omega)) e1
                          simpa [partV] using this
                        | false =>
                          obtain ⟨k, rfl, hfl⟩ := ih'.2 hag
                          obtain ⟨D', rfl⟩ : ∃ E, D = E + 1 := by
                            cases d with
                            | zero => simp [flatT] at hk1
                            | succ d => exact ⟨D - 1, by omega⟩
                          have la : off < as.length := by simp at hl1; omega
                          have lb : off < bs.length := by simp at hl1; omega
                          have ea : (as.drop off).take 1 = [as[off]] := by rw [List.take_one]; simp [List.head?_drop, List.getElem?_eq_getElem la]
                          have eb : (bs.drop off).take 1 = [bs[off]] := by rw [List.take_one]; simp [List.head?_drop, List.getElem?_eq_getElem lb]
                          simp only [List.length_singleton, ea, eb, eqCells] at e1
                          cases h6 : eqK k as[off] bs[off] with
                          | none => rw [h6] at e1; cases e1
                          | some r' =>
                            rw [h6] at e1; simp at e1; subst e1
                            have := eqK_ok (D := D') hfl (ha.2 off _ (List.getElem?_eq_getElem la)) (hb.2 off _ (List.getElem?_eq_getElem lb)) h6
                            simpa [partV] using this
                      have hn' : f.name ≠ "_" := hn
                      simp only [Op.eqFields, if_pos hn', ho, Sem.run_bind, pa, pb, heq, Result.andThen]
                      subst e3
                      cases a
                      · simp
                      · simpa using hrest
                  · cases h1
                · cases h1
              · cases h1
          exact key fs.toList 0 ks r ht (by simpa using hr) (Nat.zero_le _) (Nat.zero_le _)
      · cases ht
    · intro hagg
      unfold flatT at ht
      split at ht
      · rename_i hu; cases ht; exact ⟨_, rfl, by simp [flatT, hu]⟩
      · rename_i hu; cases ht; exact ⟨_, rfl, by simp [flatT, hu]⟩
      · rename_i hu; cases ht; exact ⟨_, rfl, by simp [flatT, hu]⟩
      · rename_i fs hu; simp [isAggT, hu] at hagg
      · cases ht
end Go.AM
end
