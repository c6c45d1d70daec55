/- ValText: walked over the shelf's contracts. No condition. -/
import Derived.Test.YtdlaklminigoaaaDoorAmSfB
import Derived.Test.YtdlaklminigoaaaDoorAmVaA
import Derived.WalkKit
import Derived.OwnWalkIn
import Derived.TacticsInMore
set_option linter.all false
set_option linter.unusedSimpArgs false
set_option linter.unusedVariables false
set_option linter.deprecated false
/-! SfD -/
open Go Go.AM Go.RowKit
namespace FrA
open Go.Proofs
theorem toList_loop (s : ByteArray) : ∀ (m i : Nat) (r : List UInt8), s.size - i = m → ByteArray.toList.loop s i r = r.reverse ++ s.data.toList.drop i
  | 0, i, r, h => by
    unfold ByteArray.toList.loop
    have h1 : s.data.toList.drop i = [] := List.drop_of_length_le (by simp; omega)
    rw [if_neg (by omega), h1, List.append_nil]
  | m + 1, i, r, h => by
    unfold ByteArray.toList.loop
    rw [if_pos (by omega), toList_loop s m (i + 1) _ (by omega)]
    have hi : i < s.data.toList.length := by simp; omega
    rw [List.drop_eq_getElem_cons hi]
    have hg : s.get! i = s.data.toList[i] := by
      show s.data[i]! = _
      rw [getElem!_pos s.data i (by simpa using hi)]; simp
    rw [hg, List.reverse_cons, List.append_assoc]; rfl
theorem toList_data (s : ByteArray) : s.toList = s.data.toList := by
  unfold ByteArray.toList
  rw [toList_loop s s.size 0 [] rfl]; simp
set_option maxRecDepth 1000000
set_option maxHeartbeats 4000000
theorem idx3 (c : UInt8) : (0 ≤ Lib.indexByte [39, 37, 44] c) ↔ (c = 39 ∨ c = 37 ∨ c = 44) := by
  simp only [Lib.indexByte]
  by_cases h1 : (39 : UInt8) = c
  · subst h1; simp
  · by_cases h2 : (37 : UInt8) = c
    · subst h2; simp
    · by_cases h3 : (44 : UInt8) = c
      · subst h3; simp
      · have e1 : ¬ c = 39 := fun h => h1 h.symm
        have e2 : ¬ c = 37 := fun h => h2 h.symm
        have e3 : ¬ c = 44 := fun h => h3 h.symm
        simp [h1, h2, h3, e1, e2, e3]
theorem hexF : ∀ n : Fin 16, (⟨#[48, 49, 50, 51, 52, 53, 54, 55, 56, 57, 97, 98, 99, 100, 101, 102]⟩ : ByteArray)[n.1]'n.2 = hexd n.1 := by decide
theorem hx_at (n : Nat) (h : n < (⟨#[48, 49, 50, 51, 52, 53, 54, 55, 56, 57, 97, 98, 99, 100, 101, 102]⟩ : ByteArray).size) : (⟨#[48, 49, 50, 51, 52, 53, 54, 55, 56, 57, 97, 98, 99, 100, 101, 102]⟩ : ByteArray)[n]'h = hexd n := hexF ⟨n, h⟩
theorem hexd_at : ∀ n, n < 16 → (#[48, 49, 50, 51, 52, 53, 54, 55, 56, 57, 97, 98, 99, 100, 101, 102] : Array UInt8)[n]? = some (hexd n) := by decide
theorem esc {B b : Nat} {p : Value} {l : List UInt8} {c : UInt8} {w : World} {h1 : c.toNat / 16 < (⟨#[48, 49, 50, 51, 52, 53, 54, 55, 56, 57, 97, 98, 99, 100, 101, 102]⟩ : ByteArray).size} {h2 : c.toNat % 16 < (⟨#[48, 49, 50, 51, 52, 53, 54, 55, 56, 57, 97, 98, 99, 100, 101, 102]⟩ : ByteArray).size}
    (i : Lib.BuilderAt 56 5 B b p (Lib.byteCells l ++ [Value.int .u8 37] ++ [Value.int .u8 (((⟨#[48, 49, 50, 51, 52, 53, 54, 55, 56, 57, 97, 98, 99, 100, 101, 102]⟩ : ByteArray)[c.toNat / 16]'h1).toNat : Int)] ++ [Value.int .u8 (((⟨#[48, 49, 50, 51, 52, 53, 54, 55, 56, 57, 97, 98, 99, 100, 101, 102]⟩ : ByteArray)[c.toNat % 16]'h2).toNat : Int)]) w) :
    Lib.BuilderAt 56 5 B b p (Lib.byteCells (l ++ [37, hexd (c.toNat / 16), hexd (c.toNat % 16)])) w := by
  rw [hx_at, hx_at] at i
  simpa [Lib.byteCells] using i
theorem meas {n j : Nat} (h : j < n) : n - (intOf (.int .i64 ((j : Int) + 1))).toNat < n - (intOf (.int .i64 (j : Int))).toNat := by
  show n - ((j : Int) + 1).toNat < n - (j : Int).toNat
  omega
theorem valOk_walk (k n : Int) (s : ByteArray) (w : World) : Calls Tryd.prog 28 #[.agg #[.int .i64 k, .int .i64 n, .string s]] w fun e w' => e = .returned (.bool (decide (vOk (k, n, s.data.toList)))) ∧ Below w.heap.size w w' := by
  go_enter Tryd.func28, Tryd.ntmps28
  go_wp2_with (first | go_in)
  all_goals (go_ret; refine ⟨?_, (Below.refl _ w).alloc (Nat.le_refl _) _⟩)
  all_goals (simp only [toList_data] at *; simp_all [vOk])
  all_goals first
    | omega
    | (intros; omega)
    | (rw [Bool.eq_iff_iff]; simp)
set_option maxHeartbeats 8000000 in
theorem valText_walk (k n : Int) (s : ByteArray) (w : World) (htab : Lib.TabIs Tryd.prog w "internal/strconv.uint64pow10" .u64 Lib.pow10Tab) :
    Calls Tryd.prog 18 #[.agg #[.int .i64 k, .int .i64 n, .string s]] w fun e w' => e = .returned (.string ⟨(vText (k, n, s.data.toList)).toArray⟩) ∧ Below w.heap.size w w' := by
  go_enter Tryd.func18, Tryd.ntmps18
  go_wp2_with (go_at_call 28; refine (valOk_walk k n s _).mono ?_)
  rintro e w1 ⟨rfl, b1⟩
  have B1 : Below w.heap.size w w1 := ((Below.refl _ w).alloc (Nat.le_refl _) _).trans (b1.mono (by rw [World.size_alloc]; omega))
  have hb : w1.heap[w.heap.size]? = some (.cells #[.int .i64 k, .int .i64 n, .string s] 37 (0, 0)) := by
    rw [b1.block w.heap.size (by rw [World.size_alloc]; omega)]; exact heap_alloc_new w _
  have hlt : w.heap.size < w1.heap.size := (Array.getElem?_eq_some_iff.1 hb).1
  have c0 : w1.cell? ⟨w.heap.size, 0, none⟩ = some (.int .i64 k) := by simp [World.cell?, hb]
  have c1 : w1.cell? ⟨w.heap.size, 1, none⟩ = some (.int .i64 n) := by simp [World.cell?, hb]
  have c2 : w1.cell? ⟨w.heap.size, 2, none⟩ = some (.string s) := by simp [World.cell?, hb]
  have t1 : Lib.TabIs Tryd.prog w1 "internal/strconv.uint64pow10" .u64 Lib.pow10Tab := by
    have hn : Tryd.prog.globalNamed "internal/strconv.uint64pow10" = some 0 := by kernel_rfl
    unfold Lib.TabIs World.var? at htab ⊢
    rw [hn] at htab ⊢
    simp only [Option.bind_some] at htab ⊢
    have h0 : 0 < w.heap.size := by
      rcases Nat.eq_zero_or_pos w.heap.size with h2 | h2
      · rw [Array.getElem?_eq_none (by omega)] at htab; cases htab
      · exact h2
    rw [B1.block 0 h0]
    exact htab
  by_cases hv : vOk (k, n, s.data.toList)
  · have hv' := hv
    unfold vOk at hv'
    simp only [hv, decide_true]
    rcases hv' with ⟨e0, e1, e2⟩ | ⟨e0, e1, e2⟩ | ⟨e0, e1, e2⟩ <;> simp only at e0 e1 e2 <;> subst e0
    · go_wp2
      go_ret
      exact ⟨by unfold vText; rw [if_pos hv]; rfl, B1⟩
    · go_wp2_with (go_at_call 29; refine (Tryd.strconv_FormatInt_10 n (by omega) (by omega) _ t1).mono ?_)
      rintro e w2 ⟨rfl, kk, os, rfl⟩
      go_wp2
      go_ret
      exact ⟨by unfold vText; rw [if_pos hv]; rfl, B1.trans ((below_grow w1 kk os).mono (by omega))⟩
    · go_wp2_with (go_at_call 30; refine (Tryd.Builder_WriteByte w1.heap.size w1.heap.size [] 39 _ (Lib.fresh_isBuilder 56 5 w1) (by simp) (by simp)).mono ?_)
      rintro e w2 ⟨rfl, i2, b2⟩
      have d1 : Below w1.heap.size w1 w2 := ((Below.refl _ w1).alloc (Nat.le_refl _) _).trans b2
      have d2 : w2.cell? ⟨w.heap.size, 2, none⟩ = some (.string s) := by
        rw [d1.cell (show (⟨w.heap.size, 2, none⟩ : Addr).block < w1.heap.size from hlt)]; exact c2
      go_wp2
      go_loopw [28] (fun i wr => ∃ j : Nat, i = .int .i64 j ∧ j ≤ s.size ∧ Lib.IsBuilder 56 5 w1.heap.size w1.heap.size (Lib.byteCells (39 :: (s.data.toList.take j).flatMap enc)) wr ∧ Below w1.heap.size w1 wr) (fun i _ => s.size - (intOf i).toNat)
      case atStart => exact ⟨0, rfl, Nat.zero_le _, .inr i2, d1⟩
      case round =>
        obtain ⟨j, rfl, hj, hI, hB⟩ := hrel
        have d2 : wr.cell? ⟨w.heap.size, 2, none⟩ = some (.string s) := by
          rw [hB.cell (show (⟨w.heap.size, 2, none⟩ : Addr).block < w1.heap.size from hlt)]; exact c2
        by_cases hlt2 : j < s.size
        · obtain ⟨c, hc⟩ : ∃ c, s.data.toList[j]? = some c := ⟨_, List.getElem?_eq_getElem (by simpa using hlt2)⟩
          have hgc : s[j] = c := by
            have := List.getElem?_eq_some_iff.1 hc
            obtain ⟨_, h⟩ := this
            rw [← h]; simp [ByteArray.getElem_eq_getElem_data]
          have cl := c.toNat_lt
          have hE : ((s.data.toList.take j).flatMap enc).length ≤ 36 := by
            have h8 := (encs_len (s.data.toList.take j)).2
            have h9 : (s.data.toList.take j).length ≤ s.data.toList.length := by rw [List.length_take]; omega
            omega
          have htk : (s.data.toList.take (j + 1)).flatMap enc = (s.data.toList.take j).flatMap enc ++ enc c := by
            rw [List.take_add_one, hc]; simp
          go_wp2_with (go_at_call 31; refine (Tryd.strings_ContainsRune_ascii ⟨#[39, 37, 44]⟩ _ _ (by omega) (by omega)).mono ?_)
          · have q1 : (33 : Int) ≤ c.toNat := by assumption
            have q2 : (c.toNat : Int) ≤ 126 := by assumption
            have q3 : (!decide (0 ≤ Lib.indexByte [39, 37, 44] c)) = true := by assumption
            have hsz : s.size = s.data.toList.length := by simp
            have hw : wrap64 ((j : Int) + 1) = (j : Int) + 1 := by unfold wrap64; omega
            have hp : plainB c = true := by
              have q4 : ¬ (0 ≤ Lib.indexByte [39, 37, 44] c) := by simpa using q3
              rw [idx3, not_or, not_or] at q4
              unfold plainB
              simp only [decide_eq_true_eq]
              exact ⟨by omega, by omega, q4.1, q4.2.1, q4.2.2⟩
            refine (Tryd.Builder_WriteByte w1.heap.size w1.heap.size _ c.toNat wr hI (by rw [Lib.byteCells_length, List.length_cons]; omega) hB.size).mono ?_
            rintro e w3 ⟨rfl, i3, b3⟩
            go_wp2
            go_roundw
            case rel =>
              refine ⟨j + 1, by simp [hw], hlt2, ?_, hB.trans b3⟩
              rw [htk, enc, if_pos hp]
              exact .inr (by simpa [Lib.byteCells] using i3)
            case measure => exact meas hlt2
          all_goals
            have hsz : s.size = s.data.toList.length := by simp
            have hw : wrap64 ((j : Int) + 1) = (j : Int) + 1 := by unfold wrap64; omega
            have hp : ¬ plainB c = true := by
              intro h7
              have h8 := plain_ne h7
              first
                | omega
                | (have q3 : (!decide (0 ≤ Lib.indexByte [39, 37, 44] c)) = false := by assumption
                   have q4 : 0 ≤ Lib.indexByte [39, 37, 44] c := by simpa using q3
                   rw [idx3] at q4
                   rcases q4 with q4 | q4 | q4
                   · exact h8.2.2.1 q4
                   · exact h8.2.2.2.1 q4
                   · exact h8.2.2.2.2 q4)
            clear hsz
            refine (Tryd.Builder_WriteByte w1.heap.size w1.heap.size _ 37 wr hI (by rw [Lib.byteCells_length, List.length_cons]; omega) hB.size).mono ?_
            rintro e w3 ⟨rfl, i3, b3⟩
            have hB3 := hB.trans b3
            go_wp2_with (go_at_call 30; fail)
            refine (Tryd.Builder_WriteByte w1.heap.size w1.heap.size _ _ w3 (.inr i3) (by rw [List.length_append, Lib.byteCells_length, List.length_cons]; simp only [List.length_singleton]; omega) hB3.size).mono ?_
            rintro e w4 ⟨rfl, i4, b4⟩
            have hB4 := hB3.trans b4
            go_wp2_with (go_at_call 30; fail)
            refine (Tryd.Builder_WriteByte w1.heap.size w1.heap.size _ _ w4 (.inr i4) (by rw [List.length_append, List.length_append, Lib.byteCells_length, List.length_cons]; simp only [List.length_singleton]; omega) hB4.size).mono ?_
            rintro e w5 ⟨rfl, i5, b5⟩
            go_wp2
            go_roundw
            case rel =>
              refine ⟨j + 1, by simp [hw], hlt2, ?_, hB4.trans b5⟩
              rw [htk, enc, if_neg hp]
              exact .inr (esc i5)
            case measure => rw [hw]; exact meas hlt2
        · have hje : j = s.size := by omega
          subst hje
          have hall : s.data.toList.take s.size = s.data.toList := List.take_of_length_le (by simp)
          rw [hall] at hI
          go_wp2_with (go_at_call 30; fail)
          have hE : (s.data.toList.flatMap enc).length ≤ 36 := by
            have h8 := (encs_len s.data.toList).2
            omega
          refine (Tryd.Builder_WriteByte w1.heap.size w1.heap.size _ 39 wr hI (by rw [Lib.byteCells_length, List.length_cons]; omega) hB.size).mono ?_
          rintro e w3 ⟨rfl, i3, b3⟩
          have hB3 := hB.trans b3
          have i4 : Lib.IsBuilder 56 5 w1.heap.size w1.heap.size (Lib.byteCells (39 :: (s.data.toList.flatMap enc ++ [39]))) w3 := .inr (by simpa [Lib.byteCells] using i3)
          go_wp2_with (go_at_call 32; fail)
          refine (Tryd.Builder_String_any w1.heap.size w1.heap.size _ w3 i4 hB3.size).mono ?_
          rintro e w4 ⟨rfl, b4⟩
          go_wp2
          go_ret
          exact ⟨by unfold vText; rw [if_pos hv]; rfl, B1.trans ((hB3.trans b4).mono (by omega))⟩
  · simp only [hv, decide_false]
    go_wp2
    go_ret
    exact ⟨by unfold vText; rw [if_neg hv]; rfl, B1⟩
end FrA

