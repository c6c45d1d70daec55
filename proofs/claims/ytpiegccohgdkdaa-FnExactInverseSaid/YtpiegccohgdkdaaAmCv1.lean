/- Rows of structs of plain values and rows, as they come in. No condition. -/
import Derived.Test.YtpiegccohgdkdaaAmFuns
import Derived.Test.YtpiegccohgdkdaaProg
import Derived.Test.YtpiegccohgdkdaaAmDk7
import Derived.Test.YtpiegccohgdkdaaAmDk6
set_option linter.all false
set_option linter.unusedSimpArgs false
set_option linter.unusedVariables false
set_option linter.deprecated false
/-! Row3 -/
namespace Go.AM
theorem unmap2 {α : Type} {c : α → List AV} {Q : α → Prop} : ∀ (es : List (List AV)), (∀ r ∈ es, ∃ f, r = c f ∧ Q f) → ∃ l : List α, es = l.map c ∧ ∀ f ∈ l, Q f
  | [], _ => ⟨[], rfl, fun f hf => by cases hf⟩
  | r :: es, h => by
    obtain ⟨f, hf, hq⟩ := h r (by simp)
    obtain ⟨l, hl, hql⟩ := unmap2 es (fun q hq => h q (by simp [hq]))
    refine ⟨f :: l, by rw [hl, hf]; rfl, fun g hg => ?_⟩
    rcases List.mem_cons.1 hg with rfl | hg
    · exact hq
    · exact hql g hg
section
variable {H : Type} {enc : TypeId × Value → H} {P : Program} {W : World} {base : Nat} {sp : Nat → Bool} {hd : Bool} {fuel : Nat} {t e : TypeId} {cs : List Value} {x : DataW H × List MemPlace}
theorem read_rows2 {R : List AV → Prop} {n : Nat} {v : Value} (ht : P.underlying t = some (.slice e)) (hn : P.cellsOf e = n) (hpos : 0 < n)
    (he : ∀ m cs y, DataW.trod enc P W 0 sp hd m e cs = some y → ∃ r, R r ∧ r.length = n ∧ ∀ (j : Nat) x, r[j]? = some x → ∃ u, cs[j]? = some u ∧ Ro W (fun b => b < W.heap.size) x u)
    (h : DataW.trod enc P W 0 sp hd fuel t [v] = some x) : ∃ es, Ro W (fun b => b < W.heap.size) (.dat n es) v ∧ es.length ≤ maxLen ∧ ∀ r ∈ es, R r := by
  rcases DataW.trod_slice ht h with ⟨h1, _⟩ | ⟨a, len, cap, elems, rest, m, _, hv, _, _, hlc, hcm, hel, hcells, _, _⟩
  · simp only [List.cons.injEq, and_true] at h1; subst h1
    exact ⟨[], .dat0 _ _ _, by simp, fun r hr => by cases hr⟩
  simp only [List.cons.injEq, and_true] at hv; subst hv
  rw [hn] at hcells
  have one : ∀ i, i < len → ∃ r, R r ∧ r.length = n ∧ ∀ (j : Nat) x, r[j]? = some x → ∃ u, W.cell? (a.add (i * n + j)) = some u ∧ Ro W (fun b => b < W.heap.size) x u := by
    intro i hi
    have h1 := hcells i hi
    rw [List.getElem?_eq_getElem (by omega)] at h1
    obtain ⟨cs, hcs, hy⟩ := Option.bind_eq_some_iff.1 h1
    obtain ⟨_, hcl, hcc⟩ := World.cells?_some hcs
    obtain ⟨r, hr1, hr2, hr3⟩ := he m cs _ hy
    refine ⟨r, hr1, hr2, fun j x hx => ?_⟩
    obtain ⟨u, hu, hro⟩ := hr3 j x hx
    have hj : j < n := by rw [← hr2]; exact (List.getElem?_eq_some_iff.1 hx).1
    refine ⟨u, ?_, hro⟩
    have := hcc j hj
    rw [hu] at this
    rw [← this]
    congr 1
    rw [add_add]
  have many : ∀ k, k ≤ len → ∃ es : List (List AV), es.length = k ∧ ∀ (i : Nat) r, es[i]? = some r → R r ∧ r.length = n ∧ ∀ (j : Nat) x, r[j]? = some x → ∃ u, W.cell? (a.add (i * n + j)) = some u ∧ Ro W (fun b => b < W.heap.size) x u := by
    intro k
    induction k with
    | zero => exact fun _ => ⟨[], rfl, fun i r hr => by simp at hr⟩
    | succ k ih =>
      intro hk
      obtain ⟨es, h1, h2⟩ := ih (by omega)
      obtain ⟨r, hr⟩ := one k (by omega)
      refine ⟨es ++ [r], by simp [h1], fun i q hq => ?_⟩
      by_cases hi : i < es.length
      · rw [List.getElem?_append_left hi] at hq; exact h2 i q hq
      · rw [List.getElem?_append_right (by omega)] at hq
        have : i - es.length = 0 := by
          have := (List.getElem?_eq_some_iff.1 hq).1
          simp at this; omega
        rw [this] at hq
        simp only [List.getElem?_cons_zero, Option.some.injEq] at hq
        subst hq
        have e2 : i = k := by omega
        rw [e2]; exact hr
  obtain ⟨es, hl, hes⟩ := many len (Nat.le_refl _)
  refine ⟨es, ?_, by omega, fun r hr => ?_⟩
  · by_cases h0 : len = 0
    · subst h0
      have : es = [] := List.length_eq_zero_iff.1 hl
      subst this
      exact .dat0 _ _ _
    · have hgets : ∀ i j x, cellOf es i j = some x → ∃ u, W.cell? (a.add (i * n + j)) = some u ∧ Ro W (fun b => b < W.heap.size) x u := by
        intro i j x hx
        unfold cellOf at hx
        obtain ⟨r, hr, hx⟩ := Option.bind_eq_some_iff.1 hx
        exact (hes i r hr).2.2 j x hx
      obtain ⟨x0, hx0⟩ : ∃ x0, cellOf es 0 0 = some x0 := by
        have h1 : es[0]? = some es[0] := List.getElem?_eq_getElem (by omega)
        have h2 := (hes 0 _ h1).2.1
        exact ⟨es[0][0], by unfold cellOf; rw [h1]; simp⟩
      obtain ⟨u0, hu0, _⟩ := hgets 0 0 x0 hx0
      obtain ⟨ab, ao, spot⟩ := a
      have hspot : spot = none := by simpa [Addr.add] using World.cell?_spot hu0
      subst hspot
      have := Ro.dat (w := W) (X := fun b => b < W.heap.size) es ab ao cap n (fun i j => (W.cell? (at_ ab (ao + i * n + j))).getD Go.undef)
        (by have := World.block_lt_of_cell? W _ hu0; simpa [Addr.add] using this) (by omega) (fun r hr => by obtain ⟨i, hi⟩ := List.getElem?_of_mem hr; exact (hes i r hi).2.1)
        (fun i j x hx => by
          obtain ⟨u, hu, _⟩ := hgets i j x hx
          have e1 : (⟨ab, ao, none⟩ : Addr).add (i * n + j) = at_ ab (ao + i * n + j) := by simp [Addr.add, Nat.add_assoc]
          rw [e1] at hu
          rw [hu]; rfl)
        (fun i j x hx => by
          obtain ⟨u, hu, hro⟩ := hgets i j x hx
          have e1 : (⟨ab, ao, none⟩ : Addr).add (i * n + j) = at_ ab (ao + i * n + j) := by simp [Addr.add, Nat.add_assoc]
          rw [e1] at hu
          rw [hu]; exact hro)
      rw [hl] at this
      exact this
  · obtain ⟨i, hi⟩ := List.getElem?_of_mem hr
    exact (hes i r hi).1
end
end Go.AM

/-! KsL -/
open Go Go.AM
namespace FrA
open Go.AM.L
set_option maxRecDepth 100000
def k6 : KF Go.Proofs.Try.f6 := ⟨
 .seq (R [o 2 (.mv (.c (.b false)))]) (.seq (R [o 3 (.mv (n 1048576))]) (.seq (R [m 11 0, m 12 3, o 13 (.call (.f 27) [.t 11, .t 12]), m 3 13]) (.seq (.seq (R [m 14 3, o 15 (.bin
    .lss (.t 14) (n 0))]) (.cond (.t 15) (.seq (R [o 2 (.mv (.c (.b true)))]) .ret) .skip)) (.seq (R [m 16 0, o 17 (.call (.f 29) [.t 16]), G, o 18 (.call (.f 28) [.t 17]), m 4 18])
    (.seq (R [m 19 0, o 20 (.call (.f 29) [.t 19]), m 5 20]) (.seq (R [m 21 5, o 22 (.call (.f 30) [.t 21]), m 6 22]) (.seq (.seq (R [m 23 6, m 24 4, o 25 (.call (.f 31) [.t 23, .t
    24]), o 26 (.un .not (.t 25))]) (.cond (.t 26) (.seq (R [o 2 (.mv (.c (.b false)))]) .ret) .skip)) (.seq (.seq (R [m 27 5, m 28 0, o 29 (.call (.f 29) [.t 28]), o 30 (.call (.f
    31) [.t 27, .t 29]), o 31 (.un .not (.t 30))]) (.cond (.t 31) (.seq (R [o 2 (.mv (.c (.b false)))]) .ret) .skip)) (.seq (R [o 7 (.mv (n 1))]) (.seq (R [m 32 5, m 33 7, o 34
    (.call (.f 32) [.t 32, .t 33]), m 7 34]) (.seq (.seq (R [m 35 7, o 36 (.bin .lss (.t 35) (n 0)), m 37 36, q 38 37 false (.mv (.t 6)), q 39 37 false (.mv (.t 4)), q 40 37 false
    (.call (.f 31) [.t 38, .t 39]), q 41 37 false (.un .not (.t 40)), o 42 (.pick (.t 37) (.c (.b true)) (.t 41))]) (.cond (.t 42) (.seq (R [o 2 (.mv (.c (.b false)))]) .ret)
    .skip)) (.seq (R [o 8 (.mv (n 1))]) (.seq (R [m 43 6, m 44 8, o 45 (.call (.f 32) [.t 43, .t 44]), m 8 45]) (.seq (R [o 9 (.mv (n 1))]) (.seq (R [m 46 6, m 47 9, o 48 (.call (.f
    33) [.t 46, .t 47]), m 9 48]) (.seq (.seq (R [m 49 9, o 50 (.bin .lss (.t 49) (n 0))]) (.cond (.t 50) (.seq (R [o 2 (.mv (.c (.b false)))]) .ret) .skip)) (.seq (.seq (R [m 51 9,
    m 52 8, o 53 (.bin .neq (.t 51) (.t 52))]) (.cond (.t 53) (.seq (R [o 2 (.mv (.c (.b false)))]) .ret) .skip)) (.seq (R [m 54 0, o 55 (.call (.f 29) [.t 54]), o 56 (.call (.f 30)
    [.t 55]), m 10 56]) (.seq (.seq (R [m 57 10, m 58 4, o 59 (.call (.f 31) [.t 57, .t 58]), o 60 (.un .not (.t 59))]) (.cond (.t 60) (.seq (R [o 2 (.mv (.c (.b false)))]) .ret)
    .skip)) (.seq (R [o 9 (.mv (n 1))]) (.seq (R [m 61 6, m 62 9, o 63 (.call (.f 33) [.t 61, .t 62]), m 9 63]) (.seq (.seq (R [m 64 9, o 65 (.bin .lss (.t 64) (n 0))]) (.cond (.t
    65) (.seq (R [o 2 (.mv (.c (.b false)))]) .ret) .skip)) (.seq (.seq (R [m 66 9, m 67 8, o 68 (.bin .neq (.t 66) (.t 67))]) (.cond (.t 68) (.seq (R [o 2 (.mv (.c (.b false)))])
    .ret) .skip)) (.seq (R [o 2 (.mv (.c (.b true)))]) .ret)))))))))))))))))))))))),
  by kernel_rfl⟩
def k27 : KF Go.Proofs.Try.f27 := ⟨
 .seq (R [o 4 (.mv (n 0))]) (.seq (R [m 6 1, m 7 0, o 8 (.len false (.t 7)), o 9 (.bin .sub (.t 6) (.t 8)), m 1 9]) (.seq (.seq (R [m 10 1, o 11 (.bin .lss (.t 10) (n 0))]) (.cond
    (.t 11) (.seq (R [o 4 (.mv (n (-1)))]) .ret) .skip)) (.seq (.seq (R [o 5 (.mv (n 0))]) (.block 0 (.loop (.seq (.seq (R [m 12 5, m 13 0, o 14 (.len false (.t 13)), o 15 (.bin
    .lss (.t 12) (.t 14))]) (.cond (.t 15) .skip (.exit 0))) (.seq (.block 1 (.seq (R [m 18 0, m 19 5, o 20 (.idx 4 (.t 18) (.t 19)), o 21 (.load true 4 (.t 20)), m 22 1, o 23
    (.call (.f 69) [.t 21, .t 22]), m 1 23]) (.seq (R [m 24 1, o 25 (.bin .lss (.t 24) (n 0))]) (.cond (.t 25) (.seq (R [o 4 (.mv (n (-1)))]) .ret) .skip)))) (R [m 16 5, o 17 (.bin
    .add (.t 16) (n 1)), m 5 17])))))) (.seq (R [m 26 1, m 4 26]) .ret)))),
  by kernel_rfl⟩
def k28 : KF Go.Proofs.Try.f28 := ⟨
 .seq (R [o 2 (.mv (.c .nils))]) (.seq (R [o 5 (.bslice 4 0 [.i .i64 0, .i .i64 0, .nils, .nils] []), m 3 5]) (.seq (.seq (R [m 6 0, o 7 (.len false (.t 6)), o 8 (.bin .sub (.t 7)
    (n 1)), m 4 8]) (.block 0 (.loop (.seq (.seq (R [m 9 4, o 10 (.bin .geq (.t 9) (n 0))]) (.cond (.t 10) .skip (.exit 0))) (.seq (.block 1 (D [m 13 3, m 14 0, m 15 4, o 16 (.idx 4
    (.t 14) (.t 15)), o 17 (.fld 0 (.t 16)), o 18 (.load false 1 (.t 17)), m 19 0, m 20 4, o 21 (.idx 4 (.t 19) (.t 20)), o 22 (.fld 1 (.t 21)), o 23 (.load false 1 (.t 22)), m 24
    0, m 25 4, o 26 (.idx 4 (.t 24) (.t 25)), o 27 (.fld 3 (.t 26)), o 28 (.load false 1 (.t 27)), o 29 (.call0 (.f 70) [.t 28]), m 30 0, m 31 4, o 32 (.idx 4 (.t 30) (.t 31)), o 33
    (.fld 2 (.t 32)), o 34 (.load false 1 (.t 33)), o 35 (.call0 (.f 70) [.t 34]), o 36 (.build [.i .i64 0, .i .i64 0, .nils, .nils] [(0, 1, .t 18), (1, 1, .t 23), (2, 1, .t 29),
    (3, 1, .t 35)]), o 37 (.bslice 4 1 [.i .i64 0, .i .i64 0, .nils, .nils] [(0, .t 36)]), o 38 (.app 4 64 [.i .i64 0, .i .i64 0, .nils, .nils] (.t 13) (.t 37)), m 3 38] [[], [],
    [], [1, 2], [3], [4], [], [], [6, 7], [8], [9], [], [], [11, 12], [13], [14], [15], [], [], [17, 18], [19], [20], [21, 16], [5, 10, 16, 22], [23], [0, 24, 22], [25, 25, 0, 1, 2,
    3, 4, 5, 6, 7, 8, 9, 10, 11, 12, 13, 14, 15, 16, 17, 18, 19, 20, 21, 22, 23, 24, 25]])) (R [m 11 4, o 12 (.bin .sub (.t 11) (n 1)), m 4 12])))))) (.seq (R [m 39 3, m 2 39])
    .ret))),
  by kernel_rfl⟩
def k29 : KF Go.Proofs.Try.f29 := ⟨
 .seq (R [o 2 (.mv (.c .nils))]) (.seq (R [m 5 0, o 6 (.len false (.t 5)), o 7 (.mks 4 64 [.i .i64 0, .i .i64 0, .nils, .nils] (.t 6) (.t 6)), m 3 7]) (.seq (.seq (R [o 4 (.mv (n
    0))]) (.block 0 (.loop (.seq (.seq (R [m 8 4, m 9 0, o 10 (.len false (.t 9)), o 11 (.bin .lss (.t 8) (.t 10))]) (.cond (.t 11) .skip (.exit 0))) (.seq (.block 1 (R [m 14 3, m
    15 4, m 16 0, m 17 4, o 18 (.idx 4 (.t 16) (.t 17)), o 19 (.load true 4 (.t 18)), o 20 (.call (.f 71) [.t 19]), o 21 (.idx 4 (.t 14) (.t 15)), x (.store 4 (.t 21) (.t 20)), G]))
    (R [m 12 4, o 13 (.bin .add (.t 12) (n 1)), m 4 13])))))) (.seq (R [m 22 3, m 2 22]) .ret))),
  by kernel_rfl⟩
def k31 : KF Go.Proofs.Try.f31 := ⟨
 .seq (R [o 4 (.mv (.c (.b false)))]) (.seq (.seq (R [m 6 0, o 7 (.len false (.t 6)), m 8 1, o 9 (.len false (.t 8)), o 10 (.bin .neq (.t 7) (.t 9))]) (.cond (.t 10) (.seq (R [o 4
    (.mv (.c (.b false)))]) .ret) .skip)) (.seq (.seq (R [o 5 (.mv (n 0))]) (.block 0 (.loop (.seq (.seq (R [m 11 5, m 12 0, o 13 (.len false (.t 12)), o 14 (.bin .lss (.t 11) (.t
    13))]) (.cond (.t 14) .skip (.exit 0))) (.seq (.block 1 (.seq (D [m 17 0, m 18 5, o 19 (.idx 4 (.t 17) (.t 18)), o 20 (.load true 4 (.t 19)), m 21 1, m 22 5, o 23 (.idx 4 (.t
    21) (.t 22)), o 24 (.load true 4 (.t 23)), o 25 (.call0 (.f 74) [.t 20, .t 24]), o 26 (.un .not (.t 25))] [[], [], [0, 1], [2], [], [], [4, 5], [6], [3, 7], [8]]) (.cond (.t 26)
    (.seq (R [o 4 (.mv (.c (.b false)))]) .ret) .skip))) (R [m 15 5, o 16 (.bin .add (.t 15) (n 1)), m 5 16])))))) (.seq (R [o 4 (.mv (.c (.b true)))]) .ret))),
  by kernel_rfl⟩
def k32 : KF Go.Proofs.Try.f32 := ⟨
 .seq (R [o 4 (.mv (n 0))]) (.seq (.seq (R [o 5 (.mv (n 0))]) (.block 0 (.loop (.seq (.seq (R [m 6 5, m 7 0, o 8 (.len false (.t 7)), o 9 (.bin .lss (.t 6) (.t 8))]) (.cond (.t 9)
    .skip (.exit 0))) (.seq (.block 1 (.seq (R [m 12 0, m 13 5, m 14 1, o 15 (.idx 4 (.t 12) (.t 13)), o 16 (.fld 0 (.t 15)), x (.store 1 (.t 16) (.t 14))]) (.seq (R [m 17 1, o 18
    (.bin .add (.t 17) (n 1)), m 1 18]) (.seq (R [m 19 0, m 20 5, m 21 1, o 22 (.idx 4 (.t 19) (.t 20)), o 23 (.fld 1 (.t 22)), x (.store 1 (.t 23) (.t 21))]) (.seq (R [m 24 1, o 25
    (.bin .add (.t 24) (n 1)), m 1 25]) (.seq (R [G, m 26 0, m 27 5, o 28 (.idx 4 (.t 26) (.t 27)), o 29 (.fld 2 (.t 28)), o 30 (.load false 1 (.t 29)), m 31 1, o 32 (.call (.f 75)
    [.t 30, .t 31]), m 1 32, G]) (R [G, m 33 0, m 34 5, o 35 (.idx 4 (.t 33) (.t 34)), o 36 (.fld 3 (.t 35)), o 37 (.load false 1 (.t 36)), m 38 1, o 39 (.call (.f 75) [.t 37, .t
    38]), m 1 39, G]))))))) (R [m 10 5, o 11 (.bin .add (.t 10) (n 1)), m 5 11])))))) (.seq (R [m 40 1, m 4 40]) .ret)),
  by kernel_rfl⟩
def k33 : KF Go.Proofs.Try.f33 := ⟨
 .seq (R [o 4 (.mv (n 0))]) (.seq (.seq (R [o 5 (.mv (n 0))]) (.block 0 (.loop (.seq (.seq (R [m 6 5, m 7 0, o 8 (.len false (.t 7)), o 9 (.bin .lss (.t 6) (.t 8))]) (.cond (.t 9)
    .skip (.exit 0))) (.seq (.block 1 (.seq (.seq (R [m 12 0, m 13 5, o 14 (.idx 4 (.t 12) (.t 13)), o 15 (.fld 0 (.t 14)), o 16 (.load false 1 (.t 15)), m 17 1, o 18 (.bin .neq (.t
    16) (.t 17))]) (.cond (.t 18) (.seq (R [o 4 (.mv (n (-1)))]) .ret) .skip)) (.seq (R [m 19 1, o 20 (.bin .add (.t 19) (n 1)), m 1 20]) (.seq (.seq (R [m 21 0, m 22 5, o 23 (.idx
    4 (.t 21) (.t 22)), o 24 (.fld 1 (.t 23)), o 25 (.load false 1 (.t 24)), m 26 1, o 27 (.bin .neq (.t 25) (.t 26))]) (.cond (.t 27) (.seq (R [o 4 (.mv (n (-1)))]) .ret) .skip))
    (.seq (R [m 28 1, o 29 (.bin .add (.t 28) (n 1)), m 1 29]) (.seq (R [m 30 0, m 31 5, o 32 (.idx 4 (.t 30) (.t 31)), o 33 (.fld 2 (.t 32)), o 34 (.load false 1 (.t 33)), m 35 1,
    o 36 (.call (.f 76) [.t 34, .t 35]), m 1 36]) (.seq (.seq (R [m 37 1, o 38 (.bin .lss (.t 37) (n 0))]) (.cond (.t 38) (.seq (R [o 4 (.mv (n (-1)))]) .ret) .skip)) (.seq (R [m 39
    0, m 40 5, o 41 (.idx 4 (.t 39) (.t 40)), o 42 (.fld 3 (.t 41)), o 43 (.load false 1 (.t 42)), m 44 1, o 45 (.call (.f 76) [.t 43, .t 44]), m 1 45]) (.seq (R [m 46 1, o 47 (.bin
    .lss (.t 46) (n 0))]) (.cond (.t 47) (.seq (R [o 4 (.mv (n (-1)))]) .ret) .skip)))))))))) (R [m 10 5, o 11 (.bin .add (.t 10) (n 1)), m 5 11])))))) (.seq (R [m 48 1, m 4 48])
    .ret)),
  by kernel_rfl⟩
def k69 : KF Go.Proofs.Try.f69 := ⟨
 .seq (R [o 2 (.box (.t 0)), o 4 (.mv (n 0))]) (.seq (R [o 5 (.fld 2 (.t 2)), o 6 (.load false 1 (.t 5)), m 7 1, o 8 (.call (.f 112) [.t 6, .t 7]), m 1 8]) (.seq (.seq (R [m 9 1, o
    10 (.bin .lss (.t 9) (n 0))]) (.cond (.t 10) (.seq (R [o 4 (.mv (n (-1)))]) .ret) .skip)) (.seq (R [o 11 (.fld 3 (.t 2)), o 12 (.load false 1 (.t 11)), m 13 1, o 14 (.call (.f
    112) [.t 12, .t 13]), m 1 14]) (.seq (.seq (R [m 15 1, o 16 (.bin .lss (.t 15) (n 0))]) (.cond (.t 16) (.seq (R [o 4 (.mv (n (-1)))]) .ret) .skip)) (.seq (R [m 17 1, m 4 17])
    .ret))))),
  by kernel_rfl⟩
def k70 : KF Go.Proofs.Try.f70 := ⟨
 .seq (R [o 2 (.mv (.c .nils))]) (.seq (R [o 3 (.bslice 3 0 [.i .i64 0, .i .i64 0, .s []] []), m 4 0, o 5 (.app 3 32 [.i .i64 0, .i .i64 0, .s []] (.t 3) (.t 4)), m 2 5]) .ret),
  by kernel_rfl⟩
def k71 : KF Go.Proofs.Try.f71 := ⟨
 .seq (R [o 1 (.box (.t 0)), o 2 (.alloc [.i .i64 0, .i .i64 0, .nils, .nils])]) (.seq (R [o 3 (.alloc [.i .i64 0, .i .i64 0, .nils, .nils])]) (.seq (R [o 4 (.fld 0 (.t 1)), o 5
    (.load false 1 (.t 4)), o 6 (.fld 0 (.t 3)), x (.store 1 (.t 6) (.t 5))]) (.seq (R [o 7 (.fld 1 (.t 1)), o 8 (.load false 1 (.t 7)), o 9 (.fld 1 (.t 3)), x (.store 1 (.t 9) (.t
    8))]) (.seq (R [o 10 (.fld 2 (.t 1)), o 11 (.load false 1 (.t 10)), o 12 (.call (.f 113) [.t 11]), o 13 (.fld 2 (.t 3)), x (.store 1 (.t 13) (.t 12))]) (.seq (R [o 14 (.fld 3
    (.t 1)), o 15 (.load false 1 (.t 14)), o 16 (.call (.f 113) [.t 15]), o 17 (.fld 3 (.t 3)), x (.store 1 (.t 17) (.t 16))]) (.seq (R [o 18 (.load true 4 (.t 3)), x (.store 4 (.t
    2) (.t 18))]) .ret)))))),
  by kernel_rfl⟩
def k72 : KF Go.Proofs.Try.f72 := ⟨
 .seq (R [o 1 (.box (.t 0)), o 2 (.mv (.c .nilf))]) (.seq (R [o 3 (.mkf 114 [.t 1]), m 2 3]) .ret),
  by kernel_rfl⟩
def k73 : KF Go.Proofs.Try.f73 := ⟨
 .seq (R [o 2 (.mv (.c .nils))]) (.seq (.seq (R [m 3 0, o 4 (.eqn false (.t 3) (.c .nils))]) (.cond (.t 4) (.seq (R [o 2 (.mv (.c .nils)), G]) .ret) .skip)) (.seq (R [o 5 (.bslice 3
    0 [.i .i64 0, .i .i64 0, .s []] []), m 6 0, o 7 (.app 3 32 [.i .i64 0, .i .i64 0, .s []] (.t 5) (.t 6)), m 2 7]) .ret)),
  by kernel_rfl⟩
def k74 : KF Go.Proofs.Try.f74 := ⟨
 .seq (R [o 2 (.box (.t 0)), o 3 (.box (.t 1)), o 4 (.mv (.c (.b false)))]) (.seq (.seq (R [o 5 (.fld 0 (.t 2)), o 6 (.load false 1 (.t 5)), o 7 (.fld 0 (.t 3)), o 8 (.load false 1
    (.t 7)), o 9 (.bin .neq (.t 6) (.t 8))]) (.cond (.t 9) (.seq (R [o 4 (.mv (.c (.b false)))]) .ret) .skip)) (.seq (.seq (R [o 10 (.fld 1 (.t 2)), o 11 (.load false 1 (.t 10)), o
    12 (.fld 1 (.t 3)), o 13 (.load false 1 (.t 12)), o 14 (.bin .neq (.t 11) (.t 13))]) (.cond (.t 14) (.seq (R [o 4 (.mv (.c (.b false)))]) .ret) .skip)) (.seq (.seq (R [o 15
    (.fld 2 (.t 2)), o 16 (.load false 1 (.t 15)), o 17 (.fld 2 (.t 3)), o 18 (.load false 1 (.t 17)), o 19 (.call (.f 115) [.t 16, .t 18]), o 20 (.un .not (.t 19))]) (.cond (.t 20)
    (.seq (R [o 4 (.mv (.c (.b false)))]) .ret) .skip)) (.seq (.seq (R [o 21 (.fld 3 (.t 2)), o 22 (.load false 1 (.t 21)), o 23 (.fld 3 (.t 3)), o 24 (.load false 1 (.t 23)), o 25
    (.call (.f 115) [.t 22, .t 24]), o 26 (.un .not (.t 25))]) (.cond (.t 26) (.seq (R [o 4 (.mv (.c (.b false)))]) .ret) .skip)) (.seq (R [o 4 (.mv (.c (.b true)))]) .ret))))),
  by kernel_rfl⟩
def k75 : KF Go.Proofs.Try.f75 := ⟨
 .seq (R [o 4 (.mv (n 0))]) (.seq (.seq (R [o 5 (.mv (n 0))]) (.block 0 (.loop (.seq (.seq (R [m 6 5, m 7 0, o 8 (.len false (.t 7)), o 9 (.bin .lss (.t 6) (.t 8))]) (.cond (.t 9)
    .skip (.exit 0))) (.seq (.block 1 (.seq (R [m 12 0, m 13 5, m 14 1, o 15 (.idx 3 (.t 12) (.t 13)), o 16 (.fld 0 (.t 15)), x (.store 1 (.t 16) (.t 14))]) (.seq (R [m 17 1, o 18
    (.bin .add (.t 17) (n 1)), m 1 18]) (.seq (R [m 19 0, m 20 5, m 21 1, o 22 (.idx 3 (.t 19) (.t 20)), o 23 (.fld 1 (.t 22)), x (.store 1 (.t 23) (.t 21))]) (.seq (R [m 24 1, o 25
    (.bin .add (.t 24) (n 1)), m 1 25]) (.seq (R [m 26 0, m 27 5, m 28 1, o 29 (.call (.f 63) [.t 28]), o 30 (.idx 3 (.t 26) (.t 27)), o 31 (.fld 2 (.t 30)), x (.store 1 (.t 31) (.t
    29))]) (R [m 32 1, o 33 (.bin .add (.t 32) (n 1)), m 1 33]))))))) (R [m 10 5, o 11 (.bin .add (.t 10) (n 1)), m 5 11])))))) (.seq (R [m 34 1, m 4 34]) .ret)),
  by kernel_rfl⟩
def k76 : KF Go.Proofs.Try.f76 := ⟨
 .seq (R [o 4 (.mv (n 0))]) (.seq (.seq (R [o 5 (.mv (n 0))]) (.block 0 (.loop (.seq (.seq (R [m 6 5, m 7 0, o 8 (.len false (.t 7)), o 9 (.bin .lss (.t 6) (.t 8))]) (.cond (.t 9)
    .skip (.exit 0))) (.seq (.block 1 (.seq (.seq (R [m 12 0, m 13 5, o 14 (.idx 3 (.t 12) (.t 13)), o 15 (.fld 0 (.t 14)), o 16 (.load false 1 (.t 15)), m 17 1, o 18 (.bin .neq (.t
    16) (.t 17))]) (.cond (.t 18) (.seq (R [o 4 (.mv (n (-1)))]) .ret) .skip)) (.seq (R [m 19 1, o 20 (.bin .add (.t 19) (n 1)), m 1 20]) (.seq (.seq (R [m 21 0, m 22 5, o 23 (.idx
    3 (.t 21) (.t 22)), o 24 (.fld 1 (.t 23)), o 25 (.load false 1 (.t 24)), m 26 1, o 27 (.bin .neq (.t 25) (.t 26))]) (.cond (.t 27) (.seq (R [o 4 (.mv (n (-1)))]) .ret) .skip))
    (.seq (R [m 28 1, o 29 (.bin .add (.t 28) (n 1)), m 1 29]) (.seq (.seq (D [m 30 0, m 31 5, o 32 (.idx 3 (.t 30) (.t 31)), o 33 (.fld 2 (.t 32)), o 34 (.load false 1 (.t 33)), m
    35 1, o 36 (.call0 (.f 63) [.t 35]), o 37 (.bin .neq (.t 34) (.t 36))] [[], [], [0, 1], [2], [3], [], [5], [4, 6]]) (.cond (.t 37) (.seq (R [o 4 (.mv (n (-1)))]) .ret) .skip))
    (R [m 38 1, o 39 (.bin .add (.t 38) (n 1)), m 1 39]))))))) (R [m 10 5, o 11 (.bin .add (.t 10) (n 1)), m 5 11])))))) (.seq (R [m 40 1, m 4 40]) .ret)),
  by kernel_rfl⟩
def k112 : KF Go.Proofs.Try.f112 := ⟨
 .seq (R [o 4 (.mv (n 0))]) (.seq (R [m 6 1, m 7 0, o 8 (.len false (.t 7)), o 9 (.bin .sub (.t 6) (.t 8)), m 1 9]) (.seq (.seq (R [m 10 1, o 11 (.bin .lss (.t 10) (n 0))]) (.cond
    (.t 11) (.seq (R [o 4 (.mv (n (-1)))]) .ret) .skip)) (.seq (.seq (R [o 5 (.mv (n 0))]) (.block 0 (.loop (.seq (.seq (R [m 12 5, m 13 0, o 14 (.len false (.t 13)), o 15 (.bin
    .lss (.t 12) (.t 14))]) (.cond (.t 15) .skip (.exit 0))) (.seq (.block 1 (.seq (R [m 18 0, m 19 5, o 20 (.idx 3 (.t 18) (.t 19)), o 21 (.load true 3 (.t 20)), m 22 1, o 23
    (.call (.f 133) [.t 21, .t 22]), m 1 23]) (.seq (R [m 24 1, o 25 (.bin .lss (.t 24) (n 0))]) (.cond (.t 25) (.seq (R [o 4 (.mv (n (-1)))]) .ret) .skip)))) (R [m 16 5, o 17 (.bin
    .add (.t 16) (n 1)), m 5 17])))))) (.seq (R [m 26 1, m 4 26]) .ret)))),
  by kernel_rfl⟩
def k113 : KF Go.Proofs.Try.f113 := ⟨
 .seq (R [o 2 (.mv (.c .nils))]) (.seq (R [m 5 0, o 6 (.len false (.t 5)), o 7 (.mks 3 32 [.i .i64 0, .i .i64 0, .s []] (.t 6) (.t 6)), m 3 7]) (.seq (.seq (R [o 4 (.mv (n 0))])
    (.block 0 (.loop (.seq (.seq (R [m 8 4, m 9 0, o 10 (.len false (.t 9)), o 11 (.bin .lss (.t 8) (.t 10))]) (.cond (.t 11) .skip (.exit 0))) (.seq (.block 1 (R [m 14 3, m 15 4, m
    16 0, m 17 4, o 18 (.idx 3 (.t 16) (.t 17)), o 19 (.load true 3 (.t 18)), o 20 (.call (.f 134) [.t 19]), o 21 (.idx 3 (.t 14) (.t 15)), x (.store 3 (.t 21) (.t 20))])) (R [m 12
    4, o 13 (.bin .add (.t 12) (n 1)), m 4 13])))))) (.seq (R [m 22 3, m 2 22]) .ret))),
  by kernel_rfl⟩
def k115 : KF Go.Proofs.Try.f115 := ⟨
 .seq (R [o 4 (.mv (.c (.b false)))]) (.seq (.seq (R [m 6 0, o 7 (.len false (.t 6)), m 8 1, o 9 (.len false (.t 8)), o 10 (.bin .neq (.t 7) (.t 9))]) (.cond (.t 10) (.seq (R [o 4
    (.mv (.c (.b false)))]) .ret) .skip)) (.seq (.seq (R [o 5 (.mv (n 0))]) (.block 0 (.loop (.seq (.seq (R [m 11 5, m 12 0, o 13 (.len false (.t 12)), o 14 (.bin .lss (.t 11) (.t
    13))]) (.cond (.t 14) .skip (.exit 0))) (.seq (.block 1 (.seq (D [m 17 0, m 18 5, o 19 (.idx 3 (.t 17) (.t 18)), o 20 (.load true 3 (.t 19)), m 21 1, m 22 5, o 23 (.idx 3 (.t
    21) (.t 22)), o 24 (.load true 3 (.t 23)), o 25 (.call0 (.f 135) [.t 20, .t 24]), o 26 (.un .not (.t 25))] [[], [], [0, 1], [2], [], [], [4, 5], [6], [3, 7], [8]]) (.cond (.t
    26) (.seq (R [o 4 (.mv (.c (.b false)))]) .ret) .skip))) (R [m 15 5, o 16 (.bin .add (.t 15) (n 1)), m 5 16])))))) (.seq (R [o 4 (.mv (.c (.b true)))]) .ret))),
  by kernel_rfl⟩
def k133 : KF Go.Proofs.Try.f133 := ⟨
 .seq (R [o 2 (.box (.t 0)), o 4 (.mv (n 0))]) (.seq (R [m 5 1, o 6 (.fld 2 (.t 2)), o 7 (.load false 1 (.t 6)), o 8 (.len true (.t 7)), o 9 (.bin .sub (.t 5) (.t 8)), m 1 9]) (.seq
    (.seq (R [m 10 1, o 11 (.bin .lss (.t 10) (n 0))]) (.cond (.t 11) (.seq (R [o 4 (.mv (n (-1)))]) .ret) .skip)) (.seq (R [m 12 1, m 4 12]) .ret))),
  by kernel_rfl⟩
def k134 : KF Go.Proofs.Try.f134 := ⟨
 .seq (R [o 1 (.box (.t 0)), o 2 (.alloc [.i .i64 0, .i .i64 0, .s []])]) (.seq (R [o 3 (.alloc [.i .i64 0, .i .i64 0, .s []])]) (.seq (R [o 4 (.fld 0 (.t 1)), o 5 (.load false 1
    (.t 4)), o 6 (.fld 0 (.t 3)), x (.store 1 (.t 6) (.t 5))]) (.seq (R [o 7 (.fld 1 (.t 1)), o 8 (.load false 1 (.t 7)), o 9 (.fld 1 (.t 3)), x (.store 1 (.t 9) (.t 8))]) (.seq (R
    [o 10 (.fld 2 (.t 1)), o 11 (.load false 1 (.t 10)), o 12 (.fld 2 (.t 3)), x (.store 1 (.t 12) (.t 11))]) (.seq (R [o 13 (.load true 3 (.t 3)), x (.store 3 (.t 2) (.t 13))])
    .ret))))),
  by kernel_rfl⟩
def k135 : KF Go.Proofs.Try.f135 := ⟨
 .seq (R [o 2 (.box (.t 0)), o 3 (.box (.t 1)), o 4 (.mv (.c (.b false)))]) (.seq (.seq (R [o 5 (.fld 0 (.t 2)), o 6 (.load false 1 (.t 5)), o 7 (.fld 0 (.t 3)), o 8 (.load false 1
    (.t 7)), o 9 (.bin .neq (.t 6) (.t 8))]) (.cond (.t 9) (.seq (R [o 4 (.mv (.c (.b false)))]) .ret) .skip)) (.seq (.seq (R [o 10 (.fld 1 (.t 2)), o 11 (.load false 1 (.t 10)), o
    12 (.fld 1 (.t 3)), o 13 (.load false 1 (.t 12)), o 14 (.bin .neq (.t 11) (.t 13))]) (.cond (.t 14) (.seq (R [o 4 (.mv (.c (.b false)))]) .ret) .skip)) (.seq (.seq (R [o 15
    (.fld 2 (.t 2)), o 16 (.load false 1 (.t 15)), o 17 (.fld 2 (.t 3)), o 18 (.load false 1 (.t 17)), o 19 (.bin .neq (.t 16) (.t 18))]) (.cond (.t 19) (.seq (R [o 4 (.mv (.c (.b
    false)))]) .ret) .skip)) (.seq (R [o 4 (.mv (.c (.b true)))]) .ret)))),
  by kernel_rfl⟩
end FrA

/-! CvA -/
open Go Go.AM
namespace FrA
open Go.Proofs
set_option maxRecDepth 100000
set_option linter.unusedSimpArgs false
abbrev Vl := Int × Int × List UInt8
def vC (v : Vl) : List AV := [.i .i64 v.1, .i .i64 v.2.1, .s v.2.2]
def vl (l : List Vl) : List (List AV) := l.map vC
def v0 : Vl := (0, 0, [])
theorem vl_len (l : List Vl) : (vl l).length = l.length := by simp [vl]
theorem vl_get {l : List Vl} {i : Nat} (h : i < l.length) : (vl l)[i]? = some [.i .i64 (l.getD i v0).1, .i .i64 (l.getD i v0).2.1, .s (l.getD i v0).2.2] := by simp [vl, vC, List.getElem?_eq_getElem h]
theorem vl_mem {l : List Vl} {e : List AV} (h : e ∈ vl l) : ∃ v, v ∈ l ∧ e = [.i .i64 v.1, .i .i64 v.2.1, .s v.2.2] := by
  simp only [vl, List.mem_map] at h
  obtain ⟨v, h1, rfl⟩ := h
  exact ⟨v, h1, rfl⟩
theorem vl_pure (l : List Vl) : AM.Pure (vl l) := by
  intro e he c hc
  obtain ⟨v, _, rfl⟩ := vl_mem he
  simp at hc; rcases hc with rfl | rfl | rfl <;> rfl
theorem vl_flat (l : List Vl) : AM.Flat (vl l) := by
  intro e he c hc
  obtain ⟨v, _, rfl⟩ := vl_mem he
  simp at hc; rcases hc with rfl | rfl | rfl <;> rfl
theorem vl_good (l : List Vl) : AM.Good (vl l) 3 := by
  intro e he
  obtain ⟨v, _, rfl⟩ := vl_mem he
  simp [AV.storable]
theorem vl_set (l : List Vl) (i : Nat) (v : Vl) : (vl l).set i [.i .i64 v.1, .i .i64 v.2.1, .s v.2.2] = vl (l.set i v) := by
  rw [vl, vl, List.map_set]; rfl
theorem zv_vl (n : Nat) : List.replicate n [AV.i .i64 0, AV.i .i64 0, AV.s []] = vl (List.replicate n v0) := by simp [vl, v0, vC]
theorem dropv_get {l : List Vl} {i : Nat} (h : i < l.length) : l.drop i = l.getD i v0 :: l.drop (i + 1) := by
  rw [List.getD_eq_getElem?_getD, List.getElem?_eq_getElem h, Option.getD_some]; exact List.drop_eq_getElem_cons h
theorem getV_mem {l : List Vl} {i : Nat} (h : i < l.length) : l.getD i v0 ∈ l := by
  rw [List.getD_eq_getElem?_getD, List.getElem?_eq_getElem h, Option.getD_some]; exact List.getElem_mem h
def obV (l : List Vl) : Ob := { ver := 1, es := vl l, esz := 3, own := True }
def szv : List Vl → Nat
  | [] => 0
  | v :: l => v.2.2.length + szv l
theorem szv_app : ∀ a b : List Vl, szv (a ++ b) = szv a + szv b
  | [], b => by simp [szv]
  | v :: a, b => by simp [szv, szv_app a b]; omega
theorem szv_succ {l : List Vl} {i : Nat} (h : i < l.length) : szv (l.take (i + 1)) = szv (l.take i) + (l.getD i v0).2.2.length := by
  rw [List.take_add_one, szv_app, List.getElem?_eq_getElem h, List.getD_eq_getElem?_getD, List.getElem?_eq_getElem h]
  simp [szv]
theorem szv_le (l : List Vl) (i : Nat) : szv (l.take i) ≤ szv l := by
  conv => rhs; rw [← List.take_append_drop i l, szv_app]
  omega
theorem h133 (a b : Int) (s : List UInt8) (left : Nat) (hl : left ≤ 1048576) (hs : Lg s.length) : HT 133 [.agg [.i .i64 a, .i .i64 b, .s s], i64 left] [] (i64 (lefts left s.length)) true [] := by
  refine holds_of (c := Try.f133.body.getD .skip) (k := k133.1) (ts := [4]) HOk mixedT hintT Try.func133 (by kernel_rfl) (by kernel_rfl) (by kernel_rfl) k133.2 (by kernel_rfl) (le_of 2 _ (by kernel_rfl)) ?_
  by_cases h1 : s.length ≤ left
  · have w1 : IntKind.i64.wrap ((left : Int) - (s.length : Int)) = ((left - s.length : Nat) : Int) := by rw [wr (by omega) (by omega)]; omega
    have c1 : ¬ ((left - s.length : Nat) : Int) < 0 := by omega
    simp -dsimp only [k133, w1, c1, go_sem, ↓reduceIte, Nat.reduceEqDiff, Int.reduceLE, Int.reduceLT, Int.reduceNeg, Int.reduceEq, Nat.reduceMul, Nat.reduceAdd, Nat.reduceLeDiff, reduceCtorEq]
    exact Fin_val (by simp [resV, upd_at, retA, lefts_yes h1]) (by simp [resV, upd_at, ResOk])
  · have w1 : IntKind.i64.wrap ((left : Int) - (s.length : Int)) = (left : Int) - (s.length : Int) := by
      unfold IntKind.wrap; simp [IntKind.signed, IntKind.bits]; omega
    have c1 : (left : Int) - (s.length : Int) < 0 := by omega
    simp -dsimp only [k133, w1, c1, go_sem, ↓reduceIte, Nat.reduceEqDiff, Int.reduceLE, Int.reduceLT, Int.reduceNeg, Int.reduceEq, Nat.reduceMul, Nat.reduceAdd, Nat.reduceLeDiff, reduceCtorEq]
    exact Fin_val (by simp [resV, upd_at, retA, lefts_no h1]) (by simp [resV, upd_at, ResOk])
theorem h112 (l : List Vl) (left : Nat) (hl : left ≤ 1048576) (hn : Lg l.length) (hb : ∀ v ∈ l, Lg v.2.2.length) : HT 112 [.dat 3 (vl l), i64 left] [] (i64 (lefts left (l.length + szv l))) true [] := by
  refine holds_of (c := Try.f112.body.getD .skip) (k := k112.1) (ts := [4]) HOk mixedT hintT Try.func112 (by kernel_rfl) (by kernel_rfl) (by kernel_rfl) k112.2 (by kernel_rfl) (le_of 2 _ (by kernel_rfl)) ?_
  by_cases h1 : l.length ≤ left
  · have w1 : IntKind.i64.wrap ((left : Int) - (l.length : Int)) = ((left - l.length : Nat) : Int) := by rw [wr (by omega) (by omega)]; omega
    have c1 : ¬ ((left - l.length : Nat) : Int) < 0 := by omega
    simp -dsimp only [k112, w1, c1, vl_len, go_sem, ↓reduceIte, Nat.reduceEqDiff, Int.reduceLE, Int.reduceLT, Int.reduceNeg, Int.reduceEq, Nat.reduceMul, Nat.reduceAdd, Nat.reduceLeDiff, reduceCtorEq]
    refine K_loop (fun g h c => ∃ i : Nat, i ≤ l.length ∧ l.length + szv (l.take i) ≤ left ∧ g 0 = .dat 3 (vl l) ∧ g 1 = i64 (left - l.length - szv (l.take i) : Nat) ∧ g 5 = i64 i) (fun g _ _ => match g 5 with | .i _ n => l.length - n.toNat | _ => 0) ?_ ?_
    · exact ⟨0, by omega, by simp [szv]; omega, by simp [upd_at, S_0], by simp [upd_at, szv], by simp [upd_at]⟩
    · rintro A n hA g h c ⟨i, hi, hsz, q0, q1, q5⟩ hm
      by_cases hlt : i < l.length
      · have hc : (i : Int) < (l.length : Int) := by omega
        have w2 : IntKind.i64.wrap ((i : Int) + 1) = ((i + 1 : Nat) : Int) := by rw [wr (by omega) (by omega)]; rfl
        have hf := hb _ (getV_mem hlt)
        have hs := szv_succ hlt
        have hle := szv_le l (i + 1)
        simp -dsimp only [q0, q1, q5, hc, vl_get hlt, vl_len, go_sem, ↓reduceIte, Nat.reduceEqDiff, Int.reduceLE, Int.reduceLT, Int.reduceNeg, Int.reduceEq, Nat.reduceMul, Nat.reduceAdd, Nat.reduceLeDiff, reduceCtorEq]
        refine Call_val (own := true) (h133 _ _ _ (left - l.length - szv (l.take i)) (by omega) hf) (by simp [ExpOk, AV.pure]) (.inl rfl) ?_
        by_cases h2 : (l.getD i v0).2.2.length ≤ left - l.length - szv (l.take i)
        · rw [lefts_yes h2]
          have c2 : ¬ ((left - l.length - szv (l.take i) - (l.getD i v0).2.2.length : Nat) : Int) < 0 := by omega
          simp -dsimp only [q0, q5, c2, w2, go_sem, ↓reduceIte, Nat.reduceEqDiff, Int.reduceLE, Int.reduceLT, Int.reduceNeg, Int.reduceEq, Nat.reduceMul, Nat.reduceAdd, Nat.reduceLeDiff, reduceCtorEq]
          refine hA _ _ _ ?_ ?_
          · refine ⟨i + 1, by omega, by omega, by simp [upd_at, q0], ?_, by simp [upd_at]⟩
            simp only [upd_at]
            exact congrArg i64 (congrArg Int.ofNat (by omega))
          · rw [q5] at hm; simp [upd_at] at hm ⊢; omega
        · rw [lefts_no h2]
          simp -dsimp only [neg1, go_sem, ↓reduceIte, Nat.reduceEqDiff, Int.reduceLE, Int.reduceLT, Int.reduceNeg, Int.reduceEq, Nat.reduceMul, Nat.reduceAdd, Nat.reduceLeDiff, reduceCtorEq]
          exact Fin_val (by simp [resV, upd_at, retA, lefts_no (show ¬ l.length + szv l ≤ left by omega)]) (by simp [resV, upd_at, ResOk])
      · have hc : ¬ (i : Int) < (l.length : Int) := by omega
        rw [List.take_of_length_le (by omega)] at hsz q1
        simp -dsimp only [q0, q1, q5, hc, vl_len, go_sem, ↓reduceIte, Nat.reduceEqDiff, Int.reduceLE, Int.reduceLT, Int.reduceNeg, Int.reduceEq, Nat.reduceMul, Nat.reduceAdd, Nat.reduceLeDiff, reduceCtorEq]
        refine Fin_val ?_ (by simp [resV, upd_at, ResOk, q1])
        simp only [resV, upd_at, q1, retA, lefts_yes hsz]
        exact congrArg i64 (congrArg Int.ofNat (by omega))
  · have w1 : IntKind.i64.wrap ((left : Int) - (l.length : Int)) = (left : Int) - (l.length : Int) := by
      unfold IntKind.wrap; simp [IntKind.signed, IntKind.bits]; omega
    have c1 : (left : Int) - (l.length : Int) < 0 := by omega
    simp -dsimp only [k112, w1, c1, vl_len, go_sem, ↓reduceIte, Nat.reduceEqDiff, Int.reduceLE, Int.reduceLT, Int.reduceNeg, Int.reduceEq, Nat.reduceMul, Nat.reduceAdd, Nat.reduceLeDiff, reduceCtorEq]
    exact Fin_val (by simp [resV, upd_at, retA, lefts_no (show ¬ l.length + szv l ≤ left by omega)]) (by simp [resV, upd_at, ResOk])
theorem h134 (a b : Int) (s : List UInt8) : HT 134 [.agg [.i .i64 a, .i .i64 b, .s s]] [] (.agg [.i .i64 a, .i .i64 b, .s s]) true [] := by
  refine holdsc_of (c := Try.f134.body.getD .skip) (k := k134.1) (cs := [(2, some (true, 3))]) HOk mixedT hintT Try.func134 (by kernel_rfl) (by kernel_rfl) (by kernel_rfl) k134.2 (by kernel_rfl) (le_of 1 _ (by kernel_rfl)) ?_
  simp -dsimp only [k134, go_sem, ↓reduceIte, Nat.reduceEqDiff, Int.reduceLE, Int.reduceLT, Int.reduceNeg, Int.reduceEq, Nat.reduceMul, Nat.reduceAdd, Nat.reduceLeDiff, reduceCtorEq]
  refine finC_val (p := True) (l := [.agg [.i .i64 a, .i .i64 b, .s s]]) (by simp [resM, resE, upd_at, loadF, cur, hup_at]) trivial ?_ ?_
  · simp [resOne, retA, retL]
  · simp [resOne, ResOk, ResL]
theorem h113 (l : List Vl) (hn : l.length ≤ 1048576) : HT 113 [.dat 3 (vl l)] [] (.sl (.p 0) 1 0 l.length none) true [obV l] := by
  refine holds_of (c := Try.f113.body.getD .skip) (k := k113.1) (ts := [2]) HOk mixedT hintT Try.func113 (by kernel_rfl) (by kernel_rfl) (by kernel_rfl) k113.2 (by kernel_rfl) (le_of 1 _ (by kernel_rfl)) ?_
  simp -dsimp only [k113, vl_len, go_sem, ↓reduceIte, Nat.reduceEqDiff, Int.reduceLE, Int.reduceLT, Int.reduceNeg, Int.reduceEq, Nat.reduceMul, Nat.reduceAdd, Nat.reduceLeDiff, reduceCtorEq]
  refine EK_p ?_ ?_
  · simp [bigOk]; omega
  simp -dsimp only [Int.toNat_natCast, zv_vl, go_sem, ↓reduceIte, Nat.reduceEqDiff, Int.reduceLE, Int.reduceLT, Int.reduceNeg, Int.reduceEq, Nat.reduceMul, Nat.reduceAdd, Nat.reduceLeDiff, reduceCtorEq]
  refine K_loop (fun g h c => ∃ (i : Nat) (q : Prop), i ≤ l.length ∧ g 0 = .dat 3 (vl l) ∧ g 3 = .sl (.l 7) 1 0 l.length none ∧ g 4 = i64 i ∧ h (.l 7) = some { ver := 1, es := vl (l.take i ++ List.replicate (l.length - i) v0), esz := 3, own := q }) (fun g _ _ => match g 4 with | .i _ n => l.length - n.toNat | _ => 0) ?_ ?_
  · exact ⟨0, _, by omega, by simp [upd_at, S_0], by simp [upd_at], by simp [upd_at], by simp [hup_at]; rfl⟩
  · rintro A n hA g h c ⟨i, q, hi, q0, q3, q4, hh⟩ hm
    by_cases hlt : i < l.length
    · have hc : (i : Int) < (l.length : Int) := by omega
      have w2 : IntKind.i64.wrap ((i : Int) + 1) = ((i + 1 : Nat) : Int) := by rw [wr (by omega) (by omega)]; rfl
      simp -dsimp only [q0, q3, q4, hc, vl_get hlt, vl_len, go_sem, ↓reduceIte, Nat.reduceEqDiff, Int.reduceLE, Int.reduceLT, Int.reduceNeg, Int.reduceEq, Nat.reduceMul, Nat.reduceAdd, Nat.reduceLeDiff, reduceCtorEq]
      refine Call_val (own := true) (h134 _ _ _) (by simp [ExpOk, AV.pure]) (.inl rfl) ?_
      simp -dsimp only [q0, q3, q4, hh, go_sem, ↓reduceIte, Nat.reduceEqDiff, Int.reduceLE, Int.reduceLT, Int.reduceNeg, Int.reduceEq, Nat.reduceMul, Nat.reduceAdd, Nat.reduceLeDiff, reduceCtorEq]
      refine VK_p (by omega) ?_
      have gz := vl_get (l := l.take i ++ List.replicate (l.length - i) v0) (i := i) (by rw [tz_len _ _ _ hi]; exact hlt)
      have st := vl_set (l.take i ++ List.replicate (l.length - i) v0) i (l.getD i v0)
      simp -dsimp only [q0, q3, q4, hh, gz, Nat.zero_add, st, w2, go_sem, ↓reduceIte, Nat.reduceEqDiff, Int.reduceLE, Int.reduceLT, Int.reduceNeg, Int.reduceEq, Nat.reduceMul, Nat.reduceAdd, Nat.reduceLeDiff, reduceCtorEq]
      refine hA _ _ _ ?_ ?_
      · exact ⟨i + 1, _, by omega, by simp [upd_at, q0], by simp [upd_at, q3], by simp [upd_at], by rw [hup_at, if_pos rfl, tz_set _ _ _ hlt]⟩
      · rw [q4] at hm; simp [upd_at] at hm ⊢; omega
    · have hc : ¬ (i : Int) < (l.length : Int) := by omega
      rw [tz_end _ _ _ (by omega)] at hh
      simp -dsimp only [q0, q3, q4, hc, vl_len, go_sem, ↓reduceIte, Nat.reduceEqDiff, Int.reduceLE, Int.reduceLT, Int.reduceNeg, Int.reduceEq, Nat.reduceMul, Nat.reduceAdd, Nat.reduceLeDiff, reduceCtorEq]
      have fin := @fin_clone (vl l) 3 2
      rw [vl_len] at fin
      exact fin (.l 7) 1 l.length _ _ q rfl (by simp [upd_at, q3]) hh rfl (vl_flat _) (vl_pure _)
theorem h70 (l : List Vl) (hn : l.length ≤ 1048576) : HT 70 [.dat 3 (vl l)] [] (.dat 3 (vl l)) true [] := by
  refine holds_of (c := Try.f70.body.getD .skip) (k := k70.1) (ts := [2]) HOk mixedT hintT Try.func70 (by kernel_rfl) (by kernel_rfl) (by kernel_rfl) k70.2 (by kernel_rfl) (le_of 1 _ (by kernel_rfl)) ?_
  simp -dsimp only [k70, vl_len, go_sem, ↓reduceIte, Nat.reduceEqDiff, Int.reduceLE, Int.reduceLT, Int.reduceNeg, Int.reduceEq, Nat.reduceMul, Nat.reduceAdd, Nat.reduceLeDiff, reduceCtorEq]
  refine EK_p ⟨vl_good _, by unfold bigOk; omega, by omega⟩ ?_
  simp -dsimp only [vl_len, chunk, List.nil_append, Nat.zero_add, go_sem, ↓reduceIte, Nat.reduceEqDiff, Int.reduceLE, Int.reduceLT, Int.reduceNeg, Int.reduceEq, Nat.reduceMul, Nat.reduceAdd, Nat.reduceLeDiff, reduceCtorEq]
  have hs : sub (vl l) 0 l.length = vl l := sub_all (vl_len l).symm
  refine Fin_val ?_ ?_
  · simp [resV, upd_at, retA, cur, hup_at, List.idxOf?_nil, hs]
  · simp only [resV, upd_at, ResOk, if_true]
    exact ⟨_, by simp [cur, hup_at]; rfl, .inr ⟨rfl, by simp, vl_pure _, by simp [vl_len], fun _ => .inr (vl_flat _)⟩⟩
theorem h73 (l : List Vl) (hn : l.length ≤ 1048576) : HT 73 [.dat 3 (vl l)] [] (.sl (.p 0) 1 0 l.length none) true [obV l] := by
  have fin := @fin_clone (vl l) 3 2
  rw [vl_len] at fin
  refine holds_of (c := Try.f73.body.getD .skip) (k := k73.1) (ts := [2]) HOk mixedT hintT Try.func73 (by kernel_rfl) (by kernel_rfl) (by kernel_rfl) k73.2 (by kernel_rfl) (le_of 1 _ (by kernel_rfl)) ?_
  by_cases h0 : l = []
  · subst h0
    simp -dsimp only [k73, go_sem, ↓reduceIte, Nat.reduceEqDiff, Int.reduceLE, Int.reduceLT, Int.reduceNeg, Int.reduceEq, Nat.reduceMul, Nat.reduceAdd, Nat.reduceLeDiff, reduceCtorEq]
    refine EqnK_any rfl rfl fun b => ?_
    cases b with
    | true =>
      simp -dsimp only [go_sem, ↓reduceIte, Nat.reduceEqDiff, Int.reduceLE, Int.reduceLT, Int.reduceNeg, Int.reduceEq, Nat.reduceMul, Nat.reduceAdd, Nat.reduceLeDiff, reduceCtorEq]
      refine Gh_of (.nil _ _ _ 2 (.l 900) 3 rfl rfl rfl) ?_
      simp -dsimp only [go_sem, ↓reduceIte, Nat.reduceEqDiff, Int.reduceLE, Int.reduceLT, Int.reduceNeg, Int.reduceEq, Nat.reduceMul, Nat.reduceAdd, Nat.reduceLeDiff, reduceCtorEq]
      exact fin (.l 900) 1 0 _ _ True rfl (by simp [upd_at]) (by simp [hup_at, vl]) rfl (vl_flat _) (vl_pure _)
    | false =>
      simp -dsimp only [vl_len, go_sem, ↓reduceIte, Nat.reduceEqDiff, Int.reduceLE, Int.reduceLT, Int.reduceNeg, Int.reduceEq, Nat.reduceMul, Nat.reduceAdd, Nat.reduceLeDiff, reduceCtorEq]
      refine EK_p (by simp [bigOk, vl_good]) ?_
      simp -dsimp only [vl_len, chunk, List.nil_append, Nat.zero_add, go_sem, ↓reduceIte, Nat.reduceEqDiff, Int.reduceLE, Int.reduceLT, Int.reduceNeg, Int.reduceEq, Nat.reduceMul, Nat.reduceAdd, Nat.reduceLeDiff, reduceCtorEq]
      exact fin (.l 5) 2 0 _ _ _ rfl (by simp [upd_at]) (by rw [hup_at, if_pos rfl]) rfl (vl_flat _) (vl_pure _)
  · have hne : vl l ≠ [] := by cases l <;> simp_all [vl]
    simp -dsimp only [k73, go_sem, ↓reduceIte, Nat.reduceEqDiff, Int.reduceLE, Int.reduceLT, Int.reduceNeg, Int.reduceEq, Nat.reduceMul, Nat.reduceAdd, Nat.reduceLeDiff, reduceCtorEq]
    refine EqnK_p hne ?_
    simp -dsimp only [vl_len, go_sem, ↓reduceIte, Nat.reduceEqDiff, Int.reduceLE, Int.reduceLT, Int.reduceNeg, Int.reduceEq, Nat.reduceMul, Nat.reduceAdd, Nat.reduceLeDiff, reduceCtorEq]
    refine EK_p ⟨vl_good _, ?_, ?_⟩ ?_
    · unfold bigOk; omega
    · omega
    simp -dsimp only [vl_len, chunk, List.nil_append, Nat.zero_add, go_sem, ↓reduceIte, Nat.reduceEqDiff, Int.reduceLE, Int.reduceLT, Int.reduceNeg, Int.reduceEq, Nat.reduceMul, Nat.reduceAdd, Nat.reduceLeDiff, reduceCtorEq]
    exact fin (.l 5) 2 l.length _ _ _ rfl (by simp [upd_at]) (by simp [hup_at]; rfl) rfl (vl_flat _) (vl_pure _)
theorem cp73 (l : List Vl) (hn : l.length ≤ 1048576) : HC.cp 73 3 (vl l) := by
  show Copies _ _ _ _
  unfold Copies; rw [vl_len]; exact h73 l hn
theorem h135 (a b : Int) (s : List UInt8) : HT 135 [.agg [.i .i64 a, .i .i64 b, .s s], .agg [.i .i64 a, .i .i64 b, .s s]] [] (.b true) true [] := by
  refine holds_of (c := Try.f135.body.getD .skip) (k := k135.1) (ts := [4]) HOk mixedT hintT Try.func135 (by kernel_rfl) (by kernel_rfl) (by kernel_rfl) k135.2 (by kernel_rfl) (le_of 2 _ (by kernel_rfl)) ?_
  have f0 : ∀ k : Int, (k != k) = false := fun k => by simp
  have f1 : ∀ x : List UInt8, (!(x == x)) = false := fun x => by simp
  simp -dsimp only [k135, f0, f1, go_sem, ↓reduceIte, Nat.reduceEqDiff, Int.reduceLE, Int.reduceLT, Int.reduceNeg, Int.reduceEq, Nat.reduceMul, Nat.reduceAdd, Nat.reduceLeDiff, reduceCtorEq]
  exact Fin_val (by simp [resV, upd_at, retA]) (by simp [resV, upd_at, ResOk])
theorem h115 (a : List Vl) (ha : a.length ≤ 1048576) : HT 115 [.dat 3 (vl a), .dat 3 (vl a)] [] (.b true) true [] := by
  refine holds_of (c := Try.f115.body.getD .skip) (k := k115.1) (ts := [4]) HOk mixedT hintT Try.func115 (by kernel_rfl) (by kernel_rfl) (by kernel_rfl) k115.2 (by kernel_rfl) (le_of 2 _ (by kernel_rfl)) ?_
  have hc : ((a.length : Int) != (a.length : Int)) = false := by simp
  simp -dsimp only [k115, hc, vl_len, go_sem, ↓reduceIte, Nat.reduceEqDiff, Int.reduceLE, Int.reduceLT, Int.reduceNeg, Int.reduceEq, Nat.reduceMul, Nat.reduceAdd, Nat.reduceLeDiff, reduceCtorEq]
  refine K_for a.length (fun i g h _ => g 0 = .dat 3 (vl a) ∧ g 1 = .dat 3 (vl a) ∧ g 5 = i64 i) ?_ ?_ ?_
  · exact ⟨by simp [upd_at, S_0], by simp [upd_at, S_1], by simp [upd_at]⟩
  · rintro i A hi hA g h c ⟨q0, q1, q5⟩
    have hc : (i : Int) < (a.length : Int) := by omega
    have w1 : IntKind.i64.wrap ((i : Int) + 1) = ((i + 1 : Nat) : Int) := by rw [wr (by omega) (by omega)]; rfl
    simp -dsimp only [q0, q1, q5, hc, vl_get hi, vl_len, go_sem, ↓reduceIte, Nat.reduceEqDiff, Int.reduceLE, Int.reduceLT, Int.reduceNeg, Int.reduceEq, Nat.reduceMul, Nat.reduceAdd, Nat.reduceLeDiff, reduceCtorEq]
    refine Call0_val true (h135 _ _ _) (by simp [AV.free, AV.pure]) (.inl rfl) ?_
    simp -dsimp only [q5, w1, go_sem, ↓reduceIte, Nat.reduceEqDiff, Int.reduceLE, Int.reduceLT, Int.reduceNeg, Int.reduceEq, Nat.reduceMul, Nat.reduceAdd, Nat.reduceLeDiff, reduceCtorEq]
    exact hA _ _ _ ⟨by simp [upd_at, q0], by simp [upd_at, q1], by simp [upd_at]⟩
  · rintro A g h c ⟨q0, q1, q5⟩
    have hc : ¬ (a.length : Int) < (a.length : Int) := by omega
    simp -dsimp only [q0, q1, q5, hc, vl_len, go_sem, ↓reduceIte, Nat.reduceEqDiff, Int.reduceLE, Int.reduceLT, Int.reduceNeg, Int.reduceEq, Nat.reduceMul, Nat.reduceAdd, Nat.reduceLeDiff, reduceCtorEq]
    exact Fin_val (by simp [resV, upd_at, retA]) (by simp [resV, upd_at, ResOk])
def mkV (k n : Nat) : List Vl := (List.range n).map fun i => (((k + 3 * i : Nat) : Int), ((k + 3 * i + 1 : Nat) : Int), mark (k + 3 * i + 2))
theorem mkV_len (k n : Nat) : (mkV k n).length = n := by simp [mkV]
theorem mkV_succ (k n : Nat) : mkV k (n + 1) = mkV k n ++ [(((k + 3 * n : Nat) : Int), ((k + 3 * n + 1 : Nat) : Int), mark (k + 3 * n + 2))] := by simp [mkV, List.range_succ]
theorem mkV_get {k n i : Nat} (h : i < n) : (mkV k n).getD i v0 = (((k + 3 * i : Nat) : Int), ((k + 3 * i + 1 : Nat) : Int), mark (k + 3 * i + 2)) := by
  rw [List.getD_eq_getElem?_getD]; simp [mkV, h]
theorem h75 (l : List Vl) (k : Nat) (cap : Option Nat) (q : Prop) (hk : 0 < k) (hkl : k + 3 * l.length ≤ 1000000000) : HT 75 [.sl (.p 0) 0 0 l.length cap, i64 k] [obM 3 (vl l) q] (i64 (k + 3 * l.length : Nat)) true [obM 3 (vl (mkV k l.length)) True] := by
  refine holds_of (c := Try.f75.body.getD .skip) (k := k75.1) (ts := [4]) HOk mixedT hintT Try.func75 (by kernel_rfl) (by kernel_rfl) (by kernel_rfl) k75.2 (by kernel_rfl) (le_of 2 _ (by kernel_rfl)) ?_
  simp -dsimp only [k75, go_sem, ↓reduceIte, Nat.reduceEqDiff, Int.reduceLE, Int.reduceLT, Int.reduceNeg, Int.reduceEq, Nat.reduceMul, Nat.reduceAdd, Nat.reduceLeDiff, reduceCtorEq]
  refine K_for l.length (fun i g h c => g 0 = .sl (.p 0) 0 0 l.length cap ∧ g 1 = i64 (k + 3 * i : Nat) ∧ g 5 = i64 i ∧ ∃ q, h (.p 0) = some (obM 3 (vl (mkV k i ++ l.drop i)) q)) ?_ ?_ ?_
  · exact ⟨by simp [upd_at, S_0], by simp [upd_at, S_1], by simp [upd_at], q, by simp [mkV]; rfl⟩
  · rintro i A hi hA g h c ⟨q0, q1, q5, q', hh⟩
    have hc : (i : Int) < (l.length : Int) := by omega
    unfold obM at hh
    obtain ⟨op, hop⟩ : ∃ op, op = l.getD i v0 := ⟨_, rfl⟩
    have gi : (vl (mkV k i ++ l.drop i))[i]? = some [.i .i64 op.1, .i .i64 op.2.1, .s op.2.2] := by
      have e : (mkV k i ++ l.drop i).getD i v0 = op := by
        rw [dropv_get hi, ← hop, List.getD_eq_getElem?_getD, List.getElem?_append_right (by simp [mkV_len]), mkV_len]; simp
      rw [vl_get (by simp [mkV_len]; omega), e]
    have w1 : IntKind.i64.wrap ((i : Int) + 1) = ((i + 1 : Nat) : Int) := by rw [wr (by omega) (by omega)]; rfl
    have w0 : IntKind.i64.wrap ((k + 3 * i : Nat) : Int) = ((k + 3 * i : Nat) : Int) := wr (by omega) (by omega)
    have w0' : IntKind.i64.wrap ((k + 3 * i + 1 : Nat) : Int) = ((k + 3 * i + 1 : Nat) : Int) := wr (by omega) (by omega)
    have w2 : IntKind.i64.wrap (((k + 3 * i : Nat) : Int) + 1) = ((k + 3 * i + 1 : Nat) : Int) := by rw [wr (by omega) (by omega)]; rfl
    have w3 : IntKind.i64.wrap (((k + 3 * i + 1 : Nat) : Int) + 1) = ((k + 3 * i + 2 : Nat) : Int) := by rw [wr (by omega) (by omega)]; omega
    have w4 : IntKind.i64.wrap (((k + 3 * i + 2 : Nat) : Int) + 1) = ((k + 3 * (i + 1) : Nat) : Int) := by rw [wr (by omega) (by omega)]; omega
    have hlt : i < (vl (mkV k i ++ l.drop i)).length := (List.getElem?_eq_some_iff.1 gi).1
    simp -dsimp only [q0, q1, q5, hc, hh, gi, w0, w0', w1, w2, w3, w4, List.getElem?_set_self hlt, List.set_set, go_sem, ↓reduceIte, Nat.reduceEqDiff, Int.reduceLE, Int.reduceLT, Int.reduceNeg, Int.reduceEq, Nat.reduceMul, Nat.reduceAdd, Nat.reduceLeDiff, reduceCtorEq]
    refine Call_val (own := true) (h63 (k + 3 * i + 2) (by omega) (by omega)) (by simp [ExpOk, AV.pure]) (.inl rfl) ?_
    simp -dsimp only [q0, q1, q5, hc, hh, gi, w0, w0', w1, w2, w3, w4, List.getElem?_set_self hlt, List.set_set, go_sem, ↓reduceIte, Nat.reduceEqDiff, Int.reduceLE, Int.reduceLT, Int.reduceNeg, Int.reduceEq, Nat.reduceMul, Nat.reduceAdd, Nat.reduceLeDiff, reduceCtorEq]
    have e : (vl (mkV k i ++ l.drop i)).set i [.i .i64 (k + 3 * i : Nat), .i .i64 (k + 3 * i + 1 : Nat), .s (mark (k + 3 * i + 2))] = vl (mkV k (i + 1) ++ l.drop (i + 1)) := by
      rw [vl_set _ _ (((k + 3 * i : Nat) : Int), ((k + 3 * i + 1 : Nat) : Int), mark (k + 3 * i + 2)), pre_set _ (mkV_len k i) (by rw [dropv_get hi]; simp), mkV_succ, List.drop_drop, Nat.add_comm i 1]; simp
    exact hA _ _ _ ⟨by simp [upd_at, q0], by simp [upd_at], by simp [upd_at], _, (by rw [hup_at, if_pos rfl, e]; rfl)⟩
  · rintro A g h c ⟨q0, q1, q5, q', hh⟩
    have hc : ¬ (l.length : Int) < (l.length : Int) := by omega
    rw [List.drop_length, List.append_nil] at hh
    unfold obM at hh
    simp -dsimp only [q0, q1, q5, hc, hh, go_sem, ↓reduceIte, Nat.reduceEqDiff, Int.reduceLE, Int.reduceLT, Int.reduceNeg, Int.reduceEq, Nat.reduceMul, Nat.reduceAdd, Nat.reduceLeDiff, reduceCtorEq]
    refine Fin_obs (by simp [resV, upd_at, retA]) (by simp [resV, upd_at, ResOk]) rfl fun j ob hj => ?_
    match j, hj with
    | 0, hj => simp at hj; subst hj; exact ⟨vl_pure _, q', .inl (vl_flat _), by rw [hh]; rfl, rfl⟩
    | j + 1, hj => simp at hj
theorem h76 (k n : Nat) (hk : 0 < k) (hkn : k + 3 * n ≤ 1000000000) : HT 76 [.dat 3 (vl (mkV k n)), i64 k] [] (i64 (k + 3 * n : Nat)) true [] := by
  refine holds_of (c := Try.f76.body.getD .skip) (k := k76.1) (ts := [4]) HOk mixedT hintT Try.func76 (by kernel_rfl) (by kernel_rfl) (by kernel_rfl) k76.2 (by kernel_rfl) (le_of 2 _ (by kernel_rfl)) ?_
  simp -dsimp only [k76, go_sem, ↓reduceIte, Nat.reduceEqDiff, Int.reduceLE, Int.reduceLT, Int.reduceNeg, Int.reduceEq, Nat.reduceMul, Nat.reduceAdd, Nat.reduceLeDiff, reduceCtorEq]
  refine K_for n (fun i g h c => g 0 = .dat 3 (vl (mkV k n)) ∧ g 1 = i64 (k + 3 * i : Nat) ∧ g 5 = i64 i) ?_ ?_ ?_
  · exact ⟨by simp [upd_at, S_0], by simp [upd_at, S_1], by simp [upd_at]⟩
  · rintro i A hi hA g h c ⟨q0, q1, q5⟩
    have hc : (i : Int) < (n : Int) := by omega
    have gi := vl_get (l := mkV k n) (i := i) (by rw [mkV_len]; exact hi)
    rw [mkV_get hi] at gi
    have w0 : IntKind.i64.wrap ((k + 3 * i : Nat) : Int) = ((k + 3 * i : Nat) : Int) := wr (by omega) (by omega)
    have w0' : IntKind.i64.wrap ((k + 3 * i + 1 : Nat) : Int) = ((k + 3 * i + 1 : Nat) : Int) := wr (by omega) (by omega)
    have w1 : IntKind.i64.wrap ((i : Int) + 1) = ((i + 1 : Nat) : Int) := by rw [wr (by omega) (by omega)]; rfl
    have w2 : IntKind.i64.wrap (((k + 3 * i : Nat) : Int) + 1) = ((k + 3 * i + 1 : Nat) : Int) := by rw [wr (by omega) (by omega)]; rfl
    have w3 : IntKind.i64.wrap (((k + 3 * i + 1 : Nat) : Int) + 1) = ((k + 3 * i + 2 : Nat) : Int) := by rw [wr (by omega) (by omega)]; omega
    have w4 : IntKind.i64.wrap (((k + 3 * i + 2 : Nat) : Int) + 1) = ((k + 3 * (i + 1) : Nat) : Int) := by rw [wr (by omega) (by omega)]; omega
    have e0 : (((k + 3 * i : Nat) : Int) != ((k + 3 * i : Nat) : Int)) = false := by simp
    have e2 : (((k + 3 * i + 1 : Nat) : Int) != ((k + 3 * i + 1 : Nat) : Int)) = false := by simp
    have e1 : ∀ s : List UInt8, (!(s == s)) = false := fun s => by simp
    simp -dsimp only [q0, q1, q5, hc, gi, vl_len, mkV_len, w0, w0', w1, w2, w3, w4, e0, e2, e1, go_sem, ↓reduceIte, Nat.reduceEqDiff, Int.reduceLE, Int.reduceLT, Int.reduceNeg, Int.reduceEq, Nat.reduceMul, Nat.reduceAdd, Nat.reduceLeDiff, reduceCtorEq]
    refine VK_p (by omega) ?_
    simp -dsimp only [q0, q1, q5, hc, gi, w0, w0', w1, w2, w3, w4, e0, e2, e1, go_sem, ↓reduceIte, Nat.reduceEqDiff, Int.reduceLE, Int.reduceLT, Int.reduceNeg, Int.reduceEq, Nat.reduceMul, Nat.reduceAdd, Nat.reduceLeDiff, reduceCtorEq]
    refine Call0_val true (h63 (k + 3 * i + 2) (by omega) (by omega)) (by simp [AV.free, AV.pure]) (.inl rfl) ?_
    simp -dsimp only [q0, q1, q5, hc, gi, w0, w0', w1, w2, w3, w4, e0, e2, e1, go_sem, ↓reduceIte, Nat.reduceEqDiff, Int.reduceLE, Int.reduceLT, Int.reduceNeg, Int.reduceEq, Nat.reduceMul, Nat.reduceAdd, Nat.reduceLeDiff, reduceCtorEq]
    exact hA _ _ _ ⟨by simp [upd_at, q0], by simp [upd_at], by simp [upd_at]⟩
  · rintro A g h c ⟨q0, q1, q5⟩
    have hc : ¬ (n : Int) < (n : Int) := by omega
    simp -dsimp only [q0, q1, q5, hc, vl_len, mkV_len, go_sem, ↓reduceIte, Nat.reduceEqDiff, Int.reduceLE, Int.reduceLT, Int.reduceNeg, Int.reduceEq, Nat.reduceMul, Nat.reduceAdd, Nat.reduceLeDiff, reduceCtorEq]
    exact Fin_val (by simp [resV, upd_at, retA]) (by simp [resV, upd_at, ResOk])
end FrA

/-! CvB -/
open Go Go.AM
namespace FrA
open Go.Proofs
set_option maxRecDepth 100000
set_option linter.unusedSimpArgs false
abbrev Chg := Int × Int × List Vl × List Vl
def cC (c : Chg) : List AV := [.i .i64 c.1, .i .i64 c.2.1, .dat 3 (vl c.2.2.1), .dat 3 (vl c.2.2.2)]
def ch (l : List Chg) : List (List AV) := l.map cC
def c0 : Chg := (0, 0, [], [])
def obC (l : List Chg) : Ob := { ver := 1, es := ch l, esz := 4, own := True }
theorem ch_len (l : List Chg) : (ch l).length = l.length := by simp [ch]
theorem ch_get {l : List Chg} {i : Nat} (h : i < l.length) : (ch l)[i]? = some (cC (l.getD i c0)) := by simp [ch, List.getElem?_eq_getElem h]
theorem ch_mem {l : List Chg} {e : List AV} (h : e ∈ ch l) : ∃ v, v ∈ l ∧ e = cC v := by
  simp only [ch, List.mem_map] at h
  obtain ⟨v, h1, rfl⟩ := h
  exact ⟨v, h1, rfl⟩
theorem ch_pure (l : List Chg) : AM.Pure (ch l) := by
  intro e he c hc
  obtain ⟨v, _, rfl⟩ := ch_mem he
  simp [cC] at hc; rcases hc with rfl | rfl | rfl | rfl <;> rfl
theorem ch_good (l : List Chg) : AM.Good (ch l) 4 := by
  intro e he
  obtain ⟨v, _, rfl⟩ := ch_mem he
  simp [cC, AV.storable]
theorem ch_app (l m : List Chg) : ch (l ++ m) = ch l ++ ch m := by simp [ch]
theorem getC_mem {l : List Chg} {i : Nat} (h : i < l.length) : l.getD i c0 ∈ l := by
  rw [List.getD_eq_getElem?_getD, List.getElem?_eq_getElem h, Option.getD_some]; exact List.getElem_mem h
def szc (c : Chg) : Nat := (c.2.2.1.length + szv c.2.2.1) + (c.2.2.2.length + szv c.2.2.2)
def szcl : List Chg → Nat
  | [] => 0
  | c :: l => szc c + szcl l
theorem szcl_app : ∀ a b : List Chg, szcl (a ++ b) = szcl a + szcl b
  | [], b => by simp [szcl]
  | v :: a, b => by simp [szcl, szcl_app a b]; omega
theorem szcl_succ {l : List Chg} {i : Nat} (h : i < l.length) : szcl (l.take (i + 1)) = szcl (l.take i) + szc (l.getD i c0) := by
  rw [List.take_add_one, szcl_app, List.getElem?_eq_getElem h, List.getD_eq_getElem?_getD, List.getElem?_eq_getElem h]
  simp [szcl]
theorem szcl_le (l : List Chg) (i : Nat) : szcl (l.take i) ≤ szcl l := by
  conv => rhs; rw [← List.take_append_drop i l, szcl_app]
  omega
def LgV (l : List Vl) : Prop := Lg l.length ∧ ∀ v ∈ l, Lg v.2.2.length
theorem lefts_le (left n : Nat) : lefts left n ≤ left := by unfold lefts; split <;> omega
theorem h69 (c : Chg) (left : Nat) (hl : left ≤ 1048576) (ha : LgV c.2.2.1) (hb : LgV c.2.2.2) : HT 69 [.agg (cC c), i64 left] [] (i64 (lefts left (szc c))) true [] := by
  refine holds_of (c := Try.f69.body.getD .skip) (k := k69.1) (ts := [4]) HOk mixedT hintT Try.func69 (by kernel_rfl) (by kernel_rfl) (by kernel_rfl) k69.2 (by kernel_rfl) (le_of 2 _ (by kernel_rfl)) ?_
  obtain ⟨a, b, o, n⟩ := c
  simp only at ha hb
  simp only [cC, szc]
  have d1 := h112 o left hl ha.1 ha.2
  by_cases h1 : o.length + szv o ≤ left
  · rw [lefts_yes h1] at d1
    have d2 := h112 n (left - (o.length + szv o)) (by omega) hb.1 hb.2
    have c1 : ¬ ((left - (o.length + szv o) : Nat) : Int) < 0 := by omega
    by_cases h2 : n.length + szv n ≤ left - (o.length + szv o)
    · rw [lefts_yes h2] at d2
      have c2 : ¬ ((left - (o.length + szv o) - (n.length + szv n) : Nat) : Int) < 0 := by omega
      simp -dsimp only [k69, go_sem, ↓reduceIte, Nat.reduceEqDiff, Int.reduceLE, Int.reduceLT, Int.reduceNeg, Int.reduceEq, Nat.reduceMul, Nat.reduceAdd, Nat.reduceLeDiff, reduceCtorEq]
      refine Call_val (own := true) (d1) (by simp [ExpOk, AV.pure]) (.inl rfl) ?_
      simp -dsimp only [c1, go_sem, ↓reduceIte, Nat.reduceEqDiff, Int.reduceLE, Int.reduceLT, Int.reduceNeg, Int.reduceEq, Nat.reduceMul, Nat.reduceAdd, Nat.reduceLeDiff, reduceCtorEq]
      refine Call_val (own := true) (d2) (by simp [ExpOk, AV.pure]) (.inl rfl) ?_
      simp -dsimp only [c2, go_sem, ↓reduceIte, Nat.reduceEqDiff, Int.reduceLE, Int.reduceLT, Int.reduceNeg, Int.reduceEq, Nat.reduceMul, Nat.reduceAdd, Nat.reduceLeDiff, reduceCtorEq]
      refine Fin_val ?_ (by simp [resV, upd_at, ResOk])
      simp [resV, upd_at, retA]; rw [lefts_yes (by omega)]; omega
    · rw [lefts_no h2] at d2
      simp -dsimp only [k69, go_sem, ↓reduceIte, Nat.reduceEqDiff, Int.reduceLE, Int.reduceLT, Int.reduceNeg, Int.reduceEq, Nat.reduceMul, Nat.reduceAdd, Nat.reduceLeDiff, reduceCtorEq]
      refine Call_val (own := true) (d1) (by simp [ExpOk, AV.pure]) (.inl rfl) ?_
      simp -dsimp only [c1, go_sem, ↓reduceIte, Nat.reduceEqDiff, Int.reduceLE, Int.reduceLT, Int.reduceNeg, Int.reduceEq, Nat.reduceMul, Nat.reduceAdd, Nat.reduceLeDiff, reduceCtorEq]
      refine Call_val (own := true) (d2) (by simp [ExpOk, AV.pure]) (.inl rfl) ?_
      simp -dsimp only [neg1, go_sem, ↓reduceIte, Nat.reduceEqDiff, Int.reduceLE, Int.reduceLT, Int.reduceNeg, Int.reduceEq, Nat.reduceMul, Nat.reduceAdd, Nat.reduceLeDiff, reduceCtorEq]
      exact Fin_val (by simp [resV, upd_at, retA, lefts_no (show ¬ o.length + szv o + (n.length + szv n) ≤ left by omega)]) (by simp [resV, upd_at, ResOk])
  · rw [lefts_no h1] at d1
    simp -dsimp only [k69, go_sem, ↓reduceIte, Nat.reduceEqDiff, Int.reduceLE, Int.reduceLT, Int.reduceNeg, Int.reduceEq, Nat.reduceMul, Nat.reduceAdd, Nat.reduceLeDiff, reduceCtorEq]
    refine Call_val (own := true) (d1) (by simp [ExpOk, AV.pure]) (.inl rfl) ?_
    simp -dsimp only [neg1, go_sem, ↓reduceIte, Nat.reduceEqDiff, Int.reduceLE, Int.reduceLT, Int.reduceNeg, Int.reduceEq, Nat.reduceMul, Nat.reduceAdd, Nat.reduceLeDiff, reduceCtorEq]
    exact Fin_val (by simp [resV, upd_at, retA, lefts_no (show ¬ o.length + szv o + (n.length + szv n) ≤ left by omega)]) (by simp [resV, upd_at, ResOk])
theorem h27 (l : List Chg) (left : Nat) (hl : left ≤ 1048576) (hn : Lg l.length) (hb : ∀ c ∈ l, LgV c.2.2.1 ∧ LgV c.2.2.2) : HT 27 [.dat 4 (ch l), i64 left] [] (i64 (lefts left (l.length + szcl l))) true [] := by
  refine holds_of (c := Try.f27.body.getD .skip) (k := k27.1) (ts := [4]) HOk mixedT hintT Try.func27 (by kernel_rfl) (by kernel_rfl) (by kernel_rfl) k27.2 (by kernel_rfl) (le_of 2 _ (by kernel_rfl)) ?_
  by_cases h1 : l.length ≤ left
  · have w1 : IntKind.i64.wrap ((left : Int) - (l.length : Int)) = ((left - l.length : Nat) : Int) := by rw [wr (by omega) (by omega)]; omega
    have c1 : ¬ ((left - l.length : Nat) : Int) < 0 := by omega
    simp -dsimp only [k27, w1, c1, ch_len, go_sem, ↓reduceIte, Nat.reduceEqDiff, Int.reduceLE, Int.reduceLT, Int.reduceNeg, Int.reduceEq, Nat.reduceMul, Nat.reduceAdd, Nat.reduceLeDiff, reduceCtorEq]
    refine K_loop (fun g h c => ∃ i : Nat, i ≤ l.length ∧ l.length + szcl (l.take i) ≤ left ∧ g 0 = .dat 4 (ch l) ∧ g 1 = i64 (left - l.length - szcl (l.take i) : Nat) ∧ g 5 = i64 i) (fun g _ _ => match g 5 with | .i _ n => l.length - n.toNat | _ => 0) ?_ ?_
    · exact ⟨0, by omega, by simp [szcl]; omega, by simp [upd_at, S_0], by simp [upd_at, szcl], by simp [upd_at]⟩
    · rintro A n hA g h c ⟨i, hi, hsz, q0, q1, q5⟩ hm
      by_cases hlt : i < l.length
      · have hc : (i : Int) < (l.length : Int) := by omega
        have w2 : IntKind.i64.wrap ((i : Int) + 1) = ((i + 1 : Nat) : Int) := by rw [wr (by omega) (by omega)]; rfl
        have hf := hb _ (getC_mem hlt)
        have hs := szcl_succ hlt
        have hle := szcl_le l (i + 1)
        have hg := ch_get hlt
        generalize l.getD i c0 = cc at hf hs hg
        have d69 := h69 cc (left - l.length - szcl (l.take i)) (by omega) hf.1 hf.2
        have ec : cC cc = [.i .i64 cc.1, .i .i64 cc.2.1, .dat 3 (vl cc.2.2.1), .dat 3 (vl cc.2.2.2)] := rfl
        rw [ec] at hg d69
        simp -dsimp only [q0, q1, q5, hc, hg, ch_len, go_sem, ↓reduceIte, Nat.reduceEqDiff, Int.reduceLE, Int.reduceLT, Int.reduceNeg, Int.reduceEq, Nat.reduceMul, Nat.reduceAdd, Nat.reduceLeDiff, reduceCtorEq]
        refine Call_val (own := true) (d69) (by simp [ExpOk, AV.pure]) (.inl rfl) ?_
        by_cases h2 : szc cc ≤ left - l.length - szcl (l.take i)
        · rw [lefts_yes h2]
          have c2 : ¬ ((left - l.length - szcl (l.take i) - szc cc : Nat) : Int) < 0 := by omega
          simp -dsimp only [q0, q5, c2, w2, go_sem, ↓reduceIte, Nat.reduceEqDiff, Int.reduceLE, Int.reduceLT, Int.reduceNeg, Int.reduceEq, Nat.reduceMul, Nat.reduceAdd, Nat.reduceLeDiff, reduceCtorEq]
          refine hA _ _ _ ?_ ?_
          · refine ⟨i + 1, by omega, by omega, by simp [upd_at, q0], ?_, by simp [upd_at]⟩
            simp only [upd_at]
            exact congrArg i64 (congrArg Int.ofNat (by omega))
          · rw [q5] at hm; simp [upd_at] at hm ⊢; omega
        · rw [lefts_no h2]
          simp -dsimp only [neg1, go_sem, ↓reduceIte, Nat.reduceEqDiff, Int.reduceLE, Int.reduceLT, Int.reduceNeg, Int.reduceEq, Nat.reduceMul, Nat.reduceAdd, Nat.reduceLeDiff, reduceCtorEq]
          exact Fin_val (by simp [resV, upd_at, retA, lefts_no (show ¬ l.length + szcl l ≤ left by omega)]) (by simp [resV, upd_at, ResOk])
      · have hc : ¬ (i : Int) < (l.length : Int) := by omega
        rw [List.take_of_length_le (by omega)] at hsz q1
        simp -dsimp only [q0, q1, q5, hc, ch_len, go_sem, ↓reduceIte, Nat.reduceEqDiff, Int.reduceLE, Int.reduceLT, Int.reduceNeg, Int.reduceEq, Nat.reduceMul, Nat.reduceAdd, Nat.reduceLeDiff, reduceCtorEq]
        refine Fin_val ?_ (by simp [resV, upd_at, ResOk, q1])
        simp only [resV, upd_at, q1, retA, lefts_yes hsz]
        exact congrArg i64 (congrArg Int.ofNat (by omega))
  · have w1 : IntKind.i64.wrap ((left : Int) - (l.length : Int)) = (left : Int) - (l.length : Int) := by
      unfold IntKind.wrap; simp [IntKind.signed, IntKind.bits]; omega
    have c1 : (left : Int) - (l.length : Int) < 0 := by omega
    simp -dsimp only [k27, w1, c1, ch_len, go_sem, ↓reduceIte, Nat.reduceEqDiff, Int.reduceLE, Int.reduceLT, Int.reduceNeg, Int.reduceEq, Nat.reduceMul, Nat.reduceAdd, Nat.reduceLeDiff, reduceCtorEq]
    exact Fin_val (by simp [resV, upd_at, retA, lefts_no (show ¬ l.length + szcl l ≤ left by omega)]) (by simp [resV, upd_at, ResOk])
def toChA (c : Chg) : AV := .agg [.i .i64 c.1, .i .i64 c.2.1, .sl (.p 0) 1 0 c.2.2.1.length none, .sl (.p 1) 1 0 c.2.2.2.length none]
theorem h71 (c : Chg) (ha : c.2.2.1.length ≤ 1048576) (hb : c.2.2.2.length ≤ 1048576) : HT 71 [.agg (cC c)] [] (toChA c) true [obV c.2.2.1, obV c.2.2.2] := by
  refine holdsc_of (c := Try.f71.body.getD .skip) (k := k71.1) (cs := [(2, some (true, 4))]) HOk mixedT hintT Try.func71 (by kernel_rfl) (by kernel_rfl) (by kernel_rfl) k71.2 (by kernel_rfl) (le_of 1 _ (by kernel_rfl)) ?_
  obtain ⟨a, b, o, n⟩ := c
  simp only at ha hb
  simp only [cC]
  simp -dsimp only [k71, go_sem, ↓reduceIte, Nat.reduceEqDiff, Int.reduceLE, Int.reduceLT, Int.reduceNeg, Int.reduceEq, Nat.reduceMul, Nat.reduceAdd, Nat.reduceLeDiff, reduceCtorEq]
  refine Call_news (own := true) (h113 o ha) (by simp [ExpOk, AV.pure]) (by simp [obV, vl_pure]) (.inl rfl) (by simp [obV]) ?_
  simp -dsimp only [impA, Option.getD_some, Nat.sub_self, obV, go_sem, ↓reduceIte, Nat.reduceEqDiff, Int.reduceLE, Int.reduceLT, Int.reduceNeg, Int.reduceEq, Nat.reduceMul, Nat.reduceAdd, Nat.reduceLeDiff, reduceCtorEq]
  refine Call_news (own := true) (h113 n hb) (by simp [ExpOk, AV.pure]) (by simp [obV, vl_pure]) (.inl rfl) (by simp [obV]) ?_
  simp -dsimp only [impA, Option.getD_some, Nat.sub_self, obV, go_sem, ↓reduceIte, Nat.reduceEqDiff, Int.reduceLE, Int.reduceLT, Int.reduceNeg, Int.reduceEq, Nat.reduceMul, Nat.reduceAdd, Nat.reduceLeDiff, reduceCtorEq]
  refine finC_outs [.r 12 0, .r 16 0] (p := True) (l := [.agg [.i .i64 a, .i .i64 b, .sl (.r 12 0) 4 0 o.length none, .sl (.r 16 0) 5 0 n.length none]]) (by simp [resM, resE, upd_at, loadF, cur, hup_at]) trivial (by simp) (by simp [Rid.isP]) ?_ ?_ ?_
  · exact .flat (by simp only [hup_at, newObs, ↓reduceIte, Nat.reduceEqDiff, reduceCtorEq, Rid.r.injEq, Rid.l.injEq, Nat.reduceAdd, Nat.zero_add, and_self, and_true, and_false, false_and, true_and] <;> rfl) (vl_flat _) (vl_pure _) (.flat (by simp only [hup_at, newObs, ↓reduceIte, Nat.reduceEqDiff, reduceCtorEq, Rid.r.injEq, Rid.l.injEq, Nat.reduceAdd, Nat.zero_add, and_self, and_true, and_false, false_and, true_and] <;> rfl) (vl_flat _) (vl_pure _) trivial)
  · simp [resOne, retA, retL, cur, hup_at, List.idxOf?_cons, toChA]
  · simp [resOne, ResOk, ResL, cur, hup_at]
theorem h74 (c : Chg) (ha : c.2.2.1.length ≤ 1048576) (hb : c.2.2.2.length ≤ 1048576) : HT 74 [.agg (cC c), .agg (cC c)] [] (.b true) true [] := by
  refine holds_of (c := Try.f74.body.getD .skip) (k := k74.1) (ts := [4]) HOk mixedT hintT Try.func74 (by kernel_rfl) (by kernel_rfl) (by kernel_rfl) k74.2 (by kernel_rfl) (le_of 2 _ (by kernel_rfl)) ?_
  obtain ⟨a, b, o, n⟩ := c
  simp only at ha hb
  simp only [cC]
  have f0 : ∀ k : Int, (k != k) = false := fun k => by simp
  have d1 := h115 o ha
  have d2 := h115 n hb
  simp -dsimp only [k74, f0, go_sem, ↓reduceIte, Nat.reduceEqDiff, Int.reduceLE, Int.reduceLT, Int.reduceNeg, Int.reduceEq, Nat.reduceMul, Nat.reduceAdd, Nat.reduceLeDiff, reduceCtorEq]
  refine Call_val (own := true) (d1) (by simp [ExpOk, AV.pure]) (.inl rfl) ?_
  simp -dsimp only [f0, go_sem, ↓reduceIte, Nat.reduceEqDiff, Int.reduceLE, Int.reduceLT, Int.reduceNeg, Int.reduceEq, Nat.reduceMul, Nat.reduceAdd, Nat.reduceLeDiff, reduceCtorEq]
  refine Call_val (own := true) (d2) (by simp [ExpOk, AV.pure]) (.inl rfl) ?_
  simp -dsimp only [f0, go_sem, ↓reduceIte, Nat.reduceEqDiff, Int.reduceLE, Int.reduceLT, Int.reduceNeg, Int.reduceEq, Nat.reduceMul, Nat.reduceAdd, Nat.reduceLeDiff, reduceCtorEq]
  exact Fin_val (by simp [resV, upd_at, retA]) (by simp [resV, upd_at, ResOk])
def BdC (l : List Chg) : Prop := l.length ≤ 1048576 ∧ ∀ c ∈ l, c.2.2.1.length ≤ 1048576 ∧ c.2.2.2.length ≤ 1048576
theorem h31 (a : List Chg) (ha : BdC a) : HT 31 [.dat 4 (ch a), .dat 4 (ch a)] [] (.b true) true [] := by
  refine holds_of (c := Try.f31.body.getD .skip) (k := k31.1) (ts := [4]) HOk mixedT hintT Try.func31 (by kernel_rfl) (by kernel_rfl) (by kernel_rfl) k31.2 (by kernel_rfl) (le_of 2 _ (by kernel_rfl)) ?_
  have hn := ha.1
  have hc : ((a.length : Int) != (a.length : Int)) = false := by simp
  simp -dsimp only [k31, hc, ch_len, go_sem, ↓reduceIte, Nat.reduceEqDiff, Int.reduceLE, Int.reduceLT, Int.reduceNeg, Int.reduceEq, Nat.reduceMul, Nat.reduceAdd, Nat.reduceLeDiff, reduceCtorEq]
  refine K_for a.length (fun i g h _ => g 0 = .dat 4 (ch a) ∧ g 1 = .dat 4 (ch a) ∧ g 5 = i64 i) ?_ ?_ ?_
  · exact ⟨by simp [upd_at, S_0], by simp [upd_at, S_1], by simp [upd_at]⟩
  · rintro i A hi hA g h c ⟨q0, q1, q5⟩
    have hc : (i : Int) < (a.length : Int) := by omega
    have w1 : IntKind.i64.wrap ((i : Int) + 1) = ((i + 1 : Nat) : Int) := by rw [wr (by omega) (by omega)]; rfl
    have hg := ch_get hi
    have hf := ha.2 _ (getC_mem hi)
    generalize a.getD i c0 = cc at hf hg
    have d74 := h74 cc hf.1 hf.2
    have ec : cC cc = [.i .i64 cc.1, .i .i64 cc.2.1, .dat 3 (vl cc.2.2.1), .dat 3 (vl cc.2.2.2)] := rfl
    rw [ec] at hg d74
    simp -dsimp only [q0, q1, q5, hc, hg, ch_len, go_sem, ↓reduceIte, Nat.reduceEqDiff, Int.reduceLE, Int.reduceLT, Int.reduceNeg, Int.reduceEq, Nat.reduceMul, Nat.reduceAdd, Nat.reduceLeDiff, reduceCtorEq]
    refine Call0_val true (d74) (by simp [AV.free, AV.pure]) (.inl rfl) ?_
    simp -dsimp only [q5, w1, go_sem, ↓reduceIte, Nat.reduceEqDiff, Int.reduceLE, Int.reduceLT, Int.reduceNeg, Int.reduceEq, Nat.reduceMul, Nat.reduceAdd, Nat.reduceLeDiff, reduceCtorEq]
    exact hA _ _ _ ⟨by simp [upd_at, q0], by simp [upd_at, q1], by simp [upd_at]⟩
  · rintro A g h c ⟨q0, q1, q5⟩
    have hc : ¬ (a.length : Int) < (a.length : Int) := by omega
    simp -dsimp only [q0, q1, q5, hc, ch_len, go_sem, ↓reduceIte, Nat.reduceEqDiff, Int.reduceLE, Int.reduceLT, Int.reduceNeg, Int.reduceEq, Nat.reduceMul, Nat.reduceAdd, Nat.reduceLeDiff, reduceCtorEq]
    exact Fin_val (by simp [resV, upd_at, retA]) (by simp [resV, upd_at, ResOk])
end FrA

/-! CvH -/
open Go Go.AM
namespace FrA
open Go.Proofs
set_option maxRecDepth 100000
section
variable {H : Type} {enc : TypeId × Value → H} {W : World} {sp : Nat → Bool} {hd : Bool} {fuel : Nat} {x : DataW H × List MemPlace} {v : Value}
theorem read_val (m : Nat) (cs : List Value) (y : DataW H × List MemPlace) (h : DataW.trod enc Try.prog W 0 sp hd m 151 cs = some y) :
    ∃ r, (∃ f : Vl, r = vC f ∧ Lg f.2.2.length) ∧ r.length = 3 ∧ ∀ (j : Nat) x, r[j]? = some x → ∃ u, cs[j]? = some u ∧ Ro W (fun b => b < W.heap.size) x u := by
  obtain ⟨xs, n, _, _, hcl, hxl, hf⟩ := DataW.trod_struct Try.underlying151 h
  have c151 : Try.prog.cellsOf 151 = 3 := by kernel_rfl
  have c9 : Try.prog.cellsOf 9 = 1 := by kernel_rfl
  have c2 : Try.prog.cellsOf 2 = 1 := by kernel_rfl
  rw [c151] at hcl
  obtain ⟨v0, v1, v2, rfl⟩ : ∃ v0 v1 v2, cs = [v0, v1, v2] := by
    match cs, hcl with
    | [a, b, c], _ => exact ⟨a, b, c, rfl⟩
  have f0 : DataW.trod enc Try.prog W 0 sp hd n 2 ((List.drop 0 [v0, v1, v2]).take (Try.prog.cellsOf 2)) = xs[0]? := hf 0 _ rfl
  have f1 : DataW.trod enc Try.prog W 0 sp hd n 2 ((List.drop 1 [v0, v1, v2]).take (Try.prog.cellsOf 2)) = xs[1]? := hf 1 _ rfl
  have f2 : DataW.trod enc Try.prog W 0 sp hd n 9 ((List.drop 2 [v0, v1, v2]).take (Try.prog.cellsOf 9)) = xs[2]? := hf 2 _ rfl
  simp only [c9, c2, List.drop_zero, List.drop_succ_cons, List.take_succ_cons, List.take_zero] at f0 f1 f2
  rw [List.getElem?_eq_getElem (by rw [hxl]; decide)] at f0 f1 f2
  obtain ⟨k, hk⟩ := trod_i .i64 Try.underlying2 f0
  obtain ⟨a, ha⟩ := trod_i .i64 Try.underlying2 f1
  obtain ⟨b, hb, hbl⟩ := trod_str Try.underlying9 f2
  simp only [List.cons.injEq, and_true] at hk ha hb
  subst hk; subst ha; subst hb
  refine ⟨vC (k, a, b), ⟨(k, a, b), rfl, hbl⟩, rfl, fun j x hx => ?_⟩
  match j, hx with
  | 0, hx => simp [vC] at hx; subst hx; exact ⟨_, rfl, .i _ k⟩
  | 1, hx => simp [vC] at hx; subst hx; exact ⟨_, rfl, .i _ a⟩
  | 2, hx => simp [vC] at hx; subst hx; exact ⟨_, rfl, .s b⟩
theorem read_vals (h : DataW.trod enc Try.prog W 0 sp hd fuel 91 [v] = some x) : ∃ l : List Vl, Ro W (fun b => b < W.heap.size) (.dat 3 (vl l)) v ∧ LgV l := by
  obtain ⟨es, h1, h2, h3⟩ := read_rows2 (e := 151) (n := 3) Try.underlying91 (by kernel_rfl) (by decide) read_val h
  obtain ⟨l, hl, hq⟩ := unmap2 (c := vC) (Q := fun f => Lg f.2.2.length) es h3
  subst hl
  exact ⟨l, h1, (by simpa using h2 : l.length ≤ maxLen), hq⟩
theorem read_chg (m : Nat) (cs : List Value) (y : DataW H × List MemPlace) (h : DataW.trod enc Try.prog W 0 sp hd m 93 cs = some y) :
    ∃ r, (∃ c : Chg, r = cC c ∧ LgV c.2.2.1 ∧ LgV c.2.2.2) ∧ r.length = 4 ∧ ∀ (j : Nat) x, r[j]? = some x → ∃ u, cs[j]? = some u ∧ Ro W (fun b => b < W.heap.size) x u := by
  obtain ⟨xs, n, _, _, hcl, hxl, hf⟩ := DataW.trod_struct Try.underlying93 h
  have c93 : Try.prog.cellsOf 93 = 4 := by kernel_rfl
  have c91 : Try.prog.cellsOf 91 = 1 := by kernel_rfl
  have c2 : Try.prog.cellsOf 2 = 1 := by kernel_rfl
  rw [c93] at hcl
  obtain ⟨v0, v1, v2, v3, rfl⟩ : ∃ v0 v1 v2 v3, cs = [v0, v1, v2, v3] := by
    match cs, hcl with
    | [a, b, c, d], _ => exact ⟨a, b, c, d, rfl⟩
  have f0 : DataW.trod enc Try.prog W 0 sp hd n 2 ((List.drop 0 [v0, v1, v2, v3]).take (Try.prog.cellsOf 2)) = xs[0]? := hf 0 _ rfl
  have f1 : DataW.trod enc Try.prog W 0 sp hd n 2 ((List.drop 1 [v0, v1, v2, v3]).take (Try.prog.cellsOf 2)) = xs[1]? := hf 1 _ rfl
  have f2 : DataW.trod enc Try.prog W 0 sp hd n 91 ((List.drop 2 [v0, v1, v2, v3]).take (Try.prog.cellsOf 91)) = xs[2]? := hf 2 _ rfl
  have f3 : DataW.trod enc Try.prog W 0 sp hd n 91 ((List.drop 3 [v0, v1, v2, v3]).take (Try.prog.cellsOf 91)) = xs[3]? := hf 3 _ rfl
  simp only [c91, c2, List.drop_zero, List.drop_succ_cons, List.take_succ_cons, List.take_zero] at f0 f1 f2 f3
  rw [List.getElem?_eq_getElem (by rw [hxl]; decide)] at f0 f1 f2 f3
  obtain ⟨k, hk⟩ := trod_i .i64 Try.underlying2 f0
  obtain ⟨a, ha⟩ := trod_i .i64 Try.underlying2 f1
  obtain ⟨b, rb, hb⟩ := read_vals f2
  obtain ⟨d, rd, hd⟩ := read_vals f3
  simp only [List.cons.injEq, and_true] at hk ha
  subst hk; subst ha
  refine ⟨cC (k, a, b, d), ⟨(k, a, b, d), rfl, hb, hd⟩, rfl, fun j x hx => ?_⟩
  match j, hx with
  | 0, hx => simp [cC] at hx; subst hx; exact ⟨_, rfl, .i _ k⟩
  | 1, hx => simp [cC] at hx; subst hx; exact ⟨_, rfl, .i _ a⟩
  | 2, hx => simp [cC] at hx; subst hx; exact ⟨_, rfl, rb⟩
  | 3, hx => simp [cC] at hx; subst hx; exact ⟨_, rfl, rd⟩
theorem read_chgs {d : DataW H} {ps : List MemPlace} (hval : Value.okWide Try.prog W .any 0 32 v) (h : DataW.Trod enc Try.prog W 0 sp hd 32 v d ps) :
    ∃ l : List Chg, Lg l.length ∧ (∀ c ∈ l, LgV c.2.2.1 ∧ LgV c.2.2.2) ∧ VR W κ0 (objs []) 1 (.dat 4 (ch l)) v := by
  obtain ⟨fuel, h⟩ := h
  obtain ⟨a1, len, cap, rfl⟩ := WideShapes.okWide_slice Try.underlying32 hval
  have h : DataW.trod enc Try.prog W 0 sp hd fuel 32 [.slice a1 len cap] = some (d, ps) := h
  obtain ⟨es, h1, h2, h3⟩ := read_rows2 (e := 93) (n := 4) Try.underlying32 (by kernel_rfl) (by decide) read_chg h
  obtain ⟨l, hl, hq⟩ := unmap2 (c := cC) (Q := fun c : Chg => LgV c.2.2.1 ∧ LgV c.2.2.2) es h3
  subst hl
  exact ⟨l, (by simpa using h2 : l.length ≤ maxLen), hq, .ro _ _ (h1.frame (fun b hb => (X0 W b).2 hb) (fun _ _ => rfl))⟩
end
end FrA

