/- Rows of values, read from their texts. No condition. -/
import Derived.Test.YtdlaklminigoaaaDoorAmPvF
set_option linter.all false
set_option linter.unusedSimpArgs false
set_option linter.unusedVariables false
set_option linter.deprecated false
/-! PvG -/
namespace FrA
open Go
theorem rr_words {s : List UInt8} {l : List Vl} (h : rRd s = some l) : (words 44 s).drop 1 = l.map vText ∧ l.length ≤ 16 ∧ s ≠ [] := by
  obtain ⟨h1, h2⟩ := rRd_some h
  refine ⟨by rw [← h2, words_rRaw]; rfl, h1.1, by rw [← h2]; exact rRaw_ne l⟩
theorem rr_fail {s : List UInt8} {i : Nat} (hi : i < ((words 44 s).drop 1).length) (hv : vRd (((words 44 s).drop 1).getD i []) = none) : rRd s = none := by
  cases h : rRd s with
  | none => rfl
  | some l =>
    obtain ⟨h1, _⟩ := rr_words h
    obtain ⟨h2, _⟩ := rRd_some h
    rw [h1] at hi hv
    simp only [List.length_map] at hi
    rw [List.getD_eq_getElem?_getD, List.getElem?_map, List.getElem?_eq_getElem hi] at hv
    simp only [Option.map_some, Option.getD_some] at hv
    rw [vRd_text (h2.2 _ (List.getElem_mem hi))] at hv
    cases hv
theorem rr_long {s : List UInt8} (h : 16 < ((words 44 s).drop 1).length) : rRd s = none := by
  cases h2 : rRd s with
  | none => rfl
  | some l =>
    obtain ⟨h1, h3, _⟩ := rr_words h2
    rw [h1] at h; simp at h; omega
theorem map_some_inj {α β : Type} {f : α → Option β} : ∀ {ws : List α} {a b : List β}, ws.map f = a.map some → ws.map f = b.map some → a = b
  | [], [], [], _, _ => rfl
  | [], _ :: _, _, h, _ => by simp at h
  | [], _, _ :: _, _, h => by simp at h
  | _ :: _, [], _, h, _ => by simp at h
  | _ :: _, _, [], _, h => by simp at h
  | w :: ws, x :: a, y :: b, h1, h2 => by
    simp only [List.map_cons, List.cons.injEq] at h1 h2
    have e := h1.1.symm.trans h2.1
    cases e
    rw [map_some_inj h1.2 h2.2]
theorem rr_end {s : List UInt8} {out : List Vl} (h : ((words 44 s).drop 1).map vRd = out.map some) : rRd s = if s ≠ [] ∧ rText out = s then some out else none := by
  cases h2 : rRd s with
  | some l =>
    obtain ⟨h1, h3, h4⟩ := rr_words h2
    obtain ⟨h5, h6⟩ := rRd_some h2
    have e : out = l := by
      refine map_some_inj h ?_
      rw [h1, List.map_map]
      exact List.map_congr_left fun v hv => by simp [vRd_text (h5.2 v hv)]
    subst e
    rw [if_pos ⟨h4, by unfold rText; rw [if_pos h5]; exact h6⟩]
  | none =>
    split
    · rename_i h3
      exfalso
      obtain ⟨h3, h4⟩ := h3
      unfold rText at h4
      split at h4
      · rename_i h5
        rw [← h4, rRd_raw h5] at h2; cases h2
      · exact h3 h4.symm
    · rfl
theorem take_map_succ {α β : Type} {f : α → Option β} {l : List α} {d : α} {i : Nat} {out : List β} {x : β} (hi : i < l.length) (h : (l.take i).map f = out.map some) (hx : f (l.getD i d) = some x) : (l.take (i + 1)).map f = (out ++ [x]).map some := by
  rw [List.take_add_one, List.getElem?_eq_getElem hi, Option.toList_some, List.map_append, h, List.map_append]
  rw [List.getD_eq_getElem?_getD, List.getElem?_eq_getElem hi, Option.getD_some] at hx
  simp [hx]
theorem len_of_map {α β : Type} {f : α → Option β} {l : List α} {out : List β} (h : l.map f = out.map some) : l.length = out.length := by
  have := congrArg List.length h; simpa using this
theorem vRd_rng {s : List UInt8} {v : Vl} (h : vRd s = some v) : vOk v ∧ vText v = s := vRd_some h
theorem vOk_rng {v : Vl} (h : vOk v) : -1000000000 ≤ v.2.1 ∧ v.2.1 ≤ 1000000000 ∧ v.2.2.length ≤ 12 := by
  rcases h with ⟨_, h2, h3⟩ | ⟨_, h2, h3⟩ | ⟨_, h2, h3⟩
  · rw [h2, h3]; exact ⟨by omega, by omega, by simp⟩
  · rw [h3]; exact ⟨h2.1, h2.2, by simp⟩
  · rw [h2]; exact ⟨by omega, by omega, h3⟩
def rowsB (l : List Vl) : List UInt8 := l.flatMap fun v => 44 :: vText v
theorem vText_len38 (v : Vl) : (vText v).length ≤ 38 := by
  by_cases h : vOk v
  · have := vOk_rng h
    exact vText_len ⟨by omega, by omega⟩
  · unfold vText; rw [if_neg h]; simp
theorem rowsB_len : ∀ (l : List Vl), (rowsB l).length ≤ 39 * l.length
  | [] => by simp [rowsB]
  | v :: l => by
    have ih := rowsB_len l
    have h2 := vText_len38 v
    unfold rowsB at ih ⊢
    simp only [List.flatMap_cons, List.length_append, List.length_cons]
    omega
theorem rowsB_take {l : List Vl} {i : Nat} (h : i < l.length) : rowsB (l.take (i + 1)) = rowsB (l.take i) ++ (44 :: vText (l.getD i (0, 0, []))) := by
  unfold rowsB
  rw [List.take_add_one, List.getElem?_eq_getElem h, Option.toList_some, List.flatMap_append, List.getD_eq_getElem?_getD, List.getElem?_eq_getElem h]
  simp
theorem rRaw_eq (l : List Vl) : rRaw l = Lib.itoa (l.length : Int) ++ rowsB l := rfl
theorem itoa_len20 {n : Nat} (h : n < 10 ^ 20) : (Lib.itoa (n : Int)).length ≤ 20 := by
  rw [itoa_dec, if_neg (by omega)]; exact dec_len20 (by simpa using h)
theorem words_mem_len {c : UInt8} : ∀ {s w : List UInt8}, w ∈ words c s → w.length ≤ s.length
  | [], w, h => by simp [words] at h; subst h; simp
  | b :: s, w, h => by
    have ih := fun x (hx : x ∈ words c s) => words_mem_len hx
    by_cases hb : b = c
    · rw [words, if_pos hb] at h
      rcases List.mem_cons.1 h with rfl | h
      · simp
      · have := ih w h; simp; omega
    · rw [words, if_neg hb] at h
      cases hw : words c s with
      | nil => rw [hw] at h; simp at h; subst h; simp
      | cons x r =>
        rw [hw] at h ih
        rcases List.mem_cons.1 h with rfl | h
        · have := ih x List.mem_cons_self; simp; omega
        · have := ih w (List.mem_cons_of_mem _ h); simp; omega
end FrA

