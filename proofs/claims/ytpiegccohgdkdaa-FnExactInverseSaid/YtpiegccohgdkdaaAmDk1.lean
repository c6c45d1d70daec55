/- slices.Delete and slices.Insert, in the caller's heap. No condition. -/
import Derived.Test.YtpiegccohgdkdaaAmKsD
import Derived.Test.YtpiegccohgdkdaaAmSeat
import Derived.Test.YtpiegccohgdkdaaAmFuns
set_option linter.all false
set_option linter.unusedSimpArgs false
set_option linter.unusedVariables false
set_option linter.deprecated false
/-! DkA -/
open Go Go.AM
namespace FrA
set_option maxRecDepth 100000
set_option linter.unusedSimpArgs false
abbrev File := List UInt8 × List UInt8
def fl (l : List File) : List (List AV) := l.map fun f => [.s f.1, .s f.2]
def z2 : List AV := [.s [], .s []]
theorem fl_len (l : List File) : (fl l).length = l.length := by simp [fl]
theorem fl_get {l : List File} {i : Nat} (h : i < l.length) : (fl l)[i]? = some [.s (l.getD i ([], [])).1, .s (l.getD i ([], [])).2] := by
  simp [fl, List.getElem?_eq_getElem h]
theorem fl_pure (l : List File) : Pure (fl l) := by
  intro e he c hc
  simp only [fl, List.mem_map] at he
  obtain ⟨t, _, rfl⟩ := he
  simp at hc; rcases hc with rfl | rfl <;> rfl
theorem fl_flat (l : List File) : Flat (fl l) := by
  intro e he c hc
  simp only [fl, List.mem_map] at he
  obtain ⟨t, _, rfl⟩ := he
  simp at hc; rcases hc with rfl | rfl <;> rfl
theorem fl_good (l : List File) : Good (fl l) 2 := by
  intro e he
  simp only [fl, List.mem_map] at he
  obtain ⟨t, _, rfl⟩ := he
  exact ⟨rfl, rfl⟩
theorem fl_take (l : List File) (n : Nat) : (fl l).take n = fl (l.take n) := by simp [fl]
theorem fl_drop (l : List File) (n : Nat) : (fl l).drop n = fl (l.drop n) := by simp [fl]
theorem fl_app (l m : List File) : fl l ++ fl m = fl (l ++ m) := by simp [fl]
theorem sub_eq {es : List (List AV)} (off len : Nat) (h : off + len ≤ es.length) : sub es off len = (es.drop off).take len := by
  unfold sub; split
  · rename_i e
    obtain ⟨rfl, rfl⟩ := e
    simp
  · rfl
theorem fl_sub {l : List File} {off len : Nat} (h : off + len ≤ l.length) : sub (fl l) off len = fl ((l.drop off).take len) := by
  rw [sub_eq _ _ (by rw [fl_len]; exact h), fl_drop, fl_take]
theorem hup_hup (h : Heap) (o : Rid) (a b : Ob) : hup (hup h o a) o b = hup h o b := by
  funext u; unfold hup; split <;> rfl
theorem walkX120 (C : Con) (l : List File) (o : Rid) (v i : Nat) (q : Prop) (h : Heap) (clk : Nat) (Q : AV → Heap → Nat → Prop) (hh : h o = some { ver := v, es := fl l, esz := 2, own := q }) (hi : i < l.length) (hn : l.length ≤ 1048576)
    (hq : ∀ q', Q (.sl o v 0 (l.length - 1) none) (hup h o { ver := v, es := fl (l.eraseIdx i) ++ [z2], esz := 2, own := q' }) clk) :
    RunK C k120.1 (.done (FinX [6] Q)) (slots0 [.sl o v 0 l.length none, i64 i, i64 (i + 1 : Nat)]) h clk := by
  have h0 : slots0 [.sl o v 0 l.length none, i64 i, i64 (i + 1 : Nat)] 0 = .sl o v 0 l.length none := rfl
  have h1 : slots0 [.sl o v 0 l.length none, i64 i, i64 (i + 1 : Nat)] 1 = i64 i := rfl
  have h2 : slots0 [.sl o v 0 l.length none, i64 i, i64 (i + 1 : Nat)] 2 = i64 (i + 1 : Nat) := rfl
  have hni : ¬ i = l.length := by omega
  have hc : ((i : Int) == ((i + 1 : Nat) : Int)) = false := by simp; omega
  simp (config := {dsimp := false}) only [k120, h0, h1, h2, hh, eq_self, hc, go_sem, ↓reduceIte, Nat.reduceEqDiff, Int.reduceLE, Int.reduceLT, Int.reduceNeg, Int.reduceEq, Nat.reduceMul, Nat.reduceAdd, Nat.reduceLeDiff, reduceCtorEq]
  refine VK_p (by omega) ?_
  simp (config := {dsimp := false}) only [h0, h1, h2, hh, eq_self, hc, go_sem, ↓reduceIte, Nat.reduceEqDiff, Int.reduceLE, Int.reduceLT, Int.reduceNeg, Int.reduceEq, Nat.reduceMul, Nat.reduceAdd, Nat.reduceLeDiff, reduceCtorEq]
  refine VK_p (.inl (by omega)) ?_
  simp (config := {dsimp := false}) only [h0, h1, h2, hh, eq_self, hc, go_sem, ↓reduceIte, Nat.reduceEqDiff, Int.reduceLE, Int.reduceLT, Int.reduceNeg, Int.reduceEq, Nat.reduceMul, Nat.reduceAdd, Nat.reduceLeDiff, reduceCtorEq]
  refine VK_p (by omega) ?_
  have hx : List.take ((l.length : Int) - ((i + 1 : Nat) : Int)).toNat (List.drop (i + 1) (fl l)) = fl (l.drop (i + 1)) := by
    rw [fl_drop, List.take_of_length_le (by rw [fl_len, List.length_drop]; omega)]
  have hk : i + (l.length - (i + 1)) = l.length - 1 := by omega
  simp (config := {dsimp := false}) only [h0, h1, h2, hh, eq_self, hc, hni, fl_len, hx, List.length_drop, hk, go_sem, ↓reduceIte, Nat.reduceEqDiff, Int.reduceLE, Int.reduceLT, Int.reduceNeg, Int.reduceEq, Nat.reduceMul, Nat.reduceAdd, Nat.reduceLeDiff, reduceCtorEq]
  refine EK_p ⟨⟨fun _ => fl_flat _, fl_good _⟩, by omega⟩ ?_
  have hm : (fl l).take i ++ fl (l.drop (i + 1)) ++ (fl l).drop (l.length - 1) = fl (l.eraseIdx i ++ l.drop (l.length - 1)) := by
    rw [fl_take, fl_drop, fl_app, fl_app]; congr 1; congr 1; exact (List.eraseIdx_eq_take_drop_succ l i).symm
  simp (config := {dsimp := false}) only [h0, h1, h2, hm, eq_self, hc, hni, fl_len, go_sem, ↓reduceIte, Nat.reduceEqDiff, Int.reduceLE, Int.reduceLT, Int.reduceNeg, Int.reduceEq, Nat.reduceMul, Nat.reduceAdd, Nat.reduceLeDiff, reduceCtorEq]
  refine VK_p ⟨by omega, .inr (by rw [List.length_append, List.length_eraseIdx_of_lt hi, List.length_drop]; omega)⟩ ?_
  have hlen : (l.eraseIdx i).length = l.length - 1 := List.length_eraseIdx_of_lt hi
  have h1' : ((l.length : Int) - ((l.length - 1 : Nat) : Int)).toNat = 1 := by omega
  simp (config := {dsimp := false}) only [h0, h1, h2, h1', eq_self, fl_len, go_sem, ↓reduceIte, Nat.reduceEqDiff, Int.reduceLE, Int.reduceLT, Int.reduceNeg, Int.reduceEq, Nat.reduceMul, Nat.reduceAdd, Nat.reduceLeDiff, reduceCtorEq]
  refine ClrK_p trivial ?_
  have he : List.take (l.length - 1) (fl (l.eraseIdx i ++ List.drop (l.length - 1) l)) ++ [[AV.s [], AV.s []]] ++ List.drop (l.length - 1 + 1) (fl (l.eraseIdx i ++ List.drop (l.length - 1) l)) = fl (l.eraseIdx i) ++ [z2] := by
    rw [fl_take, fl_drop, List.take_append_of_le_length (by omega), List.take_of_length_le (by omega), List.drop_of_length_le (by rw [List.length_append, hlen, List.length_drop]; omega)]
    simp [fl, z2]
  simp (config := {dsimp := false}) only [h0, h1, h2, he, hup_hup, FinX, resV, go_sem, ↓reduceIte, Nat.reduceEqDiff, Int.reduceLE, Int.reduceLT, Int.reduceNeg, Int.reduceEq, Nat.reduceMul, Nat.reduceAdd, Nat.reduceLeDiff, reduceCtorEq]
  exact hq _
end FrA

/-! DkB -/
open Go Go.AM
namespace FrA
set_option maxRecDepth 100000
set_option linter.unusedSimpArgs false
def ins (l : List File) (i : Nat) (f : File) : List File := l.take i ++ f :: l.drop i
theorem ins_len (l : List File) (i : Nat) (f : File) (h : i ≤ l.length) : (ins l i f).length = l.length + 1 := by simp [ins]; omega
def zs (n : Nat) : List File := List.replicate n ([], [])
theorem zs_fl (n : Nat) : List.replicate n [AV.s [], AV.s []] = fl (zs n) := by simp [fl, zs]
/-- What a caller of Insert is told. -/
def InsQ (l : List File) (i : Nat) (f : File) (o : Rid) (h : Heap) (Q : AV → Heap → Nat → Prop) : Prop :=
  ∀ (o' : Rid) (c' k : Nat) (q' : Prop) (h'' : Heap), (o' = o ∨ o' = .l 40) → h'' o' = some { ver := c', es := fl (ins l i f), esz := 2, own := q' } → (∀ u, u ≠ o → u ≠ .l 40 → h'' u = h u) → Q (.sl o' c' 0 (l.length + 1) none) h'' k
theorem walkX139a (C : Con) (l : List File) (f : File) (o o2 : Rid) (v v2 : Nat) (cap2 : Option Nat) (q q2 : Prop) (h : Heap) (clk : Nat) (Q : AV → Heap → Nat → Prop) (hh : h o = some { ver := v, es := fl l, esz := 2, own := q }) (hh2 : h o2 = some { ver := v2, es := fl [f], esz := 2, own := q2 })
    (hn : l.length ≤ 1048576) (hq : InsQ l l.length f o h Q) :
    RunK C k139.1 (.done (FinX [6] Q)) (slots0 [.sl o v 0 l.length none, i64 l.length, .sl o2 v2 0 1 cap2]) h clk := by
  have h0 : slots0 [.sl o v 0 l.length none, i64 l.length, .sl o2 v2 0 1 cap2] 0 = .sl o v 0 l.length none := rfl
  have h1 : slots0 [.sl o v 0 l.length none, i64 l.length, .sl o2 v2 0 1 cap2] 1 = i64 l.length := rfl
  have h2 : slots0 [.sl o v 0 l.length none, i64 l.length, .sl o2 v2 0 1 cap2] 2 = .sl o2 v2 0 1 cap2 := rfl
  have c1 : (((1 : Nat) : Int) == 0) = false := rfl
  have c2 : ((l.length : Int) == (l.length : Int)) = true := beq_self_eq_true _
  have s1 : fl l ++ fl [f] = fl (ins l l.length f) := by simp [fl, ins]
  have s2 : (fl [f]).length = 1 := rfl
  simp (config := {dsimp := false}) only [k139, h0, h1, h2, hh, hh2, eq_self, c1, c2, fl_len, go_sem, ↓reduceIte, Nat.reduceEqDiff, Int.reduceLE, Int.reduceLT, Int.reduceNeg, Int.reduceEq, Nat.reduceMul, Nat.reduceAdd, Nat.reduceLeDiff, reduceCtorEq]
  refine VK_p ⟨by omega, .inl (by omega)⟩ ?_
  simp (config := {dsimp := false}) only [h0, h1, h2, hh, hh2, eq_self, c1, c2, fl_len, go_sem, ↓reduceIte, Nat.reduceEqDiff, Int.reduceLE, Int.reduceLT, Int.reduceNeg, Int.reduceEq, Nat.reduceMul, Nat.reduceAdd, Nat.reduceLeDiff, reduceCtorEq]
  refine EK_p ⟨⟨fun _ => fl_flat _, fl_good _⟩, ?_, ?_⟩ ?_
  · unfold bigOk; omega
  · omega
  simp (config := {dsimp := false}) only [h0, h1, h2, hh, hh2, eq_self, s1, s2, FinX, resV, go_sem, ↓reduceIte, Nat.reduceEqDiff, Int.reduceLE, Int.reduceLT, Int.reduceNeg, Int.reduceEq, Nat.reduceMul, Nat.reduceAdd, Nat.reduceLeDiff, reduceCtorEq]
  refine hq o clk _ _ _ (.inl rfl) (by rw [hup_at, if_pos rfl]) (fun u hu _ => by rw [hup_at, if_neg hu])
/-- The last touch: the room behind the result is forgotten. -/
def TrimQ (Q : AV → Heap → Nat → Prop) (r : AV) (h' : Heap) (c' : Nat) : Prop := ∃ o c m cap ob, r = .sl o c 0 m cap ∧ cur h' o c = some ob ∧ m ≤ ob.es.length ∧ Q (.sl o c' 0 m none) (hup h' o { ob with ver := c', es := ob.es.take m }) (c' + 1)
def und (n : Nat) : List (List AV) := List.replicate n [.undef, .undef]
theorem und_len (n : Nat) : (und n).length = n := by simp [und]
theorem walkX139b (C : Con) (l : List File) (f : File) (i : Nat) (o o2 : Rid) (v0 v2 : Nat) (cap2 : Option Nat) (q q2 : Prop) (h0' h : Heap) (clk : Nat) (Q : AV → Heap → Nat → Prop) (hh : h = hup h0' o { ver := v0, es := fl l ++ und 0, esz := 2, own := q }) (hh2 : h0' o2 = some { ver := v2, es := fl [f], esz := 2, own := q2 })
    (hoo : o2 ≠ o) (ho40 : o ≠ .l 40) (ho240 : o2 ≠ .l 40) (hi : i < l.length) (hn : l.length ≤ 1048576) (hq : InsQ l i f o h0' Q) :
    RunK C k139.1 (.done (FinX [6] (TrimQ Q))) (slots0 [.sl o v0 0 l.length (some l.length), i64 i, .sl o2 v2 0 1 cap2]) h clk := by
  have h0 : slots0 [.sl o v0 0 l.length (some l.length), i64 i, .sl o2 v2 0 1 cap2] 0 = .sl o v0 0 l.length (some l.length) := rfl
  have h1 : slots0 [.sl o v0 0 l.length (some l.length), i64 i, .sl o2 v2 0 1 cap2] 1 = i64 i := rfl
  have h2 : slots0 [.sl o v0 0 l.length (some l.length), i64 i, .sl o2 v2 0 1 cap2] 2 = .sl o2 v2 0 1 cap2 := rfl
  have c1 : (((1 : Nat) : Int) == 0) = false := rfl
  have c2 : ((i : Int) == (l.length : Int)) = false := by simp; omega
  have w1 : IntKind.i64.wrap ((l.length : Int) + ((1 : Nat) : Int)) = ((l.length + 1 : Nat) : Int) := by rw [wr (by omega) (by omega)]; omega
  have w2 : IntKind.i64.wrap (((l.length + 1 : Nat) : Int) - (i : Int)) = ((l.length + 1 - i : Nat) : Int) := by rw [wr (by omega) (by omega)]; omega
  have w3 : IntKind.i64.wrap ((i : Int) + ((1 : Nat) : Int)) = ((i + 1 : Nat) : Int) := by rw [wr (by omega) (by omega)]; omega
  have c3 : ((l.length + 1 : Nat) : Int) > (l.length : Int) := by omega
  have u0 : fl l ++ und 0 = fl l := by simp [und]
  rw [u0] at hh
  have hl : l.length ≠ 0 := by omega
  subst hh
  simp (config := {dsimp := false}) only [k139, h0, h1, h2, hh2, hoo, ho40, ho240, hl, eq_self, c1, c2, w1, w2, w3, c3, fl_len, go_sem, ↓reduceIte, Nat.reduceEqDiff, Int.reduceLE, Int.reduceLT, Int.reduceNeg, Int.reduceEq, Nat.reduceMul, Nat.reduceAdd, Nat.reduceLeDiff, reduceCtorEq]
  refine VK_p ⟨by omega, .inl (by omega)⟩ ?_
  simp (config := {dsimp := false}) only [h0, h1, h2, hh2, hoo, ho40, ho240, hl, eq_self, c1, c2, w1, w2, w3, c3, fl_len, go_sem, ↓reduceIte, Nat.reduceEqDiff, Int.reduceLE, Int.reduceLT, Int.reduceNeg, Int.reduceEq, Nat.reduceMul, Nat.reduceAdd, Nat.reduceLeDiff, reduceCtorEq]
  refine VK_p (.inl (by omega)) ?_
  have hni : ¬ i = l.length := by omega
  simp (config := {dsimp := false}) only [h0, h1, h2, hh2, hoo, ho40, ho240, hl, eq_self, c1, c2, w1, w2, w3, c3, hni, fl_len, fl_take, fl_drop, fl_app, zs_fl, Nat.sub_zero, go_sem, ↓reduceIte, Nat.reduceEqDiff, Int.reduceLE, Int.reduceLT, Int.reduceNeg, Int.reduceEq, Nat.reduceMul, Nat.reduceAdd, Nat.reduceLeDiff, reduceCtorEq]
  refine EK_p ⟨by omega, by omega, by omega, by omega, by unfold bigOk; omega, fl_good _, fl_flat _, by intro c hc; simp at hc; subst hc; rfl⟩ ?_
  have ei : i + (l.length + 1 - i) = l.length + 1 := by omega
  have en : (((l.length + 1 : Nat) : Int) - (i : Int)).toNat = l.length + 1 - i := by omega
  have m1 : min 1 (l.length + 1 - i) = 1 := by omega
  simp (config := {dsimp := false}) only [h0, h1, h2, hh2, hoo, ho40, ho240, hl, eq_self, c1, c2, w1, w2, w3, c3, hni, ei, en, m1, fl_len, fl_take, fl_drop, fl_app, zs_fl, Nat.sub_zero, go_sem, ↓reduceIte, Nat.reduceEqDiff, Int.reduceLE, Int.reduceLT, Int.reduceNeg, Int.reduceEq, Nat.reduceMul, Nat.reduceAdd, Nat.reduceLeDiff, reduceCtorEq]
  refine VK_p ⟨by omega, .inl (by omega)⟩ ?_
  simp (config := {dsimp := false}) only [h0, h1, h2, hh2, hoo, ho40, ho240, hl, eq_self, c1, c2, w1, w2, w3, c3, hni, ei, en, m1, fl_len, fl_take, fl_drop, fl_app, zs_fl, Nat.sub_zero, go_sem, ↓reduceIte, Nat.reduceEqDiff, Int.reduceLE, Int.reduceLT, Int.reduceNeg, Int.reduceEq, Nat.reduceMul, Nat.reduceAdd, Nat.reduceLeDiff, reduceCtorEq]
  refine CpyK_p ⟨⟨fun _ => fl_flat _, fl_good _⟩, by omega⟩ ?_
  have lt : (l.take i).length = i := by simp; omega
  have e1 : List.take i (List.take i l ++ zs (l.length + 1 - i)) ++ [f] ++ List.drop (i + 1) (List.take i l ++ zs (l.length + 1 - i)) = l.take i ++ [f] ++ zs (l.length - i) := by
    rw [List.take_append_of_le_length (by omega), List.take_of_length_le (by omega), List.drop_append, List.drop_of_length_le (by omega), lt, List.nil_append]
    congr 1
    simp only [zs, List.drop_replicate]; congr 1; omega
  have m2 : min (l.length - i) (l.length - i) = l.length - i := Nat.min_self _
  have en2 : (((l.length + 1 : Nat) : Int) - ((i + 1 : Nat) : Int)).toNat = l.length - i := by omega
  simp (config := {dsimp := false}) only [h0, h1, h2, hh2, hoo, ho40, ho240, hl, eq_self, c1, c2, w1, w2, w3, c3, hni, ei, en, m1, m2, e1, en2, fl_len, fl_take, fl_drop, fl_app, zs_fl, hup_hup, Nat.sub_zero, go_sem, ↓reduceIte, Nat.reduceEqDiff, Int.reduceLE, Int.reduceLT, Int.reduceNeg, Int.reduceEq, Nat.reduceMul, Nat.reduceAdd, Nat.reduceLeDiff, reduceCtorEq]
  refine VK_p ⟨by omega, .inl (by omega)⟩ ?_
  simp (config := {dsimp := false}) only [h0, h1, h2, hh2, hoo, ho40, ho240, hl, eq_self, c1, c2, w1, w2, w3, c3, hni, ei, en, m1, m2, e1, en2, fl_len, fl_take, fl_drop, fl_app, zs_fl, hup_hup, Nat.sub_zero, go_sem, ↓reduceIte, Nat.reduceEqDiff, Int.reduceLE, Int.reduceLT, Int.reduceNeg, Int.reduceEq, Nat.reduceMul, Nat.reduceAdd, Nat.reduceLeDiff, reduceCtorEq]
  refine VK_p ⟨by omega, .inl (by omega)⟩ ?_
  have en3 : ((l.length : Int) - (i : Int)).toNat = l.length - i := by omega
  have es : (if i = 0 ∧ l.length - i = l.length then fl l else fl (List.take (l.length - i) (List.drop i l))) = fl (l.drop i) := by
    split
    · rename_i h; rw [h.1]; rfl
    · rw [List.take_of_length_le (by rw [List.length_drop]; omega)]
  have e2 : List.take (i + 1) (List.take i l ++ [f] ++ zs (l.length - i)) ++ List.drop i l ++ List.drop (i + 1 + (l.length - i)) (List.take i l ++ [f] ++ zs (l.length - i)) = ins l i f := by
    have l2 : (List.take i l ++ [f]).length = i + 1 := by simp; omega
    have e3 : List.drop (i + 1 + (l.length - i)) (List.take i l ++ [f] ++ zs (l.length - i)) = [] := List.drop_of_length_le (by rw [List.length_append, l2]; simp [zs])
    rw [e3, List.take_append_of_le_length (by omega), List.take_of_length_le (by omega)]
    simp [ins]
  simp (config := {dsimp := false}) only [en3, h0, h1, h2, hh2, hoo, ho40, ho240, hl, eq_self, c1, c2, w1, w2, w3, c3, hni, ei, en, m1, m2, e1, en2, es, e2, fl_len, fl_take, fl_drop, fl_app, zs_fl, hup_hup, Nat.sub_zero, List.length_drop, go_sem, ↓reduceIte, Nat.reduceEqDiff, Int.reduceLE, Int.reduceLT, Int.reduceNeg, Int.reduceEq, Nat.reduceMul, Nat.reduceAdd, Nat.reduceLeDiff, reduceCtorEq]
  refine CpyK_p ⟨⟨fun _ => fl_flat _, fl_good _⟩, by omega⟩ ?_
  simp (config := {dsimp := false}) only [h0, h1, h2, hh2, hoo, ho40, ho240, hl, eq_self, c1, c2, w1, w2, w3, c3, hni, ei, en, m1, m2, e1, en2, es, e2, fl_len, fl_take, fl_drop, fl_app, zs_fl, hup_hup, Nat.sub_zero, List.length_drop, FinX, resV, go_sem, ↓reduceIte, Nat.reduceEqDiff, Int.reduceLE, Int.reduceLT, Int.reduceNeg, Int.reduceEq, Nat.reduceMul, Nat.reduceAdd, Nat.reduceLeDiff, reduceCtorEq]
  refine ⟨.l 40, clk, l.length + 1, none, { ver := clk, es := fl (ins l i f), esz := 2, own := Flat (fl [f]) ∧ Flat (fl (l.drop i)) }, rfl, by unfold cur; rw [hup_at, if_pos rfl]; simp, by rw [fl_len, ins_len _ _ _ (by omega)]; exact Nat.le_refl _, ?_⟩
  refine hq (.l 40) _ _ _ _ (.inr rfl) (by rw [hup_at, if_pos rfl, List.take_of_length_le (by rw [fl_len, ins_len _ _ _ (by omega)]; exact Nat.le_refl _)]) (fun u hu hu2 => by rw [hup_at, if_neg hu2, hup_at, if_neg hu2, hup_at, if_neg hu])
theorem walkX139c (C : Con) (l : List File) (f : File) (i rc : Nat) (o o2 : Rid) (v0 v2 : Nat) (cap2 : Option Nat) (q q2 : Prop) (h0' h : Heap) (clk : Nat) (Q : AV → Heap → Nat → Prop) (hh : h = hup h0' o { ver := v0, es := fl l ++ und (rc - l.length), esz := 2, own := q }) (hh2 : h0' o2 = some { ver := v2, es := fl [f], esz := 2, own := q2 })
    (hoo : o2 ≠ o) (ho40 : o ≠ .l 40) (hi : i < l.length) (hrc : l.length + 1 ≤ rc) (hn : l.length ≤ 1048576) (hq : InsQ l i f o h0' Q)
    (hX : ∀ (a b : AV) (h : Heap) (c : Nat) (R : AV → Heap → Nat → Prop), (∃ o v off len cap ob o2 v2 off2 len2 cap2 ob2, a = .sl o v off len cap ∧ b = .sl o2 v2 off2 len2 cap2 ∧ cur h o v = some ob ∧ cur h o2 v2 = some ob2 ∧ o ≠ o2 ∧ len ≠ 0 ∧ len2 ≠ 0 ∧ ob2.esz ≠ 0) → R (.b false) h c → C.x 143 [a, b] h c R) :
    RunK C k139.1 (.done (FinX [6] (TrimQ Q))) (slots0 [.sl o v0 0 l.length (some rc), i64 i, .sl o2 v2 0 1 cap2]) h clk := by
  have h0 : slots0 [.sl o v0 0 l.length (some rc), i64 i, .sl o2 v2 0 1 cap2] 0 = .sl o v0 0 l.length (some rc) := rfl
  have h1 : slots0 [.sl o v0 0 l.length (some rc), i64 i, .sl o2 v2 0 1 cap2] 1 = i64 i := rfl
  have h2 : slots0 [.sl o v0 0 l.length (some rc), i64 i, .sl o2 v2 0 1 cap2] 2 = .sl o2 v2 0 1 cap2 := rfl
  have c1 : (((1 : Nat) : Int) == 0) = false := rfl
  have c2 : ((i : Int) == (l.length : Int)) = false := by simp; omega
  have w1 : IntKind.i64.wrap ((l.length : Int) + ((1 : Nat) : Int)) = ((l.length + 1 : Nat) : Int) := by rw [wr (by omega) (by omega)]; omega
  have w3 : IntKind.i64.wrap ((i : Int) + ((1 : Nat) : Int)) = ((i + 1 : Nat) : Int) := by rw [wr (by omega) (by omega)]; omega
  have c3 : ¬ ((l.length + 1 : Nat) : Int) > (rc : Int) := by omega
  have hl : l.length ≠ 0 := by omega
  have hni : ¬ i = l.length := by omega
  obtain ⟨es, hes⟩ : ∃ es, es = fl l ++ und (rc - l.length) := ⟨_, rfl⟩
  have hel : es.length = rc := by rw [hes]; simp [fl_len, und_len]; omega
  rw [← hes] at hh
  subst hh
  have hlr : ¬ l.length = rc := by omega
  simp (config := {dsimp := false}) only [k139, h0, h1, h2, hh2, hoo, ho40, hl, eq_self, c1, c2, w1, w3, c3, hni, hel, hlr, go_sem, ↓reduceIte, Nat.reduceEqDiff, Int.reduceLE, Int.reduceLT, Int.reduceNeg, Int.reduceEq, Nat.reduceMul, Nat.reduceAdd, Nat.reduceLeDiff, reduceCtorEq]
  refine VK_p ⟨by omega, .inl (by omega)⟩ ?_
  simp (config := {dsimp := false}) only [h0, h1, h2, hh2, hoo, ho40, hl, eq_self, c1, c2, w1, w3, c3, hni, hel, hlr, go_sem, ↓reduceIte, Nat.reduceEqDiff, Int.reduceLE, Int.reduceLT, Int.reduceNeg, Int.reduceEq, Nat.reduceMul, Nat.reduceAdd, Nat.reduceLeDiff, reduceCtorEq]
  refine VK_p (.inr ⟨by omega, fun k hk => by cases hk; omega⟩) ?_
  have en2 : (((l.length + 1 : Nat) : Int) - ((i + 1 : Nat) : Int)).toNat = l.length - i := by omega
  have en3 : (((l.length + 1 : Nat) : Int) - (i : Int)).toNat = l.length + 1 - i := by omega
  have m2 : min (l.length + 1 - i) (l.length - i) = l.length - i := by omega
  simp (config := {dsimp := false}) only [h0, h1, h2, hh2, hoo, ho40, hl, eq_self, c1, c2, w1, w3, c3, hni, hel, hlr, en2, en3, m2, hup_hup, Nat.sub_zero, go_sem, ↓reduceIte, Nat.reduceEqDiff, Int.reduceLE, Int.reduceLT, Int.reduceNeg, Int.reduceEq, Nat.reduceMul, Nat.reduceAdd, Nat.reduceLeDiff, reduceCtorEq]
  refine VK_p ⟨by omega, .inl (by omega)⟩ ?_
  simp (config := {dsimp := false}) only [h0, h1, h2, hh2, hoo, ho40, hl, eq_self, c1, c2, w1, w3, c3, hni, hel, hlr, en2, en3, m2, hup_hup, Nat.sub_zero, go_sem, ↓reduceIte, Nat.reduceEqDiff, Int.reduceLE, Int.reduceLT, Int.reduceNeg, Int.reduceEq, Nat.reduceMul, Nat.reduceAdd, Nat.reduceLeDiff, reduceCtorEq]
  have hcx : cur (hup h0' o { ver := v0, es := es, esz := 2, own := q }) o2 v2 = some { ver := v2, es := fl [f], esz := 2, own := q2 } := by unfold cur; rw [hup_at, if_neg hoo, hh2]; simp
  have hcy : cur (hup h0' o { ver := v0, es := es, esz := 2, own := q }) o v0 = some { ver := v0, es := es, esz := 2, own := q } := by unfold cur; rw [hup_at, if_pos rfl]; simp
  refine Call_x (hX _ _ _ _ _ ⟨o2, v2, 0, 1, cap2, { ver := v2, es := fl [f], esz := 2, own := q2 }, o, v0, i + 1, l.length - i, _, { ver := v0, es := es, esz := 2, own := q }, rfl, rfl, hcx, hcy, hoo, by omega, by omega, by simp⟩ ?_)
  simp (config := {dsimp := false}) only [h0, h1, h2, hh2, hoo, ho40, hl, eq_self, c1, c2, w1, w3, c3, hni, hel, hlr, en2, en3, m2, hup_hup, Nat.sub_zero, go_sem, ↓reduceIte, Nat.reduceEqDiff, Int.reduceLE, Int.reduceLT, Int.reduceNeg, Int.reduceEq, Nat.reduceMul, Nat.reduceAdd, Nat.reduceLeDiff, reduceCtorEq]
  refine VK_p ⟨by omega, .inl (by omega)⟩ ?_
  simp (config := {dsimp := false}) only [h0, h1, h2, hh2, hoo, ho40, hl, eq_self, c1, c2, w1, w3, c3, hni, hel, hlr, en2, en3, m2, hup_hup, Nat.sub_zero, go_sem, ↓reduceIte, Nat.reduceEqDiff, Int.reduceLE, Int.reduceLT, Int.reduceNeg, Int.reduceEq, Nat.reduceMul, Nat.reduceAdd, Nat.reduceLeDiff, reduceCtorEq]
  refine VK_p ⟨by omega, .inl (by omega)⟩ ?_
  have le3 : l.length - i ≤ l.length + 1 - i := by omega
  have ln : (fl l).length = l.length := fl_len l
  have esq : (if i = 0 ∧ l.length - i = rc then es else List.take (l.length - i) (List.drop i es)) = fl (l.drop i) := by
    rw [if_neg (by omega), hes, List.drop_append_of_le_length (by omega), List.take_append_of_le_length (by rw [List.length_drop]; omega), List.take_of_length_le (by rw [List.length_drop]; omega), fl_drop]
  obtain ⟨es2, hes2⟩ : ∃ es2, es2 = fl (l.take (i + 1) ++ l.drop i) ++ und (rc - (l.length + 1)) := ⟨_, rfl⟩
  have A : List.take (i + 1) es ++ fl (List.drop i l) ++ List.drop (i + 1 + (l.length - i)) es = es2 := by
    have d1 : List.drop (i + 1 + (l.length - i)) (fl l ++ und (rc - l.length)) = und (rc - (l.length + 1)) := by
      rw [List.drop_append, List.drop_of_length_le (show (fl l).length ≤ i + 1 + (l.length - i) by omega), List.nil_append, ln]
      unfold und; rw [List.drop_replicate]; congr 1; omega
    rw [hes, d1, List.take_append_of_le_length (by omega), fl_take, fl_app, hes2]
  have lt2 : (l.take (i + 1) ++ l.drop i).length = l.length + 1 := by simp; omega
  have hel2 : es2.length = rc := by rw [hes2, List.length_append, fl_len, lt2, und_len]; omega
  have B : List.take i es2 ++ fl [f] ++ List.drop (i + 1) es2 = fl (ins l i f) ++ und (rc - (l.length + 1)) := by
    rw [hes2, List.take_append_of_le_length (by rw [fl_len, lt2]; omega), List.drop_append_of_le_length (by rw [fl_len, lt2]; omega), fl_take, fl_drop, fl_app, ← List.append_assoc, fl_app]
    congr 2
    rw [List.take_append_of_le_length (by simp; omega), List.take_take, List.drop_append_of_le_length (by simp; omega), List.drop_of_length_le (by simp; omega)]
    rw [show min i (i + 1) = i by omega]
    simp [ins]
  have m3 : min 1 (l.length + 1 - i) = 1 := by omega
  simp (config := {dsimp := false}) only [h0, h1, h2, hh2, hoo, ho40, hl, eq_self, c1, c2, w1, w3, c3, hni, hel, hlr, en2, en3, m2, m3, le3, esq, A, B, hel2, fl_len, List.length_drop, hup_hup, Nat.sub_zero, go_sem, ↓reduceIte, Nat.reduceEqDiff, Int.reduceLE, Int.reduceLT, Int.reduceNeg, Int.reduceEq, Nat.reduceMul, Nat.reduceAdd, Nat.reduceLeDiff, reduceCtorEq]
  refine CpyK_p ⟨⟨fun _ => fl_flat _, fl_good _⟩, by omega⟩ ?_
  simp (config := {dsimp := false}) only [h0, h1, h2, hh2, hoo, ho40, hl, eq_self, c1, c2, w1, w3, c3, hni, hel, hlr, en2, en3, m2, m3, le3, esq, A, B, hel2, fl_len, List.length_drop, hup_hup, Nat.sub_zero, go_sem, ↓reduceIte, Nat.reduceEqDiff, Int.reduceLE, Int.reduceLT, Int.reduceNeg, Int.reduceEq, Nat.reduceMul, Nat.reduceAdd, Nat.reduceLeDiff, reduceCtorEq]
  refine VK_p ⟨by omega, .inl (by omega)⟩ ?_
  simp (config := {dsimp := false}) only [h0, h1, h2, hh2, hoo, ho40, hl, eq_self, c1, c2, w1, w3, c3, hni, hel, hlr, en2, en3, m2, m3, le3, esq, A, B, hel2, fl_len, List.length_drop, hup_hup, Nat.sub_zero, go_sem, ↓reduceIte, Nat.reduceEqDiff, Int.reduceLE, Int.reduceLT, Int.reduceNeg, Int.reduceEq, Nat.reduceMul, Nat.reduceAdd, Nat.reduceLeDiff, reduceCtorEq]
  refine CpyK_p ⟨⟨fun _ => fl_flat _, fl_good _⟩, by omega⟩ ?_
  simp (config := {dsimp := false}) only [h0, h1, h2, hh2, hoo, ho40, hl, eq_self, c1, c2, w1, w3, c3, hni, hel, hlr, en2, en3, m2, m3, hup_hup, FinX, resV, Nat.sub_zero, go_sem, ↓reduceIte, Nat.reduceEqDiff, Int.reduceLE, Int.reduceLT, Int.reduceNeg, Int.reduceEq, Nat.reduceMul, Nat.reduceAdd, Nat.reduceLeDiff, reduceCtorEq]
  have lf : (fl (ins l i f)).length = l.length + 1 := by rw [fl_len, ins_len _ _ _ (by omega)]
  have tk : (fl (ins l i f) ++ und (rc - (l.length + 1))).take (l.length + 1) = fl (ins l i f) := by
    rw [List.take_append_of_le_length (by omega), List.take_of_length_le (by omega)]
  refine ⟨o, v0, l.length + 1, some rc, { ver := v0, es := fl (ins l i f) ++ und (rc - (l.length + 1)), esz := 2, own := (q ∧ Flat (fl (List.drop i l))) ∧ Flat (fl [f]) }, rfl, by unfold cur; rw [hup_at, if_pos rfl]; simp, by rw [List.length_append, lf]; omega, ?_⟩
  exact hq o _ _ _ _ (.inl rfl) (by rw [hup_at, if_pos rfl, tk]) (fun u hu hu2 => by rw [hup_at, if_neg hu, hup_at, if_neg hu])
end FrA

/-! HdC -/
open Go Go.AM
namespace FrA
open Go.Proofs
theorem hc120 (l : List File) (o : Rid) (v i : Nat) (q : Prop) (h : Heap) (clk : Nat) (Q : AV → Heap → Nat → Prop) (hh : h o = some { ver := v, es := fl l, esz := 2, own := q }) (hi : i < l.length) (hn : l.length ≤ 1048576)
    (hq : ∀ q', Q (.sl o v 0 (l.length - 1) none) (hup h o { ver := v, es := fl (l.eraseIdx i) ++ [z2], esz := 2, own := q' }) clk) : HC.x 120 [.sl o v 0 l.length none, i64 i, i64 (i + 1 : Nat)] h clk Q :=
  holdsx_of (c := Try.f120.body.getD .skip) (k := k120.1) (ts := [6]) HOk mixedT hintT Try.func120 (by kernel_rfl) (by kernel_rfl) (by kernel_rfl) k120.2 (by kernel_rfl) (le_of 3 _ (by kernel_rfl)) (walkX120 _ l o v i q h clk Q hh hi hn hq)
theorem x139_of {args : List AV} {h : Heap} {clk : Nat} {Q : AV → Heap → Nat → Prop} (hl : args.length = 3) (hk : RunK HC k139.1 (.done (FinX [6] Q)) (slots0 args) h clk) : HoldsX Try.prog 139 args h clk Q :=
  holdsx_of (c := Try.f139.body.getD .skip) (k := k139.1) (ts := [6]) HOk mixedT hintT Try.func139 (by kernel_rfl) (by kernel_rfl) (by kernel_rfl) k139.2 (by kernel_rfl) (by rw [hl]; exact le_of 3 _ (by kernel_rfl)) hk
theorem hc139 (l : List File) (f : File) (i : Nat) (o o2 : Rid) (v v2 : Nat) (cap2 : Option Nat) (q q2 : Prop) (h : Heap) (clk : Nat) (Q : AV → Heap → Nat → Prop) (hh : h o = some { ver := v, es := fl l, esz := 2, own := q }) (hh2 : h o2 = some { ver := v2, es := fl [f], esz := 2, own := q2 })
    (hoo : o2 ≠ o) (ho40 : o ≠ .l 40) (ho240 : o2 ≠ .l 40) (hi : i ≤ l.length) (hn : l.length ≤ 1048576) (hq : InsQ l i f o h Q) : HC.x 139 [.sl o v 0 l.length none, i64 i, .sl o2 v2 0 1 cap2] h clk Q := by
  show HoldsX Try.prog 139 _ h clk Q
  by_cases he : i = l.length
  · subst he
    exact x139_of rfl (walkX139a _ l f o o2 v v2 cap2 q q2 h clk Q hh hh2 hn hq)
  · refine trim_x (room_x (ob := { ver := v, es := fl l, esz := 2, own := q }) (by unfold cur; rw [hh]; simp) (fl_len l) (by omega) fun rc hrc => x139_of rfl ?_)
    by_cases hr : rc = l.length
    · subst hr
      exact walkX139b _ l f i o o2 clk v2 cap2 q q2 h _ (clk + 1) Q (by simp [und, List.replicate]) hh2 hoo ho40 ho240 (by omega) hn hq
    · exact walkX139c _ l f i rc o o2 clk v2 cap2 q q2 h _ (clk + 1) Q rfl hh2 hoo ho40 (by omega) (by omega) hn hq (fun a b h c R ⟨o, v, off, len, cap, ob, o2, v2, off2, len2, cap2, ob2, ha, hb, h1, h2, h3, h4, h5, h6⟩ hR => by
        subst ha; subst hb
        exact x143 c R h1 h2 h3 h4 h5 h6 hR)
theorem hc146 (a b : List UInt8) (h : Heap) (clk : Nat) (Q : AV → Heap → Nat → Prop) (hq : Q (i64 (Lib.compareBytes a b)) h clk) : HC.x 146 [.s a, .s b] h clk Q := x146 a b h clk Q hq
end FrA

