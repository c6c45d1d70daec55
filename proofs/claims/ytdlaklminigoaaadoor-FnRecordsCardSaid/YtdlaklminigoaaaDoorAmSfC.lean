/- strings.Split at a comma. No condition. -/
import Derived.Test.YtdlaklminigoaaaDoorAmSfB
import Derived.Test.YtdlaklminigoaaaDoorAmWsA
set_option linter.all false
set_option linter.unusedSimpArgs false
set_option linter.unusedVariables false
set_option linter.deprecated false
/-! SfC -/
open Go Go.AM Go.RowKit
namespace FrA
open Go.Proofs
set_option maxRecDepth 100000
theorem hup_objs (ob : Ob) : hup (objs []) (.p 0) ob = objs [ob] := by
  funext u
  cases u with
  | p k =>
    cases k with
    | zero => simp [hup_at, objs]
    | succ k => simp [hup_at, objs]
  | l _ => simp [hup_at, objs]
  | r _ _ => simp [hup_at, objs]
theorem pieces (s : List UInt8) : ((Lib.splitB ⟨#[44]⟩ 0 (Lib.countB ⟨s.toArray⟩ ⟨#[44]⟩) ⟨s.toArray⟩).map Value.string) = (words 44 s).map fun w => Value.string ⟨w.toArray⟩ := by
  have h1 := Lib.splitB_data ⟨#[44]⟩ 0 (Lib.countB ⟨s.toArray⟩ ⟨#[44]⟩) ⟨s.toArray⟩
  have h2 : Lib.countB ⟨s.toArray⟩ ⟨#[44]⟩ = s.count 44 := Lib.count_one 44 s
  rw [h2] at h1 ⊢
  have h3 : (Lib.splitB ⟨#[44]⟩ 0 (s.count 44) ⟨s.toArray⟩).map (·.data.toList) = words 44 s := h1.trans (splitK_words 44 s)
  rw [← h3, List.map_map]
  exact List.map_congr_left fun b _ => by cases b; simp
theorem h19 (s : List UInt8) (hs : s.length < 4294967281) : HT 19 [.s s, .s [44]] [] (.sl (.p 0) 1 0 (words 44 s).length none) true [wsO (words 44 s)] := by
  refine ⟨callFunc_run Tryd.func19 (by kernel_rfl) (by kernel_rfl), fun w κ vs P0 H hP hl hv => ?_⟩
  obtain ⟨u, v, rfl, hu, hv⟩ := arg2 hl hv
  rw [hu.of_s, hv.of_s]
  obtain ⟨_, _, _, m, t, f, hm⟩ := H.glob.2 (1, gxInt) (by simp [globX])
  have hm' : w.cell? ⟨1, 0, none⟩ = some (.int .i64 m) := by simp only at hm; simp [World.cell?, hm]
  refine (Tryd.strings_Split ⟨s.toArray⟩ ⟨#[44]⟩ m w hs hm' (Nat.le_refl _)).mono ?_
  rintro e w' ⟨rfl, rfl⟩
  rw [pieces]
  have hk : Lib.countB ⟨s.toArray⟩ ⟨#[44]⟩ + 1 = (words 44 s).length := by
    have h1 := congrArg List.length (pieces s)
    simp only [List.length_map] at h1
    rw [← h1]
    exact (Lib.splitB_all ⟨#[44]⟩ (Nat.le_refl _) 0 _ ⟨s.toArray⟩ rfl).symm
  rw [hk]
  have N := H.new (o := .p 0) (ob' := wsO (words 44 s)) (cs := ((words 44 s).map fun w => Value.string ⟨w.toArray⟩).toArray) (t := 9) rfl (fun e he => by
      simp only [wsO, ws, List.mem_map] at he; obtain ⟨x, _, rfl⟩ := he; rfl) (by simp [wsO, ws_len]) (fun e j x hx => by
      unfold cellOf at hx
      obtain ⟨c, h1, h2⟩ := Option.bind_eq_some_iff.1 hx
      simp only [wsO, ws, List.getElem?_map, Option.map_eq_some_iff] at h1
      obtain ⟨y, hy, rfl⟩ := h1
      have hj : j = 0 := by have := (List.getElem?_eq_some_iff.1 h2).1; simpa using this
      subst hj
      simp at h2; subst h2
      refine ⟨.string ⟨y.toArray⟩, ?_, .ro _ _ (.s _)⟩
      simp [wsO, hy]) (fun _ => ws_flat _) (fun e j x hx => by
      unfold cellOf at hx
      obtain ⟨c, h1, h2⟩ := Option.bind_eq_some_iff.1 hx
      exact .inl (List.all_eq_true.1 (ws_good (words 44 s) c (List.mem_of_getElem? h1)).2 x (List.mem_of_getElem? h2)))
  rw [hup_objs] at N
  refine ⟨_, _, _, _, ⟨rfl, rfl⟩, N.2, N.1, fun k ob _ hk2 => absurd hk2 (by simp), .sl 0 0 _ none _ (wsO (words 44 s)) (Nat.le_refl _) rfl ?_⟩
  have e1 : (κ.put (.p 0) w.heap.size 0 fun _ _ _ => False).ι (.p 0) = (w.heap.size, 0) := by simp [Cfg.put]
  refine .inr ⟨(words 44 s).length, by simp [Cfg.put], by simp [Cfg.addr, Cfg.put], by simp [wsO, ws_len], Nat.le_refl _, fun k hk => (by cases hk), fun _ => by simp [wsO, ws_len], ?_⟩
  rw [e1]
  exact (ownBlk_alloc w _ _).mono (by simp [wsO])
end FrA

