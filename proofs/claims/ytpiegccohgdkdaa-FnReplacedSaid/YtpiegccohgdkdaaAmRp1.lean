/- A drawn file to replace, and Sync by value: walked. No condition. -/
import Derived.Test.YtpiegccohgdkdaaAmRd3
import Derived.Test.YtpiegccohgdkdaaAmDk6
import Derived.Test.YtpiegccohgdkdaaAmLk1
import Derived.Test.YtpiegccohgdkdaaAmDk10
set_option linter.all false
set_option linter.unusedSimpArgs false
set_option linter.unusedVariables false
set_option linter.deprecated false
/-! RpA -/
open Go Go.AM
namespace FrA
open Go.Proofs
set_option maxRecDepth 100000
set_option linter.unusedSimpArgs false
theorem h38v (live safe : List File) (ops : List Dop) (hl : BdF live) (hsf : BdF safe) (ho : BdO ops) (hd : diskB live safe ops = true) : HT 38 [disk live safe ops] [] (disk live live []) false [] := by
  have h0 : HT 38 [disk live safe ops] [] (.agg [.dat 2 (fl live), .dat 2 (fl live), .nils]) false [] := by
    refine holdsc_of (c := Try.f38.body.getD .skip) (k := k38.1) (cs := [(2, some (true, 3))]) HOk mixedT hintT Try.func38 (by kernel_rfl) (by kernel_rfl) (by kernel_rfl) k38.2 (by kernel_rfl) (le_of 1 _ (by kernel_rfl)) ?_
    have d35 := h35 live safe ops hl hsf ho
    have d88 := h88 live safe ops hl.1
    rw [hd] at d35
    unfold disk at d35 d88 ⊢
    simp -dsimp only [k38, go_sem, ↓reduceIte, Nat.reduceEqDiff, Int.reduceLE, Int.reduceLT, Int.reduceNeg, Int.reduceEq, Nat.reduceMul, Nat.reduceAdd, Nat.reduceLeDiff, reduceCtorEq]
    refine Call_val (own := true) (d35) (by simp [ExpOk, AV.pure]) (.inl rfl) ?_
    simp -dsimp only [go_sem, ↓reduceIte, Nat.reduceEqDiff, Int.reduceLE, Int.reduceLT, Int.reduceNeg, Int.reduceEq, Nat.reduceMul, Nat.reduceAdd, Nat.reduceLeDiff, reduceCtorEq]
    refine Call_news (own := true) d88 (by simp [ExpOk, AV.pure]) (by simp [obF, fl_pure]) (.inl rfl) (by simp [obF]) ?_
    simp -dsimp only [syncA, impA, impL, Option.getD_some, Nat.sub_self, Nat.sub_zero, obF, go_sem, ↓reduceIte, Nat.reduceEqDiff, Int.reduceLE, Int.reduceLT, Int.reduceNeg, Int.reduceEq, Nat.reduceMul, Nat.reduceAdd, Nat.reduceLeDiff, reduceCtorEq]
    have hsub : sub (fl live) 0 live.length = fl live := sub_all (fl_len live).symm
    refine finC_val (p := True) (l := [.agg [.sl (.r 8 0) 3 0 live.length none, .sl (.r 8 1) 3 0 live.length none, .nils]]) (by simp [resM, resE, upd_at, loadF, cur, hup_at]) trivial ?_ ?_
    · simp [resOne, retA, retL, cur, hup_at, List.idxOf?_cons, hsub]
    · simp [resOne, ResOk, ResL, cur, hup_at, fl_pure, fl_len, Rid.isP]
  exact h0.weak fun r o' ⟨e1, e2⟩ => by
    subst e1; subst e2
    exact ⟨_, le_disk (L := live) (S := live) (O := []) (.refl _) (.refl _) (.nils 4), rfl, rfl⟩
theorem h38z (live safe : List File) (ops : List Dop) (hl : BdF live) (hsf : BdF safe) (ho : BdO ops) : ∃ L, okP L ∧ HT 38 [disk live safe ops] [] (disk L L []) false [] := by
  cases hd : diskB live safe ops
  · refine ⟨[], ⟨by simp, by simp [tot], fun i hi => by simp at hi⟩, ?_⟩
    have h0 : HT 38 [disk live safe ops] [] nilA false [] := by
      refine holdsc_of (c := Try.f38.body.getD .skip) (k := k38.1) (cs := [(2, some (true, 3))]) HOk mixedT hintT Try.func38 (by kernel_rfl) (by kernel_rfl) (by kernel_rfl) k38.2 (by kernel_rfl) (le_of 1 _ (by kernel_rfl)) ?_
      have d35 := h35 live safe ops hl hsf ho
      rw [hd] at d35
      unfold disk at d35 ⊢
      simp -dsimp only [k38, go_sem, ↓reduceIte, Nat.reduceEqDiff, Int.reduceLE, Int.reduceLT, Int.reduceNeg, Int.reduceEq, Nat.reduceMul, Nat.reduceAdd, Nat.reduceLeDiff, reduceCtorEq]
      refine Call_val (own := true) (d35) (by simp [ExpOk, AV.pure]) (.inl rfl) ?_
      simp -dsimp only [go_sem, ↓reduceIte, Nat.reduceEqDiff, Int.reduceLE, Int.reduceLT, Int.reduceNeg, Int.reduceEq, Nat.reduceMul, Nat.reduceAdd, Nat.reduceLeDiff, reduceCtorEq]
      refine finC_val (p := True) (l := [nilA]) (by simp [resM, resE, upd_at, loadF, cur, hup_at, nilA]) trivial ?_ ?_
      · simp [resOne, retA, retL, nilA]
      · simp [resOne, ResOk, ResL, nilA]
    exact h0.weak fun r o' ⟨e1, e2⟩ => by
      subst e1; subst e2
      exact ⟨_, le_disk (L := []) (S := []) (O := []) (.nils 2) (.nils 2) (.nils 4), rfl, rfl⟩
  · exact ⟨live, (diskB_ok hd).1, h38v live safe ops hl hsf ho hd⟩
def rpnm : List (List UInt8) := [[98, 97, 115, 101], [108, 111, 103], [98, 97, 115, 101], []]
def drpΦ (r : AV) (o' : List Ob) : Prop := o' = [] ∧ ∃ L S O name text, BdF L ∧ BdF S ∧ BdO O ∧ name.length ≤ 100 ∧ text.length ≤ 3 ∧ r = .tup [disk L S O, .s name, .s text]
theorem h48 (code : List UInt8) (hc : code.length ≤ 1048576) : HC 48 [.dat 1 (bts code)] [] false drpΦ := by
  refine holdsc_of (c := Try.f48.body.getD .skip) (k := k48.1) (cs := [(2, some (true, 3)), (3, none), (4, none)]) HOk mixedT hintT Try.func48 (by kernel_rfl) (by kernel_rfl) (by kernel_rfl) k48.2 (by kernel_rfl) (le_of 1 _ (by kernel_rfl)) ?_
  have fin : ∀ (L S : List File) (O : List Dop) (name text : List UInt8) (g : Slots) (h : Heap) (c : Nat), BdF L → BdF S → BdO O → name.length ≤ 100 → text.length ≤ 3 → h (.l 2) = some { ver := 1, es := [[.dat 2 (fl L), .dat 2 (fl S), .dat 4 (ol O)]], esz := 3, own := False, fixed := true } → g 2 = .ptr (.l 2) 1 0 0 → g 3 = .s name → g 4 = .s text →
      FinC [(2, some (true, 3)), (3, none), (4, none)] [] false drpΦ .ret g h c := by
    intro L S O name text g h c b1 b2 b3 hn ht m2 q2 q3 q4
    refine ⟨True, [.agg [.dat 2 (fl L), .dat 2 (fl S), .dat 4 (ol O)], .s name, .s text], by simp [resM, resE, q2, q3, q4, loadF, cur, m2, yes], trivial, .tup [disk L S O, .s name, .s text], [], ⟨rfl, L, S, O, name, text, b1, b2, b3, hn, ht, rfl⟩, [], ⟨.nil, (fun o ho => by cases ho), rfl, fun k ob hk => by simp at hk⟩, ?_, ?_⟩
    · simp [resOne, retA, retL, disk]
    · simp [resOne, ResOk, ResL]
  simp -dsimp only [k48, go_sem, ↓reduceIte, Nat.reduceEqDiff, Int.reduceLE, Int.reduceLT, Int.reduceNeg, Int.reduceEq, Nat.reduceMul, Nat.reduceAdd, Nat.reduceLeDiff, reduceCtorEq]
  refine Call_new (own := false) { rdO code 0 with ver := 1 } (h64 code) (by simp [ExpOk, AV.pure]) (rd_pure code 0) (.inr (by simp [AV.rooted, AV.ref1])) (by simp) ?_
  simp -dsimp only [impA, Option.getD_some, Nat.sub_self, go_sem, ↓reduceIte, Nat.reduceEqDiff, Int.reduceLE, Int.reduceLT, Int.reduceNeg, Int.reduceEq, Nat.reduceMul, Nat.reduceAdd, Nat.reduceLeDiff, reduceCtorEq]
  refine Call_rds (o := .r 9 0) (p := 0) (v := 2) (fx := true) (vals := []) (by simp [hup_at]; rfl) (h77d code 0 (by omega) hc) (fun a ha => by cases ha) fun ret p' hp' ⟨L, S, O, b1, b2, b3, e⟩ => ⟨by subst e; intros; simp [disk, impA, impL], ?_⟩
  subst e
  unfold disk
  simp -dsimp only [chunk, go_sem, ↓reduceIte, Nat.reduceEqDiff, Int.reduceLE, Int.reduceLT, Int.reduceNeg, Int.reduceEq, Nat.reduceMul, Nat.reduceAdd, Nat.reduceLeDiff, reduceCtorEq]
  refine Call_rd (p := p') (v := 2) (fx := true) (by simp [hup_at]) (h65 code p' 4 hp' hc (by omega)) (fun a ha => by simp at ha; subst ha; exact ⟨rfl, rfl⟩) ?_
  have hl := blw_lt code p' 4 (by omega)
  have hp1 := blw_le 4 hp'
  generalize (blw code p' 4).2 = p1 at hp1
  generalize (blw code p' 4).1 = m at hl
  have hg := row_get (l := rpnm) (i := m) hl
  have hnm : (rpnm.getD m []).length ≤ 100 := by
    rcases (by omega : m = 0 ∨ m = 1 ∨ m = 2 ∨ m = 3) with rfl | rfl | rfl | rfl <;> decide
  obtain ⟨name, hname⟩ : ∃ n, n = rpnm.getD m [] := ⟨_, rfl⟩
  rw [← hname] at hg hnm
  simp only [rpnm, List.map_cons, List.map_nil] at hg
  have c1 : (m : Int) < 4 := by omega
  simp -dsimp only [hg, c1, go_sem, ↓reduceIte, Nat.reduceEqDiff, Int.reduceLE, Int.reduceLT, Int.reduceNeg, Int.reduceEq, Nat.reduceMul, Nat.reduceAdd, Nat.reduceLeDiff, reduceCtorEq]
  refine VK_p (by omega) ?_
  simp -dsimp only [hg, c1, go_sem, ↓reduceIte, Nat.reduceEqDiff, Int.reduceLE, Int.reduceLT, Int.reduceNeg, Int.reduceEq, Nat.reduceMul, Nat.reduceAdd, Nat.reduceLeDiff, reduceCtorEq]
  refine Call_rd (p := p1) (v := 2) (fx := true) (by simp [hup_at]) (h101 code p1 12 hp1 hc (by omega) (by omega)) (fun a ha => by simp at ha; subst ha; exact ⟨rfl, rfl⟩) ?_
  have hp2 := blw_le 12 hp1
  generalize (blw code p1 12).2 = p2 at hp2
  cases onc code p1 12
  · simp -dsimp only [go_sem, ↓reduceIte, Nat.reduceEqDiff, Int.reduceLE, Int.reduceLT, Int.reduceNeg, Int.reduceEq, Nat.reduceMul, Nat.reduceAdd, Nat.reduceLeDiff, reduceCtorEq]
    refine Callh_rd (p := p2) (v := 2) (fx := true) rfl (by simp [hup_at]) (h66 code p2 hp2 hc) (fun a ha => by cases ha) ?_
    simp -dsimp only [go_sem, ↓reduceIte, Nat.reduceEqDiff, Int.reduceLE, Int.reduceLT, Int.reduceNeg, Int.reduceEq, Nat.reduceMul, Nat.reduceAdd, Nat.reduceLeDiff, reduceCtorEq]
    exact fin L S O name (txF code p2) _ _ _ b1 b2 b3 hnm (txF_len _ _) (by simp only [hup_at, newObs, ↓reduceIte, Nat.reduceEqDiff, reduceCtorEq, Rid.r.injEq, Rid.l.injEq, Nat.reduceAdd, Nat.zero_add, and_self, and_true, and_false, false_and, true_and] <;> rfl) (by simp [upd_at]) (by simp [upd_at]) (by simp [upd_at])
  · simp -dsimp only [go_sem, ↓reduceIte, Nat.reduceEqDiff, Int.reduceLE, Int.reduceLT, Int.reduceNeg, Int.reduceEq, Nat.reduceMul, Nat.reduceAdd, Nat.reduceLeDiff, reduceCtorEq]
    refine Call_rd (p := p2) (v := 2) (fx := true) (by simp [hup_at]) (h65 code p2 4 hp2 hc (by omega)) (fun a ha => by simp at ha; subst ha; exact ⟨rfl, rfl⟩) ?_
    have hy := blw_lt code p2 4 (by omega)
    have hp3 := blw_le 4 hp2
    generalize (blw code p2 4).2 = p3 at hp3
    generalize (blw code p2 4).1 = y at hy
    have w9 : IntKind.i64.wrap (95 + (y : Int)) = ((95 + y : Nat) : Int) := by rw [wr (by omega) (by omega)]; omega
    simp -dsimp only [w9, go_sem, ↓reduceIte, Nat.reduceEqDiff, Int.reduceLE, Int.reduceLT, Int.reduceNeg, Int.reduceEq, Nat.reduceMul, Nat.reduceAdd, Nat.reduceLeDiff, reduceCtorEq]
    refine EK_p (by simp [bigOk]; omega) ?_
    have e9 : bytesOf (if 95 + y = (List.replicate (95 + y) [AV.i IntKind.u8 0]).length then List.replicate (95 + y) [AV.i IntKind.u8 0] else List.take (95 + y) (List.replicate (95 + y) [AV.i IntKind.u8 0])) = some (List.replicate (95 + y) 0) := by
      rw [if_pos (by simp)]; exact bytesOf_zo _
    obtain ⟨tx, htx⟩ : ∃ tx : List UInt8, tx = List.replicate (95 + y) 0 := ⟨_, rfl⟩
    have htl : tx.length ≤ 100 := by rw [htx]; simp; omega
    rw [← htx] at e9
    simp -dsimp only [w9, e9, go_sem, ↓reduceIte, Nat.reduceEqDiff, Int.reduceLE, Int.reduceLT, Int.reduceNeg, Int.reduceEq, Nat.reduceMul, Nat.reduceAdd, Nat.reduceLeDiff, reduceCtorEq]
    refine Callh_rd (p := p3) (v := 2) (fx := true) rfl (by simp [hup_at]) (h66 code p3 hp3 hc) (fun a ha => by cases ha) ?_
    simp -dsimp only [go_sem, ↓reduceIte, Nat.reduceEqDiff, Int.reduceLE, Int.reduceLT, Int.reduceNeg, Int.reduceEq, Nat.reduceMul, Nat.reduceAdd, Nat.reduceLeDiff, reduceCtorEq]
    exact fin L S O tx (txF code p3) _ _ _ b1 b2 b3 htl (txF_len _ _) (by simp only [hup_at, newObs, ↓reduceIte, Nat.reduceEqDiff, reduceCtorEq, Rid.r.injEq, Rid.l.injEq, Nat.reduceAdd, Nat.zero_add, and_self, and_true, and_false, false_and, true_and] <;> rfl) (by simp [upd_at]) (by simp [upd_at]) (by simp [upd_at])
end FrA

/-! DkRp -/
open Go Go.AM
namespace FrA
theorem put_names (n d d' : List UInt8) : ∀ l : List File, (put l n d).map Prod.fst = (put l n d').map Prod.fst
  | [] => by simp [put, has, pos]
  | f :: l => by
    rw [put_cons, put_cons]
    by_cases h1 : cmpB f.1 n < 0
    · rw [if_pos h1, if_pos h1, List.map_cons, List.map_cons, put_names n d d' l]
    · rw [if_neg h1, if_neg h1]
      by_cases h2 : cmpB f.1 n = 0
      · simp [h2]
      · simp [h2]
theorem put_tot (n d d' : List UInt8) (h : d'.length ≤ d.length) : ∀ l : List File, tot (put l n d') ≤ tot (put l n d)
  | [] => by simp [put, has, pos, tot]; exact h
  | f :: l => by
    have ih := put_tot n d d' h l
    rw [put_cons, put_cons]
    by_cases h1 : cmpB f.1 n < 0
    · rw [if_pos h1, if_pos h1, tot, tot]; omega
    · rw [if_neg h1, if_neg h1]
      by_cases h2 : cmpB f.1 n = 0
      · rw [if_pos h2, if_pos h2, tot, tot]; simp; omega
      · rw [if_neg h2, if_neg h2, tot, tot]; simp only [tot]; omega
theorem name_at {l l' : List File} (h : l.map Prod.fst = l'.map Prod.fst) (i : Nat) : (l.getD i ([], [])).1 = (l'.getD i ([], [])).1 := by
  have e : ∀ m : List File, (m.getD i ([], [])).1 = (m.map Prod.fst).getD i [] := fun m => by
    rw [List.getD_eq_getElem?_getD, List.getD_eq_getElem?_getD, List.getElem?_map]
    cases m[i]? <;> rfl
  rw [e, e, h]
theorem put_ok {l : List File} {n d d' : List UInt8} (h : d'.length ≤ d.length) (hk : okP (put l n d)) : okP (put l n d') := by
  obtain ⟨h1, h2, h3⟩ := hk
  have hn := put_names n d d' l
  have hl : (put l n d).length = (put l n d').length := by have := congrArg List.length hn; simpa using this
  refine ⟨by omega, Nat.le_trans (put_tot n d d' h l) h2, fun i hi => ?_⟩
  obtain ⟨a, b⟩ := h3 i (by omega)
  unfold okAt
  rw [← name_at hn i, ← name_at hn (i - 1)]
  exact ⟨a, b⟩
def rop1 (name text : List UInt8) : Dop := (1, rpN name, [], text)
def rop2 (name : List UInt8) : Dop := (2, rpN name, name, [])
theorem rp_two {L : List File} {name text : List UInt8} (hn : has (rpN name) L = false) (hc : (rpF L [] name text).2.2 = 0) :
    rpF L [] name text = (act (act L (rop1 name text)) (rop2 name), [rop1 name text, rop2 name], 0) ∧ doC L [] (rop1 name text) = 0 ∧ doC (act L (rop1 name text)) [rop1 name text] (rop2 name) = 0 := by
  have e : rpO L name text = [rop1 name text, rop2 name] := by unfold rpO; rw [hn]; rfl
  have s1 : ∀ (M : List File) (P : List Dop) (o : Dop), rp1 (M, P, 0) o = (doL M P o, doO M P o, doC M P o) := fun M P o => by unfold rp1; rw [if_pos rfl]
  have s2 : rpS L [] [rop1 name text, rop2 name] = rp1 (rp1 (L, [], 0) (rop1 name text)) (rop2 name) := rfl
  by_cases c1 : doC L [] (rop1 name text) = 0
  · obtain ⟨e1, e2⟩ := doL_0 c1
    rw [s1, e1, e2, c1, List.nil_append, s1] at s2
    by_cases c2 : doC (act L (rop1 name text)) [rop1 name text] (rop2 name) = 0
    · obtain ⟨e3, e4⟩ := doL_0 c2
      refine ⟨?_, c1, c2⟩
      unfold rpF
      rw [e, s2, e3, e4, c2]
      simp
    · exfalso
      unfold rpF at hc
      rw [e, s2] at hc
      simp only [c2, if_false] at hc
  · exfalso
    have s3 : rp1 (doL L [] (rop1 name text), doO L [] (rop1 name text), doC L [] (rop1 name text)) (rop2 name) = (doL L [] (rop1 name text), doO L [] (rop1 name text), doC L [] (rop1 name text)) := by unfold rp1; rw [if_neg c1]
    rw [s1, s3] at s2
    unfold rpF at hc
    rw [e, s2] at hc
    simp only [c1, if_false] at hc
theorem rpN_ne (name : List UInt8) : name ≠ rpN name := fun h => by
  have := congrArg List.length h
  simp [rpN] at this
theorem kOk_ks {ks : List Int} (h : ks = [] ∨ ks = [0] ∨ ks = [1] ∨ ks = [0, 1]) : kOk 2 ks := by
  intro i hi
  rcases h with rfl | rfl | rfl | rfl
  · simp at hi
  · simp at hi; subst hi; exact ⟨by decide, by decide, fun h => by omega⟩
  · simp at hi; subst hi; exact ⟨by decide, by decide, fun h => by omega⟩
  · simp at hi
    rcases (by omega : i = 0 ∨ i = 1) with rfl | rfl
    · exact ⟨by decide, by decide, fun h => by omega⟩
    · exact ⟨by decide, by decide, fun _ => by decide⟩
theorem sync_ok {L : List File} (h : okP L) : diskB L L [] = true := diskB_mk (okF_t.2 h) (okF_t.2 h) (by simp) rfl
/-- The file is the old one or the new one. -/
theorem rp_law {L : List File} {name text : List UInt8} (hok : okP L) (hn : has (rpN name) L = false) (c1 : doC L [] (rop1 name text) = 0) (c2 : doC (act L (rop1 name text)) [rop1 name text] (rop2 name) = 0)
    {ks : List Int} (hks : ks = [] ∨ ks = [0] ∨ ks = [1] ∨ ks = [0, 1]) {torn : Int} (ht : 0 ≤ torn) {M : List File} (hM : M = act (act L (rop1 name text)) (rop2 name)) {P : List Dop} (hP : P = [rop1 name text, rop2 name]) :
    diskB M L P = true ∧ has name M = true ∧ olda M name = text ∧ crB M L P ks torn = true ∧
      ((has name (crN P ks torn L ks.length) = has name L ∧ olda (crN P ks torn L ks.length) name = olda L name) ∨ (has name (crN P ks torn L ks.length) = true ∧ olda (crN P ks torn L ks.length) name = text)) := by
  have k0 := sync_ok hok
  have k1 := disk_done k0 c1
  have k2 := disk_done k1 c2
  rw [List.nil_append] at k2
  have hP' : [rop1 name text] ++ [rop2 name] = P := by rw [hP]; rfl
  rw [hP', ← hM] at k2
  have o0 : olda L (rpN name) = [] := olda_no hn
  have a1 : ∀ t : List UInt8, act L (1, rpN name, [], t) = put L (rpN name) t := fun t => by unfold act; rw [if_pos rfl, o0]; rfl
  have hs1 : Srt (act L (rop1 name text)) := act_srt (ok_srt hok)
  have r1 : has (rpN name) (act L (rop1 name text)) = true ∧ olda (act L (rop1 name text)) (rpN name) = text := by
    have := rd_append (L := L) (op := rop1 name text) rfl
    simp only [rop1, o0, List.nil_append] at this
    exact this
  have rM := rd_rename (op := rop2 name) hs1 rfl (by unfold actB; exact r1.1)
  have hM1 : has name M = true ∧ olda M name = text := by
    rw [hM]
    refine ⟨rM.1, ?_⟩
    have := rM.2.1
    simp only [rop2] at this ⊢
    rw [this]; exact r1.2
  have e0 : P.getD 0 dop0 = rop1 name text := by rw [hP]; rfl
  have e1 : P.getD 1 dop0 = rop2 name := by rw [hP]; rfl
  have hl : P.length = 2 := by rw [hP]; rfl
  have now : okP (crN P ks torn L ks.length) ∧ ((has name (crN P ks torn L ks.length) = has name L ∧ olda (crN P ks torn L ks.length) name = olda L name) ∨ (has name (crN P ks torn L ks.length) = true ∧ olda (crN P ks torn L ks.length) name = text)) := by
    rcases hks with rfl | rfl | rfl | rfl
    · exact ⟨hok, .inl ⟨rfl, rfl⟩⟩
    · have ec : crN P [0] torn L ([0] : List Int).length = put L (rpN name) (text.take torn.toNat) := by
        show act L (opK P [0] torn 0) = _
        have : opK P [0] torn 0 = (1, rpN name, [], text.take torn.toNat) := by
          unfold opK
          show tear true torn (P.getD 0 dop0) = _
          rw [e0]; unfold tear; rw [if_pos ⟨rfl, rfl⟩]; rfl
        rw [this, a1]
      rw [ec]
      have hk1 : okP (put L (rpN name) text) := by
        have := okF_t.1 (doC_0 c1).2.2.2
        unfold rop1 at this
        rw [a1] at this; exact this
      refine ⟨put_ok (by simp; omega) hk1, .inl ?_⟩
      rw [has_lk, olda_lk, lk_put, if_neg (rpN_ne name), ← has_lk, ← olda_lk]
      exact ⟨rfl, rfl⟩
    · have ec : crN P [1] torn L ([1] : List Int).length = L := by
        show act L (opK P [1] torn 0) = _
        have : opK P [1] torn 0 = rop2 name := by
          unfold opK
          show tear true torn (P.getD 1 dop0) = _
          rw [e1]; unfold tear; rw [if_neg (by intro h; exact absurd h.2 (by simp [rop2]))]
        rw [this]; unfold act; simp [rop2, hn]
      rw [ec]
      exact ⟨hok, .inl ⟨rfl, rfl⟩⟩
    · have ec : crN P [0, 1] torn L ([0, 1] : List Int).length = M := by
        show act (act L (opK P [0, 1] torn 0)) (opK P [0, 1] torn 1) = _
        have t0 : opK P [0, 1] torn 0 = rop1 name text := by
          unfold opK
          show tear false torn (P.getD 0 dop0) = _
          rw [e0]; unfold tear; rw [if_neg (by simp)]
        have t1 : opK P [0, 1] torn 1 = rop2 name := by
          unfold opK
          show tear true torn (P.getD 1 dop0) = _
          rw [e1]; unfold tear; rw [if_neg (by intro h; exact absurd h.2 (by simp [rop2]))]
        rw [t0, t1, hM]
      rw [ec]
      exact ⟨(diskB_ok k2).1, .inr hM1⟩
  refine ⟨k2, hM1.1, hM1.2, crB_t.2 ⟨k2, ht, ?_, now.1⟩, now.2⟩
  rw [hl]; exact kOk_ks hks
end FrA

