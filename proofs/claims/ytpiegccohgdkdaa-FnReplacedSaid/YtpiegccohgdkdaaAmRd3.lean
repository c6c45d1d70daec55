/- A drawn disk: walked. No condition. -/
import Derived.Test.YtpiegccohgdkdaaAmRd2
import Derived.Test.YtpiegccohgdkdaaAmDkUb
set_option linter.all false
set_option linter.unusedSimpArgs false
set_option linter.unusedVariables false
set_option linter.deprecated false
/-! RdD -/
open Go Go.AM
namespace FrA
open Go.Proofs
set_option maxRecDepth 100000
set_option linter.unusedSimpArgs false
structure StB (L S : List File) (O : List Dop) : Prop where
  l : L.length ≤ 60
  s : S.length ≤ 60
  ld : ∀ f ∈ L, f.2.length ≤ 200000
  sd : ∀ f ∈ S, f.2.length ≤ 200000
  o : O.length ≤ 200
  od : ∀ o ∈ O, o.2.2.2.length ≤ 3
theorem StB.bds {L S : List File} {O : List Dop} (b : StB L S O) : BdF L ∧ BdF S ∧ BdO O :=
  ⟨⟨by have := b.l; omega, fun f hf => by have := b.ld f hf; omega⟩, ⟨by have := b.s; omega, fun f hf => by have := b.sd f hf; omega⟩, ⟨by have := b.o; omega, fun f hf => by have := b.od f hf; omega⟩⟩
theorem StB.step {L S : List File} {O : List Dop} (b : StB L S O) (op : Dop) (hd : op.2.2.2.length ≤ 3) (hk : diskB L S O = true) : StB (doL L O op) S (doO L O op) := by
  obtain ⟨q1, q2, q3⟩ := diskB_ok hk
  have k := doL_ok (ops := O) (op := op) q1
  refine ⟨k.1, b.s, okP_le k, b.sd, doO_le q3, fun o ho => ?_⟩
  unfold doO at ho
  split at ho
  · simp at ho; rcases ho with h | rfl
    · exact b.od o h
    · exact hd
  · exact b.od o ho
def diskΦ (code : List UInt8) (r : AV) (o' : List Ob) : Prop := ∃ L S O p', BdF L ∧ BdF S ∧ BdO O ∧ p' ≤ code.length ∧ Le r (disk L S O) ∧ o' = [rdO code p']
def RowX (h : Heap) (z : Nat) (es : List (List AV)) (a : AV) : Prop := (∃ x, (∀ n, retA h [] n a = x) ∧ Le x (.dat z es)) ∧ ResOk h [] false a
theorem rowAt_x {h : Heap} {k z : Nat} {es : List (List AV)} {a : AV} (r : RowAt h k z es a) (hp : AM.Pure es) : RowX h z es a := by
  obtain ⟨x, _, h1, h2⟩ := row_exp r
  exact ⟨⟨x, h1, h2⟩, row_ok r hp⟩
theorem rowX_sl {h : Heap} {z u off len : Nat} {es : List (List AV)} {o : Rid} {cap : Option Nat} (ob : Ob) (ho : h o = some ob) (hv : ob.ver = u) (hz : ob.esz = z) (hs : sub ob.es off len = es) (hl : off + len ≤ ob.es.length) (hp : AM.Pure ob.es) (hi : o.isP = false) : RowX h z es (.sl o u off len cap) := by
  subst hv; subst hz; subst hs
  have hc : cur h o ob.ver = some ob := by unfold cur; rw [ho]; simp
  exact ⟨⟨.dat ob.esz (sub ob.es off len), fun n => by simp [retA, hc, List.idxOf?], .refl _⟩, by simp [ResOk, hc, hi, hp, hl]⟩
theorem rowAt_s {h : Heap} {k z : Nat} {es : List (List AV)} {a : AV} (r : RowAt h k z es a) : a.storable = true := by
  rcases r with ⟨rfl, _⟩ | ⟨u, cap, q, rfl, _⟩ <;> rfl
theorem bytesOf_zo : ∀ n : Nat, bytesOf (List.replicate n [AV.i IntKind.u8 0]) = some (List.replicate n 0)
  | 0 => rfl
  | n + 1 => by rw [List.replicate_succ, List.replicate_succ, bytesOf, bytesOf_zo n]; rfl
theorem rowX_nil (h : Heap) (z : Nat) : RowX h z [] .nils := ⟨⟨.nils, fun _ => rfl, .nils z⟩, trivial⟩
theorem h77 (code : List UInt8) (p : Nat) (hp : p ≤ code.length) (hc : code.length ≤ 1048576) : HC 77 [.ptr (.p 0) 0 0 0] [rdO code p] false (diskΦ code) := by
  refine holdsc_of (c := Try.f77.body.getD .skip) (k := k77.1) (cs := [(2, some (true, 3))]) HOk mixedT hintT Try.func77 (by kernel_rfl) (by kernel_rfl) (by kernel_rfl) k77.2 (by kernel_rfl) (le_of 1 _ (by kernel_rfl)) ?_
  have e3 : i64 ((3 : Nat) : Int) = i64 3 := rfl
  simp -dsimp only [k77, go_sem, ↓reduceIte, Nat.reduceEqDiff, Int.reduceLE, Int.reduceLT, Int.reduceNeg, Int.reduceEq, Nat.reduceMul, Nat.reduceAdd, Nat.reduceLeDiff, reduceCtorEq]
  refine Call_rd (by simp [hup_at]; exact rd_obj code p) (h116 code p 3 10 hp hc (by omega) (by omega) (by omega)) (fun a ha => by simp at ha; rcases ha with rfl | rfl <;> exact ⟨rfl, rfl⟩) ?_
  have hn : siz code p 3 10 ≤ 300 := by
    unfold siz szN
    split
    · have := blw_lt code p 10 (by omega); omega
    · have := blw_lt code p (1 + code.length / 3) (by omega); omega
  obtain ⟨n, hn'⟩ : ∃ n, n = siz code p 3 10 := ⟨_, rfl⟩
  rw [← hn'] at hn ⊢
  have hp1 := blw_le (szN code 3 10) hp
  generalize (blw code p (szN code 3 10)).2 = p1 at hp1
  simp -dsimp only [go_sem, ↓reduceIte, Nat.reduceEqDiff, Int.reduceLE, Int.reduceLT, Int.reduceNeg, Int.reduceEq, Nat.reduceMul, Nat.reduceAdd, Nat.reduceLeDiff, reduceCtorEq]
  refine K_for n (fun i g h c => ∃ (L S : List File) (O : List Dop) (a b d : AV) (p' : Nat), StB L S O ∧ p' ≤ code.length ∧ StAt h L S O a b d ∧ g 0 = .ptr (.p 0) 0 0 0 ∧ g 2 = .ptr (.l 2) 1 0 0 ∧ g 3 = .ptr (.l 3) 2 0 0 ∧ g 4 = i64 ((n - i : Nat) : Int) ∧
    h (.p 0) = some (rdV code p' 0 true) ∧ h (.l 2) = some { ver := 1, es := [[.nils, .nils, .nils]], esz := 3, own := False, fixed := true } ∧ h (.l 3) = some { ver := 2, es := [[a, b, d]], esz := 3, own := False, fixed := true }) ?_ ?_ ?_
  · exact ⟨[], [], [], .nils, .nils, .nils, p1, ⟨by simp, by simp, by simp, by simp, by simp, by simp⟩, hp1, ⟨.inl ⟨rfl, rfl⟩, .inl ⟨rfl, rfl⟩, .inl ⟨rfl, rfl⟩⟩, by simp [upd_at, S_0], by simp [upd_at], by simp [upd_at], by simp [upd_at], by simp [hup_at], by simp [hup_at], by simp [hup_at]⟩
  · rintro i A hi hA g h c ⟨L, S, O, a, b, d, p', hB, hp', hSt, q0, q2, q3, q4, m0, m2, m3⟩
    have c1 : ((n - i : Nat) : Int) > 0 := by omega
    have w1 : IntKind.i64.wrap (((n - i : Nat) : Int) - 1) = ((n - (i + 1) : Nat) : Int) := by rw [wr (by omega) (by omega)]; omega
    simp -dsimp only [q0, q2, q3, q4, m0, m2, m3, go_sem, ↓reduceIte, Nat.reduceEqDiff, Int.reduceLE, Int.reduceLT, Int.reduceNeg, Int.reduceEq, Nat.reduceMul, Nat.reduceAdd, Nat.reduceLeDiff, reduceCtorEq]
    refine Gh_drops [.r 22 0, .r 22 1, .r 22 2, .l 5] (by simp [Rid.isP]) fun h1 n1 n2 => ?_
    have r0 : h1 (.r 22 0) = none := n1 _ (by simp)
    have r1 : h1 (.r 22 1) = none := n1 _ (by simp)
    have r2 : h1 (.r 22 2) = none := n1 _ (by simp)
    have r3 : h1 (.l 5) = none := n1 _ (by simp)
    replace m0 : h1 (.p 0) = some (rdV code p' 0 true) := by rw [n2 _ (by simp)]; exact m0
    replace m2 : h1 (.l 2) = some { ver := 1, es := [[.nils, .nils, .nils]], esz := 3, own := False, fixed := true } := by rw [n2 _ (by simp)]; exact m2
    replace m3 : h1 (.l 3) = some { ver := 2, es := [[a, b, d]], esz := 3, own := False, fixed := true } := by rw [n2 _ (by simp)]; exact m3
    replace hSt : StAt h1 L S O a b d := hSt.mono fun k => n2 _ (by simp)
    clear n1 n2
    generalize h1 = h at r0 r1 r2 r3 m0 m2 m3 hSt
    simp -dsimp only [q0, q2, q3, q4, m0, m2, m3, c1, go_sem, ↓reduceIte, Nat.reduceEqDiff, Int.reduceLE, Int.reduceLT, Int.reduceNeg, Int.reduceEq, Nat.reduceMul, Nat.reduceAdd, Nat.reduceLeDiff, reduceCtorEq]
    refine Call_rd m0 (h101 code p' 5 hp' hc (by omega) (by omega)) (fun a ha => by simp at ha; subst ha; exact ⟨rfl, rfl⟩) ?_
    have hp2 := blw_le 5 hp'
    generalize (blw code p' 5).2 = p2 at hp2
    obtain ⟨b1, b2, b3⟩ := hB.bds
    have hSt2 : StAt (hup h (.p 0) (rdV code p2 0 true)) L S O a b d := hSt.mono fun k => by simp [hup_at]
    obtain ⟨xs, x1, x2, x3, x4, x5⟩ := st_exp hSt2
    cases ho : onc code p' 5
    case true =>
      cases hk : diskB L S O
      · have d51 := (h51_no L S O b1 b2 b3 hk).arg1 x3
        simp -dsimp only [q0, q2, q3, q4, m0, m2, m3, go_sem, ↓reduceIte, Nat.reduceEqDiff, Int.reduceLE, Int.reduceLT, Int.reduceNeg, Int.reduceEq, Nat.reduceMul, Nat.reduceAdd, Nat.reduceLeDiff, reduceCtorEq]
        refine Call_val (own := true) (v := nilA) (by simp only [List.append_nil, expL, x1]; exact d51) (by simpa using x4) (.inl rfl) ?_
        unfold nilA
        simp -dsimp only [q0, q2, q3, q4, m0, m2, m3, go_sem, ↓reduceIte, Nat.reduceEqDiff, Int.reduceLE, Int.reduceLT, Int.reduceNeg, Int.reduceEq, Nat.reduceMul, Nat.reduceAdd, Nat.reduceLeDiff, reduceCtorEq]
        refine Gh_of (.refl _ _ _) ?_
        simp -dsimp only [q0, q2, q3, q4, m0, m2, m3, w1, go_sem, ↓reduceIte, Nat.reduceEqDiff, Int.reduceLE, Int.reduceLT, Int.reduceNeg, Int.reduceEq, Nat.reduceMul, Nat.reduceAdd, Nat.reduceLeDiff, reduceCtorEq]
        exact hA _ _ _ ⟨[], [], [], .nils, .nils, .nils, p2, ⟨by simp, by simp, by simp, by simp, by simp, by simp⟩, hp2, ⟨.inl ⟨rfl, rfl⟩, .inl ⟨rfl, rfl⟩, .inl ⟨rfl, rfl⟩⟩, by simp [upd_at, q0], by simp [upd_at, q2], by simp [upd_at, q3], by simp [upd_at], by simp [hup_at], by simp [hup_at, m2], by simp [hup_at]⟩
      · have d51 := (h51 L S O b1 b2 b3 hk).arg1 x3
        simp -dsimp only [q0, q2, q3, q4, m0, m2, m3, go_sem, ↓reduceIte, Nat.reduceEqDiff, Int.reduceLE, Int.reduceLT, Int.reduceNeg, Int.reduceEq, Nat.reduceMul, Nat.reduceAdd, Nat.reduceLeDiff, reduceCtorEq]
        refine Call_news (own := true) (v := syncA L) (b := obF L) (obs' := [obF L]) (by simp only [List.append_nil, expL, x1]; exact d51) (by simpa using x4) (by simp [obF, fl_pure]) (.inl rfl) (by simp [obF]) ?_
        simp -dsimp only [q0, q2, q3, q4, m0, m2, m3, syncA, impA, impL, Option.getD_some, Nat.sub_self, Nat.sub_zero, obF, go_sem, ↓reduceIte, Nat.reduceEqDiff, Int.reduceLE, Int.reduceLT, Int.reduceNeg, Int.reduceEq, Nat.reduceMul, Nat.reduceAdd, Nat.reduceLeDiff, reduceCtorEq]
        refine Gh_ren2 (t := 17) (L := L) (S := L) { ver := 2, es := [[.sl (.r 17 0) c 0 L.length none, .sl (.r 17 1) c 0 L.length none, .nils]], esz := 3, own := False, fixed := true } (by simp) (by simp only [hup_at, newObs, ↓reduceIte, Nat.reduceEqDiff, reduceCtorEq, Rid.r.injEq, Rid.l.injEq, Nat.reduceAdd, Nat.zero_add, and_self, and_true, and_false, false_and, true_and] <;> rfl) rfl (by simp only [hup_at, newObs, ↓reduceIte, Nat.reduceEqDiff, reduceCtorEq, Rid.r.injEq, Rid.l.injEq, Nat.reduceAdd, Nat.zero_add, and_self, and_true, and_false, false_and, true_and] <;> rfl) (by simp only [hup_at, newObs, ↓reduceIte, Nat.reduceEqDiff, reduceCtorEq, Rid.r.injEq, Rid.l.injEq, Nat.reduceAdd, Nat.zero_add, and_self, and_true, and_false, false_and, true_and] <;> rfl) fun h' a' b' y1 y2 y3 y4 => ?_
        have z0 : h' (.p 0) = some (rdV code p2 0 true) := by rw [y4 _ (by simp) (by simp) (by simp) (by simp) (by simp)]; simp [hup_at]
        have z2 : h' (.l 2) = some { ver := 1, es := [[.nils, .nils, .nils]], esz := 3, own := False, fixed := true } := by rw [y4 _ (by simp) (by simp) (by simp) (by simp) (by simp)]; simp [hup_at, m2]
        obtain ⟨k1, k2, k3⟩ := diskB_ok hk
        simp -dsimp only [q0, q2, q3, q4, w1, go_sem, ↓reduceIte, Nat.reduceEqDiff, Int.reduceLE, Int.reduceLT, Int.reduceNeg, Int.reduceEq, Nat.reduceMul, Nat.reduceAdd, Nat.reduceLeDiff, reduceCtorEq]
        exact hA _ _ _ ⟨L, L, [], a', b', .nils, p2, ⟨hB.l, hB.l, hB.ld, hB.ld, by simp, by simp⟩, hp2, ⟨y2, y3, .inl ⟨rfl, rfl⟩⟩, by simp [upd_at, q0], by simp [upd_at, q2], by simp [upd_at, q3], by simp [upd_at], z0, z2, y1⟩
    case false =>
      simp -dsimp only [q0, q2, q3, q4, m0, m2, m3, go_sem, ↓reduceIte, Nat.reduceEqDiff, Int.reduceLE, Int.reduceLT, Int.reduceNeg, Int.reduceEq, Nat.reduceMul, Nat.reduceAdd, Nat.reduceLeDiff, reduceCtorEq]
      refine Callh_rd rfl (by simp [hup_at]; rfl) (h97 code p2 hp2 hc) (fun a ha => by cases ha) ?_
      have hp3 := dopF_le hp2
      have hd3 := dopF_d code p2
      obtain ⟨op, hop⟩ : ∃ op, op = (dopF code p2).1 := ⟨_, rfl⟩
      rw [← hop] at hd3 ⊢
      generalize (dopF code p2).2 = p3 at hp3
      have hSt3 : StAt (hup (hup h (.p 0) (rdV code p2 0 true)) (.p 0) (rdV code p3 0 true)) L S O a b d := hSt.mono fun k => by simp [hup_at]
      obtain ⟨xs, x1, x2, x3, x4, x5⟩ := st_exp hSt3
      have ec : opC op = [.i .i64 op.1, .s op.2.1, .s op.2.2.1, .s op.2.2.2] := rfl
      cases hk : diskB L S O
      · have d47 := (h47_no L S O op b1 b2 b3 hk).arg1 x3
        rw [ec] at d47 ⊢
        simp -dsimp only [q0, q2, q3, q4, m0, m2, m3, go_sem, ↓reduceIte, Nat.reduceEqDiff, Int.reduceLE, Int.reduceLT, Int.reduceNeg, Int.reduceEq, Nat.reduceMul, Nat.reduceAdd, Nat.reduceLeDiff, reduceCtorEq]
        refine Calln_val true (v := .tup [nilA, i64 1]) (by simp only [List.append_nil, expL, x1]; exact d47) (by simp only [List.append_nil, List.forall_mem_cons]; exact ⟨x4, by simp [ExpOk, AV.pure], by simp⟩) (.inl rfl) ?_
        unfold nilA
        simp -dsimp only [q0, q2, q3, q4, m0, m2, m3, r3, go_sem, ↓reduceIte, Nat.reduceEqDiff, Int.reduceLE, Int.reduceLT, Int.reduceNeg, Int.reduceEq, Nat.reduceMul, Nat.reduceAdd, Nat.reduceLeDiff, reduceCtorEq]
        intro v5
        have f10 : ((1 : Int) == 0) = false := rfl
        simp -dsimp only [q0, q2, q3, q4, m0, m2, m3, f10, w1, go_sem, ↓reduceIte, Nat.reduceEqDiff, Int.reduceLE, Int.reduceLT, Int.reduceNeg, Int.reduceEq, Nat.reduceMul, Nat.reduceAdd, Nat.reduceLeDiff, reduceCtorEq]
        exact hA _ _ _ ⟨L, S, O, a, b, d, p3, hB, hp3, hSt.mono fun k => by simp [hup_at], by simp [upd_at, q0], by simp [upd_at, q2], by simp [upd_at, q3], by simp [upd_at], by simp [hup_at], by simp [hup_at, m2], by simp [hup_at, m3]⟩
      · have d47 := (h47o L S O op b1 b2 b3 (by omega) hk).arg1 x3
        rw [ec] at d47 ⊢
        unfold doOb at d47
        simp -dsimp only [q0, q2, q3, q4, m0, m2, m3, go_sem, ↓reduceIte, Nat.reduceEqDiff, Int.reduceLE, Int.reduceLT, Int.reduceNeg, Int.reduceEq, Nat.reduceMul, Nat.reduceAdd, Nat.reduceLeDiff, reduceCtorEq]
        refine Calln_of true (v := doRc L S O op) (b := obF (doL L O op)) (obs' := [obF S, obO (doO L O op)]) (by simp only [List.append_nil, expL, x1]; exact d47) (by simp only [List.append_nil, List.forall_mem_cons]; exact ⟨x4, by simp [ExpOk, AV.pure], by simp⟩) (by simp [obF, obO, fl_pure, ol_pure]) (by simp [obF, obO]) (.inl rfl) (fun j hj => ?_) fun ν => ?_
        · simp at hj
          rcases (by omega : j = 0 ∨ j = 1 ∨ j = 2) with rfl | rfl | rfl <;> simp [hup_at, r0, r1, r2]
        unfold doRc
        simp -dsimp only [q0, q2, q3, q4, m0, m2, m3, r3, impA, impL, Option.getD_some, Nat.sub_self, Nat.sub_zero, obF, obO, go_sem, ↓reduceIte, Nat.reduceEqDiff, Int.reduceLE, Int.reduceLT, Int.reduceNeg, Int.reduceEq, Nat.reduceMul, Nat.reduceAdd, Nat.reduceLeDiff, reduceCtorEq]
        intro v5
        by_cases e0 : doC L O op = 0
        · have f0 : (doC L O op == 0) = true := by simp [e0]
          simp -dsimp only [q0, q2, q3, q4, m0, m2, m3, f0, go_sem, ↓reduceIte, Nat.reduceEqDiff, Int.reduceLE, Int.reduceLT, Int.reduceNeg, Int.reduceEq, Nat.reduceMul, Nat.reduceAdd, Nat.reduceLeDiff, reduceCtorEq]
          refine Gh_ren3 (t := 22) (L := doL L O op) (S := S) (O := doO L O op) { ver := 2, es := [[.sl (.r 22 0) ν 0 (doL L O op).length (doCap L O op), .sl (.r 22 1) ν 0 S.length none, .sl (.r 22 2) ν 0 (doO L O op).length none]], esz := 3, own := False, fixed := true } (by simp) (by simp only [hup_at, newObs, ↓reduceIte, Nat.reduceEqDiff, reduceCtorEq, Rid.r.injEq, Rid.l.injEq, Nat.reduceAdd, Nat.zero_add, and_self, and_true, and_false, false_and, true_and] <;> rfl) rfl (by simp only [hup_at, newObs, ↓reduceIte, Nat.reduceEqDiff, reduceCtorEq, Rid.r.injEq, Rid.l.injEq, Nat.reduceAdd, Nat.zero_add, and_self, and_true, and_false, false_and, true_and] <;> rfl) (by simp only [hup_at, newObs, ↓reduceIte, Nat.reduceEqDiff, reduceCtorEq, Rid.r.injEq, Rid.l.injEq, Nat.reduceAdd, Nat.zero_add, and_self, and_true, and_false, false_and, true_and] <;> rfl) (by simp only [hup_at, newObs, ↓reduceIte, Nat.reduceEqDiff, reduceCtorEq, Rid.r.injEq, Rid.l.injEq, Nat.reduceAdd, Nat.zero_add, and_self, and_true, and_false, false_and, true_and] <;> rfl) fun h' a' b' d' y1 y2 y4 => ?_
          have z0 : h' (.p 0) = some (rdV code p3 0 true) := by rw [y4 _ (by simp) (by simp) (by simp)]; simp [hup_at]
          have z2 : h' (.l 2) = some { ver := 1, es := [[.nils, .nils, .nils]], esz := 3, own := False, fixed := true } := by rw [y4 _ (by simp) (by simp) (by simp)]; simp [hup_at, m2]
          simp -dsimp only [q0, q2, q3, q4, w1, go_sem, ↓reduceIte, Nat.reduceEqDiff, Int.reduceLE, Int.reduceLT, Int.reduceNeg, Int.reduceEq, Nat.reduceMul, Nat.reduceAdd, Nat.reduceLeDiff, reduceCtorEq]
          exact hA _ _ _ ⟨doL L O op, S, doO L O op, a', b', d', p3, hB.step op hd3 hk, hp3, y2, by simp [upd_at, q0], by simp [upd_at, q2], by simp [upd_at, q3], by simp [upd_at], z0, z2, y1⟩
        · have f0 : (doC L O op == 0) = false := by simp [e0]
          simp -dsimp only [q0, q2, q3, q4, m0, m2, m3, f0, w1, go_sem, ↓reduceIte, Nat.reduceEqDiff, Int.reduceLE, Int.reduceLT, Int.reduceNeg, Int.reduceEq, Nat.reduceMul, Nat.reduceAdd, Nat.reduceLeDiff, reduceCtorEq]
          exact hA _ _ _ ⟨L, S, O, a, b, d, p3, hB, hp3, hSt.mono fun k => by simp [hup_at, newObs], by simp [upd_at, q0], by simp [upd_at, q2], by simp [upd_at, q3], by simp [upd_at], by simp [hup_at, newObs], by simp [hup_at, newObs, m2], by simp [hup_at, newObs, m3]⟩
  · rintro A g h c ⟨L, S, O, a, b, d, p', hB, hp', hSt, q0, q2, q3, q4, m0, m2, m3⟩
    rw [Nat.sub_self] at q4
    have c1 : ¬ (((0 : Nat) : Int) > 0) := by omega
    simp -dsimp only [q0, q2, q3, q4, m0, m2, m3, go_sem, ↓reduceIte, Nat.reduceEqDiff, Int.reduceLE, Int.reduceLT, Int.reduceNeg, Int.reduceEq, Nat.reduceMul, Nat.reduceAdd, Nat.reduceLeDiff, reduceCtorEq]
    refine Gh_of (.refl _ _ _) ?_
    simp -dsimp only [q0, q2, q3, q4, m0, m2, m3, c1, go_sem, ↓reduceIte, Nat.reduceEqDiff, Int.reduceLE, Int.reduceLT, Int.reduceNeg, Int.reduceEq, Nat.reduceMul, Nat.reduceAdd, Nat.reduceLeDiff, reduceCtorEq]
    refine Call_rd m0 (h65 code p' 40 hp' hc (by omega)) (fun a ha => by simp at ha; subst ha; exact ⟨rfl, rfl⟩) ?_
    have hp2 := blw_le 40 hp'
    generalize (blw code p' 40).2 = p2 at hp2
    generalize (blw code p' 40).1 = k
    have fin : ∀ (p2 : Nat), p2 ≤ code.length → ∀ (L S : List File) (O : List Dop) (a b d : AV) (g : Slots) (h : Heap) (c : Nat) (xs : List AV), BdF L → BdF S → BdO O → h (.p 0) = some (rdV code p2 0 true) → h (.l 2) = some { ver := 1, es := [[a, b, d]], esz := 3, own := False, fixed := true } → g 2 = .ptr (.l 2) 1 0 0 →
        retA h [] 1 (.agg [a, b, d]) = .agg xs → Le (.agg xs) (disk L S O) → ResOk h [] false (.agg [a, b, d]) → FinC [(2, some (true, 3))] [rdO code p] false (diskΦ code) .ret g h c := by
      intro p2 hp2 L S O a b d g h c xs b1 b2 b3 m0 m2 q2 x2 x3 x5
      refine ⟨True, [.agg [a, b, d]], by simp [resM, resE, q2, loadF, cur, m2, yes], trivial, .agg xs, [rdO code p2], ⟨L, S, O, p2, b1, b2, b3, hp2, x3, rfl⟩, [], ⟨.nil, (fun o ho => by cases ho), rfl, fun k ob hk => ?_⟩, ?_, ?_⟩
      · cases k with
        | zero => simp at hk; subst hk; exact ⟨rd_pure _ _, rdV code p2 0 true, False, .inl (by simp [rdV]), .inl ⟨by simp, m0, rfl, by simp [rdV, rdO]⟩⟩
        | succ k => simp at hk
      · exact x2
      · exact x5
    have fin3 : ∀ (p2 : Nat), p2 ≤ code.length → ∀ (L S : List File) (O : List Dop) (a b d : AV) (g : Slots) (h : Heap) (c : Nat), BdF L → BdF S → BdO O → h (.p 0) = some (rdV code p2 0 true) → h (.l 2) = some { ver := 1, es := [[a, b, d]], esz := 3, own := False, fixed := true } → g 2 = .ptr (.l 2) 1 0 0 →
        RowX h 2 (fl L) a → RowX h 2 (fl S) b → RowX h 4 (ol O) d → FinC [(2, some (true, 3))] [rdO code p] false (diskΦ code) .ret g h c := by
      intro p2 hp2 L S O a b d g h c b1 b2 b3 m0 m2 q2 ra rb rd
      obtain ⟨⟨xa, a1, a2⟩, a3⟩ := ra
      obtain ⟨⟨xb, e1, e2⟩, e3⟩ := rb
      obtain ⟨⟨xd, d1, d2⟩, d3⟩ := rd
      exact fin p2 hp2 L S O a b d g h c [xa, xb, xd] b1 b2 b3 m0 m2 q2 (by simp [retA, retL, a1, e1, d1]) (le_disk a2 e2 d2) (by simp [ResOk, ResL, a3, e3, d3])
    obtain ⟨b1, b2, b3⟩ := hB.bds
    have sa := rowAt_s hSt.a
    have sb := rowAt_s hSt.b
    have sd := rowAt_s hSt.c
    simp only [AV.storable] at sa sb sd
    by_cases k0 : k = 0
    · have f0 : ((k : Int) == 0) = true := by simp [k0]
      rcases hSt.a with ⟨ea, el⟩ | ⟨u, cap, q, ea, hr⟩
      · have eL : L = [] := by cases L <;> simp [fl] at el ⊢
        have b1' : BdF [([122, 122], ([] : List UInt8))] := ⟨by simp, by simp⟩
        simp -dsimp only [sa, sb, sd, q0, q2, q3, q4, m0, m2, m3, f0, ea, chunk, go_sem, ↓reduceIte, Nat.reduceEqDiff, Int.reduceLE, Int.reduceLT, Int.reduceNeg, Int.reduceEq, Nat.reduceMul, Nat.reduceAdd, Nat.reduceLeDiff, reduceCtorEq]
        refine EK_p ⟨⟨fun _ => flat1 _ _, good1 _ _⟩, by unfold bigOk; omega⟩ ?_
        simp -dsimp only [sa, sb, sd, q0, q2, q3, q4, m0, m2, m3, f0, ea, chunk, go_sem, ↓reduceIte, Nat.reduceEqDiff, Int.reduceLE, Int.reduceLT, Int.reduceNeg, Int.reduceEq, Nat.reduceMul, Nat.reduceAdd, Nat.reduceLeDiff, reduceCtorEq]
        exact fin3 p2 hp2 [([122, 122], [])] S O (.sl (.l 36) (c + 1) 0 1 none) b d _ _ _ b1' b2 b3 (by simp [hup_at]) (by simp [hup_at]) (by simp [upd_at, q2])
          (rowX_sl { ver := c + 1, es := [[AV.s [122, 122], AV.s []]], esz := 2, own := Flat [[AV.s [122, 122], AV.s []]] } (by simp [hup_at]) rfl rfl rfl (by simp) (fl_pure [([122, 122], [])]) rfl)
          (rowAt_x (hSt.b.mono (by simp [hup_at])) (fl_pure _)) (rowAt_x (hSt.c.mono (by simp [hup_at])) (ol_pure _))
      · have sn : fl L ++ [[AV.s [122, 122], AV.s []]] = fl (L ++ [([122, 122], [])]) := fl_snoc L ([122, 122], [])
        have b1' : BdF (L ++ [([122, 122], ([] : List UInt8))]) := ⟨by have := hB.l; simp; omega, fun f hf => by
          rw [List.mem_append] at hf
          rcases hf with hf | hf
          · exact b1.2 f hf
          · simp at hf; subst hf; simp⟩
        have hbl := hB.l
        simp -dsimp only [sa, sb, sd, q0, q2, q3, q4, m0, m2, m3, f0, ea, hr, chunk, go_sem, ↓reduceIte, Nat.reduceEqDiff, Int.reduceLE, Int.reduceLT, Int.reduceNeg, Int.reduceEq, Nat.reduceMul, Nat.reduceAdd, Nat.reduceLeDiff, reduceCtorEq]
        refine EK_p ⟨⟨fun _ => flat1 _ _, good1 _ _⟩, by unfold bigOk; rw [fl_len]; omega, by rw [fl_len]; omega⟩ ?_
        simp -dsimp only [sa, sb, sd, q0, q2, q3, q4, m0, m2, m3, f0, ea, hr, chunk, fl_len, sn, go_sem, ↓reduceIte, Nat.reduceEqDiff, Int.reduceLE, Int.reduceLT, Int.reduceNeg, Int.reduceEq, Nat.reduceMul, Nat.reduceAdd, Nat.reduceLeDiff, reduceCtorEq]
        exact fin3 p2 hp2 (L ++ [([122, 122], [])]) S O (.sl (.r 1000 0) (c + 1) 0 (L.length + 1) none) b d _ _ _ b1' b2 b3 (by simp [hup_at]) (by simp [hup_at]) (by simp [upd_at, q2])
          (rowX_sl { ver := c + 1, es := fl (L ++ [([122, 122], [])]), esz := 2, own := q ∧ Flat [[AV.s [122, 122], AV.s []]] } (by simp [hup_at]) rfl rfl (sub_all (by rw [fl_len]; simp)) (by rw [fl_len]; simp) (fl_pure _) rfl)
          (rowAt_x (hSt.b.mono (by simp [hup_at])) (fl_pure _)) (rowAt_x (hSt.c.mono (by simp [hup_at])) (ol_pure _))
    have f0 : ((k : Int) == 0) = false := by simp; omega
    by_cases k1 : k = 1
    · have f1 : ((k : Int) == 1) = true := by simp [k1]
      rcases hSt.c with ⟨ea, el⟩ | ⟨u, cap, q, ea, hr⟩
      · have c2 : ¬ (0 : Int) > 0 := by omega
        simp -dsimp only [sa, sb, sd, q0, q2, q3, q4, m0, m2, m3, f0, f1, ea, c2, go_sem, ↓reduceIte, Nat.reduceEqDiff, Int.reduceLE, Int.reduceLT, Int.reduceNeg, Int.reduceEq, Nat.reduceMul, Nat.reduceAdd, Nat.reduceLeDiff, reduceCtorEq]
        exact fin3 p2 hp2 L S O a b .nils _ _ _ b1 b2 b3 (by simp [hup_at]) (by simp [hup_at, ea]) (by simp [upd_at, q2]) (rowAt_x (hSt.a.mono (by simp [hup_at])) (fl_pure _)) (rowAt_x (hSt.b.mono (by simp [hup_at])) (fl_pure _)) (by rw [el]; exact rowX_nil _ _)
      · by_cases hO : O.length = 0
        · have c2 : ¬ ((O.length : Nat) : Int) > 0 := by omega
          simp -dsimp only [sa, sb, sd, q0, q2, q3, q4, m0, m2, m3, f0, f1, ea, hr, ol_len, c2, go_sem, ↓reduceIte, Nat.reduceEqDiff, Int.reduceLE, Int.reduceLT, Int.reduceNeg, Int.reduceEq, Nat.reduceMul, Nat.reduceAdd, Nat.reduceLeDiff, reduceCtorEq]
          exact fin3 p2 hp2 L S O _ _ d _ _ _ b1 b2 b3 (by simp [hup_at]) (by simp [hup_at, ea, ol_len]) (by simp [upd_at, q2]) (rowAt_x (hSt.a.mono (by simp [hup_at])) (fl_pure _)) (rowAt_x (hSt.b.mono (by simp [hup_at])) (fl_pure _)) (rowAt_x (hSt.c.mono (by simp [hup_at])) (ol_pure _))
        · have c2 : ((O.length : Nat) : Int) > 0 := by omega
          have hod := hB.o
          have b3' : BdO (O.drop 1) := ⟨by simp; omega, fun o ho => b3.2 o (List.mem_of_mem_drop ho)⟩
          simp -dsimp only [sa, sb, sd, q0, q2, q3, q4, m0, m2, m3, f0, f1, ea, hr, ol_len, c2, go_sem, ↓reduceIte, Nat.reduceEqDiff, Int.reduceLE, Int.reduceLT, Int.reduceNeg, Int.reduceEq, Nat.reduceMul, Nat.reduceAdd, Nat.reduceLeDiff, reduceCtorEq]
          refine VK_p ⟨by omega, .inl (Int.le_refl _)⟩ ?_
          simp -dsimp only [sa, sb, sd, q0, q2, q3, q4, m0, m2, m3, f0, f1, ea, hr, ol_len, c2, go_sem, ↓reduceIte, Nat.reduceEqDiff, Int.reduceLE, Int.reduceLT, Int.reduceNeg, Int.reduceEq, Nat.reduceMul, Nat.reduceAdd, Nat.reduceLeDiff, reduceCtorEq]
          have e5 : (((O.length : Nat) : Int) - 1).toNat = O.length - 1 := by omega
          have e6 : Int.toNat 1 = 1 := rfl
          have e7 : sub (ol O) 1 (O.length - 1) = ol (O.drop 1) := by
            unfold sub
            rw [if_neg (by omega)]
            rw [List.take_of_length_le (by rw [List.length_drop, ol_len]; exact Nat.le_refl _)]
            simp [ol, List.map_drop]
          exact fin3 p2 hp2 L S (O.drop 1) a b (.sl (.r 1000 2) u 1 (O.length - 1) (cap.map fun x => x - 1)) _ _ _ b1 b2 b3' (by simp [hup_at]) (by simp [hup_at, e5]) (by simp [upd_at, q2]) (rowAt_x (hSt.a.mono (by simp [hup_at])) (fl_pure _)) (rowAt_x (hSt.b.mono (by simp [hup_at])) (fl_pure _))
            (rowX_sl { ver := u, es := ol O, esz := 4, own := q } (by simp [hup_at, hr]) rfl rfl e7 (by rw [ol_len]; omega) (ol_pure _) rfl)
    have f1 : ((k : Int) == 1) = false := by simp; omega
    by_cases k2 : k = 2
    · have f2 : ((k : Int) == 2) = true := by simp [k2]
      simp -dsimp only [sa, sb, sd, q0, q2, q3, q4, m0, m2, m3, f0, f1, f2, go_sem, ↓reduceIte, Nat.reduceEqDiff, Int.reduceLE, Int.reduceLT, Int.reduceNeg, Int.reduceEq, Nat.reduceMul, Nat.reduceAdd, Nat.reduceLeDiff, reduceCtorEq]
      refine Call_rd (by simp [hup_at]; rfl) (h65 code p2 9 hp2 hc (by omega)) (fun a ha => by simp at ha; subst ha; exact ⟨rfl, rfl⟩) ?_
      have hl9 := blw_lt code p2 9 (by omega)
      have hp3 := blw_le 9 hp2
      generalize (blw code p2 9).2 = p3 at hp3
      generalize (blw code p2 9).1 = m at hl9
      have w9 : IntKind.i64.wrap (200000 - (m : Int)) = ((200000 - m : Nat) : Int) := by rw [wr (by omega) (by omega)]; omega
      simp -dsimp only [sa, sb, sd, q0, q2, q3, q4, m0, m2, m3, f0, f1, f2, w9, go_sem, ↓reduceIte, Nat.reduceEqDiff, Int.reduceLE, Int.reduceLT, Int.reduceNeg, Int.reduceEq, Nat.reduceMul, Nat.reduceAdd, Nat.reduceLeDiff, reduceCtorEq]
      refine EK_p (by simp [bigOk]; omega) ?_
      have e9 : bytesOf (if 200000 - m = (List.replicate (200000 - m) [AV.i IntKind.u8 0]).length then List.replicate (200000 - m) [AV.i IntKind.u8 0] else List.take (200000 - m) (List.replicate (200000 - m) [AV.i IntKind.u8 0])) = some (List.replicate (200000 - m) 0) := by
        rw [if_pos (by simp)]; exact bytesOf_zo _
      obtain ⟨tx, htx⟩ : ∃ tx : List UInt8, tx = List.replicate (200000 - m) 0 := ⟨_, rfl⟩
      have htl : tx.length ≤ 200000 := by rw [htx]; simp
      rw [← htx] at e9
      have bb : BdF [(([98, 105, 103] : List UInt8), tx)] := ⟨by simp, fun f hf => by simp at hf; subst hf; show tx.length ≤ _; omega⟩
      simp -dsimp only [sa, sb, sd, q0, q2, q3, q4, m0, m2, m3, f0, f1, f2, w9, e9, chunk, go_sem, ↓reduceIte, Nat.reduceEqDiff, Int.reduceLE, Int.reduceLT, Int.reduceNeg, Int.reduceEq, Nat.reduceMul, Nat.reduceAdd, Nat.reduceLeDiff, reduceCtorEq]
      have rx : ∀ h : Heap, h (.l 56) = some { ver := c + 1, es := [[AV.s [98, 105, 103], AV.s tx]], esz := 2, own := NoDat [AV.s [98, 105, 103], AV.s tx] } → RowX h 2 (fl [([98, 105, 103], tx)]) (.sl (.l 56) (c + 1) 0 1 (some 1)) := fun h hh =>
        rowX_sl { ver := c + 1, es := [[AV.s [98, 105, 103], AV.s tx]], esz := 2, own := NoDat [AV.s [98, 105, 103], AV.s tx] } hh rfl rfl rfl (by simp) (fl_pure [([98, 105, 103], tx)]) rfl
      exact fin3 p3 hp3 [([98, 105, 103], tx)] [([98, 105, 103], tx)] [] (.sl (.l 56) (c + 1) 0 1 (some 1)) (.sl (.l 56) (c + 1) 0 1 (some 1)) .nils _ _ _ bb bb ⟨by simp, by simp⟩ (by simp [hup_at]) (by simp [hup_at]) (by simp [upd_at, q2]) (rx _ (by simp [hup_at])) (rx _ (by simp [hup_at])) (rowX_nil _ _)
    have f2 : ((k : Int) == 2) = false := by simp; omega
    simp -dsimp only [sa, sb, sd, q0, q2, q3, q4, m0, m2, m3, f0, f1, f2, go_sem, ↓reduceIte, Nat.reduceEqDiff, Int.reduceLE, Int.reduceLT, Int.reduceNeg, Int.reduceEq, Nat.reduceMul, Nat.reduceAdd, Nat.reduceLeDiff, reduceCtorEq]
    exact fin3 p2 hp2 L S O a b d _ _ _ b1 b2 b3 (by simp [hup_at]) (by simp [hup_at]) (by simp [upd_at, q2]) (rowAt_x (hSt.a.mono (by simp [hup_at])) (fl_pure _)) (rowAt_x (hSt.b.mono (by simp [hup_at])) (fl_pure _)) (rowAt_x (hSt.c.mono (by simp [hup_at])) (ol_pure _))
theorem h77d (code : List UInt8) (p : Nat) (hp : p ≤ code.length) (hc : code.length ≤ 1048576) : HC 77 [.ptr (.p 0) 0 0 0] [rdO code p] false (fun r o' => ∃ p', p' ≤ code.length ∧ o' = [rdO code p'] ∧ ∃ L S O, BdF L ∧ BdF S ∧ BdO O ∧ r = disk L S O) :=
  (h77 code p hp hc).weak fun r o' ⟨L, S, O, p', b1, b2, b3, h1, h2, h3⟩ => ⟨disk L S O, h2, p', h1, h3, L, S, O, b1, b2, b3, rfl⟩
end FrA

/-! RdE -/
open Go Go.AM
namespace FrA
open Go.Proofs
set_option maxRecDepth 100000
set_option linter.unusedSimpArgs false
theorem h34 (code : List UInt8) (hc : code.length ≤ 1048576) : HC 34 [.dat 1 (bts code)] [] false (fun r o' => o' = [] ∧ ∃ L S O, BdF L ∧ BdF S ∧ BdO O ∧ r = disk L S O) := by
  refine holdsc_of (c := Try.f34.body.getD .skip) (k := k34.1) (cs := [(2, some (true, 3))]) HOk mixedT hintT Try.func34 (by kernel_rfl) (by kernel_rfl) (by kernel_rfl) k34.2 (by kernel_rfl) (le_of 1 _ (by kernel_rfl)) ?_
  simp -dsimp only [k34, go_sem, ↓reduceIte, Nat.reduceEqDiff, Int.reduceLE, Int.reduceLT, Int.reduceNeg, Int.reduceEq, Nat.reduceMul, Nat.reduceAdd, Nat.reduceLeDiff, reduceCtorEq]
  refine Call_new (own := false) { rdO code 0 with ver := 1 } (h64 code) (by simp [ExpOk, AV.pure]) (rd_pure code 0) (.inr (by simp [AV.rooted, AV.ref1])) (by simp) ?_
  simp -dsimp only [impA, Option.getD_some, Nat.sub_self, go_sem, ↓reduceIte, Nat.reduceEqDiff, Int.reduceLE, Int.reduceLT, Int.reduceNeg, Int.reduceEq, Nat.reduceMul, Nat.reduceAdd, Nat.reduceLeDiff, reduceCtorEq]
  refine Call_rds (o := .r 5 0) (p := 0) (v := 2) (fx := true) (vals := []) (by simp [hup_at]; rfl) (h77d code 0 (by omega) hc) (fun a ha => by cases ha) fun ret p' hp' ⟨L, S, O, b1, b2, b3, e⟩ => ⟨by subst e; intros; simp [disk, impA, impL], ?_⟩
  subst e
  unfold disk
  simp -dsimp only [go_sem, ↓reduceIte, Nat.reduceEqDiff, Int.reduceLE, Int.reduceLT, Int.reduceNeg, Int.reduceEq, Nat.reduceMul, Nat.reduceAdd, Nat.reduceLeDiff, reduceCtorEq]
  refine ⟨True, [.agg [.dat 2 (fl L), .dat 2 (fl S), .dat 4 (ol O)]], by simp [resM, resE, upd_at, loadF, cur, hup_at], trivial, disk L S O, [], ⟨rfl, L, S, O, b1, b2, b3, rfl⟩, [], ⟨.nil, (fun o ho => by cases ho), rfl, fun k ob hk => by simp at hk⟩, ?_, ?_⟩
  · simp [resOne, retA, retL, disk]
  · simp [resOne, ResOk, ResL]
end FrA

