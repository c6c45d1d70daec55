/- Code. No condition. -/
import Derived.Test.YtpiegccohgdkdaaAmDraw3
set_option linter.all false
set_option linter.unusedSimpArgs false
set_option linter.unusedVariables false
set_option linter.deprecated false
namespace Go.AM
variable {P : Program} {I : Ini} {C : Con}

theorem cond_ok {c : Operand} {A B : K} {Q : Ex → Post} {g : Slots} {h : Heap} {clk : Nat} {a : Act} {w : World} (R : Rel I g h clk a w) (hk : kwp C (.cond (cv c) A B) Q g h clk) :
    ∃ x g', a.eval c = .bool x ∧ Rel I g' h clk a w ∧ (x = true → kwp C A Q g' h clk) ∧ (x = false → kwp C B Q g' h clk) := by
  obtain ⟨κ, H, E, hg⟩ := R.st
  have hev : VR w κ h clk (ev g (cv c)) (a.eval c) := ev_ok hg c
  cases c with
  | tmp t =>
    obtain ⟨x, hx, h1, h2⟩ := hk
    have hx' : ev g (cv (.tmp t)) = .b x := hx
    rw [hx'] at hev
    refine ⟨x, upd g t (.b x), hev.of_b, R.slot hx, fun e => ?_, fun e => ?_⟩
    · subst e; exact h1 rfl
    · subst e; exact h2 rfl
  | const v =>
    obtain ⟨x, hx, h1, h2⟩ := hk
    rw [show ev g (cv (.const v)) = .b x from hx] at hev
    exact ⟨x, g, hev.of_b, R, h1, h2⟩
  | func f =>
    obtain ⟨x, hx, _⟩ := hk
    cases hx
  | global f =>
    obtain ⟨x, hx, _⟩ := hk
    cases hx

theorem least_ex (p : Nat → Prop) : ∀ n, p n → ∃ m, p m ∧ ∀ k, p k → m ≤ k := by
  intro n
  induction n using Nat.strongRecOn with
  | _ n ih =>
    intro hn
    by_cases hq : ∃ k, k < n ∧ p k
    · obtain ⟨k, hk, hp⟩ := hq; exact ih k hk hp
    · exact ⟨n, hn, fun k hk => Nat.le_of_not_lt fun hl => hq ⟨k, hl, hk⟩⟩
open Classical in
noncomputable def least (p : Nat → Prop) : Nat := if h : ∃ m, p m ∧ ∀ k, p k → m ≤ k then Classical.choose h else 0
theorem least_spec {p : Nat → Prop} (h : ∃ n, p n) : p (least p) ∧ ∀ k, p k → least p ≤ k := by
  obtain ⟨n, hn⟩ := h
  have h2 := least_ex p n hn
  unfold least
  rw [dif_pos h2]
  exact Classical.choose_spec h2

theorem kwp_ok (hC : ConOk P C) (hmix : P.follows .mixedOrders = true) (hint : Nat → Bool) : ∀ (c : Code), drawsOk (comp P I.n hint c) = true → ∀ {Q : Ex → Post} {QQ : Exit → Act → World → Prop} {g : Slots} {h : Heap} {clk : Nat} {a : Act} {w : World},
    Meets C I Q QQ → Rel I g h clk a w → kwp C (comp P I.n hint c) Q g h clk → c.wp P QQ a w := by
  intro c
  induction c with
  | skip => intro hd Q QQ g h clk a w M R hk; exact wp_skip (M.1 _ _ _ _ _ hk R)
  | region id ops d =>
    intro hd Q QQ g h clk a w M R hk
    have main : drawsOk (if d then K.dreg ((ops.toList.map (cop P I.n ops)).map (KOp.drawn hint)) (edges ops) else .reg (ops.toList.map (cop P I.n ops))) = true → kwp C (if d then K.dreg ((ops.toList.map (cop P I.n ops)).map (KOp.drawn hint)) (edges ops) else .reg (ops.toList.map (cop P I.n ops))) Q g h clk → (Code.region id ops d).wp P QQ a w := by
      intro hd2 hk2
      clear hk hd
      cases d with
      | true => exact draw_ok hC hmix M.1 hd2 R hk2
      | false => exact wp_region_list (kops_ok hC M.1 ops.toList R hk2)
    exact main hd hk
  | seq x y ihx ihy =>
    intro hd Q QQ g h clk a w M R hk
    simp only [comp, drawsOk, Bool.and_eq_true] at hd
    refine wp_seq (ihx hd.1 (Q := Ex.then (kwp C (comp P I.n hint y) Q) Q) ⟨fun g h clk a w hq R => ihy hd.2 M R hq, fun id => M.2.1 id, M.2.2⟩ R hk)
  | cond c x y ihx ihy =>
    intro hd Q QQ g h clk a w M R hk
    obtain ⟨b, g', hb, R', h1, h2⟩ := cond_ok R hk
    simp only [comp, drawsOk, Bool.and_eq_true] at hd
    exact wp_cond_split hb (fun e => ihx hd.1 M R' (h1 e)) (fun e => ihy hd.2 M R' (h2 e))
  | block id x ih =>
    intro hd Q QQ g h clk a w M R hk
    refine wp_block (ih hd (Q := Ex.inBlock id Q) ⟨M.1, fun j g h clk a w hq R => ?_, M.2.2⟩ R hk)
    simp only [Ex.inBlock] at hq
    simp only [Exit.inBlock]
    split at hq
    · rename_i e; rw [if_pos e]; exact M.1 _ _ _ _ _ hq R
    · rename_i e; rw [if_neg e]; exact M.2.1 j _ _ _ _ _ hq R
  | loop x ih =>
    intro hd Q QQ g h clk a w M R hk
    obtain ⟨J, μ, h0, hr⟩ := hk
    let T : Act → World → Nat → Prop := fun a w m => ∃ g h clk, J g h clk ∧ Rel I g h clk a w ∧ μ g h clk = m
    refine wp_loop (fun a w => ∃ m, T a w m) (fun a w => least (T a w)) ⟨_, g, h, clk, h0, R, rfl⟩ fun a w hI => ?_
    obtain ⟨⟨g1, h1, c1, hJ, R1, hm⟩, _⟩ := least_spec hI
    refine ih hd (Q := Ex.then (fun g' h' c' => J g' h' c' ∧ μ g' h' c' < μ g1 h1 c1) Q) ⟨fun g h clk a w hq R => ?_, fun id => M.2.1 id, M.2.2⟩ R1 (hr _ _ _ hJ)
    have hx : T a w (μ g h clk) := ⟨g, h, clk, hq.1, R, rfl⟩
    refine ⟨⟨_, hx⟩, ?_⟩
    rw [← hm]
    exact Nat.lt_of_le_of_lt ((least_spec ⟨_, hx⟩).2 _ hx) hq.2
  | exit id => intro hd Q QQ g h clk a w M R hk; exact wp_exit (M.2.1 id _ _ _ _ _ hk R)
  | ret => intro hd Q QQ g h clk a w M R hk; exact wp_ret (M.2.2 _ _ _ _ _ hk R)
  | _ => intro hd Q QQ g h clk a w M R hk; exact hk.elim
end Go.AM
