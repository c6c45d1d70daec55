/- Symbolic execution over K: what is pending lies in a stack (data), so that simp looks at one operation at a time. No condition. -/
import Derived.Test.YtbhdjaccdaccbaaGreatAmG01
set_option linter.all false
set_option linter.unusedSimpArgs false
set_option linter.unusedVariables false
set_option linter.deprecated false
/-! Sx -/
section
namespace Go.AM

inductive Stk where
  | done (Q : Ex → Post)
  | seq (k : K) (s : Stk)
  | blk (id : Nat) (s : Stk)
  | post (A : Post) (s : Stk)

def den (C : Con) : Stk → Ex → Post
  | .done Q => Q
  | .seq k s => Ex.then (kwp C k (den C s)) (den C s)
  | .blk id s => Ex.inBlock id (den C s)
  | .post A s => Ex.then A (den C s)

def RunK (C : Con) (k : K) (s : Stk) (g : Slots) (h : Heap) (c : Nat) : Prop := kwp C k (den C s) g h c
def Ret (C : Con) (e : Ex) (s : Stk) (g : Slots) (h : Heap) (c : Nat) : Prop := den C s e g h c
/-- Two operation lists, one behind the other. -/
def RunD (C : Con) (l m : List KOp) (s : Stk) (g : Slots) (h : Heap) (c : Nat) : Prop := kops C l (kops C m (den C s .normal)) g h c

/-! stops -/
def VK (C : Con) (x : PV) (d : Option Nat) (r m : List KOp) (s : Stk) (g : Slots) (h : Heap) (c : Nat) : Prop :=
  ∃ p v, x = some (p, v) ∧ p ∧ RunD C r m s (updO g d v) h c
def EK (C : Con) (x : PE) (t : Nat) (r m : List KOp) (s : Stk) (g : Slots) : Prop :=
  ∃ p v h' c', x = some (p, v, h', c') ∧ p ∧ RunD C r m s (upd g t v) h' c'
def WK (C : Con) (x : Option (Prop × Heap)) (d : Option Nat) (r m : List KOp) (s : Stk) (g : Slots) (c : Nat) : Prop :=
  ∃ p h', x = some (p, h') ∧ p ∧ RunD C r m s (updO g d .undef) h' c
def PickK (C : Con) (b : AV) (x y : AV) (d : Option Nat) (r m : List KOp) (s : Stk) (g : Slots) (h : Heap) (c : Nat) : Prop := VK C (pickF b x y) d r m s g h c
def GrdK (C : Con) (x : AV) (w : Bool) (t : Nat) (d : Option Nat) (o : KO) (r m : List KOp) (s : Stk) (g : Slots) (h : Heap) (c : Nat) : Prop :=
  ∃ b, x.says w = some b ∧ (b = w → RunD C (⟨d, none, o⟩ :: r) m s (upd g t x) h c) ∧ (b = !w → RunD C r m s (updO (upd g t x) d (.tup [])) h c)
def CndK (C : Con) (x : AV) (t : Nat) (a b : K) (s : Stk) (g : Slots) (h : Heap) (c : Nat) : Prop :=
  ∃ y, x = .b y ∧ (y = true → RunK C a s (upd g t (.b true)) h c) ∧ (y = false → RunK C b s (upd g t (.b false)) h c)
def CallK (C : Con) (f : AV) (as : List AV) (d : Option Nat) (r m : List KOp) (s : Stk) (g : Slots) (h : Heap) (c : Nat) : Prop :=
  kcall C d f as (fun g h c => RunD C r m s g h c) g h c ∨ kcallx C d f as (fun g h c => RunD C r m s g h c) g h c
/-- A call in a region whose order is drawn. -/
def CallK0 (C : Con) (f : AV) (as : List AV) (d : Option Nat) (r m : List KOp) (s : Stk) (g : Slots) (h : Heap) (c : Nat) : Prop :=
  ∃ v, kcall0 C f as v ∧ RunD C r m s (updO g d v) h c

/-- A call in a region whose order is drawn, which reads objects. -/
def CallKv (C : Con) (f : AV) (as : List AV) (d : Option Nat) (r m : List KOp) (s : Stk) (g : Slots) (h : Heap) (c : Nat) : Prop :=
  ∃ v, kcallv C f as v h ∧ RunD C r m s (updO g d v) h c
/-- Is it nil? -/
def EqnK (C : Con) (e : PV) (x y : AV) (d : Option Nat) (r m : List KOp) (s : Stk) (g : Slots) (h : Heap) (c : Nat) : Prop :=
  (∃ p v, e = some (p, v) ∧ p ∧ RunD C r m s (updO g d v) h c) ∨ (x.isSl = true ∧ y.isNils = true ∧ ∀ b, RunD C r m s (updO g d (.b b)) h c)
/-- A call that is handed objects, in such a region. -/
def CallKh (C : Con) (l : Bool) (f : AV) (as : List AV) (d : Option Nat) (r m : List KOp) (s : Stk) (g : Slots) (h : Heap) (c : Nat) : Prop :=
  ∃ v h', kcallh C l f as v h h' ∧ RunD C r m s (updO g d v) h' c

/-- A ghost step. -/
def GhK (C : Con) (r m : List KOp) (s : Stk) (g : Slots) (h : Heap) (c : Nat) : Prop := ∃ g' h' c', Gh g h c g' h' c' ∧ RunD C r m s g' h' c'
def CpyK (C : Con) (x : Option (Prop × AV × Heap)) (d : Option Nat) (r m : List KOp) (s : Stk) (g : Slots) (c : Nat) : Prop :=
  ∃ p v h', x = some (p, v, h') ∧ p ∧ RunD C r m s (updO g d v) h' c
def ClrK (C : Con) (x : Option (Prop × Heap)) (d : Option Nat) (r m : List KOp) (s : Stk) (g : Slots) (c : Nat) : Prop :=
  ∃ p h', x = some (p, h') ∧ p ∧ RunD C r m s (updO g d (.tup [])) h' c

section
variable (C : Con) (s : Stk) (g : Slots) (h : Heap) (c : Nat) (r m : List KOp) (d : Option Nat)
theorem K_seq (a b : K) : RunK C (.seq a b) s g h c = RunK C a (.seq b s) g h c := rfl
theorem K_reg (l : List KOp) : RunK C (.reg l) s g h c = RunD C l [] s g h c := rfl
theorem K_dreg (l : List KOp) (w : List (List Nat)) : RunK C (.dreg l w) s g h c = RunD C l [] s g h c := rfl
theorem K_block (i : Nat) (k : K) : RunK C (.block i k) s g h c = RunK C k (.blk i s) g h c := rfl
theorem K_skip : RunK C .skip s g h c = Ret C .normal s g h c := rfl
theorem K_exit (i : Nat) : RunK C (.exit i) s g h c = Ret C (.exit i) s g h c := rfl
theorem K_ret : RunK C .ret s g h c = Ret C .ret s g h c := rfl
theorem K_cond (t : Nat) (a b : K) : RunK C (.cond (.t t) a b) s g h c = CndK C (g t) t a b s g h c := rfl
theorem R_seq (k : K) : Ret C .normal (.seq k s) g h c = RunK C k s g h c := rfl
theorem R_seq_exit (k : K) (i : Nat) : Ret C (.exit i) (.seq k s) g h c = Ret C (.exit i) s g h c := rfl
theorem R_seq_ret (k : K) : Ret C .ret (.seq k s) g h c = Ret C .ret s g h c := rfl
theorem R_blk (i : Nat) : Ret C .normal (.blk i s) g h c = Ret C .normal s g h c := rfl
theorem R_blk_ret (i : Nat) : Ret C .ret (.blk i s) g h c = Ret C .ret s g h c := rfl
theorem R_blk_exit (i j : Nat) : Ret C (.exit j) (.blk i s) g h c = if j = i then Ret C .normal s g h c else Ret C (.exit j) s g h c := rfl
theorem R_post (A : Post) : Ret C .normal (.post A s) g h c = A g h c := rfl
theorem R_post_exit (A : Post) (i : Nat) : Ret C (.exit i) (.post A s) g h c = Ret C (.exit i) s g h c := rfl
theorem R_post_ret (A : Post) : Ret C .ret (.post A s) g h c = Ret C .ret s g h c := rfl
theorem R_done (Q : Ex → Post) (e : Ex) : Ret C e (.done Q) g h c = Q e g h c := rfl
theorem D_nil (o : KOp) (m : List KOp) : RunD C [] (o :: m) s g h c = RunD C (o :: m) [] s g h c := rfl
theorem D_end : RunD C [] [] s g h c = Ret C .normal s g h c := rfl
theorem D_if (t : Nat) (w : Bool) (o : KO) : RunD C (⟨d, some (t, w), o⟩ :: r) m s g h c = GrdK C (g t) w t d o r m s g h c := by
  unfold GrdK
  have e : upd g t (g t) = g := by funext u; unfold upd; split <;> simp_all
  rw [e]; rfl
theorem D_mv (x : KV) : RunD C (⟨d, none, .mv x⟩ :: r) m s g h c = RunD C r m s (updO g d (ev g x)) h c := by
  refine propext ⟨fun ⟨p, v, hx, hp, hq⟩ => ?_, fun hq => ⟨True, ev g x, rfl, trivial, hq⟩⟩
  cases hx; exact hq
theorem D_pick (x y z : KV) : RunD C (⟨d, none, .pick x y z⟩ :: r) m s g h c = PickK C (ev g x) (ev g y) (ev g z) d r m s g h c := rfl
theorem D_build (z : List AV) (ps : List (Nat × Nat × KV)) : RunD C (⟨d, none, .build z ps⟩ :: r) m s g h c = VK C (buildF z (ps.map fun (off, n, x) => (off, n, ev g x))) d r m s g h c := rfl
theorem D_load (a : Bool) (n : Nat) (x : KV) : RunD C (⟨d, none, .load a n x⟩ :: r) m s g h c = VK C (loadF h a n (ev g x)) d r m s g h c := rfl
theorem D_nilck (x : KV) : RunD C (⟨d, none, .nilck x⟩ :: r) m s g h c = VK C (nilckF h (ev g x)) d r m s g h c := rfl
theorem D_bin (op : BinOp) (x y : KV) : RunD C (⟨d, none, .bin op x y⟩ :: r) m s g h c = VK C (binF op (ev g x) (ev g y)) d r m s g h c := rfl
theorem D_eqt (t : EqT) (n : Bool) (x y : KV) : RunD C (⟨d, none, .eqt t n x y⟩ :: r) m s g h c = VK C (eqtF h t n (ev g x) (ev g y)) d r m s g h c := rfl
theorem D_un (op : UnOp) (x : KV) : RunD C (⟨d, none, .un op x⟩ :: r) m s g h c = VK C (unF op (ev g x)) d r m s g h c := rfl
theorem D_conv (k : KC) (x : KV) : RunD C (⟨d, none, .conv k x⟩ :: r) m s g h c = VK C (convF h k (ev g x)) d r m s g h c := rfl
theorem D_ldl (k : Nat) (b : Bool) (n : Nat) (x : KV) : RunD C (⟨d, none, .ldl k b n x⟩ :: r) m s g h c = VK C (loadF h b n (ldA k (ev g x))) d r m s g h c := rfl
theorem D_stl (k n : Nat) (a v : KV) : RunD C (⟨d, none, .stl k n a v⟩ :: r) m s g h c = WK C (storeF h n (stA k (ev g a)) (ev g v)) d r m s g c := rfl
theorem D_slc (e : Nat) (x : KV) (l k n : Option KV) : RunD C (⟨d, none, .slc e x l k n⟩ :: r) m s g h c = VK C (slcF h e (ev g x) (l.map (ev g)) (k.map (ev g)) (n.map (ev g))) d r m s g h c := rfl
theorem D_sls (x : KV) (l k : Option KV) : RunD C (⟨d, none, .sls x l k⟩ :: r) m s g h c = VK C (slsF (ev g x) (l.map (ev g)) (k.map (ev g))) d r m s g h c := rfl
theorem D_fld (n : Nat) (x : KV) : RunD C (⟨d, none, .fld n x⟩ :: r) m s g h c = VK C (fldF h n (ev g x)) d r m s g h c := rfl
theorem D_fldv (a : Bool) (k n : Nat) (x : KV) : RunD C (⟨d, none, .fldv a k n x⟩ :: r) m s g h c = VK C (fldvF a k n (ev g x)) d r m s g h c := rfl
theorem D_idx (e : Nat) (x i : KV) : RunD C (⟨d, none, .idx e x i⟩ :: r) m s g h c = VK C (idxF h e (ev g x) (ev g i)) d r m s g h c := rfl
theorem D_idxa (n e : Nat) (x i : KV) : RunD C (⟨d, none, .idxa n e x i⟩ :: r) m s g h c = VK C (idxaF h n e (ev g x) (ev g i)) d r m s g h c := rfl
theorem D_slca (n e : Nat) (x : KV) (l k : Option KV) : RunD C (⟨d, none, .slca n e x l k⟩ :: r) m s g h c = VK C (slcaF h n e (ev g x) (l.map (ev g)) (k.map (ev g))) d r m s g h c := rfl
theorem D_ids (x i : KV) : RunD C (⟨d, none, .ids x i⟩ :: r) m s g h c = VK C (idsF (ev g x) (ev g i)) d r m s g h c := rfl
theorem D_ext (x : KV) (i : Nat) : RunD C (⟨d, none, .ext x i⟩ :: r) m s g h c = VK C (extF i (ev g x)) d r m s g h c := rfl
theorem D_len (b : Bool) (x : KV) : RunD C (⟨d, none, .len b x⟩ :: r) m s g h c = VK C (lenF h b (ev g x)) d r m s g h c := rfl
theorem D_cap (x : KV) : RunD C (⟨d, none, .cap x⟩ :: r) m s g h c = VK C (capF h (ev g x)) d r m s g h c := rfl
theorem D_mm (b : Bool) (xs : List KV) : RunD C (⟨d, none, .mm b xs⟩ :: r) m s g h c = VK C (mmF b (xs.map (ev g))) d r m s g h c := rfl
theorem D_mkf (f : Nat) (xs : List KV) : RunD C (⟨d, none, .mkf f xs⟩ :: r) m s g h c = RunD C r m s (updO g d (.fn f (xs.map (ev g)))) h c := by
  refine propext ⟨fun ⟨p, v, hx, hp, hq⟩ => ?_, fun hq => ⟨True, _, rfl, trivial, hq⟩⟩
  cases hx; exact hq
theorem D_store (n : Nat) (a v : KV) : RunD C (⟨d, none, .store n a v⟩ :: r) m s g h c = WK C (storeF h n (ev g a) (ev g v)) d r m s g c := rfl
theorem D_call0 (f : KV) (as : List KV) : RunD C (⟨d, none, .call0 f as⟩ :: r) m s g h c = CallK0 C (ev g f) (as.map (ev g)) d r m s g h c := rfl
theorem D_eqn (n : Bool) (x y : KV) : RunD C (⟨d, none, .eqn n x y⟩ :: r) m s g h c = EqnK C (eqtF h .slice n (ev g x) (ev g y)) (ev g x) (ev g y) d r m s g h c := rfl
theorem D_cpy (e : Nat) (x y : KV) : RunD C (⟨d, none, .cpy e x y⟩ :: r) m s g h c = CpyK C (cpyF h e (ev g x) (ev g y)) d r m s g c := rfl
theorem D_clr (e : Nat) (z : List AV) (x : KV) : RunD C (⟨d, none, .clr e z x⟩ :: r) m s g h c = ClrK C (clrF h e z (ev g x)) d r m s g c := rfl
/-- A call in a region whose order is drawn, which reads objects and gives back new ones. -/
def CallKn (C : Con) (f : AV) (as : List AV) (t : Nat) (r m : List KOp) (s : Stk) (g : Slots) (h : Heap) (c : Nat) : Prop :=
  ∀ ν, ∃ v obs', kcalln C f as v obs' h ∧ (∀ j, j < obs'.length → h (.r t j) = none) ∧ RunD C r m s (upd g t (impA t 0 ν v)) (newObs t ν 0 obs' h) (nclk c [] obs')
theorem D_calln (t : Nat) (f : KV) (as : List KV) : RunD C (⟨some t, none, .calln f as⟩ :: r) m s g h c = CallKn C (ev g f) (as.map (ev g)) t r m s g h c := by
  refine propext ⟨fun hk ν => ?_, fun hk ν => ?_⟩
  · obtain ⟨t', v, o', h1, h2⟩ := hk ν; cases h1; exact ⟨v, o', h2⟩
  · obtain ⟨v, o', h2⟩ := hk ν; exact ⟨t, v, o', rfl, h2⟩
theorem D_callv (f : KV) (as : List KV) : RunD C (⟨d, none, .callv f as⟩ :: r) m s g h c = CallKv C (ev g f) (as.map (ev g)) d r m s g h c := rfl
theorem D_callh (f : KV) (as : List KV) : RunD C (⟨d, none, .callh f as⟩ :: r) m s g h c = CallKh C false (ev g f) (as.map (ev g)) d r m s g h c := rfl
theorem D_callg (f : KV) (as : List KV) : RunD C (⟨d, none, .callg f as⟩ :: r) m s g h c = CallKh C true (ev g f) (as.map (ev g)) d r m s g h c := rfl
theorem D_call (f : KV) (as : List KV) : RunD C (⟨d, none, .call f as⟩ :: r) m s g h c = CallK C (ev g f) (as.map (ev g)) d r m s g h c := rfl
theorem EK_eq (t : Nat) (o : KO) (x : PE) (hx : ke t o g h c = x) : (∃ u p v h' c', some t = some u ∧ ke u o g h c = some (p, v, h', c') ∧ p ∧ kops C r (kops C m (den C s .normal)) (upd g u v) h' c') = EK C x t r m s g := by
  subst hx
  refine propext ⟨fun ⟨u, p, v, h', c', hu, hk, hp, hq⟩ => ?_, fun ⟨p, v, h', c', hk, hp, hq⟩ => ⟨t, p, v, h', c', rfl, hk, hp, hq⟩⟩
  cases hu; exact ⟨p, v, h', c', hk, hp, hq⟩
theorem D_alloc (t : Nat) (cs : List AV) : RunD C (⟨some t, none, .alloc cs⟩ :: r) m s g h c = EK C (allocF cs t h c) t r m s g := EK_eq C s g h c r m t (.alloc cs) _ rfl
theorem D_box (t : Nat) (x : KV) : RunD C (⟨some t, none, .box x⟩ :: r) m s g h c = EK C (boxF (ev g x) t h c) t r m s g := EK_eq C s g h c r m t (.box x) _ rfl
theorem D_bslice (t e n : Nat) (z : List AV) (ps : List (Nat × KV)) : RunD C (⟨some t, none, .bslice e n z ps⟩ :: r) m s g h c = EK C (bslF e n z t (ps.map fun (j, x) => (j, ev g x)) h c) t r m s g := EK_eq C s g h c r m t (.bslice e n z ps) _ rfl
theorem D_mks (t e b : Nat) (z : List AV) (l k : KV) : RunD C (⟨some t, none, .mks e b z l k⟩ :: r) m s g h c = EK C (mksF e b z t (ev g l) (ev g k) h c) t r m s g := EK_eq C s g h c r m t (.mks e b z l k) _ rfl
theorem D_app (t e b : Nat) (z : List AV) (x y : KV) : RunD C (⟨some t, none, .app e b z x y⟩ :: r) m s g h c = EK C (appF e b t (ev g x) (ev g y) h c) t r m s g := EK_eq C s g h c r m t (.app e b z x y) _ rfl

theorem D_appz (t e b : Nat) (z : List AV) (x y : KV) : RunD C (⟨some t, none, .appz e b z x y⟩ :: r) m s g h c = EK C (appzF e b z t (ev g x) (ev g y) h c) t r m s g := EK_eq C s g h c r m t (.appz e b z x y) _ rfl

theorem D_mk_alloc (t : Nat) (cs : List AV) : RunD C (⟨some t, none, .mk4 (.alloc cs)⟩ :: r) m s g h c = (h (.l t) = none ∧ ∀ v, RunD C r m s (upd g t (.ptr (.l t) v 0 0)) (hup h (.l t) { ver := v, es := [cs], esz := cs.length, fixed := true, own := False }) (c + 1)) := by
  refine propext ⟨fun hk => ?_, fun ⟨h1, h2⟩ v => ⟨t, True, _, _, rfl, rfl, trivial, h1, h2 v⟩⟩
  refine ⟨?_, fun v => ?_⟩
  · obtain ⟨t', p, val, h', h1, h2, h3, h4, h5⟩ := hk 0; cases h1; exact h4
  · obtain ⟨t', p, val, h', h1, h2, h3, h4, h5⟩ := hk v; cases h1; cases h2; exact h5
/-- Memory of any version. -/
def EKd (C : Con) (x : Nat → PE) (fr : Prop) (t : Nat) (r m : List KOp) (s : Stk) (g : Slots) (c : Nat) : Prop := ∀ v, ∃ p val h', x v = some (p, val, h', v + 1) ∧ p ∧ fr ∧ RunD C r m s (upd g t val) h' (c + 1)
theorem D_mk (t : Nat) (o : KO) : RunD C (⟨some t, none, .mk4 o⟩ :: r) m s g h c = EKd C (fun v => ke t o g h v) (fr4 t o g h) t r m s g c := by
  refine propext ⟨fun hk v => ?_, fun hk v => ?_⟩
  · obtain ⟨t', p, val, h', h1, h2, h3, h4, h5⟩ := hk v; cases h1; exact ⟨p, val, h', h2, h3, h4, h5⟩
  · obtain ⟨p, val, h', h2, h3, h4, h5⟩ := hk v; exact ⟨t, p, val, h', rfl, h2, h3, h4, h5⟩
theorem D_mk_bsl (t e n : Nat) (z : List AV) (ps : List (Nat × KV)) : RunD C (⟨some t, none, .mk4 (.bslice e n z ps)⟩ :: r) m s g h c = EKd C (fun v => bslF e n z t (ps.map fun (j, x) => (j, ev g x)) h v) (h (.l t) = none) t r m s g c := D_mk C s g h c r m t _
theorem D_mk_box (t : Nat) (x : KV) : RunD C (⟨some t, none, .mk4 (.box x)⟩ :: r) m s g h c = EKd C (fun v => boxF (ev g x) t h v) (h (.l t) = none) t r m s g c := D_mk C s g h c r m t _
theorem D_mk_mks (t e b : Nat) (z : List AV) (l k : KV) : RunD C (⟨some t, none, .mk4 (.mks e b z l k)⟩ :: r) m s g h c = EKd C (fun v => mksF e b z t (ev g l) (ev g k) h v) (h (.l t) = none) t r m s g c := D_mk C s g h c r m t _
theorem D_mk_app (t e b : Nat) (z : List AV) (x y : KV) : RunD C (⟨some t, none, .mk4 (.app e b z x y)⟩ :: r) m s g h c = EKd C (fun v => appF e b t (ev g x) (ev g y) h v) ((ev g x).isRef = true) t r m s g c := D_mk C s g h c r m t _
theorem EKd_yes (t : Nat) (val : Nat → AV) (h' : Nat → Heap) (fr : Prop) : EKd C (fun v => some (True, val v, h' v, v + 1)) fr t r m s g c = (fr ∧ ∀ v, RunD C r m s (upd g t (val v)) (h' v) (c + 1)) := by
  refine propext ⟨fun hk => ⟨?_, fun v => ?_⟩, fun ⟨h1, h2⟩ v => ⟨True, _, _, rfl, trivial, h1, h2 v⟩⟩
  · obtain ⟨p, val, h', h2, h3, h4, h5⟩ := hk 0; exact h4
  · obtain ⟨p, val, h', h2, h3, h4, h5⟩ := hk v; cases h2; exact h5
/-- A copy of a row. -/
def CpK (C : Con) (f : Nat) (as : List AV) (t : Nat) (r m : List KOp) (s : Stk) (g : Slots) (h : Heap) (c : Nat) : Prop :=
  ∃ z es, as = [.dat z es] ∧ C.cp f z es ∧ Pure es ∧ h (.r t 0) = none ∧ ∀ v, RunD C r m s (upd g t (.sl (.r t 0) v 0 es.length none)) (hup h (.r t 0) { ver := v, es := es, esz := z }) (c + 1)
theorem D_callc (t f : Nat) (as : List KV) : RunD C (⟨some t, none, .callc f as⟩ :: r) m s g h c = CpK C f (as.map (ev g)) t r m s g h c := by
  refine propext ⟨fun ⟨t', z, es, h1, h2⟩ => by cases h1; exact ⟨z, es, h2⟩, fun ⟨z, es, h2⟩ => ⟨t, z, es, rfl, h2⟩⟩
/-- A ghost step. -/
theorem D_gh : RunD C (⟨none, none, .gh⟩ :: r) m s g h c = GhK C r m s g h c := rfl

/-! what a stop gives -/
theorem VK_yes (v : AV) : VK C (some (True, v)) d r m s g h c = RunD C r m s (updO g d v) h c := by
  refine propext ⟨fun ⟨p, v, hx, hp, hq⟩ => ?_, fun hq => ⟨True, _, rfl, trivial, hq⟩⟩
  cases hx; exact hq
theorem EK_yes (t : Nat) (v : AV) : EK C (some (True, v, h, c)) t r m s g = RunD C r m s (upd g t v) h c := by
  refine propext ⟨fun ⟨p, v, h', c', hx, hp, hq⟩ => ?_, fun hq => ⟨True, _, _, _, rfl, trivial, hq⟩⟩
  cases hx; exact hq
theorem WK_yes : WK C (some (True, h)) d r m s g c = RunD C r m s (updO g d .undef) h c := by
  refine propext ⟨fun ⟨p, h', hx, hp, hq⟩ => ?_, fun hq => ⟨True, _, rfl, trivial, hq⟩⟩
  cases hx; exact hq
theorem Pick_t (x y : AV) : PickK C (.b true) x y d r m s g h c = RunD C r m s (updO g d x) h c := VK_yes C s g h c r m d x
theorem Pick_f (x y : AV) : PickK C (.b false) x y d r m s g h c = RunD C r m s (updO g d y) h c := VK_yes C s g h c r m d y
/-- What a test told. -/
def note (g : Slots) (t : Nat) (v : AV) : Slots := upd g t v
theorem note_at (g : Slots) (t u : Nat) (v : AV) : note g t v u = if u = t then v else g u := rfl
theorem note_same (g : Slots) (t : Nat) (v : AV) (h : g t = v) : note g t v = g := by
  funext u; unfold note upd; split
  · rename_i e; subst e; exact h.symm
  · rfl
theorem Grd_t (w : Bool) (t : Nat) (o : KO) : GrdK C (.b true) w t d o r m s g h c = if w = true then RunD C (⟨d, none, o⟩ :: r) m s (note g t (.b true)) h c else RunD C r m s (updO (note g t (.b true)) d (.tup [])) h c := by
  cases w <;> simp [GrdK, note, AV.says]
theorem Grd_f (w : Bool) (t : Nat) (o : KO) : GrdK C (.b false) w t d o r m s g h c = if w = true then RunD C r m s (updO (note g t (.b false)) d (.tup [])) h c else RunD C (⟨d, none, o⟩ :: r) m s (note g t (.b false)) h c := by
  cases w <;> simp [GrdK, note, AV.says]
theorem Grd_u (w : Bool) (t : Nat) (o : KO) : GrdK C (.tup []) w t d o r m s g h c = RunD C r m s (updO (note g t (.tup [])) d (.tup [])) h c := by
  cases w <;> simp [GrdK, note, AV.says]
theorem Cnd_t (t : Nat) (a b : K) : CndK C (.b true) t a b s g h c = RunK C a s (note g t (.b true)) h c := by simp [CndK, note]
theorem Cnd_f (t : Nat) (a b : K) : CndK C (.b false) t a b s g h c = RunK C b s (note g t (.b false)) h c := by simp [CndK, note]
end

/-! by hand, where simp stops -/
section
variable {C : Con} {s : Stk} {g : Slots} {h : Heap} {c : Nat} {r m : List KOp} {d : Option Nat}
theorem VK_p {p : Prop} {v : AV} (hp : p) (hq : RunD C r m s (updO g d v) h c) : VK C (some (p, v)) d r m s g h c := ⟨p, v, rfl, hp, hq⟩
theorem EK_p {t : Nat} {p : Prop} {v : AV} {h' : Heap} {c' : Nat} (hp : p) (hq : RunD C r m s (upd g t v) h' c') : EK C (some (p, v, h', c')) t r m s g := ⟨p, v, h', c', rfl, hp, hq⟩
theorem WK_p {p : Prop} {h' : Heap} (hp : p) (hq : RunD C r m s (updO g d .undef) h' c) : WK C (some (p, h')) d r m s g c := ⟨p, h', rfl, hp, hq⟩
theorem EqnK_p {p : Prop} {v x y : AV} (hp : p) (hq : RunD C r m s (updO g d v) h c) : EqnK C (some (p, v)) x y d r m s g h c := .inl ⟨p, v, rfl, hp, hq⟩
theorem EqnK_any {e : PV} {x y : AV} (hx : x.isSl = true) (hy : y.isNils = true) (hq : ∀ b, RunD C r m s (updO g d (.b b)) h c) : EqnK C e x y d r m s g h c := .inr ⟨hx, hy, hq⟩
theorem ClrK_p {p : Prop} {h' : Heap} (hp : p) (hq : RunD C r m s (updO g d (.tup [])) h' c) : ClrK C (some (p, h')) d r m s g c := ⟨p, h', rfl, hp, hq⟩
theorem Gh_of {g' : Slots} {h' : Heap} {c' : Nat} (hG : Gh g h c g' h' c') (hq : RunD C r m s g' h' c') : GhK C r m s g h c := ⟨g', h', c', hG, hq⟩
/-- A call, whatever comes back. -/
theorem Call_any {f : Nat} {capt args : List AV} (os : List Rid) (obs : List Ob) (own : Bool) (Φ : AV → List Ob → Prop)
    (hc : C f (expL h os (args ++ capt)) obs own Φ) (ho : os.map (fun o => (h o).map (fun b => { b with ver := 0, fixed := true })) = obs.map some) (hnd : os.Nodup)
    (he : ∀ a ∈ args ++ capt, ExpOk h os a) (hp : ∀ b ∈ obs, Pure b.es) (hr : own = true ∨ ∀ a ∈ args ++ capt, a.rooted = false)
    (hq : ∀ v obs', Φ v obs' → obs.length ≤ obs'.length ∧ (∀ b ∈ obs', Pure b.es) ∧ (own = true → ∀ b ∈ obs', b.own ∨ Flat b.es) ∧ RunD C r m s (updO g d (impA (d.getD 0) os.length c v)) (hcall h os obs' (d.getD 0) c) (nclk c os obs')) : CallK C (.fn f capt) args d r m s g h c :=
  .inl ⟨f, capt, rfl, os, obs, own, Φ, hc, ho, hnd, he, hp, hr.imp_right fun k a ha => AV.rootedX_of (k a ha), hq⟩
/-- A call that goes on in the same heap. -/
theorem Call_x {f : Nat} {capt args : List AV} (hx : C.x f (args ++ capt) h c (fun v h' c' => RunD C r m s (updO g d v) h' c')) : CallK C (.fn f capt) args d r m s g h c := .inr ⟨f, capt, rfl, hx⟩
/-- A call that is handed objects, or gives some back. -/
theorem Call_obs {f : Nat} {capt args : List AV} (os : List Rid) (obs : List Ob) (v : AV) (own : Bool) (obs' : List Ob)
    (hc : C.det f (expL h os (args ++ capt)) obs v own obs') (ho : os.map (fun o => (h o).map (fun b => { b with ver := 0, fixed := true })) = obs.map some) (hnd : os.Nodup) (hl : obs.length ≤ obs'.length)
    (he : ∀ a ∈ args ++ capt, ExpOk h os a) (hp : ∀ b ∈ obs, Pure b.es) (hp' : ∀ b ∈ obs', Pure b.es) (hr : own = true ∨ ∀ a ∈ args ++ capt, a.rooted = false) (hw : own = true → ∀ b ∈ obs', b.own ∨ Flat b.es)
    (hq : RunD C r m s (updO g d (impA (d.getD 0) os.length c v)) (hcall h os obs' (d.getD 0) c) (nclk c os obs')) : CallK C (.fn f capt) args d r m s g h c :=
  Call_any os obs own _ hc ho hnd he hp hr fun r' o' ⟨e1, e2⟩ => by subst e1; subst e2; exact ⟨hl, hp', hw, hq⟩
/-- A call of a function that is handed values alone. -/
theorem Call_val {f : Nat} {capt args : List AV} {v : AV} {own : Bool}
    (hc : C.det f (expL h [] (args ++ capt)) [] v own []) (he : ∀ a ∈ args ++ capt, ExpOk h [] a) (ho : own = true ∨ ∀ a ∈ args ++ capt, a.rooted = false) (hq : RunD C r m s (updO g d v) h c)
    (hi : ∀ t n c, impA t n c v = v := by intros; first | rfl | (simp [impA, impL]; done)) : CallK C (.fn f capt) args d r m s g h c :=
  Call_obs [] [] v own [] hc rfl .nil (Nat.le_refl _) he (fun _ hb => by cases hb) (fun _ hb => by cases hb) ho (fun _ _ hb => by cases hb) (by rw [hcall_nil, hi]; exact hq)
/-- A call that is handed values alone; what it answers is not told. -/
theorem Call_vals {f : Nat} {capt args : List AV} {own : Bool} {Φ : AV → List Ob → Prop}
    (hc : C f (expL h [] (args ++ capt)) [] own Φ) (he : ∀ a ∈ args ++ capt, ExpOk h [] a) (ho : own = true ∨ ∀ a ∈ args ++ capt, a.rooted = false)
    (hq : ∀ v o', Φ v o' → o' = [] ∧ (∀ t n c, impA t n c v = v) ∧ RunD C r m s (updO g d v) h c) : CallK C (.fn f capt) args d r m s g h c :=
  Call_any [] [] own Φ hc rfl .nil he (fun _ hb => by cases hb) ho fun v o' hΦ => by
    obtain ⟨rfl, hi, hq⟩ := hq v o' hΦ
    exact ⟨Nat.le_refl _, (fun _ hb => by cases hb), (fun _ _ hb => by cases hb), by rw [hcall_nil, hi]; exact hq⟩
theorem tgt_r_eq (os : List Rid) (t n t' j : Nat) : tgt os t n (.r t' j) = if t' = t ∧ os.length + j < n then some (os.length + j) else os.idxOf? (.r t' j) := rfl
theorem hcall_new (h : Heap) (ob : Ob) (t c : Nat) : hcall h [] [ob] t c = hup h (.r t 0) { ob with ver := c } := by
  funext u
  have e : tgt [] t [ob].length u = if u = .r t 0 then some 0 else none := by
    cases u with
    | r t' j =>
      rw [tgt_r_eq]
      by_cases e : t' = t ∧ j = 0
      · obtain ⟨rfl, rfl⟩ := e
        simp
      · have : ¬ (t' = t ∧ ([] : List Rid).length + j < [ob].length) := by simp; omega
        rw [if_neg this, if_neg (by intro h; cases h; exact e ⟨rfl, rfl⟩)]
        rfl
    | p _ => simp [tgt]
    | l _ => simp [tgt]
  unfold hcall hup
  rw [e]
  by_cases hu : u = .r t 0
  · simp [hu]
  · simp [hu]
theorem hcall_upd {h : Heap} {o : Rid} {b : Ob} (ho : h o = some b) (ob : Ob) (t c : Nat) : hcall h [o] [ob] t c = hup h o { ob with ver := b.ver, fixed := b.fixed } := by
  funext u
  have e : tgt [o] t [ob].length u = if u = o then some 0 else none := by
    have e0 : [o].idxOf? u = if u = o then some 0 else none := by
      by_cases hu : u = o
      · subst hu; simp [List.idxOf?_cons]
      · have : (o == u) = false := by simpa using fun h => hu h.symm
        simp [List.idxOf?_cons, this, hu]
    cases u with
    | r t' j =>
      rw [tgt_r_eq, if_neg (by simp), e0]
    | p _ => exact e0
    | l _ => exact e0
  unfold hcall hup
  rw [e]
  by_cases hu : u = o
  · subst hu; simp [ho]
  · simp [hu]
theorem newObs_r (t c : Nat) : ∀ (obs : List Ob) (k : Nat) (h : Heap) (t' j : Nat), newObs t c k obs h (.r t' j) = if t' = t ∧ k ≤ j ∧ j < k + obs.length then (obs[j - k]?).map fun b => { b with ver := c } else h (.r t' j)
  | [], k, h, t', j => by
    have : ¬ (t' = t ∧ k ≤ j ∧ j < k + ([] : List Ob).length) := by rw [List.length_nil]; omega
    rw [if_neg this]; rfl
  | b :: r, k, h, t', j => by
    rw [newObs, newObs_r t c r (k + 1)]
    by_cases h1 : t' = t ∧ k + 1 ≤ j ∧ j < k + 1 + r.length
    · have h2 : t' = t ∧ k ≤ j ∧ j < k + (b :: r).length := by rw [List.length_cons]; omega
      rw [if_pos h1, if_pos h2, show j - k = (j - (k + 1)) + 1 by omega, List.getElem?_cons_succ]
    · rw [if_neg h1]
      by_cases h2 : t' = t ∧ j = k
      · obtain ⟨rfl, rfl⟩ := h2
        rw [hup_at, if_pos rfl, if_pos (by simp)]; simp
      · have h3 : ¬ (t' = t ∧ k ≤ j ∧ j < k + (b :: r).length) := by rw [List.length_cons]; omega
        rw [if_neg h3, hup_at, if_neg (fun h4 => by cases h4; exact h2 ⟨rfl, rfl⟩)]
theorem newObs_o (t c : Nat) (u : Rid) (hu : ∀ t' j, u ≠ .r t' j) : ∀ (obs : List Ob) (k : Nat) (h : Heap), newObs t c k obs h u = h u
  | [], k, h => rfl
  | b :: r, k, h => by rw [newObs, newObs_o t c u hu r, hup_at, if_neg (hu t k)]
theorem hcall_news (h : Heap) (obs : List Ob) (t c : Nat) : hcall h [] obs t c = newObs t c 0 obs h := by
  funext u
  unfold hcall
  cases u with
  | r t' j =>
    rw [newObs_r, tgt_r_eq]
    simp only [List.length_nil, Nat.zero_add, Nat.sub_zero, Nat.zero_le, true_and]
    by_cases h1 : t' = t ∧ j < obs.length
    · rw [if_pos h1, if_pos h1]
      simp
    · rw [if_neg h1, if_neg h1]
      rfl
  | p _ => rw [newObs_o t c _ (by simp)]; rfl
  | l _ => rw [newObs_o t c _ (by simp)]; rfl
/-- A call that is handed one object. -/
theorem Call_one {f : Nat} {capt args : List AV} {v : AV} {own : Bool} (o : Rid) (b ob : Ob) (ho : h o = some b) (hc : C.det f (expL h [o] (args ++ capt)) [{ b with ver := 0, fixed := true }] v own [ob]) (he : ∀ a ∈ args ++ capt, ExpOk h [o] a) (hp : Pure b.es) (hp' : Pure ob.es)
    (hr : own = true ∨ ∀ a ∈ args ++ capt, a.rooted = false) (hw : own = true → ob.own ∨ Flat ob.es) (hq : RunD C r m s (updO g d v) (hup h o { ob with ver := b.ver, fixed := b.fixed }) c)
    (hi : ∀ t n c, impA t n c v = v := by intros; first | rfl | (simp [impA, impL]; done)) : CallK C (.fn f capt) args d r m s g h c :=
  Call_obs [o] [{ b with ver := 0, fixed := true }] v own [ob] hc (by simp [ho]) (by simp) (by simp) he (fun x hb => by simp at hb; subst hb; exact hp) (fun b hb => by simp at hb; subst hb; exact hp') hr (fun e b hb => by simp at hb; subst hb; exact hw e)
    (by rw [hcall_upd ho, hi]; exact hq)
/-- A call that is handed one object, in a region whose order is drawn. -/
theorem Callh_one {f : Nat} {capt args : List AV} {v : AV} {own : Bool} (o : Rid) (b ob : Ob) (hol : o.isL = false) (ho : h o = some b) (hc : C.det f (expL h [o] (args ++ capt)) [{ b with ver := 0, fixed := true }] v own [ob])
    (he : ∀ a ∈ args ++ capt, ExpOk h [o] a ∧ (a.free = true ∨ match a with | .ptr o' _ _ _ | .sl o' _ _ _ _ => o' ∈ [o] | _ => False)) (hp : Pure b.es) (hp' : Pure ob.es)
    (hr : own = true ∨ ∀ a ∈ args ++ capt, a.rooted = false) (hw : own = true → ob.own ∨ Flat ob.es) (hq : RunD C r m s (updO g d v) (hup h o { ob with ver := b.ver, fixed := b.fixed }) c)
    (hi : ∀ t n c, impA t n c v = v := by intros; first | rfl | (simp [impA, impL]; done)) : CallKh C false (.fn f capt) args d r m s g h c :=
  ⟨v, _, ⟨f, capt, own, [o], [{ b with ver := 0, fixed := true }], [ob], rfl, hc, by simp [ho], by simp, by simpa using hol, rfl, he, (fun x hb => by simp at hb; subst hb; exact hp), (fun b hb => by simp at hb; subst hb; exact hp'), hr.imp_right fun k a ha => AV.rootedX_of (k a ha), (fun e b hb => by simp at hb; subst hb; exact hw e), hi, rfl⟩,
    by rw [hcall_upd ho]; exact hq⟩
/-- .. one that was made here, too. -/
theorem Callg_one {f : Nat} {capt args : List AV} {v : AV} {own : Bool} (o : Rid) (b ob : Ob) (ho : h o = some b) (hc : C.det f (expL h [o] (args ++ capt)) [{ b with ver := 0, fixed := true }] v own [ob])
    (he : ∀ a ∈ args ++ capt, ExpOk h [o] a ∧ (a.free = true ∨ match a with | .ptr o' _ _ _ | .sl o' _ _ _ _ => o' ∈ [o] | _ => False)) (hp : Pure b.es) (hp' : Pure ob.es)
    (hr : own = true ∨ ∀ a ∈ args ++ capt, a.rootedX [o] = false) (hw : own = true → ob.own ∨ Flat ob.es) (hq : RunD C r m s (updO g d v) (hup h o { ob with ver := b.ver, fixed := b.fixed }) c)
    (hi : ∀ t n c, impA t n c v = v := by intros; first | rfl | (simp [impA, impL]; done)) : CallKh C true (.fn f capt) args d r m s g h c :=
  ⟨v, _, ⟨f, capt, own, [o], [{ b with ver := 0, fixed := true }], [ob], rfl, hc, by simp [ho], by simp, by simp, rfl, he, (fun x hb => by simp at hb; subst hb; exact hp), (fun b hb => by simp at hb; subst hb; exact hp'), hr, (fun e b hb => by simp at hb; subst hb; exact hw e), hi, rfl⟩,
    by rw [hcall_upd ho]; exact hq⟩
theorem Call0_val {f : Nat} {capt args : List AV} {v : AV} (own : Bool) (hc : C.det f (args ++ capt) [] v own []) (he : ∀ a ∈ args ++ capt, a.free = true) (ho : own = true ∨ ∀ a ∈ args ++ capt, a.rooted = false) (hq : RunD C r m s (updO g d v) h c)
    (hi : ∀ t n c, impA t n c v = v := by intros; first | rfl | (simp [impA, impL]; done)) : CallK0 C (.fn f capt) args d r m s g h c :=
  ⟨v, ⟨f, capt, own, rfl, hc, hi, he, ho⟩, hq⟩
theorem K_loop {k : K} (I : Post) (μ : Slots → Heap → Nat → Nat) (h0 : I g h c)
    (hr : ∀ (A : Post) (n : Nat), (∀ g h c, I g h c → μ g h c < n → A g h c) → ∀ g h c, I g h c → μ g h c = n → RunK C k (.post A s) g h c) : RunK C (.loop k) s g h c :=
  ⟨I, μ, h0, fun g h c hI => hr _ _ (fun _ _ _ hI' hl => ⟨hI', hl⟩) g h c hI rfl⟩
end
attribute [go_sem] K_seq K_reg K_dreg K_block K_skip K_exit K_ret K_cond R_seq R_seq_exit R_seq_ret R_blk R_blk_ret R_blk_exit R_post R_post_exit R_post_ret R_done D_ldl D_stl ldA stA D_nil D_end D_if D_mv D_pick D_build D_load D_nilck D_bin D_eqt eqtF eqCells eqK D_un D_conv D_slc D_sls D_fld D_fldv D_idx D_idxa D_slca idxaF slcaF D_ids D_ext D_len D_cap capF D_mm D_mkf D_store D_call D_call0 D_callv D_calln D_callh D_callg D_eqn D_cpy D_clr cpyF clrF lenA truncA laidF D_alloc D_box D_bslice D_mks D_app D_appz D_gh D_mk_alloc D_mk_bsl D_mk_box D_mk_mks D_mk_app EKd_yes D_callc appzF VK_yes EK_yes WK_yes Pick_t Pick_f Grd_t Grd_u Grd_f Cnd_t Cnd_f ev updO note_same note_at upd_at hup_at hdel_at yes cur loadF nilckF slcF slsF fldF fldvF idxF idsF extF lenF mmF buildF binF binI binS unF convF loN hiN AV.asI AV.asS AV.isDat AV.cells storeF allocF boxF srcF appF AV.storable List.all_cons List.all_nil Bool.and_true Bool.and_self Option.bind_some Option.map_some Option.map_none ne_eq bslF chunk fillA List.replicate_succ List.replicate_zero List.flatten_cons List.flatten_nil sub bytesOf Nat.mul_one Nat.one_mul Nat.zero_mul Nat.mul_zero Nat.le_refl Bool.false_eq_true Bool.true_eq_false List.getElem?_cons_zero List.getElem?_cons_succ List.length_cons List.length_nil List.drop_zero List.drop_succ_cons List.drop_nil List.take_zero List.take_succ_cons List.take_nil List.append_nil List.nil_append List.cons_append List.set_cons_zero List.set_cons_succ List.map_cons List.map_nil not_false_eq_true implies_true and_self and_true true_and false_and true_or Int.toNat_natCast Int.sub_zero Int.toNat_zero Int.natCast_nonneg List.length_map List.getElem?_map decide_true decide_false decide_not Nat.zero_add Nat.add_zero Bool.not_true Bool.not_false false_implies Rid.l.injEq Rid.r.injEq Rid.p.injEq Int.ofNat_lt
end Go.AM
end
