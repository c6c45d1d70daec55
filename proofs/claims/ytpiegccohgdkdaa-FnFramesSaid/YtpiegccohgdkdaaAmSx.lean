/- Symbolic execution over K: what is pending lies in a stack (data), so that simp looks at one operation at a time. No condition. -/
import Derived.Test.YtpiegccohgdkdaaAmWp
set_option linter.all false
set_option linter.unusedSimpArgs false
set_option linter.unusedVariables false
set_option linter.deprecated false
namespace Go.AM

inductive Stk where
  | done (Q : Ex → Post)
  | seq (k : K) (s : Stk)
  | blk (id : Nat) (s : Stk)
  | post (A : Post) (s : Stk)

def den (C : Con) : Stk → Ex → Post
  | .done Q => Q
  | .seq k s => Ex.then (kwp C k (den C s)) (den C s)
  | .blk id s => Ex.inBlock id (den C s)
  | .post A s => Ex.then A (den C s)

def RunK (C : Con) (k : K) (s : Stk) (g : Slots) (h : Heap) (c : Nat) : Prop := kwp C k (den C s) g h c
def RunO (C : Con) (l : List KOp) (s : Stk) (g : Slots) (h : Heap) (c : Nat) : Prop := kops C l (den C s .normal) g h c
def Ret (C : Con) (e : Ex) (s : Stk) (g : Slots) (h : Heap) (c : Nat) : Prop := den C s e g h c
/-- Two operation lists, one behind the other. -/
def RunD (C : Con) (l m : List KOp) (s : Stk) (g : Slots) (h : Heap) (c : Nat) : Prop := kops C l (kops C m (den C s .normal)) g h c

/-! stops -/
def VK (C : Con) (x : PV) (d : Option Nat) (r m : List KOp) (s : Stk) (g : Slots) (h : Heap) (c : Nat) : Prop :=
  ∃ p v, x = some (p, v) ∧ p ∧ RunD C r m s (updO g d v) h c
def EK (C : Con) (x : PE) (t : Nat) (r m : List KOp) (s : Stk) (g : Slots) : Prop :=
  ∃ p v h' c', x = some (p, v, h', c') ∧ p ∧ RunD C r m s (upd g t v) h' c'
def WK (C : Con) (x : Option (Prop × Heap)) (d : Option Nat) (r m : List KOp) (s : Stk) (g : Slots) (c : Nat) : Prop :=
  ∃ p h', x = some (p, h') ∧ p ∧ RunD C r m s (updO g d .undef) h' c
def PickK (C : Con) (b : AV) (x y : AV) (d : Option Nat) (r m : List KOp) (s : Stk) (g : Slots) (h : Heap) (c : Nat) : Prop := VK C (pickF b x y) d r m s g h c
def GrdK (C : Con) (x : AV) (w : Bool) (t : Nat) (d : Option Nat) (o : KO) (r m : List KOp) (s : Stk) (g : Slots) (h : Heap) (c : Nat) : Prop :=
  ∃ b, x = .b b ∧ (b = w → RunD C (⟨d, none, o⟩ :: r) m s (upd g t (.b w)) h c) ∧ (b = !w → RunD C r m s (updO (upd g t (.b (!w))) d .undef) h c)
def CndK (C : Con) (x : AV) (t : Nat) (a b : K) (s : Stk) (g : Slots) (h : Heap) (c : Nat) : Prop :=
  ∃ y, x = .b y ∧ (y = true → RunK C a s (upd g t (.b true)) h c) ∧ (y = false → RunK C b s (upd g t (.b false)) h c)
def CallK (C : Con) (f : AV) (as : List AV) (d : Option Nat) (r m : List KOp) (s : Stk) (g : Slots) (h : Heap) (c : Nat) : Prop :=
  kcall C d f as (fun g h c => RunD C r m s g h c) g h c
/-- A call in a region whose order is drawn. -/
def CallK0 (C : Con) (f : AV) (as : List AV) (d : Option Nat) (r m : List KOp) (s : Stk) (g : Slots) (h : Heap) (c : Nat) : Prop :=
  ∃ v, kcall0 C f as v ∧ RunD C r m s (updO g d v) h c

/-- A call that is handed objects, in such a region. -/
def CallKh (C : Con) (f : AV) (as : List AV) (d : Option Nat) (r m : List KOp) (s : Stk) (g : Slots) (h : Heap) (c : Nat) : Prop :=
  ∃ v h', kcallh C f as v h h' ∧ RunD C r m s (updO g d v) h' c

section
variable (C : Con) (s : Stk) (g : Slots) (h : Heap) (c : Nat) (r m : List KOp) (d : Option Nat)
theorem K_seq (a b : K) : RunK C (.seq a b) s g h c = RunK C a (.seq b s) g h c := rfl
theorem K_reg (l : List KOp) : RunK C (.reg l) s g h c = RunD C l [] s g h c := rfl
theorem K_dreg (l : List KOp) (w : List (List Nat)) : RunK C (.dreg l w) s g h c = RunD C l [] s g h c := rfl
theorem K_block (i : Nat) (k : K) : RunK C (.block i k) s g h c = RunK C k (.blk i s) g h c := rfl
theorem K_skip : RunK C .skip s g h c = Ret C .normal s g h c := rfl
theorem K_exit (i : Nat) : RunK C (.exit i) s g h c = Ret C (.exit i) s g h c := rfl
theorem K_ret : RunK C .ret s g h c = Ret C .ret s g h c := rfl
theorem K_cond (t : Nat) (a b : K) : RunK C (.cond (.t t) a b) s g h c = CndK C (g t) t a b s g h c := rfl
theorem R_seq (k : K) : Ret C .normal (.seq k s) g h c = RunK C k s g h c := rfl
theorem R_seq_exit (k : K) (i : Nat) : Ret C (.exit i) (.seq k s) g h c = Ret C (.exit i) s g h c := rfl
theorem R_seq_ret (k : K) : Ret C .ret (.seq k s) g h c = Ret C .ret s g h c := rfl
theorem R_blk (i : Nat) : Ret C .normal (.blk i s) g h c = Ret C .normal s g h c := rfl
theorem R_blk_ret (i : Nat) : Ret C .ret (.blk i s) g h c = Ret C .ret s g h c := rfl
theorem R_blk_exit (i j : Nat) : Ret C (.exit j) (.blk i s) g h c = if j = i then Ret C .normal s g h c else Ret C (.exit j) s g h c := rfl
theorem R_post (A : Post) : Ret C .normal (.post A s) g h c = A g h c := rfl
theorem R_post_exit (A : Post) (i : Nat) : Ret C (.exit i) (.post A s) g h c = Ret C (.exit i) s g h c := rfl
theorem R_post_ret (A : Post) : Ret C .ret (.post A s) g h c = Ret C .ret s g h c := rfl
theorem R_done (Q : Ex → Post) (e : Ex) : Ret C e (.done Q) g h c = Q e g h c := rfl
theorem D_nil (o : KOp) (m : List KOp) : RunD C [] (o :: m) s g h c = RunD C (o :: m) [] s g h c := rfl
theorem D_end : RunD C [] [] s g h c = Ret C .normal s g h c := rfl
theorem D_if (t : Nat) (w : Bool) (o : KO) : RunD C (⟨d, some (t, w), o⟩ :: r) m s g h c = GrdK C (g t) w t d o r m s g h c := rfl
theorem D_mv (x : KV) : RunD C (⟨d, none, .mv x⟩ :: r) m s g h c = RunD C r m s (updO g d (ev g x)) h c := by
  refine propext ⟨fun ⟨p, v, hx, hp, hq⟩ => ?_, fun hq => ⟨True, ev g x, rfl, trivial, hq⟩⟩
  cases hx; exact hq
theorem D_pick (x y z : KV) : RunD C (⟨d, none, .pick x y z⟩ :: r) m s g h c = PickK C (ev g x) (ev g y) (ev g z) d r m s g h c := rfl
theorem D_build (z : List AV) (ps : List (Nat × Nat × KV)) : RunD C (⟨d, none, .build z ps⟩ :: r) m s g h c = VK C (buildF z (ps.map fun (off, n, x) => (off, n, ev g x))) d r m s g h c := rfl
theorem D_load (a : Bool) (n : Nat) (x : KV) : RunD C (⟨d, none, .load a n x⟩ :: r) m s g h c = VK C (loadF h a n (ev g x)) d r m s g h c := rfl
theorem D_nilck (x : KV) : RunD C (⟨d, none, .nilck x⟩ :: r) m s g h c = VK C (nilckF h (ev g x)) d r m s g h c := rfl
theorem D_bin (op : BinOp) (x y : KV) : RunD C (⟨d, none, .bin op x y⟩ :: r) m s g h c = VK C (binF op (ev g x) (ev g y)) d r m s g h c := rfl
theorem D_eqt (t : EqT) (n : Bool) (x y : KV) : RunD C (⟨d, none, .eqt t n x y⟩ :: r) m s g h c = VK C (eqtF h t n (ev g x) (ev g y)) d r m s g h c := rfl
theorem D_un (op : UnOp) (x : KV) : RunD C (⟨d, none, .un op x⟩ :: r) m s g h c = VK C (unF op (ev g x)) d r m s g h c := rfl
theorem D_conv (k : KC) (x : KV) : RunD C (⟨d, none, .conv k x⟩ :: r) m s g h c = VK C (convF h k (ev g x)) d r m s g h c := rfl
theorem D_slc (e : Nat) (x : KV) (l k n : Option KV) : RunD C (⟨d, none, .slc e x l k n⟩ :: r) m s g h c = VK C (slcF h e (ev g x) (l.map (ev g)) (k.map (ev g)) (n.map (ev g))) d r m s g h c := rfl
theorem D_sls (x : KV) (l k : Option KV) : RunD C (⟨d, none, .sls x l k⟩ :: r) m s g h c = VK C (slsF (ev g x) (l.map (ev g)) (k.map (ev g))) d r m s g h c := rfl
theorem D_fld (n : Nat) (x : KV) : RunD C (⟨d, none, .fld n x⟩ :: r) m s g h c = VK C (fldF h n (ev g x)) d r m s g h c := rfl
theorem D_fldv (a : Bool) (k n : Nat) (x : KV) : RunD C (⟨d, none, .fldv a k n x⟩ :: r) m s g h c = VK C (fldvF a k n (ev g x)) d r m s g h c := rfl
theorem D_idx (e : Nat) (x i : KV) : RunD C (⟨d, none, .idx e x i⟩ :: r) m s g h c = VK C (idxF h e (ev g x) (ev g i)) d r m s g h c := rfl
theorem D_ids (x i : KV) : RunD C (⟨d, none, .ids x i⟩ :: r) m s g h c = VK C (idsF (ev g x) (ev g i)) d r m s g h c := rfl
theorem D_ext (x : KV) (i : Nat) : RunD C (⟨d, none, .ext x i⟩ :: r) m s g h c = VK C (extF i (ev g x)) d r m s g h c := rfl
theorem D_len (b : Bool) (x : KV) : RunD C (⟨d, none, .len b x⟩ :: r) m s g h c = VK C (lenF h b (ev g x)) d r m s g h c := rfl
theorem D_mm (b : Bool) (xs : List KV) : RunD C (⟨d, none, .mm b xs⟩ :: r) m s g h c = VK C (mmF b (xs.map (ev g))) d r m s g h c := rfl
theorem D_mkf (f : Nat) (xs : List KV) : RunD C (⟨d, none, .mkf f xs⟩ :: r) m s g h c = RunD C r m s (updO g d (.fn f (xs.map (ev g)))) h c := by
  refine propext ⟨fun ⟨p, v, hx, hp, hq⟩ => ?_, fun hq => ⟨True, _, rfl, trivial, hq⟩⟩
  cases hx; exact hq
theorem D_store (n : Nat) (a v : KV) : RunD C (⟨d, none, .store n a v⟩ :: r) m s g h c = WK C (storeF h n (ev g a) (ev g v)) d r m s g c := rfl
theorem D_call0 (f : KV) (as : List KV) : RunD C (⟨d, none, .call0 f as⟩ :: r) m s g h c = CallK0 C (ev g f) (as.map (ev g)) d r m s g h c := rfl
theorem D_callh (f : KV) (as : List KV) : RunD C (⟨d, none, .callh f as⟩ :: r) m s g h c = CallKh C (ev g f) (as.map (ev g)) d r m s g h c := rfl
theorem D_call (f : KV) (as : List KV) : RunD C (⟨d, none, .call f as⟩ :: r) m s g h c = CallK C (ev g f) (as.map (ev g)) d r m s g h c := rfl
theorem EK_eq (t : Nat) (o : KO) (x : PE) (hx : ke t o g h c = x) : (∃ u p v h' c', some t = some u ∧ ke u o g h c = some (p, v, h', c') ∧ p ∧ kops C r (kops C m (den C s .normal)) (upd g u v) h' c') = EK C x t r m s g := by
  subst hx
  refine propext ⟨fun ⟨u, p, v, h', c', hu, hk, hp, hq⟩ => ?_, fun ⟨p, v, h', c', hk, hp, hq⟩ => ⟨t, p, v, h', c', rfl, hk, hp, hq⟩⟩
  cases hu; exact ⟨p, v, h', c', hk, hp, hq⟩
theorem D_alloc (t : Nat) (cs : List AV) : RunD C (⟨some t, none, .alloc cs⟩ :: r) m s g h c = EK C (allocF cs t h c) t r m s g := EK_eq C s g h c r m t (.alloc cs) _ rfl
theorem D_box (t : Nat) (x : KV) : RunD C (⟨some t, none, .box x⟩ :: r) m s g h c = EK C (boxF (ev g x) t h c) t r m s g := EK_eq C s g h c r m t (.box x) _ rfl
theorem D_bslice (t e n : Nat) (z : List AV) (ps : List (Nat × KV)) : RunD C (⟨some t, none, .bslice e n z ps⟩ :: r) m s g h c = EK C (bslF e n z t (ps.map fun (j, x) => (j, ev g x)) h c) t r m s g := EK_eq C s g h c r m t (.bslice e n z ps) _ rfl
theorem D_mks (t e b : Nat) (z : List AV) (l k : KV) : RunD C (⟨some t, none, .mks e b z l k⟩ :: r) m s g h c = EK C (mksF e b z t (ev g l) (ev g k) h c) t r m s g := EK_eq C s g h c r m t (.mks e b z l k) _ rfl
theorem D_app (t e b : Nat) (z : List AV) (x y : KV) : RunD C (⟨some t, none, .app e b z x y⟩ :: r) m s g h c = EK C (appF e b t (ev g x) (ev g y) h c) t r m s g := EK_eq C s g h c r m t (.app e b z x y) _ rfl

/-! what a stop gives -/
theorem VK_yes (v : AV) : VK C (some (True, v)) d r m s g h c = RunD C r m s (updO g d v) h c := by
  refine propext ⟨fun ⟨p, v, hx, hp, hq⟩ => ?_, fun hq => ⟨True, _, rfl, trivial, hq⟩⟩
  cases hx; exact hq
theorem EK_yes (t : Nat) (v : AV) : EK C (some (True, v, h, c)) t r m s g = RunD C r m s (upd g t v) h c := by
  refine propext ⟨fun ⟨p, v, h', c', hx, hp, hq⟩ => ?_, fun hq => ⟨True, _, _, _, rfl, trivial, hq⟩⟩
  cases hx; exact hq
theorem WK_yes : WK C (some (True, h)) d r m s g c = RunD C r m s (updO g d .undef) h c := by
  refine propext ⟨fun ⟨p, h', hx, hp, hq⟩ => ?_, fun hq => ⟨True, _, rfl, trivial, hq⟩⟩
  cases hx; exact hq
theorem Pick_t (x y : AV) : PickK C (.b true) x y d r m s g h c = RunD C r m s (updO g d x) h c := VK_yes C s g h c r m d x
theorem Pick_f (x y : AV) : PickK C (.b false) x y d r m s g h c = RunD C r m s (updO g d y) h c := VK_yes C s g h c r m d y
/-- What a test told. -/
def note (g : Slots) (t : Nat) (v : AV) : Slots := upd g t v
theorem note_upd (g : Slots) (t : Nat) (v : AV) : note g t v = upd g t v := rfl
theorem note_at (g : Slots) (t u : Nat) (v : AV) : note g t v u = if u = t then v else g u := rfl
theorem note_same (g : Slots) (t : Nat) (v : AV) (h : g t = v) : note g t v = g := by
  funext u; unfold note upd; split
  · rename_i e; subst e; exact h.symm
  · rfl
theorem Grd_t (w : Bool) (t : Nat) (o : KO) : GrdK C (.b true) w t d o r m s g h c = if w = true then RunD C (⟨d, none, o⟩ :: r) m s (note g t (.b true)) h c else RunD C r m s (updO (note g t (.b true)) d .undef) h c := by
  cases w <;> simp [GrdK, note]
theorem Grd_f (w : Bool) (t : Nat) (o : KO) : GrdK C (.b false) w t d o r m s g h c = if w = true then RunD C r m s (updO (note g t (.b false)) d .undef) h c else RunD C (⟨d, none, o⟩ :: r) m s (note g t (.b false)) h c := by
  cases w <;> simp [GrdK, note]
theorem Cnd_t (t : Nat) (a b : K) : CndK C (.b true) t a b s g h c = RunK C a s (note g t (.b true)) h c := by simp [CndK, note]
theorem Cnd_f (t : Nat) (a b : K) : CndK C (.b false) t a b s g h c = RunK C b s (note g t (.b false)) h c := by simp [CndK, note]
end

/-! by hand, where simp stops -/
section
variable {C : Con} {s : Stk} {g : Slots} {h : Heap} {c : Nat} {r m : List KOp} {d : Option Nat}
theorem VK_of {x : PV} {p : Prop} {v : AV} (hx : x = some (p, v)) (hp : p) (hq : RunD C r m s (updO g d v) h c) : VK C x d r m s g h c := ⟨p, v, hx, hp, hq⟩
theorem VK_p {p : Prop} {v : AV} (hp : p) (hq : RunD C r m s (updO g d v) h c) : VK C (some (p, v)) d r m s g h c := ⟨p, v, rfl, hp, hq⟩
theorem EK_p {t : Nat} {p : Prop} {v : AV} {h' : Heap} {c' : Nat} (hp : p) (hq : RunD C r m s (upd g t v) h' c') : EK C (some (p, v, h', c')) t r m s g := ⟨p, v, h', c', rfl, hp, hq⟩
theorem WK_p {p : Prop} {h' : Heap} (hp : p) (hq : RunD C r m s (updO g d .undef) h' c) : WK C (some (p, h')) d r m s g c := ⟨p, h', rfl, hp, hq⟩
theorem Grd_by {b w : Bool} {t : Nat} {o : KO} (h1 : b = true → GrdK C (.b true) w t d o r m s g h c) (h2 : b = false → GrdK C (.b false) w t d o r m s g h c) : GrdK C (.b b) w t d o r m s g h c := by
  cases b
  · exact h2 rfl
  · exact h1 rfl
theorem Cnd_by {b : Bool} {t : Nat} {x y : K} (h1 : b = true → RunK C x s (upd g t (.b true)) h c) (h2 : b = false → RunK C y s (upd g t (.b false)) h c) : CndK C (.b b) t x y s g h c := ⟨b, rfl, h1, h2⟩
theorem Pick_by {b : Bool} {x y : AV} (h1 : b = true → RunD C r m s (updO g d x) h c) (h2 : b = false → RunD C r m s (updO g d y) h c) : PickK C (.b b) x y d r m s g h c := by
  cases b
  · rw [Pick_f]; exact h2 rfl
  · rw [Pick_t]; exact h1 rfl
/-- A call, whatever comes back. -/
theorem Call_any {f : Nat} {capt args : List AV} (os : List Rid) (obs : List Ob) (own : Bool) (Φ : AV → List Ob → Prop)
    (hc : C f (expL h os (args ++ capt)) obs own Φ) (ho : os.map (fun o => (h o).map (fun b => { b with ver := 0, fixed := true })) = obs.map some) (hnd : os.Nodup)
    (he : ∀ a ∈ args ++ capt, ExpOk h os a) (hp : ∀ b ∈ obs, Pure b.es) (hr : own = true ∨ ∀ a ∈ args ++ capt, a.rooted = false)
    (hq : ∀ v obs', Φ v obs' → obs.length ≤ obs'.length ∧ (∀ b ∈ obs', Pure b.es) ∧ (own = true → ∀ b ∈ obs', b.own ∨ Flat b.es) ∧ RunD C r m s (updO g d (impA (d.getD 0) os.length c v)) (hcall h os obs' (d.getD 0) c) (nclk c os obs')) : CallK C (.fn f capt) args d r m s g h c :=
  ⟨f, capt, rfl, os, obs, own, Φ, hc, ho, hnd, he, hp, hr, hq⟩
/-- A call that is handed objects, or gives some back. -/
theorem Call_obs {f : Nat} {capt args : List AV} (os : List Rid) (obs : List Ob) (v : AV) (own : Bool) (obs' : List Ob)
    (hc : C.det f (expL h os (args ++ capt)) obs v own obs') (ho : os.map (fun o => (h o).map (fun b => { b with ver := 0, fixed := true })) = obs.map some) (hnd : os.Nodup) (hl : obs.length ≤ obs'.length)
    (he : ∀ a ∈ args ++ capt, ExpOk h os a) (hp : ∀ b ∈ obs, Pure b.es) (hp' : ∀ b ∈ obs', Pure b.es) (hr : own = true ∨ ∀ a ∈ args ++ capt, a.rooted = false) (hw : own = true → ∀ b ∈ obs', b.own ∨ Flat b.es)
    (hq : RunD C r m s (updO g d (impA (d.getD 0) os.length c v)) (hcall h os obs' (d.getD 0) c) (nclk c os obs')) : CallK C (.fn f capt) args d r m s g h c :=
  Call_any os obs own _ hc ho hnd he hp hr fun r' o' ⟨e1, e2⟩ => by subst e1; subst e2; exact ⟨hl, hp', hw, hq⟩
/-- A call of a function that is handed values alone. -/
theorem Call_val {f : Nat} {capt args : List AV} {v : AV} {own : Bool}
    (hc : C.det f (expL h [] (args ++ capt)) [] v own []) (he : ∀ a ∈ args ++ capt, ExpOk h [] a) (ho : own = true ∨ ∀ a ∈ args ++ capt, a.rooted = false) (hq : RunD C r m s (updO g d v) h c)
    (hi : ∀ t n c, impA t n c v = v := by intros; first | rfl | (simp [impA, impL]; done)) : CallK C (.fn f capt) args d r m s g h c :=
  Call_obs [] [] v own [] hc rfl .nil (Nat.le_refl _) he (fun _ hb => by cases hb) (fun _ hb => by cases hb) ho (fun _ _ hb => by cases hb) (by rw [hcall_nil, hi]; exact hq)
/-- A call that is handed values alone; what it answers is not told. -/
theorem Call_vals {f : Nat} {capt args : List AV} {own : Bool} {Φ : AV → List Ob → Prop}
    (hc : C f (expL h [] (args ++ capt)) [] own Φ) (he : ∀ a ∈ args ++ capt, ExpOk h [] a) (ho : own = true ∨ ∀ a ∈ args ++ capt, a.rooted = false)
    (hq : ∀ v o', Φ v o' → o' = [] ∧ (∀ t n c, impA t n c v = v) ∧ RunD C r m s (updO g d v) h c) : CallK C (.fn f capt) args d r m s g h c :=
  Call_any [] [] own Φ hc rfl .nil he (fun _ hb => by cases hb) ho fun v o' hΦ => by
    obtain ⟨rfl, hi, hq⟩ := hq v o' hΦ
    exact ⟨Nat.le_refl _, (fun _ hb => by cases hb), (fun _ _ hb => by cases hb), by rw [hcall_nil, hi]; exact hq⟩
theorem tgt_r_eq (os : List Rid) (t n t' j : Nat) : tgt os t n (.r t' j) = if t' = t ∧ os.length + j < n then some (os.length + j) else os.idxOf? (.r t' j) := rfl
theorem hcall_new (h : Heap) (ob : Ob) (t c : Nat) : hcall h [] [ob] t c = hup h (.r t 0) { ob with ver := c } := by
  funext u
  have e : tgt [] t [ob].length u = if u = .r t 0 then some 0 else none := by
    cases u with
    | r t' j =>
      rw [tgt_r_eq]
      by_cases e : t' = t ∧ j = 0
      · obtain ⟨rfl, rfl⟩ := e
        simp
      · have : ¬ (t' = t ∧ ([] : List Rid).length + j < [ob].length) := by simp; omega
        rw [if_neg this, if_neg (by intro h; cases h; exact e ⟨rfl, rfl⟩)]
        rfl
    | p _ => simp [tgt]
    | l _ => simp [tgt]
  unfold hcall hup
  rw [e]
  by_cases hu : u = .r t 0
  · simp [hu]
  · simp [hu]
theorem hcall_upd {h : Heap} {o : Rid} {b : Ob} (ho : h o = some b) (ob : Ob) (t c : Nat) : hcall h [o] [ob] t c = hup h o { ob with ver := b.ver, fixed := b.fixed } := by
  funext u
  have e : tgt [o] t [ob].length u = if u = o then some 0 else none := by
    have e0 : [o].idxOf? u = if u = o then some 0 else none := by
      by_cases hu : u = o
      · subst hu; simp [List.idxOf?_cons]
      · have : (o == u) = false := by simpa using fun h => hu h.symm
        simp [List.idxOf?_cons, this, hu]
    cases u with
    | r t' j =>
      rw [tgt_r_eq, if_neg (by simp), e0]
    | p _ => exact e0
    | l _ => exact e0
  unfold hcall hup
  rw [e]
  by_cases hu : u = o
  · subst hu; simp [ho]
  · simp [hu]
/-- A call that gives back one object. -/
theorem Call_new {f : Nat} {capt args : List AV} {v : AV} {own : Bool} (ob : Ob) (hc : C.det f (expL h [] (args ++ capt)) [] v own [ob]) (he : ∀ a ∈ args ++ capt, ExpOk h [] a) (hp : Pure ob.es) (hr : own = true ∨ ∀ a ∈ args ++ capt, a.rooted = false)
    (hw : own = true → ob.own ∨ Flat ob.es) (hq : RunD C r m s (updO g d (impA (d.getD 0) 0 c v)) (hup h (.r (d.getD 0) 0) { ob with ver := c }) (c + 1)) : CallK C (.fn f capt) args d r m s g h c :=
  Call_obs [] [] v own [ob] hc rfl .nil (by simp) he (fun _ hb => by cases hb) (fun b hb => by simp at hb; subst hb; exact hp) hr (fun e b hb => by simp at hb; subst hb; exact hw e) (by rw [hcall_new]; exact hq)
/-- A call that is handed one object. -/
theorem Call_one {f : Nat} {capt args : List AV} {v : AV} {own : Bool} (o : Rid) (b ob : Ob) (ho : h o = some b) (hc : C.det f (expL h [o] (args ++ capt)) [{ b with ver := 0, fixed := true }] v own [ob]) (he : ∀ a ∈ args ++ capt, ExpOk h [o] a) (hp : Pure b.es) (hp' : Pure ob.es)
    (hr : own = true ∨ ∀ a ∈ args ++ capt, a.rooted = false) (hw : own = true → ob.own ∨ Flat ob.es) (hq : RunD C r m s (updO g d v) (hup h o { ob with ver := b.ver, fixed := b.fixed }) c)
    (hi : ∀ t n c, impA t n c v = v := by intros; first | rfl | (simp [impA, impL]; done)) : CallK C (.fn f capt) args d r m s g h c :=
  Call_obs [o] [{ b with ver := 0, fixed := true }] v own [ob] hc (by simp [ho]) (by simp) (by simp) he (fun x hb => by simp at hb; subst hb; exact hp) (fun b hb => by simp at hb; subst hb; exact hp') hr (fun e b hb => by simp at hb; subst hb; exact hw e)
    (by rw [hcall_upd ho, hi]; exact hq)
/-- A call that is handed one object, in a region whose order is drawn. -/
theorem Callh_one {f : Nat} {capt args : List AV} {v : AV} {own : Bool} (o : Rid) (b ob : Ob) (hol : o.isL = false) (ho : h o = some b) (hc : C.det f (expL h [o] (args ++ capt)) [{ b with ver := 0, fixed := true }] v own [ob])
    (he : ∀ a ∈ args ++ capt, ExpOk h [o] a ∧ (a.free = true ∨ match a with | .ptr o' _ _ _ | .sl o' _ _ _ _ => o' ∈ [o] | _ => False)) (hp : Pure b.es) (hp' : Pure ob.es)
    (hr : own = true ∨ ∀ a ∈ args ++ capt, a.rooted = false) (hw : own = true → ob.own ∨ Flat ob.es) (hq : RunD C r m s (updO g d v) (hup h o { ob with ver := b.ver, fixed := b.fixed }) c)
    (hi : ∀ t n c, impA t n c v = v := by intros; first | rfl | (simp [impA, impL]; done)) : CallKh C (.fn f capt) args d r m s g h c :=
  ⟨v, _, ⟨f, capt, own, [o], [{ b with ver := 0, fixed := true }], [ob], rfl, hc, by simp [ho], by simp, by simpa using hol, rfl, he, (fun x hb => by simp at hb; subst hb; exact hp), (fun b hb => by simp at hb; subst hb; exact hp'), hr, (fun e b hb => by simp at hb; subst hb; exact hw e), hi, rfl⟩,
    by rw [hcall_upd ho]; exact hq⟩
/-- A call that is handed one object; what it answers is not told. -/
theorem Call_ones {f : Nat} {capt args : List AV} {own : Bool} {Φ : AV → List Ob → Prop} (o : Rid) (b : Ob) (ho : h o = some b) (hc : C f (expL h [o] (args ++ capt)) [{ b with ver := 0, fixed := true }] own Φ) (he : ∀ a ∈ args ++ capt, ExpOk h [o] a) (hp : Pure b.es)
    (hr : own = true ∨ ∀ a ∈ args ++ capt, a.rooted = false)
    (hq : ∀ v o', Φ v o' → ∃ ob, o' = [ob] ∧ Pure ob.es ∧ (own = true → ob.own ∨ Flat ob.es) ∧ (∀ t n c, impA t n c v = v) ∧ RunD C r m s (updO g d v) (hup h o { ob with ver := b.ver, fixed := b.fixed }) c) : CallK C (.fn f capt) args d r m s g h c :=
  Call_any [o] [{ b with ver := 0, fixed := true }] own Φ hc (by simp [ho]) (by simp) he (fun x hb => by simp at hb; subst hb; exact hp) hr fun v o' hΦ => by
    obtain ⟨ob, rfl, hp', hw, hi, hq⟩ := hq v o' hΦ
    exact ⟨by simp, (fun b hb => by simp at hb; subst hb; exact hp'), (fun e b hb => by simp at hb; subst hb; exact hw e), by rw [hcall_upd ho, hi]; exact hq⟩
theorem Call0_val {f : Nat} {capt args : List AV} {v : AV} (own : Bool) (hc : C.det f (args ++ capt) [] v own []) (he : ∀ a ∈ args ++ capt, a.free = true) (ho : own = true ∨ ∀ a ∈ args ++ capt, a.rooted = false) (hq : RunD C r m s (updO g d v) h c)
    (hi : ∀ t n c, impA t n c v = v := by intros; first | rfl | (simp [impA, impL]; done)) : CallK0 C (.fn f capt) args d r m s g h c :=
  ⟨v, ⟨f, capt, own, rfl, hc, hi, he, ho⟩, hq⟩
theorem K_loop {k : K} (I : Post) (μ : Slots → Heap → Nat → Nat) (h0 : I g h c)
    (hr : ∀ (A : Post) (n : Nat), (∀ g h c, I g h c → μ g h c < n → A g h c) → ∀ g h c, I g h c → μ g h c = n → RunK C k (.post A s) g h c) : RunK C (.loop k) s g h c :=
  ⟨I, μ, h0, fun g h c hI => hr _ _ (fun _ _ _ hI' hl => ⟨hI', hl⟩) g h c hI rfl⟩
end
end Go.AM
