/- A range over a function: the loop's record and its rounds. No condition. -/
import Derived.Test.YtpiegccohgdkdaaAmFuns
import Derived.RangeFuncIn
import Derived.RangeFuncLeaves
import Derived.RangeFuncRecord
import Derived.RangeFuncSeq
import Derived.Test.YtpiegccohgdkdaaAmSeat
import Derived.RangeFuncBox
import Derived.WalkKit
import Derived.OwnWalkIn
import Derived.TacticsInMore
import Derived.LoopNIn
import Derived.LoopIn
set_option linter.all false
set_option linter.unusedSimpArgs false
set_option linter.unusedVariables false
set_option linter.deprecated false
/-! RgA -/
namespace Go.AM
variable {P : Program}

/-- Worlds that are alike in all their cells, and in every block below 'lo'. -/
structure Like (lo : Nat) (w w' : World) : Prop where
  cell : ∀ a, w'.cell? a = w.cell? a
  frz : ∀ a, w'.frozen? a = w.frozen? a
  blk : ∀ (b : Nat) c t f, w.heap[b]? = some (.cells c t f) → w'.heap[b]? = some (.cells c t f)
  size : w.heap.size ≤ w'.heap.size
  low : ∀ b, b < lo → w'.heap[b]? = w.heap[b]?
  os : w'.os = w.os
  tape : w'.tape = w.tape
  output : w'.output = w.output
def Obj.plain (o : Obj) : Prop := ∀ c t f, o ≠ .cells c t f
theorem plain_cell {w : World} {a : Addr} {o : Obj} (h : w.heap[a.block]? = some o) (ho : Obj.plain o) : w.cell? a = none ∧ w.frozen? a = false := by
  unfold World.cell? World.frozen?
  rw [h]
  cases o <;> first | exact ⟨rfl, rfl⟩ | exact absurd rfl (ho _ _ _)
theorem none_cell {w : World} {a : Addr} (h : w.heap[a.block]? = none) : w.cell? a = none ∧ w.frozen? a = false := by
  unfold World.cell? World.frozen?; rw [h]; exact ⟨rfl, rfl⟩
theorem same_cell {w w' : World} {a : Addr} (h : w'.heap[a.block]? = w.heap[a.block]?) : w'.cell? a = w.cell? a ∧ w'.frozen? a = w.frozen? a := by
  unfold World.cell? World.frozen?; rw [h]; exact ⟨rfl, rfl⟩
theorem Like.putObj {w : World} {l lo : Nat} {o o' : Obj} (hl : w.heap[l]? = some o) (ho : Obj.plain o) (ho' : Obj.plain o') (hlo : lo ≤ l) : Like lo w (w.putObj l o') := by
  have hlt : l < w.heap.size := (Array.getElem?_eq_some_iff.1 hl).1
  have key : ∀ a, (w.putObj l o').cell? a = w.cell? a ∧ (w.putObj l o').frozen? a = w.frozen? a := fun a => by
    by_cases e : a.block = l
    · obtain ⟨q1, q2⟩ := plain_cell (a := a) (by rw [e]; exact hl) ho
      obtain ⟨q3, q4⟩ := plain_cell (w := w.putObj l o') (a := a) (by rw [e]; exact World.putObj_heap_same hlt) ho'
      exact ⟨q3.trans q1.symm, q4.trans q2.symm⟩
    · exact same_cell (World.putObj_heap_other e)
  refine ⟨fun a => (key a).1, fun a => (key a).2, fun b c t f hb => ?_, by simp, fun b hb => World.putObj_heap_other (by omega), rfl, rfl, rfl⟩
  by_cases e : b = l
  · subst e; rw [hl] at hb; cases hb; exact absurd rfl (ho _ _ _)
  · rw [World.putObj_heap_other e]; exact hb
theorem Like.alloc {w : World} {lo : Nat} {o : Obj} (ho : Obj.plain o) (hlo : lo ≤ w.heap.size) : Like lo w (w.alloc o) := by
  have key : ∀ a, (w.alloc o).cell? a = w.cell? a ∧ (w.alloc o).frozen? a = w.frozen? a := fun a => by
    by_cases e : a.block = w.heap.size
    · obtain ⟨q1, q2⟩ := none_cell (w := w) (a := a) (by rw [e]; simp)
      obtain ⟨q3, q4⟩ := plain_cell (w := w.alloc o) (a := a) (by rw [e]; exact World.alloc_heap_new w o) ho
      exact ⟨q3.trans q1.symm, q4.trans q2.symm⟩
    · exact same_cell (alloc_same w o _ e)
  refine ⟨fun a => (key a).1, fun a => (key a).2, fun b c t f hb => ?_, by simp, fun b hb => alloc_same w o b (by omega), rfl, rfl, rfl⟩
  rw [alloc_same w o b (by have := (Array.getElem?_eq_some_iff.1 hb).1; omega)]; exact hb
theorem Like.trans {lo : Nat} {u v w : World} (h : Like lo u v) (k : Like lo v w) : Like lo u w :=
  ⟨fun a => (k.cell a).trans (h.cell a), fun a => (k.frz a).trans (h.frz a), fun b c t f hb => k.blk b c t f (h.blk b c t f hb), Nat.le_trans h.size k.size, fun b hb => (k.low b hb).trans (h.low b hb), k.os.trans h.os, k.tape.trans h.tape, k.output.trans h.output⟩
section
variable {lo : Nat} {w w' : World} {κ : Cfg} {h : Heap} {clk : Nat}
theorem Like.own (L : Like lo w w') {b n : Nat} (k : OwnBlk w b n) : OwnBlk w' b n := by
  obtain ⟨c, t, f, h1, h2, h3⟩ := k
  exact ⟨c, t, f, L.blk _ _ _ _ h1, h2, fun o => by rw [L.frz]; exact h3 o⟩
theorem Like.X (L : Like lo w w') {b : Nat} (k : κ.X h w b) : κ.X h w' b := ⟨Nat.lt_of_lt_of_le k.1 L.size, k.2⟩
theorem Like.ro (L : Like lo w w') {X X' : Bs} (hX : ∀ b, X b → X' b) {x : AV} {v : Value} (k : Ro w X x v) : Ro w' X' x v := by
  induction k with
  | b x => exact .b x
  | i k n => exact .i k n
  | s l => exact .s l
  | nilp => exact .nilp
  | nils => exact .nils
  | nilf => exact .nilf
  | undef v => exact .undef v
  | dat0 z a cap => exact .dat0 z a cap
  | dat es blk off cap esz val hb hl hz hc hr ih => exact .dat es blk off cap esz val (hX _ hb) hl hz (fun e j x hx => by rw [L.cell]; exact hc e j x hx) ih
theorem Like.od (L : Like lo w w') {S : Bs} {x : AV} {v : Value} (k : Od w S x v) : Od w' S x v := by
  induction k with
  | b S x => exact .b _ x
  | i S k n => exact .i _ k n
  | s S l => exact .s _ l
  | nilp S => exact .nilp _
  | nils S => exact .nils _
  | nilf S => exact .nilf _
  | undef S v => exact .undef _ v
  | dat0 S z a => exact .dat0 _ z a
  | dat S es blk off cap esz val Sf hS hl ho hz hc hr hs hd ih => exact .dat S es blk off cap esz val Sf hS hl (L.own ho) hz (fun e j x hx => by rw [L.cell]; exact hc e j x hx) ih hs hd
theorem Like.vr (L : Like lo w w') {x : AV} {v : Value} (k : VR w κ h clk x v) : VR w' κ h clk x v := by
  induction k with
  | ro x v hr => exact .ro _ _ (L.ro (fun b hb => L.X hb) hr)
  | ptr o ver e c v hs hv hp => exact .ptr o ver e c v hs hv hp
  | sl o ver off len cap v hs hv hp =>
    refine .sl o ver off len cap v hs hv fun ob ho => ?_
    rcases hp ob ho with q | ⟨rc, q1, q2, q3, q4, q5, q6, q7⟩
    · exact .inl q
    · exact .inr ⟨rc, q1, q2, q3, q4, q5, q6, L.own q7⟩
  | eptr cells c blk off val hX hc hr => exact .eptr cells c blk off val (L.X hX) (fun j x hx => by rw [L.cell]; exact hc j x hx) (fun j x hx => L.ro (fun b hb => L.X hb) (hr j x hx))
  | agg cs vs hl hr ih => exact .agg cs vs hl ih
  | tup cs vs hl hr ih => exact .tup cs vs hl ih
  | fn f cs vs hl hr ih => exact .fn f cs vs hl ih
theorem Like.cr (L : Like lo w w') {own : Prop} {S : Bs} {x : AV} {v : Value} (k : CR w κ h clk own S x v) : CR w' κ h clk own S x v := by
  cases x with
  | dat z es => exact ⟨fun q => L.od (k.1 q), fun q => L.ro (fun b hb => L.X hb) (k.2 q)⟩
  | agg _ => exact k
  | tup _ => exact k
  | _ => exact L.vr k
theorem Like.obr (L : Like lo w w') {o : Rid} {ob : Ob} (k : ObR w κ h clk o ob) : ObR w' κ h clk o ob :=
  ⟨k.ver, k.esz, fun hne => ⟨(k.blk hne).1, L.own (k.blk hne).2⟩, fun e j x hx => by
    obtain ⟨v, h1, h2⟩ := k.cells e j x hx
    exact ⟨v, by rw [L.cell]; exact h1, L.cr h2⟩, k.sep, k.disj⟩
theorem Like.hr (L : Like lo w w') {w0 : World} {P0 : Bs} (H : HR w0 P0 w κ h clk) (hlo : w0.heap.size ≤ lo) : HR w0 P0 w' κ h clk :=
  ⟨fun o ob ho => L.obr (H.ob o ob ho), H.apart, fun o ob b ho hf => ⟨(H.base o ob b ho hf).1, Nat.lt_of_lt_of_le (H.base o ob b ho hf).2 L.size⟩, ⟨L.os.trans H.os.1, fun a => (L.frz a).trans (H.os.2 a)⟩, L.tape.trans H.tape, L.output.trans H.output,
    Nat.le_trans H.size L.size, fun b hb hn => (L.low b (by omega)).trans (H.old b hb hn), H.free⟩
theorem Like.ext (L : Like lo w w') {v : World} {κ0 : Cfg} {h0 : Heap} {c0 : Nat} (E : Ext v κ0 h0 c0 w κ h clk) (hlo : v.heap.size ≤ lo) : Ext v κ0 h0 c0 w' κ h clk :=
  ⟨E.hclk, fun o v' ob' h1 h2 => by
    obtain ⟨ob, q1, q2, q3, q4, q5, q6⟩ := E.hcur o v' ob' h1 h2
    exact ⟨ob, q1, q2, q3, q4, q5, fun hr n hn => L.own (q6 hr n hn)⟩, fun b hb => ⟨L.X (E.hX b hb).1, (L.low b (Nat.lt_of_lt_of_le hb.1 hlo)).trans (E.hX b hb).2⟩, E.hA⟩
/-- A block that nobody holds is there to be read. -/
theorem fresh_X {w0 : World} {P0 : Bs} (H : HR w0 P0 w κ h clk) (L : Like lo w w') {b : Nat} (h1 : w.heap.size ≤ b) (h2 : b < w'.heap.size) : κ.X h w' b :=
  ⟨h2, H.free b (.inl (Nat.le_trans H.size h1)), fun o ob ho hf => by have := (H.base o ob b ho hf).2; omega⟩
theorem gh_drop1 {w0 : World} {P0 : Bs} {n : Rid} (H : HR w0 P0 w κ h clk) : HR w0 P0 w κ (hdel h n) clk ∧ Ext w κ h clk w κ (hdel h n) clk := by
  have at_ : ∀ u ou, hdel h n u = some ou → h u = some ou := fun u ou hu => by
    rw [hdel_at] at hu; split at hu
    · cases hu
    · exact hu
  exact H.rearr (κ' := κ) (h' := hdel h n) (clk' := clk) rfl (Nat.le_refl _)
    (fun u ou hu hv => ⟨ou, at_ u ou hu, rfl, rfl, rfl, rfl, fun k => k⟩)
    (fun u ou b hu hf => ⟨u, ou, at_ u ou hu, hf⟩)
    (fun u u' ou ou' b hu hu' hne hf hf' => H.apart u u' ou ou' b (at_ u ou hu) (at_ u' ou' hu') hne hf hf')
    (fun E u ou hu => (H.ob u ou (at_ u ou hu)).keep E rfl (fun k => k) rfl)
end

/-- A value in blocks of X alone: a plain one, or a struct of such. -/
def Rv (w : World) (X : Bs) : AV → Value → Prop
  | .agg cs, v => ∃ vs : Array Value, v = .agg vs ∧ cs.length = vs.size ∧ ∀ (j : Nat) x, cs[j]? = some x → Ro w X x (vs.getD j Go.undef)
  | x, v => Ro w X x v
theorem Rv.vr {w : World} {X : Bs} {κ : Cfg} {h : Heap} {clk : Nat} {x : AV} {v : Value} (k : Rv w X x v) {W : World} (hX : ∀ b, X b → κ.X h W b) (hs : ∀ b, X b → W.heap[b]? = w.heap[b]?) : VR W κ h clk x v := by
  cases x with
  | agg cs =>
    obtain ⟨vs, rfl, h1, h2⟩ := k
    exact .agg _ _ h1 fun j x hx => .ro _ _ ((h2 j x hx).frame hX hs)
  | _ => exact .ro _ _ (Ro.frame hX hs k)
/-- What an iterator over a slice in a box does: it yields these, one behind the other, and stops where it is told to. -/
def IterOk (P : Program) (fid : Nat) (a : AV) (xs : List (List AV)) : Prop :=
  (∀ vs w, (callFunc fid vs).run P w = .ok (.enter fid vs) w) ∧
  ∀ (W0 : World) (X : Bs) (B off : Nat) (val : Value), X B → W0.cell? (at_ B off) = some val → Ro W0 X a val →
    ∃ encs : Nat → Array Value, (∀ i x, xs[i]? = some x → (encs i).size = x.length ∧ ∀ (j : Nat) y, x[j]? = some y → Rv W0 X y ((encs i).getD j Go.undef)) ∧
    ∀ (l : Nat) (J : Nat → World → Prop) (Jx : World → Prop),
      (∀ i W, i < xs.length → J i W → (∀ b, X b → W.heap[b]? = W0.heap[b]?) → YieldAt Fence.wide 0 P l (encs i) W fun e W' => (e = .returned (.bool true) ∧ J (i + 1) W' ∧ ∀ b, X b → W'.heap[b]? = W0.heap[b]?) ∨ (e = .returned (.bool false) ∧ Jx W')) →
      ∀ W, J 0 W → (∀ b, X b → W.heap[b]? = W0.heap[b]?) → CallsIn Fence.wide 0 P fid (#[.func (.yield l) #[] #[]] ++ #[.pointer (some (at_ B off))]) W fun e W' => (∃ v, e = .returned v) ∧ (J xs.length W' ∨ Jx W')

def updN (g : Slots) : List Nat → List AV → Slots
  | t :: ts, v :: vs => updN (upd g t v) ts vs
  | _, _ => g
theorem fold_sz : ∀ (ps : List Nat) (vs : List Value) (tm : Array Value), ((ps.zip vs).foldl (fun t (p, v) => t.setIfInBounds p v) tm).size = tm.size
  | [], _, _ => rfl
  | _ :: _, [], _ => rfl
  | p :: ps, v :: vs, tm => by rw [List.zip_cons_cons, List.foldl_cons, fold_sz ps vs]; simp
theorem updN_ok {w : World} {κ : Cfg} {h : Heap} {clk : Nat} : ∀ (ps : List Nat) (xs : List AV) (vs : List Value) (g : Slots) (tm : Array Value), ps.length = xs.length → xs.length = vs.length → (∀ p ∈ ps, p < tm.size) →
    (∀ (j : Nat) x, xs[j]? = some x → VR w κ h clk x (vs.getD j Go.undef)) → (∀ t, VR w κ h clk (g t) (tm.getD t Go.undef)) → ∀ t, VR w κ h clk (updN g ps xs t) (((ps.zip vs).foldl (fun t (p, v) => t.setIfInBounds p v) tm).getD t Go.undef)
  | [], [], _, g, tm, _, _, _, _, hg => hg
  | p :: ps, x :: xs, v :: vs, g, tm, h1, h2, h3, h4, hg => by
    rw [List.zip_cons_cons, List.foldl_cons, updN]
    refine updN_ok ps xs vs _ _ (by simpa using h1) (by simpa using h2) (fun q hq => by simpa using h3 q (List.mem_cons_of_mem _ hq)) (fun j y hy => by have := h4 (j + 1) y (by simpa using hy); simpa using this) fun t => ?_
    rw [upd_at]
    have hp := h3 p List.mem_cons_self
    by_cases e : t = p
    · subst e
      rw [if_pos rfl, Array.getD_eq_getD_getElem?, Array.getElem?_setIfInBounds_self_of_lt hp]
      have := h4 0 x rfl
      simpa using this
    · rw [if_neg e, Array.getD_eq_getD_getElem?, Array.getElem?_setIfInBounds_ne (Ne.symm e), ← Array.getD_eq_getD_getElem?]
      exact hg t
  | [], _ :: _, _, _, _, h1, _, _, _, _ => by simp at h1
  | _ :: _, [], _, _, _, h1, _, _, _, _ => by simp at h1
  | _ :: _, _ :: _, [], _, _, _, h2, _, _, _ => by simp at h2

/-- The rounds that are left. -/
def rnd (C : Con) (ka kb : K) (ps : List Nat) (g : Slots) (Z : Heap → Nat → Prop) (S : Ex → Heap → Nat → Prop) : List (List AV) → Heap → Nat → Prop
  | [], h, c => Z h c
  | x :: r, h, c => x.length = ps.length ∧ RunK C ka (.done fun
      | .normal => fun g' h' c' => RunK C kb (.done fun
        | .normal => fun _ h2 c2 => rnd C ka kb ps g Z S r h2 c2
        | e => fun _ h2 c2 => S e h2 c2) g' h' c'
      | _ => fun _ _ _ => False) (updN g ps x) h c
def exOf : Ex → Exit
  | .normal => .normal
  | .exit id => .exit id
  | .ret => .ret
end Go.AM

/-! RgB -/
namespace Go.AM
variable {P : Program}
theorem not_cells_loop {r : Loop} : Obj.plain (.loop r) := fun _ _ _ e => by cases e
theorem not_cells_def {d : Option (List Deferred)} : Obj.plain (.deferred d) := fun _ _ _ e => by cases e
def exCode : Ex → Code
  | .ret => .ret
  | .exit id => .exit id
  | .normal => .skip
theorem zip_fold (ps : Array Nat) (vs : Array Value) (tm : Array Value) : (ps.zip vs).foldl (fun t (p, v) => t.setIfInBounds p v) tm = (ps.toList.zip vs.toList).foldl (fun t (p, v) => t.setIfInBounds p v) tm := by
  rw [← Array.foldl_toList, Array.toList_zip]
theorem range_ok {C : Con} (hC : ConOk P C) (hmix : P.follows .mixedOrders = true) (hint : Nat → Nat) {I : Ini} {g : Slots} {h : Heap} {clk : Nat} {a : Act} {w : World} (R : Rel I g h clk a w)
    {f : Operand} {ps : Array Nat} {ca cb : Code} {ka kb : K} (ha : comp P I.n hint ca = ka.strip) (hda : drawsOk (comp P I.n hint ca) = true) (hb : comp P I.n hint cb = kb.strip) (hdb : drawsOk (comp P I.n hint cb) = true) (hps : ∀ p ∈ ps.toList, p < I.n)
    {fid : Nat} {o : Rid} {ob : Ob} {z : Nat} {es : List (List AV)} (hf : ev g (cv f) = .fn fid [.ptr o ob.ver 0 0]) (ho : h o = some ob) (hes : ob.es = [[.dat z es]]) {xs : List (List AV)} (hit : IterOk P fid (.dat z es) xs)
    {Z : Heap → Nat → Prop} {S : Ex → Heap → Nat → Prop} (hr : rnd C ka kb ps.toList g Z S xs (hdel h o) clk) {QQ : Exit → Act → World → Prop}
    (hQ : ∀ (e : Ex) (κ : Cfg) (h' : Heap) (c' : Nat) (W : World) (D : Nat), (match e with | .normal => Z h' c' | e => S e h' c') → HR I.w0 I.P0 W κ h' c' → Ext I.w I.κ I.h I.clk W κ h' c' → (∀ t, VR W κ h' c' (g t) (a.tmps.getD t Go.undef)) → κ.X h' W D → W.heap[D]? = some (.deferred (some [])) → I.w0.heap.size ≤ D →
      QQ (exOf e) { a with defers := { target := .collected D, args := #[] } :: a.defers } W) :
    (Code.rangeFunc f ps ca cb).wpIn (Fw none) 0 P QQ a w := by
  obtain ⟨κ, H, E, hg⟩ := R.st
  have hev : VR w κ h clk (ev g (cv f)) (a.eval f) := ev_ok hg f
  rw [hf] at hev
  obtain ⟨vs, hfv, hvs, hvr⟩ := hev.of_fn
  have hc : cur h o ob.ver = some ob := by unfold cur; rw [ho]; simp
  have hp := (hvr 0 _ rfl).of_ptr hc
  have haddr : κ.addr o ob.esz 0 0 = at_ (κ.ι o).1 (κ.ι o).2 := by simp [Cfg.addr]
  have hvs1 : vs = #[.pointer (some (at_ (κ.ι o).1 (κ.ι o).2))] := by
    rw [haddr] at hp
    obtain ⟨l⟩ := vs
    simp only [List.length_cons, List.length_nil, List.size_toArray] at hvs
    match l, hvs, hp with
    | [x], _, hp => simp at hp; rw [hp]
  have hob := H.ob o ob ho
  obtain ⟨val, hcell, hcr⟩ := hob.cells 0 0 (.dat z es) (by rw [hes]; rfl)
  obtain ⟨hre, _⟩ := hob.blk (by rw [hes]; simp)
  obtain ⟨H1, E1⟩ := gh_drop1 (n := o) H
  have inX : ∀ b, κ.foot o b → κ.X (hdel h o) w b := fun b hfoot => by
    obtain ⟨q1, q2⟩ := H.base o ob _ ho hfoot
    refine ⟨q2, H.free _ q1, fun u ou hu hfu => ?_⟩
    rw [hdel_at] at hu
    split at hu
    · cases hu
    · next hne => exact H.apart u o ou ob _ hu ho hne hfu hfoot
  have hB := inX _ (.inl ⟨hre, rfl⟩)
  have hro : Ro w (κ.X (hdel h o) w) (.dat z es) val := by
    by_cases hw : ob.own
    · exact (hcr.1 hw).ro fun b hb => inX b (.inr ⟨0, 0, hb⟩)
    · exact E1.ro (hcr.2 hw)
  obtain ⟨hef, hit⟩ := hit
  obtain ⟨encs, henc, hrun⟩ := hit w (κ.X (hdel h o) w) _ _ val hB (by rw [← haddr]; exact hcell) hro
  refine wpIn_rangeFunc fun fn _ => ?_
  obtain ⟨rec, hrec⟩ : ∃ rec : LoopState → Option Code → Loop, rec = fun st pe => { state := st, pending := pe, fn, tmps := a.tmps, params := ps, assign := ca, body := cb, defers := w.heap.size } := ⟨_, rfl⟩
  obtain ⟨W1, hW1⟩ : ∃ W1, (w.alloc (.deferred (some []))).alloc (.loop (rec .ready none)) = W1 := ⟨_, rfl⟩
  have L1 : Like w.heap.size w W1 := by
    rw [← hW1]
    exact (Like.alloc not_cells_def (Nat.le_refl _)).trans (Like.alloc not_cells_loop (by simp))
  have hsz1 : W1.heap.size = w.heap.size + 2 := by rw [← hW1]; simp
  have hL1 : W1.heap[w.heap.size + 1]? = some (.loop (rec .ready none)) := by
    rw [← hW1]; have := World.alloc_heap_new (w.alloc (.deferred (some []))) (.loop (rec .ready none)); rwa [World.size_alloc] at this
  have hK1 : W1.heap[w.heap.size]? = some (.deferred (some [])) := by
    rw [← hW1, alloc_same _ _ _ (by simp)]; exact World.alloc_heap_new w _
  refine ⟨w.heap.size + 1, [{ target := .collected w.heap.size, args := #[] }], W1, { target := .fn (.func fid) vs, args := #[.func (.yield (w.heap.size + 1)) #[] #[]] }, W1, fid,
    #[.func (.yield (w.heap.size + 1)) #[] #[]] ++ vs, W1, ?_, ?_, fun _ _ => trivial, ?_, (fun hh => by cases hh), ?_⟩
  · rw [← hW1, hrec]; exact run_enterLoop_outer _ _ _ _ _
  · simp only [resolve, hfv]
    simp [go_sem]
  · simp [invoke, go_sem, hef]
  obtain ⟨l, hl⟩ : ∃ l, l = w.heap.size + 1 := ⟨_, rfl⟩
  obtain ⟨D, hD⟩ : ∃ D, D = w.heap.size := ⟨_, rfl⟩
  have hDl : D ≠ l := by omega
  have hwl : w.heap.size ≤ l := by omega
  have h0l : I.w0.heap.size ≤ l := Nat.le_trans H.size hwl
  rw [← hl] at hL1 ⊢
  rw [← hD] at hK1 ⊢
  rw [hvs1]
  show CallsIn Fence.wide 0 P fid _ W1 _
  refine (hrun l
    (fun i W => ∃ κ' h' c', rnd C ka kb ps.toList g Z S (xs.drop i) h' c' ∧ HR I.w0 I.P0 W κ' h' c' ∧ Ext w κ (hdel h o) clk W κ' h' c' ∧ W.heap[l]? = some (.loop (rec .ready none)) ∧ W.heap[D]? = some (.deferred (some [])) ∧ κ'.X h' W l ∧ κ'.X h' W D)
    (fun W => ∃ e κ' h' c', e ≠ .normal ∧ S e h' c' ∧ HR I.w0 I.P0 W κ' h' c' ∧ Ext w κ (hdel h o) clk W κ' h' c' ∧ W.heap[l]? = some (.loop (rec .done (some (exCode e)))) ∧ W.heap[D]? = some (.deferred (some [])) ∧ κ'.X h' W D)
    ?_ W1 ⟨κ, hdel h o, clk, by simpa using hr, L1.hr H1 H1.size, L1.ext (Ext.same rfl) (Nat.le_refl _), hL1, hK1, fresh_X H1 L1 (by omega) (by omega), fresh_X H1 L1 (by omega) (by omega)⟩ (fun b hb => L1.low b hb.1)).mono ?_
  · rintro i W hi ⟨κ', h', c', hrnd, HW, EW, hWl, hWD, hXl, hXD⟩ hsame
    obtain ⟨x, hx⟩ : ∃ x, x = xs[i] := ⟨_, rfl⟩
    have hxi : xs[i]? = some x := by rw [hx]; exact List.getElem?_eq_getElem hi
    rw [List.drop_eq_getElem_cons hi, ← hx] at hrnd
    obtain ⟨hlen, hrun1⟩ := hrnd
    obtain ⟨hsz, hvals⟩ := henc i x hxi
    have hy := run_yield (P := P) (args := encs i) hWl (by rw [hrec, hsz, hlen]; simp)
    rw [hrec] at hy
    simp only at hy
    rw [zip_fold] at hy
    refine ⟨fn, _, ca, cb, hy, roundIn_of_wpIn trivial ?_⟩
    have R1 : Rel ⟨I.w0, I.P0, W, κ', h', c', I.n, []⟩ (updN g ps.toList x) h' c' { tmps := (ps.toList.zip (encs i).toList).foldl (fun t (p, v) => t.setIfInBounds p v) a.tmps, defers := [] } W :=
      ⟨rfl, by rw [fold_sz]; exact R.sz, κ', HW, Ext.same rfl, updN_ok _ _ _ _ _ (by rw [hlen]) (by rw [← hsz]; simp) (fun p hp => by rw [R.sz]; exact hps p hp)
        (fun j y hy => by
          have := hvals j y hy
          rw [Array.getD_eq_getD_getElem?] at this
          rw [List.getD_eq_getElem?_getD, Array.getElem?_toList]
          exact Rv.vr this (fun b hb => (EW.hX b hb).1) (fun b hb => (EW.hX b hb).2))
        fun t => ((hg t).ext E1).ext EW⟩
    refine kwp_ok (I := ⟨I.w0, I.P0, W, κ', h', c', I.n, []⟩) (rd := some l) hC hmix hint ca ka ha hda ⟨?_, fun id => ?_, ?_⟩ R1 hrun1
    · intro g2 h2 c2 a2 W2 hq R2
      obtain ⟨κ2, H2, E2, hg2⟩ := R2.st
      have hl2 : W2.heap[l]? = some (.loop (rec .ready none)) := (E2.hX l hXl).2.trans hWl
      have hD2 : W2.heap[D]? = some (.deferred (some [])) := (E2.hX D hXD).2.trans hWD
      refine ⟨_, run_beginRound hl2 (by rw [hrec]), ?_⟩
      obtain ⟨W3, hW3⟩ : ∃ W3, W3 = W2.putObj l (.loop { rec .ready none with state := .busy }) := ⟨_, rfl⟩
      have hl3 : W3.heap[l]? = some (.loop { rec .ready none with state := .busy }) := by rw [hW3]; exact World.putObj_heap_same (Array.getElem?_eq_some_iff.1 hl2).1
      have hD3 : W3.heap[D]? = some (.deferred (some [])) := by rw [hW3, World.putObj_heap_other hDl]; exact hD2
      have L3 : Like l W2 W3 := by rw [hW3]; exact Like.putObj hl2 not_cells_loop not_cells_loop (Nat.le_refl _)
      have hX3l : κ2.X h2 W3 l := L3.X (E2.hX l hXl).1
      have hX3D : κ2.X h2 W3 D := L3.X (E2.hX D hXD).1
      have EW3 : Ext w κ (hdel h o) clk W3 κ2 h2 c2 := L3.ext (EW.trans E2) hwl
      have R3 : Rel ⟨I.w0, I.P0, W3, κ2, h2, c2, I.n, []⟩ g2 h2 c2 a2 W3 := ⟨R2.df, R2.sz, κ2, L3.hr H2 h0l, Ext.same rfl, fun t => L3.vr (hg2 t)⟩
      have fin : ∀ (jump : Option Code) (κ4 : Cfg) (h4 : Heap) (c4 : Nat) (W4 : World), HR I.w0 I.P0 W4 κ4 h4 c4 → Ext W3 κ2 h2 c2 W4 κ4 h4 c4 →
          ∃ W5, (Instr.endRound l jump).run P W4 = .ok (.bool jump.isNone) W5 ∧ HR I.w0 I.P0 W5 κ4 h4 c4 ∧ Ext w κ (hdel h o) clk W5 κ4 h4 c4 ∧ W5.heap[l]? = some (.loop (rec (if jump.isNone then .ready else .done) jump)) ∧ W5.heap[D]? = some (.deferred (some [])) ∧ κ4.X h4 W5 l ∧ κ4.X h4 W5 D := by
        intro jump κ4 h4 c4 W4 H4 E4
        have hl4 : W4.heap[l]? = some (.loop { rec .ready none with state := .busy }) := (E4.hX l hX3l).2.trans hl3
        have L5 := Like.putObj (lo := l) (o' := .loop { { rec .ready none with state := .busy } with state := if jump.isNone then .ready else .done, pending := jump }) hl4 not_cells_loop not_cells_loop (Nat.le_refl _)
        refine ⟨_, run_endRound jump hl4, L5.hr H4 h0l, L5.ext (EW3.trans E4) hwl, ?_, ?_, L5.X (E4.hX l hX3l).1, L5.X (E4.hX D hX3D).1⟩
        · rw [World.putObj_heap_same (Array.getElem?_eq_some_iff.1 hl4).1, hrec]
        · rw [World.putObj_heap_other hDl]; exact (E4.hX D hX3D).2.trans hD3
      rw [← hW3]
      refine kwp_ok (I := ⟨I.w0, I.P0, W3, κ2, h2, c2, I.n, []⟩) (rd := some l) hC hmix hint cb kb hb hdb ⟨?_, fun id => ?_, ?_⟩ R3 hq
      · intro g4 h4 c4 a4 W4 hq4 R4
        obtain ⟨κ4, H4, E4, _⟩ := R4.st
        obtain ⟨W5, q1, q2, q3, q4, q5, q6, q7⟩ := fin none κ4 h4 c4 W4 H4 E4
        exact ⟨_, W5, q1, .inl ⟨rfl, ⟨κ4, h4, c4, hq4, q2, q3, q4, q5, q6, q7⟩, fun b hb => (q3.hX b hb).2⟩⟩
      · intro g4 h4 c4 a4 W4 hq4 R4
        obtain ⟨κ4, H4, E4, _⟩ := R4.st
        obtain ⟨W5, q1, q2, q3, q4, q5, q6, q7⟩ := fin (some (.exit id)) κ4 h4 c4 W4 H4 E4
        exact ⟨_, W5, q1, .inr ⟨rfl, .exit id, κ4, h4, c4, (by intro e; cases e), hq4, q2, q3, q4, q5, q7⟩⟩
      · intro g4 h4 c4 a4 W4 hq4 R4
        obtain ⟨κ4, H4, E4, _⟩ := R4.st
        obtain ⟨W5, q1, q2, q3, q4, q5, q6, q7⟩ := fin (some .ret) κ4 h4 c4 W4 H4 E4
        exact ⟨_, W5, q1, .inr ⟨rfl, .ret, κ4, h4, c4, (by intro e; cases e), hq4, q2, q3, q4, q5, q7⟩⟩
    · intro _ _ _ _ _ hq _; exact hq.elim
    · intro _ _ _ _ _ hq _; exact hq.elim
  · rintro e W ⟨⟨v, rfl⟩, ⟨κ', h', c', hrnd, HW, EW, hWl, hWD, hXl, hXD⟩ | ⟨e, κ', h', c', hne, hS, HW, EW, hWl, hWD, hXD⟩⟩
    · rw [List.drop_length] at hrnd
      have L6 := Like.putObj (lo := l) (o' := .loop { rec .ready none with state := .exhausted }) hWl not_cells_loop not_cells_loop (Nat.le_refl _)
      have hrl := run_endLoop (P := P) hWl (by rw [hrec]; simp)
      have EW6 := L6.ext EW hwl
      refine ⟨none, W.putObj l (.loop { rec .ready none with state := .exhausted }), hrl.trans (congrArg (fun p => Result.ok p (W.putObj l (.loop { rec .ready none with state := .exhausted }))) (show (rec .ready none).pending = none by rw [hrec])), ?_⟩
      exact hQ .normal κ' h' c' _ D hrnd (L6.hr HW h0l) ((E.trans E1).trans EW6) (fun t => ((hg t).ext E1).ext EW6) (L6.X hXD) (by rw [World.putObj_heap_other hDl]; exact hWD) (by have := H.size; omega)
    · have L6 := Like.putObj (lo := l) (o' := .loop { rec .done (some (exCode e)) with state := .exhausted }) hWl not_cells_loop not_cells_loop (Nat.le_refl _)
      have hrl := run_endLoop (P := P) hWl (by rw [hrec]; simp)
      have EW6 := L6.ext EW hwl
      refine ⟨some (exCode e), W.putObj l (.loop { rec .done (some (exCode e)) with state := .exhausted }), hrl.trans (congrArg (fun p => Result.ok p (W.putObj l (.loop { rec .done (some (exCode e)) with state := .exhausted }))) (show (rec .done (some (exCode e))).pending = some (exCode e) by rw [hrec])), ?_⟩
      have q := hQ e κ' h' c' _ D (by cases e <;> first | exact absurd rfl hne | exact hS) (L6.hr HW h0l) ((E.trans E1).trans EW6) (fun t => ((hg t).ext E1).ext EW6) (L6.X hXD) (by rw [World.putObj_heap_other hDl]; exact hWD) (by have := H.size; omega)
      cases e with
      | normal => exact absurd rfl hne
      | exit id => exact wpIn_exit q
      | ret => exact wpIn_ret q
end Go.AM

/-! RgC -/
namespace Go.AM
variable {P : Program} {C : Con}
/-- Code, one piece behind the other. -/
def flatC : Code → List Code
  | .seq a b => flatC a ++ flatC b
  | .skip => []
  | c => [c]
def wpL (F : Fence) (n : Nat) (P : Program) : List Code → (Exit → Act → World → Prop) → Act → World → Prop
  | [], Q => Q .normal
  | c :: r, Q => c.wpIn F n P (Exit.then (wpL F n P r Q) Q)
theorem wpL_mono {F : Fence} {n : Nat} : ∀ (l : List Code) {Q Q' : Exit → Act → World → Prop}, (∀ e a w, Q e a w → Q' e a w) → ∀ {a : Act} {w : World}, wpL F n P l Q a w → wpL F n P l Q' a w
  | [], _, _, hq, _, _, h => hq _ _ _ h
  | c :: r, Q, Q', hq, a, w, h => wpIn_mono h fun e a w he => by
    cases e with
    | normal => exact wpL_mono r hq he
    | _ => exact hq _ _ _ he
theorem wpL_app {F : Fence} {n : Nat} : ∀ (l m : List Code) {Q : Exit → Act → World → Prop} {a : Act} {w : World}, wpL F n P (l ++ m) Q a w → wpL F n P l (Exit.then (wpL F n P m Q) Q) a w
  | [], _, _, _, _, h => h
  | c :: r, m, Q, a, w, h => wpIn_mono h fun e a w he => by
    cases e with
    | normal => exact wpL_app r m he
    | _ => exact he
theorem flat_ok {F : Fence} {n : Nat} : ∀ (c : Code) {Q : Exit → Act → World → Prop} {a : Act} {w : World}, wpL F n P (flatC c) Q a w → c.wpIn F n P Q a w := by
  intro c
  induction c with
  | seq x y ihx ihy =>
    intro Q a w h
    refine wpIn_seq (ihx (wpL_mono _ (fun e a w he => ?_) (wpL_app (flatC x) (flatC y) h)))
    cases e with
    | normal => exact ihy he
    | _ => exact he
  | skip => intro Q a w h; exact wpIn_skip h
  | _ =>
    intro Q a w h
    exact wpIn_mono (show Code.wpIn F n P _ (Exit.then (Q .normal) Q) a w from h) fun e a w he => by cases e <;> exact he
def runL (C : Con) : List K → (Ex → Post) → Post
  | [], Q => Q .normal
  | [k], Q => kwp C k Q
  | k :: r, Q => kwp C k (Ex.then (runL C r Q) Q)
theorem runL_cons (k : K) (r : List K) (Q : Ex → Post) : runL C (k :: r) Q = kwp C k (Ex.then (runL C r Q) Q) := by
  cases r with
  | nil =>
    have : Ex.then (runL C [] Q) Q = Q := by funext e; cases e <;> rfl
    rw [this]; rfl
  | cons => rfl
theorem runL_ok (hC : ConOk P C) (hmix : P.follows .mixedOrders = true) (hint : Nat → Nat) {I : Ini} {rd : Option Nat} : ∀ (cs : List Code) (ks : List K), cs.map (comp P I.n hint) = ks.map K.strip → (ks.all fun k => drawsOk k.strip) = true →
    ∀ {Q : Ex → Post} {QQ : Exit → Act → World → Prop} {g : Slots} {h : Heap} {clk : Nat} {a : Act} {w : World}, Meets C I Q QQ → Rel I g h clk a w → runL C ks Q g h clk → wpL (Fw rd) 0 P cs QQ a w
  | [], [], _, _, _, _, _, _, _, _, _, M, R, hk => M.1 _ _ _ _ _ hk R
  | c :: cs, k :: ks, hm, hd, Q, QQ, g, h, clk, a, w, M, R, hk => by
    simp only [List.map_cons, List.cons.injEq] at hm
    simp only [List.all_cons, Bool.and_eq_true] at hd
    rw [runL_cons] at hk
    exact kwp_ok hC hmix hint c k hm.1 (by rw [hm.1]; exact hd.1) (Q := Ex.then (runL C ks Q) Q) ⟨fun g h clk a w hq R => runL_ok hC hmix hint cs ks hm.2 hd.2 M R hq, fun id => M.2.1 id, M.2.2⟩ R hk
  | [], _ :: _, hm, _, _, _, _, _, _, _, _, _, _, _ => by simp at hm
  | _ :: _, [], hm, _, _, _, _, _, _, _, _, _, _, _ => by simp at hm
/-- What stands behind the loop. -/
def postQ (ts : List Nat) (obs : List Ob) (own : Bool) (Φ : AV → List Ob → Prop) : Ex → Post := FinP ts obs own Φ
/-- The loop, and what stands behind it. -/
def LoopQ (P : Program) (C : Con) (f : KV) (ps : List Nat) (ka kb : K) (id : Nat) (kpost : List K) (Q : Ex → Post) (g : Slots) (h : Heap) (c : Nat) : Prop :=
  ∃ (fid : Nat) (o : Rid) (ob : Ob) (z : Nat) (es : List (List AV)) (xs : List (List AV)), ev g f = .fn fid [.ptr o ob.ver 0 0] ∧ h o = some ob ∧ ob.es = [[.dat z es]] ∧ IterOk P fid (.dat z es) xs ∧
    rnd C ka kb ps g (fun h c => runL C kpost Q g h c) (fun e h c => match e with | .ret => Q .ret g h c | .exit j => if j = id then runL C kpost Q g h c else False | .normal => False) xs (hdel h o) c
theorem holds_range (hC : ConOk P C) (hmix : P.follows .mixedOrders = true) {fid : Nat} {fn : Func} {c : Code} {ts : List Nat} {args : List AV} {obs : List Ob} {own : Bool} {Φ : AV → List Ob → Prop} (hint : Nat → Nat)
    (hf : P.funcs[fid]? = some fn) (hn : (fn.name == "runtime.NumGoroutine") = false) (hb : fn.body = some c) (hr : resT fn = some ts) (hl : args.length ≤ fn.ntmps)
    {pre post : List Code} {kpre kpost : List K} {id : Nat} {f : Operand} {ps : Array Nat} {ca cb : Code} {ka kb : K} (hflat : flatC c = pre ++ .block id (.rangeFunc f ps ca cb) :: post)
    (hpre : pre.map (comp P fn.ntmps hint) = kpre.map K.strip) (hdpre : (kpre.all fun k => drawsOk k.strip) = true) (hpost : post.map (comp P fn.ntmps hint) = kpost.map K.strip) (hdpost : (kpost.all fun k => drawsOk k.strip) = true)
    (hca : comp P fn.ntmps hint ca = ka.strip) (hda : drawsOk ka.strip = true) (hcb : comp P fn.ntmps hint cb = kb.strip) (hdb : drawsOk kb.strip = true) (hps : ps.toList.all (· < fn.ntmps) = true)
    (hk : runL C kpre (fun
      | .normal => LoopQ P C (cv f) ps.toList ka kb id kpost (FinP ts obs own Φ)
      | e => FinP ts obs own Φ e) (slots0 args) (objs obs) 1) : Holds P fid args obs own Φ := by
  refine ⟨callFunc_run hf hn (by rw [hb]; rfl), fun w κ vs P0 H hP hlen hv => ?_⟩
  have E0 : Ext w κ (objs obs) 1 w κ (objs obs) 1 := Ext.same rfl
  have R : Rel ⟨w, P0, w, κ, objs obs, 1, fn.ntmps, []⟩ (slots0 args) (objs obs) 1 { tmps := vs ++ Array.replicate (fn.ntmps - vs.size) Go.undef, defers := [] } w := by
    refine ⟨rfl, by simp; omega, κ, H, E0, fun t => ?_⟩
    unfold slots0
    by_cases ht : t < args.length
    · rw [List.getElem?_eq_getElem ht, Option.getD_some]
      have := hv t _ (List.getElem?_eq_getElem ht)
      rw [Array.getD_eq_getD_getElem?] at this ⊢
      rw [Array.getElem?_append_left (by omega)]; exact this
    · rw [List.getElem?_eq_none (by omega), Option.getD_none]; exact .undef _
  obtain ⟨RR, hRR⟩ : ∃ RR : Ending → World → Prop, RR = fun e w' => match e with
      | .returned v => ∃ r obs' κ' clk', Φ r obs' ∧ HR w P0 w' κ' (objs obs') clk' ∧ Ext w κ (objs obs) 1 w' κ' (objs obs') clk' ∧ (∀ (k : Nat) ob, obs'[k]? = some ob → k < obs.length → ob.ver = 0) ∧
          Rs w' κ' obs' obs.length (fun b => κ'.X (objs obs') w' b ∧ (own = true → w.heap.size ≤ b ∨ P0 b)) r v
      | _ => False := ⟨_, rfl⟩
  have fin : ∀ (g : Slots) (h : Heap) (clk : Nat) (tm : Array Value) (w' : World) (κ' : Cfg), FinP ts obs own Φ .normal g h clk → HR w P0 w' κ' h clk → Ext w κ (objs obs) 1 w' κ' h clk → (∀ t, VR w' κ' h clk (g t) (tm.getD t Go.undef)) →
      ∃ v, (results fn tm).run P w' = .ok v w' ∧ RR (.returned v) w' := by
    rintro g h clk tm w' κ' ⟨r, obs', hΦ, ren, F, h1, h2⟩ H' E' hg
    refine ⟨_, results_run hr _ _, ?_⟩
    rw [hRR]
    refine ⟨r, obs', _, 2, hΦ, HR_ret H' F, Ext_ret E' F, fun k ob hk hl => ?_, ?_⟩
    · obtain ⟨_, b, q, _, ⟨_, _, h5, rfl⟩ | ⟨h5, _⟩⟩ := F.at_ k ob hk
      · exact h5
      · omega
    · rw [← h1]
      exact res_ok H' F (resV_ok hg ts) h2
  refine (callsIn_wide (n := 0)).1 (CallsIn.mono (R := RR) (callsIn_of_wp_marks hf hb trivial ?_) fun e w' he => ?_)
  case refine_2 =>
    rw [hRR] at he
    cases e with
    | returned v => exact he
    | _ => exact he
  -- what a function leaves without a mark, and with one
  have leave0 : ∀ (g : Slots) (h : Heap) (clk : Nat) (a : Act) (w' : World), FinP ts obs own Φ .normal g h clk → Rel ⟨w, P0, w, κ, objs obs, 1, fn.ntmps, []⟩ g h clk a w' → LeavesInM Fence.wide 0 P fn a.tmps RR a.defers .returning w' := by
    intro g h clk a w' hq R'
    obtain ⟨κ', H', E', hg⟩ := R'.st
    rw [show a.defers = [] from R'.df]
    exact fin g h clk a.tmps w' κ' hq H' E' hg
  refine flat_ok c ?_
  rw [hflat]
  have key : ∀ (g : Slots) (h : Heap) (clk : Nat) (a : Act) (w' : World), LoopQ P C (cv f) ps.toList ka kb id kpost (FinP ts obs own Φ) g h clk → Rel ⟨w, P0, w, κ, objs obs, 1, fn.ntmps, []⟩ g h clk a w' →
      wpL (Fw none) 0 P (.block id (.rangeFunc f ps ca cb) :: post) (bodyPostM Fence.wide 0 P fn RR) a w' := by
    rintro g h clk a w' ⟨fd, o, ob, z, es, xs, hf', ho, hes, hit, hrnd⟩ R'
    refine wpIn_block (range_ok hC hmix hint R' hca (by rw [hca]; exact hda) hcb (by rw [hcb]; exact hdb) (fun p hp => by simpa using List.all_eq_true.1 hps p hp) hf' ho hes hit hrnd ?_)
    intro e κ2 h2 c2 W D hZ H2 E2 hg2 hX hD hDs
    have R2 : Rel ⟨w, P0, W, κ2, h2, c2, fn.ntmps, { target := .collected D, args := #[] } :: a.defers⟩ g h2 c2 { a with defers := { target := .collected D, args := #[] } :: a.defers } W := ⟨rfl, R'.sz, κ2, H2, Ext.same rfl, hg2⟩
    have leave1 : ∀ (g : Slots) (h : Heap) (clk : Nat) (a' : Act) (w' : World), FinP ts obs own Φ .normal g h clk → Rel ⟨w, P0, W, κ2, h2, c2, fn.ntmps, { target := .collected D, args := #[] } :: a.defers⟩ g h clk a' w' → LeavesInM Fence.wide 0 P fn a'.tmps RR a'.defers .returning w' := by
      intro g h clk a' w' hq R3
      obtain ⟨κ3, H3, E3, hg3⟩ := R3.st
      have hds : a'.defers = [{ target := .collected D, args := #[] }] := by rw [show a'.defers = _ from R3.df, show a.defers = [] from R'.df]
      rw [hds]
      have hD3 := (E3.hX D hX).2.trans hD
      have L := Like.putObj (lo := D) (o' := .deferred none) hD3 not_cells_def not_cells_def (Nat.le_refl _)
      refine ⟨(by intro e; cases e), .inl ⟨D, _, rfl, run_takeDeferred hD3, ?_⟩⟩
      exact fin g h clk a'.tmps _ κ3 hq (L.hr H3 hDs) (L.ext (E2.trans E3) hDs) (fun t => L.vr (hg3 t))
    have go : ∀ (W' : World), W' = W → runL C kpost (FinP ts obs own Φ) g h2 c2 → wpL (Fw none) 0 P post (bodyPostM Fence.wide 0 P fn RR) { a with defers := { target := .collected D, args := #[] } :: a.defers } W := by
      intro _ _ hz
      refine runL_ok (I := ⟨w, P0, W, κ2, h2, c2, fn.ntmps, { target := .collected D, args := #[] } :: a.defers⟩) (rd := none) hC hmix hint post kpost hpost hdpost ⟨?_, fun id => ?_, ?_⟩ R2 hz
      · exact fun g h clk a w' hq R3 => leave1 g h clk a w' hq R3
      · exact fun g h clk a w' hq R3 => hq.elim
      · exact fun g h clk a w' hq R3 => leave1 g h clk a w' hq R3
    cases e with
    | normal => exact go W rfl hZ
    | exit j =>
      simp only [exOf, Exit.inBlock]
      simp only at hZ
      split at hZ
      · next e => rw [if_pos e]; exact go W rfl hZ
      · exact hZ.elim
    | ret => exact leave1 g h2 c2 _ W hZ R2
  have app : ∀ (l m : List Code) {Q : Exit → Act → World → Prop} {a : Act} {w : World}, wpL (Fw none) 0 P l (Exit.then (wpL (Fw none) 0 P m Q) Q) a w → wpL (Fw none) 0 P (l ++ m) Q a w := by
    intro l
    induction l with
    | nil => intro m Q a w h; exact h
    | cons x r ih =>
      intro m Q a w h
      refine wpIn_mono h fun e a w he => ?_
      cases e with
      | normal => exact ih m he
      | _ => exact he
  refine app _ _ (runL_ok (I := ⟨w, P0, w, κ, objs obs, 1, fn.ntmps, []⟩) (rd := none) hC hmix hint pre kpre hpre hdpre ⟨?_, fun id => ?_, ?_⟩ R hk)
  · exact fun g h clk a w' hq R' => key g h clk a w' hq R'
  · exact fun g h clk a w' hq R' => hq.elim
  · exact fun g h clk a w' hq R' => leave0 g h clk a w' hq R'
end Go.AM
namespace Go.AM
/-- The parts of a loop over a function. -/
def rgOf (l : List Code) (i : Nat) : Nat × Operand × Array Nat × Code × Code := match (l[i]?).getD .skip with
  | .block id (.rangeFunc f ps a b) => (id, f, ps, a, b)
  | _ => (0, .const .nilFunc, #[], .skip, .skip)
end Go.AM

/-! RgD -/
open Go Go.AM
namespace FrA
open Go.Proofs Go.RowKit
attribute [local go_sem] Oper.semAt_some
set_option maxRecDepth 100000
set_option maxHeartbeats 2000000
set_option linter.unusedSimpArgs false
def bkXs (es : List (List AV)) : List (List AV) := (List.range es.length).map fun i => [i64 ((es.length - 1 - i : Nat) : Int), .agg (es.getD (es.length - 1 - i) [])]
theorem bk_run (l B off : Nat) (n blk o2 cap : Nat) (hn : n ≤ 1048576) (val : Nat → Nat → Value) (X : Bs) (W0 : World) (hB : X B) (hblk : X blk) (hbox : W0.cell? (at_ B off) = some (.slice (some (at_ blk o2)) n cap))
    (hcell : ∀ e j, e < n → j < 4 → W0.cell? (at_ blk (o2 + e * 4 + j)) = some (val e j)) (J : Nat → World → Prop) (Jx : World → Prop)
    (hY : ∀ i W, i < n → J i W → (∀ b, X b → W.heap[b]? = W0.heap[b]?) → YieldAt Fence.wide 0 Try.prog l #[.int .i64 ((n - 1 - i : Nat) : Int), .agg #[val (n - 1 - i) 0, val (n - 1 - i) 1, val (n - 1 - i) 2, val (n - 1 - i) 3]] W fun e W' => (e = .returned (.bool true) ∧ J (i + 1) W' ∧ ∀ b, X b → W'.heap[b]? = W0.heap[b]?) ∨ (e = .returned (.bool false) ∧ Jx W'))
    (W : World) (h0 : J 0 W) (hX : ∀ b, X b → W.heap[b]? = W0.heap[b]?) :
    CallsIn Fence.wide 0 Try.prog 114 (#[.func (.yield l) #[] #[], .pointer (some (at_ B off))]) W fun e W' => (∃ v, e = .returned v) ∧ (J n W' ∨ Jx W') := by
  have hb' : ∀ W : World, (∀ b, X b → W.heap[b]? = W0.heap[b]?) → W.cell? (at_ B off) = some (.slice (some (at_ blk o2)) n cap) := fun W h => by rw [cell_same (h B hB)]; exact hbox
  have hc' : ∀ W : World, (∀ b, X b → W.heap[b]? = W0.heap[b]?) → ∀ e j, e < n → j < 4 → W.cell? (at_ blk (o2 + e * 4 + j)) = some (val e j) := fun W h e j he hj => by rw [cell_same (h blk hblk)]; exact hcell e j he hj
  refine callsIn_of_wp Try.func114 rfl trivial ?_ rfl
  have hbx := hb' W hX
  simp only [Try.ntmps114, List.size_toArray, List.length_cons, List.length_nil, Nat.reduceAdd, Nat.reduceSub, Array.replicate_succ, Array.replicate_zero, List.push_toArray, List.append_toArray, List.nil_append, List.cons_append]
  gi_wp2
  gi_loopw [3] (fun i wr => ∃ k : Nat, k ≤ n ∧ i = .int .i64 ((n : Int) - 1 - k) ∧ J k wr ∧ ∀ b, X b → wr.heap[b]? = W0.heap[b]?)
    (fun i _ => (intOf i + 1).toNat)
  case atStart => exact ⟨0, Nat.zero_le _, by simp, h0, hX⟩
  case round =>
    obtain ⟨k, hk, rfl, hJs, hs⟩ := hrel
    by_cases hlt : k < n
    · have hbx' := hb' wr hs
      have e0 : ((n - 1 - k : Nat) : Int) = (n : Int) - 1 - k := by omega
      obtain ⟨fn, tmps, assign, body, hy, hR⟩ := hY k wr hlt hJs hs
      rw [e0] at hy
      have c0 : wr.cell? { block := blk, off := o2 + (n - 1 - k) * 4 } = some (val (n - 1 - k) 0) := hc' wr hs (n - 1 - k) 0 (by omega) (by omega)
      have c1 : wr.cell? { block := blk, off := o2 + (n - 1 - k) * 4 + 1 } = some (val (n - 1 - k) 1) := hc' wr hs (n - 1 - k) 1 (by omega) (by omega)
      have c2 : wr.cell? { block := blk, off := o2 + (n - 1 - k) * 4 + 2 } = some (val (n - 1 - k) 2) := hc' wr hs (n - 1 - k) 2 (by omega) (by omega)
      have c3 : wr.cell? { block := blk, off := o2 + (n - 1 - k) * 4 + 3 } = some (val (n - 1 - k) 3) := hc' wr hs (n - 1 - k) 3 (by omega) (by omega)
      gi_wp2
      refine ⟨rfl, hR.mono ?_⟩
      rintro e W3 (⟨rfl, hJ3, hk3⟩ | ⟨rfl, hJx3⟩)
      · gi_wp2
        go_roundw
        case rel => exact ⟨k + 1, by omega, by simp; omega, hJ3, hk3⟩
        case measure => simp [intOf]; omega
      · gi_wp2
        refine bodyPost_ret (results_none rfl _ _ _) rfl ?_
        exact ⟨⟨_, rfl⟩, .inr hJx3⟩
    · obtain rfl : k = n := by omega
      gi_wp2
      go_end0
      exact ⟨⟨_, rfl⟩, .inl hJs⟩
theorem bk_nil (l B off : Nat) (a0 : Option Addr) (cap : Nat) (X : Bs) (W0 : World) (hB : X B) (hbox : W0.cell? (at_ B off) = some (.slice a0 0 cap)) (J : Nat → World → Prop) (Jx : World → Prop)
    (W : World) (h0 : J 0 W) (hX : ∀ b, X b → W.heap[b]? = W0.heap[b]?) :
    CallsIn Fence.wide 0 Try.prog 114 (#[.func (.yield l) #[] #[], .pointer (some (at_ B off))]) W fun e W' => (∃ v, e = .returned v) ∧ (J 0 W' ∨ Jx W') := by
  have hbx : W.cell? (at_ B off) = some (.slice a0 0 cap) := by rw [cell_same (hX B hB)]; exact hbox
  refine callsIn_of_wp Try.func114 rfl trivial ?_ rfl
  simp only [Try.ntmps114, List.size_toArray, List.length_cons, List.length_nil, Nat.reduceAdd, Nat.reduceSub, Array.replicate_succ, Array.replicate_zero, List.push_toArray, List.append_toArray, List.nil_append, List.cons_append]
  gi_wp2
  gi_loopw [3] (fun i wr => i = .int .i64 (-1) ∧ J 0 wr) (fun _ _ => 0)
  case atStart => exact ⟨by simp, h0⟩
  case round =>
    obtain ⟨rfl, hJs⟩ := hrel
    gi_wp2
    go_end0
    exact ⟨⟨_, rfl⟩, .inl hJs⟩
theorem bk_len (es : List (List AV)) : (bkXs es).length = es.length := by simp [bkXs]
theorem bk_it (es : List (List AV)) (hz : ∀ e ∈ es, e.length = 4) (hn : es.length ≤ 1048576) : IterOk Try.prog 114 (.dat 4 es) (bkXs es) := by
  refine ⟨callFunc_run Try.func114 (by kernel_rfl) (by kernel_rfl), fun W0 X B off v hB hcell hro => ?_⟩
  cases hro with
  | dat0 z a cap =>
    refine ⟨fun _ => #[], fun i x hx => by simp [bkXs] at hx, fun l J Jx hY W h0 hX => ?_⟩
    rw [bk_len]
    exact bk_nil l B off a cap X W0 hB hcell J Jx W h0 hX
  | dat es blk o2 cap esz val hbX hl hz' hc hr =>
    have hcl : ∀ e j, e < es.length → j < 4 → ∃ x, cellOf es e j = some x ∧ (es.getD e [])[j]? = some x := fun e j he hj => by
      have hlen := hz es[e] (List.getElem_mem he)
      refine ⟨es[e][j]'(by omega), ?_, ?_⟩
      · unfold cellOf; rw [List.getElem?_eq_getElem he]; simp
      · rw [List.getD_eq_getElem?_getD, List.getElem?_eq_getElem he]; simp
    refine ⟨fun i => #[.int .i64 ((es.length - 1 - i : Nat) : Int), .agg #[val (es.length - 1 - i) 0, val (es.length - 1 - i) 1, val (es.length - 1 - i) 2, val (es.length - 1 - i) 3]], fun i x hx => ?_, fun l J Jx hY W h0 hX => ?_⟩
    · have hi : i < es.length := by have := (List.getElem?_eq_some_iff.1 hx).1; rwa [bk_len] at this
      have ex : x = [i64 ((es.length - 1 - i : Nat) : Int), .agg (es.getD (es.length - 1 - i) [])] := by
        unfold bkXs at hx
        rw [List.getElem?_map, List.getElem?_range hi] at hx
        simpa using hx.symm
      subst ex
      have hk : es.length - 1 - i < es.length := by omega
      have hlen : (es.getD (es.length - 1 - i) []).length = 4 := by rw [List.getD_eq_getElem?_getD, List.getElem?_eq_getElem hk]; exact hz _ (List.getElem_mem hk)
      refine ⟨rfl, fun j y hy => ?_⟩
      match j, hy with
      | 0, hy =>
        cases hy
        exact (Ro.i _ _ : Ro W0 X (i64 ((es.length - 1 - i : Nat) : Int)) (.int .i64 ((es.length - 1 - i : Nat) : Int)))
      | 1, hy =>
        cases hy
        refine (⟨_, rfl, hlen, fun j x hx => ?_⟩ : ∃ vs : Array Value, Value.agg #[val (es.length - 1 - i) 0, val (es.length - 1 - i) 1, val (es.length - 1 - i) 2, val (es.length - 1 - i) 3] = .agg vs ∧ (es.getD (es.length - 1 - i) []).length = vs.size ∧ ∀ (j : Nat) x, (es.getD (es.length - 1 - i) [])[j]? = some x → Ro W0 X x (vs.getD j Go.undef))
        have hj : j < 4 := by have := (List.getElem?_eq_some_iff.1 hx).1; omega
        obtain ⟨x', q1, q2⟩ := hcl _ j hk hj
        rw [q2] at hx; cases hx
        have := hr _ j _ q1
        rcases (by omega : j = 0 ∨ j = 1 ∨ j = 2 ∨ j = 3) with rfl | rfl | rfl | rfl <;> exact this
    · rw [bk_len] at hY ⊢
      refine bk_run l B off es.length blk o2 cap hn val X W0 hB hbX hcell (fun e j he hj => ?_) J Jx hY W h0 hX
      obtain ⟨x, q1, _⟩ := hcl e j he hj
      exact hc e j x q1
end FrA

