/- The relation between the abstract machine's state and the model's world. No condition. -/
import Derived.Test.YtpiegccohgdkdaaAmWp
set_option linter.all false
set_option linter.unusedSimpArgs false
set_option linter.unusedVariables false
set_option linter.deprecated false
namespace Go.AM

abbrev Bs := Nat → Prop

/-- The cell at a place of a block. -/
abbrev at_ (b o : Nat) : Addr := ⟨b, o, none⟩

/-- A cell of a row of elements. -/
def cellOf (es : List (List AV)) (e j : Nat) : Option AV := (es[e]?).bind (·[j]?)

/-- A value that reads as this, in blocks of X alone. -/
inductive Ro (w : World) (X : Bs) : AV → Value → Prop
  | b (x : Bool) : Ro w X (.b x) (.bool x)
  | i (k : IntKind) (n : Int) : Ro w X (.i k n) (.int k n)
  | s (l : List UInt8) : Ro w X (.s l) (.string ⟨l.toArray⟩)
  | nilp : Ro w X .nilp (.pointer none)
  | nils : Ro w X .nils (.slice none 0 0)
  | nilf : Ro w X .nilf .nilFunc
  | undef (v : Value) : Ro w X .undef v
  | dat0 (a : Option Addr) (cap : Nat) : Ro w X (.dat []) (.slice a 0 cap)
  | dat (es : List (List AV)) (blk off cap esz : Nat) (val : Nat → Nat → Value) (hX : X blk) (hl : es.length ≤ cap) (hz : ∀ e ∈ es, e.length = esz)
      (hc : ∀ e j x, cellOf es e j = some x → w.cell? (at_ blk (off + e * esz + j)) = some (val e j))
      (hr : ∀ e j x, cellOf es e j = some x → Ro w X x (val e j)) : Ro w X (.dat es) (.slice (some (at_ blk off)) es.length cap)

/-- A block of the machine's own: its cells are there, and none of them is frozen. -/
def OwnBlk (w : World) (blk n : Nat) : Prop := ∃ c t f, w.heap[blk]? = some (.cells c t f) ∧ n ≤ c.size ∧ ∀ o, o < n → w.frozen? (at_ blk o) = false

/-- A value that reads as this, in blocks of S alone, each of which serves one row. -/
inductive Od (w : World) : Bs → AV → Value → Prop
  | b (S : Bs) (x : Bool) : Od w S (.b x) (.bool x)
  | i (S : Bs) (k : IntKind) (n : Int) : Od w S (.i k n) (.int k n)
  | s (S : Bs) (l : List UInt8) : Od w S (.s l) (.string ⟨l.toArray⟩)
  | nilp (S : Bs) : Od w S .nilp (.pointer none)
  | nils (S : Bs) : Od w S .nils (.slice none 0 0)
  | nilf (S : Bs) : Od w S .nilf .nilFunc
  | undef (S : Bs) (v : Value) : Od w S .undef v
  | dat0 (S : Bs) (a : Option Addr) : Od w S (.dat []) (.slice a 0 0)
  | dat (S : Bs) (es : List (List AV)) (blk off cap esz : Nat) (val : Nat → Nat → Value) (Sf : Nat → Nat → Bs) (hS : S blk) (hl : es.length ≤ cap) (ho : OwnBlk w blk (off + cap * esz)) (hz : ∀ e ∈ es, e.length = esz)
      (hc : ∀ e j x, cellOf es e j = some x → w.cell? (at_ blk (off + e * esz + j)) = some (val e j))
      (hr : ∀ e j x, cellOf es e j = some x → Od w (Sf e j) x (val e j))
      (hs : ∀ e j b, Sf e j b → S b ∧ b ≠ blk) (hd : ∀ e j e' j' b, Sf e j b → Sf e' j' b → e = e' ∧ j = j') : Od w S (.dat es) (.slice (some (at_ blk off)) es.length cap)

theorem cell_same {w w' : World} {b : Nat} (h : w'.heap[b]? = w.heap[b]?) (o : Nat) : w'.cell? (at_ b o) = w.cell? (at_ b o) := by
  simp [World.cell?, h]
theorem frozen_same {w w' : World} {b : Nat} (h : w'.heap[b]? = w.heap[b]?) (o : Nat) : w'.frozen? (at_ b o) = w.frozen? (at_ b o) := by
  simp [World.frozen?, h]
theorem OwnBlk.same {w w' : World} {b n : Nat} (h : w'.heap[b]? = w.heap[b]?) (k : OwnBlk w b n) : OwnBlk w' b n := by
  obtain ⟨c, t, f, h1, h2, h3⟩ := k
  exact ⟨c, t, f, by rw [h, h1], h2, fun o ho => by rw [frozen_same h]; exact h3 o ho⟩

theorem Ro.frame {w w' : World} {X X' : Bs} (hX : ∀ b, X b → X' b) (hw : ∀ b, X b → w'.heap[b]? = w.heap[b]?) {x : AV} {v : Value} (h : Ro w X x v) : Ro w' X' x v := by
  induction h with
  | b x => exact .b x
  | i k n => exact .i k n
  | s l => exact .s l
  | nilp => exact .nilp
  | nils => exact .nils
  | nilf => exact .nilf
  | undef v => exact .undef v
  | dat0 a cap => exact .dat0 a cap
  | dat es blk off cap esz val hb hl hz hc hr ih =>
    exact .dat es blk off cap esz val (hX _ hb) hl hz (fun e j x hx => by rw [cell_same (hw _ hb)]; exact hc e j x hx) (fun e j x hx => ih e j x hx)

theorem Od.frame {w w' : World} {S : Bs} {x : AV} {v : Value} (h : Od w S x v) : ∀ {S' : Bs}, (∀ b, S b → S' b) → (∀ b, S b → w'.heap[b]? = w.heap[b]?) → Od w' S' x v := by
  induction h with
  | b S x => exact fun _ _ => .b _ x
  | i S k n => exact fun _ _ => .i _ k n
  | s S l => exact fun _ _ => .s _ l
  | nilp S => exact fun _ _ => .nilp _
  | nils S => exact fun _ _ => .nils _
  | nilf S => exact fun _ _ => .nilf _
  | undef S v => exact fun _ _ => .undef _ v
  | dat0 S a => exact fun _ _ => .dat0 _ a
  | dat S es blk off cap esz val Sf hS hl ho hz hc hr hs hd ih =>
    intro S' h1 h2
    exact .dat S' es blk off cap esz val Sf (h1 _ hS) hl (ho.same (h2 _ hS)) hz (fun e j x hx => by rw [cell_same (h2 _ hS)]; exact hc e j x hx)
      (fun e j x hx => ih e j x hx (fun b hb => hb) (fun b hb => h2 b (hs e j b hb).1)) (fun e j b hb => ⟨h1 _ (hs e j b hb).1, (hs e j b hb).2⟩) hd

/-- What is the machine's own can be read. -/
theorem Od.ro {w : World} {S : Bs} {x : AV} {v : Value} (h : Od w S x v) : ∀ {X : Bs}, (∀ b, S b → X b) → Ro w X x v := by
  induction h with
  | b S x => exact fun _ => .b x
  | i S k n => exact fun _ => .i k n
  | s S l => exact fun _ => .s l
  | nilp S => exact fun _ => .nilp
  | nils S => exact fun _ => .nils
  | nilf S => exact fun _ => .nilf
  | undef S v => exact fun _ => .undef v
  | dat0 S a => exact fun _ => .dat0 a 0
  | dat S es blk off cap esz val Sf hS hl ho hz hc hr hs hd ih =>
    intro X hX
    exact .dat es blk off cap esz val (hX _ hS) hl hz hc (fun e j x hx => ih e j x hx (fun b hb => hX _ (hs e j b hb).1))

/-! ### The state -/
structure Cfg where
  ι : Rid → Nat × Nat
  re : Rid → Prop
  F : Rid → Nat → Nat → Bs
  A : Bs

/-- The blocks of an object. -/
def Cfg.foot (κ : Cfg) (o : Rid) : Bs := fun b => (κ.re o ∧ b = (κ.ι o).1) ∨ ∃ e j, κ.F o e j b
def Cfg.X (κ : Cfg) (h : Heap) (w : World) : Bs := fun b => b < w.heap.size ∧ κ.A b ∧ ∀ o ob, h o = some ob → ¬ κ.foot o b

/-- A reference's address. -/
def Cfg.addr (κ : Cfg) (o : Rid) (esz e j : Nat) : Addr := at_ (κ.ι o).1 ((κ.ι o).2 + e * esz + j)

def SlOk (w : World) (κ : Cfg) (o : Rid) (ob : Ob) (off len : Nat) (cap : Option Nat) (v : Value) : Prop :=
  (len = 0 ∧ (∃ a, v = .slice a 0 0) ∧ (cap = none → ob.es.length ≤ off)) ∨
  (∃ rc, κ.re o ∧ v = .slice (some (κ.addr o ob.esz off 0)) len rc ∧ off + len ≤ ob.es.length ∧ len ≤ rc ∧ (∀ k, cap = some k → rc = k) ∧ (cap = none → ob.es.length ≤ off + rc) ∧
    OwnBlk w (κ.ι o).1 ((κ.ι o).2 + (off + rc) * ob.esz))

/-- A temporary's value, or a cell's. -/
inductive VR (w : World) (κ : Cfg) (h : Heap) (clk : Nat) : AV → Value → Prop
  | ro (x : AV) (v : Value) (hr : Ro w (κ.X h w) x v) : VR w κ h clk x v
  | ptr (o : Rid) (ver e c : Nat) (v : Value) (hs : ∃ a, v = .pointer a) (hv : ver < clk) (hp : ∀ ob, cur h o ver = some ob → v = .pointer (some (κ.addr o ob.esz e c))) : VR w κ h clk (.ptr o ver e c) v
  | sl (o : Rid) (ver off len : Nat) (cap : Option Nat) (v : Value) (hs : ∃ a l c, v = .slice a l c) (hv : ver < clk) (hp : ∀ ob, cur h o ver = some ob → SlOk w κ o ob off len cap v) : VR w κ h clk (.sl o ver off len cap) v
  | eptr (cells : List AV) (c : Nat) (blk off : Nat) (val : Nat → Value) (hX : κ.X h w blk) (hc : ∀ j x, cells[j]? = some x → w.cell? (at_ blk (off + j)) = some (val j))
      (hr : ∀ j x, cells[j]? = some x → Ro w (κ.X h w) x (val j)) : VR w κ h clk (.eptr cells c) (.pointer (some (at_ blk (off + c))))
  | agg (cs : List AV) (vs : Array Value) (hl : cs.length = vs.size) (hr : ∀ (j : Nat) x, cs[j]? = some x → VR w κ h clk x (vs.getD j undef)) : VR w κ h clk (.agg cs) (.agg vs)
  | tup (cs : List AV) (vs : Array Value) (hl : cs.length = vs.size) (hr : ∀ (j : Nat) x, cs[j]? = some x → VR w κ h clk x (vs.getD j undef)) : VR w κ h clk (.tup cs) (.tuple vs)
  | fn (f : Nat) (cs : List AV) (vs : Array Value) (hl : cs.length = vs.size) (hr : ∀ (j : Nat) x, cs[j]? = some x → VR w κ h clk x (vs.getD j undef)) : VR w κ h clk (.fn f cs) (.func (.func f) #[] vs)

/-- A cell of an object. -/
def CR (w : World) (κ : Cfg) (h : Heap) (clk : Nat) (own : Prop) (S : Bs) (x : AV) (v : Value) : Prop :=
  match x with
  | .dat es => (own → Od w S (.dat es) v) ∧ (¬ own → Ro w (κ.X h w) (.dat es) v)
  | .agg _ | .tup _ => False
  | x => VR w κ h clk x v

structure ObR (w : World) (κ : Cfg) (h : Heap) (clk : Nat) (o : Rid) (ob : Ob) : Prop where
  ver : ob.ver < clk
  esz : ∀ e ∈ ob.es, e.length = ob.esz
  blk : ob.es ≠ [] → κ.re o ∧ OwnBlk w (κ.ι o).1 ((κ.ι o).2 + ob.es.length * ob.esz)
  cells : ∀ e j x, cellOf ob.es e j = some x → ∃ v, w.cell? (κ.addr o ob.esz e j) = some v ∧ CR w κ h clk ob.own (κ.F o e j) x v
  sep : ∀ e j b, κ.F o e j b → b ≠ (κ.ι o).1
  disj : ∀ e j e' j' b, κ.F o e j b → κ.F o e' j' b → e = e' ∧ j = j'

/-- The heap's part. 'w0': the world at the beginning; 'P0': the blocks that were handed over. -/
structure HR (w0 : World) (P0 : Bs) (w : World) (κ : Cfg) (h : Heap) (clk : Nat) : Prop where
  ob : ∀ o ob, h o = some ob → ObR w κ h clk o ob
  apart : ∀ o o' ob ob' b, h o = some ob → h o' = some ob' → o ≠ o' → κ.foot o b → κ.foot o' b → False
  base : ∀ o ob b, h o = some ob → κ.foot o b → (w0.heap.size ≤ b ∨ P0 b) ∧ b < w.heap.size
  os : w.os = w0.os ∧ ∀ a, w.frozen? a = w0.frozen? a
  tape : w.tape = w0.tape
  output : w.output = w0.output
  size : w0.heap.size ≤ w.heap.size
  old : ∀ b, b < w0.heap.size → ¬ P0 b → w.heap[b]? = w0.heap[b]?
  free : ∀ b, (w0.heap.size ≤ b ∨ P0 b) → κ.A b

end Go.AM
