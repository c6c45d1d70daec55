/- The abstract machine's weakest preconditions, over K. No condition. -/
import Derived.Test.YtpiegccohgdkdaaAmCore
set_option linter.all false
set_option linter.unusedSimpArgs false
set_option linter.unusedVariables false
set_option linter.deprecated false
namespace Go.AM

abbrev Slots := Nat → AV
def upd (g : Slots) (t : Nat) (v : AV) : Slots := fun u => if u = t then v else g u
def updO (g : Slots) : Option Nat → AV → Slots
  | some t, v => upd g t v
  | none, _ => g
def hup (h : Heap) (o : Rid) (b : Ob) : Heap := fun u => if u = o then some b else h u
def hdel (h : Heap) (o : Rid) : Heap := fun u => if u = o then none else h u
theorem upd_at (g : Slots) (t u : Nat) (v : AV) : upd g t v u = if u = t then v else g u := rfl
theorem hup_at (h : Heap) (o u : Rid) (b : Ob) : hup h o b u = if u = o then some b else h u := rfl
theorem hdel_at (h : Heap) (o u : Rid) : hdel h o u = if u = o then none else h u := rfl

def ev (g : Slots) : KV → AV
  | .t n => g n
  | .c v => v
  | .f f => .fn f []
  | .bad => .undef

def AV.asB : AV → Option Bool | .b x => some x | _ => none
def AV.asI : AV → Option (IntKind × Int) | .i k n => some (k, n) | _ => none
def AV.asS : AV → Option (List UInt8) | .s l => some l | _ => none
def AV.asAgg : AV → Option (List AV) | .agg l => some l | _ => none
def AV.asTup : AV → Option (List AV) | .tup l => some l | _ => none
def AV.asFn : AV → Option (Nat × List AV) | .fn f l => some (f, l) | _ => none
/-- Has a value a row that would be handed over by value? -/
def AV.rooted : AV → Bool | .sl .. | .agg _ | .tup _ | .fn _ _ => true | _ => false

/-- Each element of a row has so many cells. -/
def Wide (es : List (List AV)) (n : Nat) : Prop := ∀ e ∈ es, e.length = n
/-- A part of a row. -/
def sub (es : List (List AV)) (off len : Nat) : List (List AV) := if off = 0 ∧ len = es.length then es else (es.drop off).take len
def cur (h : Heap) (o : Rid) (ver : Nat) : Option Ob := match h o with | some b => if b.ver = ver then some b else none | none => none

/-- The elements that a slice value shows. -/
def elems (h : Heap) : AV → Option (List (List AV))
  | .nils => some []
  | .dat es => some es
  | .s l => some (l.map fun b => [.i .u8 b.toNat])
  | .sl o v off len _ => (cur h o v).map fun b => sub b.es off len
  | _ => none

mutual
def expA (h : Heap) (os : List Rid) : AV → AV
  | .ptr o v e c => match os.idxOf? o, cur h o v with
    | some k, some _ => .ptr (.p k) 0 e c
    | _, _ => .undef
  | .sl o v off len cap => match os.idxOf? o, cur h o v with
    | some k, some _ => .sl (.p k) 0 off len cap
    | none, some ob => .dat (sub ob.es off len)
    | _, _ => .undef
  | .agg cs => .agg (expL h os cs)
  | .tup cs => .tup (expL h os cs)
  | .fn f cs => .fn f (expL h os cs)
  | v => v
def expL (h : Heap) (os : List Rid) : List AV → List AV
  | [] => []
  | v :: r => expA h os v :: expL h os r
end

/-- May a cell hold it? -/
def AV.storable : AV → Bool
  | .undef | .agg _ | .tup _ => false
  | _ => true

/-! ### Plain operations -/
def fillA : List AV → List (Nat × Nat × List AV) → Option (List AV)
  | z, [] => some z
  | z, (off, n, vs) :: r => if vs.length = n ∧ off + n ≤ z.length ∧ vs.all AV.storable = true then fillA (z.take off ++ vs ++ z.drop (off + n)) r else none

def eqK : SK → AV → AV → Option Bool
  | .bool, .b x, .b y => some (x == y)
  | .int, .i k x, .i k' y => if k = k' then some (x == y) else none
  | .str, .s x, .s y => some (x == y)
  | _, _, _ => none
def eqCells : List SK → List AV → List AV → Option Bool
  | [], [], [] => some true
  | k :: ks, x :: xs, y :: ys => (eqK k x y).bind fun a => (eqCells ks xs ys).bind fun b => some (a && b)
  | _, _, _ => none

def bits2 (op : BinOp) (k : IntKind) (x y : Int) : Int :=
  match op with
  | .and => k.wrap (BitVec.ofInt k.bits x &&& BitVec.ofInt k.bits y).toNat
  | .or => k.wrap (BitVec.ofInt k.bits x ||| BitVec.ofInt k.bits y).toNat
  | .xor => k.wrap (BitVec.ofInt k.bits x ^^^ BitVec.ofInt k.bits y).toNat
  | _ => k.wrap (BitVec.ofInt k.bits x &&& ~~~ BitVec.ofInt k.bits y).toNat
abbrev PV := Option (Prop × AV)
def yes (v : AV) : PV := some (True, v)
def binI (op : BinOp) (k : IntKind) (x y : Int) : PV :=
  match op with
  | .add => yes (.i k (k.wrap (x + y)))
  | .sub => yes (.i k (k.wrap (x - y)))
  | .mul => yes (.i k (k.wrap (x * y)))
  | .quo => some (y ≠ 0, .i k (k.wrap (x.tdiv y)))
  | .rem => some (y ≠ 0, .i k (x.tmod y))
  | .and => yes (.i k (bits2 .and k x y))
  | .or => yes (.i k (bits2 .or k x y))
  | .xor => yes (.i k (bits2 .xor k x y))
  | .andNot => yes (.i k (bits2 .andNot k x y))
  | .eql => yes (.b (x == y))
  | .neq => yes (.b (x != y))
  | .lss => yes (.b (decide (x < y)))
  | .leq => yes (.b (decide (x ≤ y)))
  | .gtr => yes (.b (decide (x > y)))
  | .geq => yes (.b (decide (x ≥ y)))
  | .shl | .shr => none
def binS (op : BinOp) (x y : List UInt8) : PV :=
  match op with
  | .add => some (x.length + y.length ≤ 9223372036854775807, .s (x ++ y))
  | .eql => yes (.b (x == y))
  | .neq => yes (.b (!(x == y)))
  | .lss => yes (.b (Op.bytesLess x y))
  | .leq => yes (.b (Op.bytesLess x y || x == y))
  | .gtr => yes (.b (!(Op.bytesLess x y || x == y)))
  | .geq => yes (.b (!Op.bytesLess x y))
  | _ => none
def eqtF (h : Heap) (t : EqT) (neg : Bool) (x y : AV) : PV :=
  match t, x, y with
  | .bool, .b x, .b y => yes (.b ((x == y) != neg))
  | .ptr, .nilp, .nilp => yes (.b (!neg))
  | .ptr, .nilp, .ptr o v _ _ | .ptr, .ptr o v _ _, .nilp => (cur h o v).bind fun _ => yes (.b neg)
  | .ptr, .nilp, .eptr _ _ | .ptr, .eptr _ _, .nilp => yes (.b neg)
  | .slice, .nils, .nils => yes (.b (!neg))
  | .slice, .dat es, .nils | .slice, .nils, .dat es => some (es ≠ [], .b neg)
  | .slice, .sl o v _ len _, .nils | .slice, .nils, .sl o v _ len _ => (cur h o v).bind fun _ => some (len ≠ 0, .b neg)
  | .func, .nilf, .nilf => yes (.b (!neg))
  | .func, .nilf, .fn _ _ | .func, .fn _ _, .nilf => yes (.b neg)
  | .struct ks, .agg a, .agg b => (eqCells ks a b).bind fun t => yes (.b (t != neg))
  | _, _, _ => none
def binF (op : BinOp) (x y : AV) : PV :=
  match x, y with
  | .i k a, .i k' b => match op with
    | .shl => some (0 ≤ b, .i k (k.wrap (a * 2 ^ (min b.toNat k.bits))))
    | .shr => some (0 ≤ b, .i k (a.fdiv (2 ^ (min b.toNat k.bits))))
    | op => if k = k' then binI op k a b else none
  | .s a, .s b => binS op a b
  | _, _ => none
def unF (op : UnOp) (x : AV) : PV :=
  match op, x with
  | .not, .b t => yes (.b (!t))
  | .neg, .i k n => yes (.i k (k.wrap (0 - n)))
  | .xor, .i k n => yes (.i k (bits2 .xor k (if k.signed then -1 else k.max) n))
  | _, _ => none
/-- A row of bytes, as they are. -/
def bytesOf : List (List AV) → Option (List UInt8)
  | [] => some []
  | [.i .u8 n] :: r => (bytesOf r).map (UInt8.ofNat n.toNat :: ·)
  | _ => none
def convF (h : Heap) (c : KC) (x : AV) : PV :=
  match c, x with
  | .int k, .i _ n => yes (.i k (k.wrap n))
  | .str, .s l => yes (.s l)
  | .b2s, .nils => yes (.s [])
  | .b2s, .dat es => (bytesOf es).bind fun l => yes (.s l)
  | .b2s, .sl o v off len _ => (cur h o v).bind fun ob => (bytesOf (sub ob.es off len)).bind fun l => some (ob.esz = 1, .s l)
  | _, _ => none

def loN : Option AV → Option Int
  | none => some 0
  | some v => v.asI.map (·.2)
def hiN (len : Nat) : Option AV → Option Int
  | none => some len
  | some v => v.asI.map (·.2)
def mm2 (isMax : Bool) : AV → AV → Option AV
  | .i k x, .i k' y => if k = k' then some (.i k (if isMax then max x y else min x y)) else none
  | _, _ => none

def loadF (h : Heap) (agg : Bool) (n : Nat) (a : AV) : PV :=
  match a with
  | .ptr o v e c => (cur h o v).bind fun ob => (ob.es[e]?).bind fun cells =>
      match agg with
      | true => some (c + n ≤ cells.length ∧ (ob.own → Flat [((cells.drop c).take n)]), .agg ((cells.drop c).take n))
      | false => (cells[c]?).bind fun x => some (x.isDat = true → ¬ ob.own, x)
  | .eptr cells c => match agg with
      | true => some (c + n ≤ cells.length, .agg ((cells.drop c).take n))
      | false => (cells[c]?).bind yes
  | _ => none
def nilckF (h : Heap) : AV → PV
  | .ptr o v e c => (cur h o v).bind fun _ => yes (.ptr o v e c)
  | .eptr cells c => yes (.eptr cells c)
  | .fn f c => yes (.fn f c)
  | _ => none
def slcF (h : Heap) (esz : Nat) (x : AV) (lo hi mx : Option AV) : PV :=
  match x with
  | .nils => (loN lo).bind fun l => (hiN 0 hi).bind fun hh => some (0 ≤ l ∧ l ≤ hh ∧ hh ≤ 0 ∧ mx.isNone = true, .nils)
  | .dat es => (loN lo).bind fun l => (hiN es.length hi).bind fun hh => some (0 ≤ l ∧ l ≤ hh ∧ hh ≤ es.length ∧ mx.isNone = true ∧ Wide es esz, .dat (sub es l.toNat (hh - l).toNat))
  | .sl o v off len cap => (cur h o v).bind fun ob => (loN lo).bind fun l => (hiN len hi).bind fun hh =>
      match mx with
      | none => some (ob.esz = esz ∧ 0 ≤ l ∧ l ≤ hh ∧ hh ≤ len, .sl o v (off + l.toNat) (hh - l).toNat (cap.map (· - l.toNat)))
      | some m => (hiN len (some m)).bind fun mm => some (ob.esz = esz ∧ 0 ≤ l ∧ l ≤ hh ∧ hh ≤ len ∧ hh ≤ mm ∧ mm ≤ len, .sl o v (off + l.toNat) (hh - l).toNat (some (mm - l).toNat))
  | _ => none
def slsF (x : AV) (lo hi : Option AV) : PV :=
  (x.asS).bind fun s => (loN lo).bind fun l => (hiN s.length hi).bind fun hh => some (0 ≤ l ∧ l ≤ hh ∧ hh ≤ s.length, .s ((s.drop l.toNat).take (hh - l).toNat))
def fldF (h : Heap) (off : Nat) : AV → PV
  | .ptr o v e c => (cur h o v).bind fun _ => yes (.ptr o v e (c + off))
  | .eptr cells c => some (c + off < cells.length, .eptr cells (c + off))
  | _ => none
def fldvF (agg : Bool) (off n : Nat) : AV → PV
  | .agg cs => match agg with
    | true => some (off + n ≤ cs.length, .agg ((cs.drop off).take n))
    | false => (cs[off]?).bind yes
  | _ => none
def idxF (h : Heap) (esz : Nat) : AV → AV → PV
  | .dat es, .i _ n => (es[n.toNat]?).bind fun cells => some (0 ≤ n ∧ cells.length = esz, .eptr cells 0)
  | .sl o v off len _, .i _ n => (cur h o v).bind fun ob => some (ob.esz = esz ∧ 0 ≤ n ∧ n < len, .ptr o v (off + n.toNat) 0)
  | _, _ => none
def idsF : AV → AV → PV
  | .s l, .i _ n => (l[n.toNat]?).bind fun b => some (0 ≤ n, .i .u8 b.toNat)
  | _, _ => none
def extF (i : Nat) : AV → PV
  | .tup vs => (vs[i]?).bind yes
  | _ => none
def lenF (h : Heap) (str : Bool) : AV → PV
  | .s l => match str with | true => yes (i64 l.length) | false => none
  | .nils => match str with | true => none | false => yes (i64 0)
  | .dat es => match str with | true => none | false => yes (i64 es.length)
  | .sl o v _ n _ => match str with | true => none | false => (cur h o v).bind fun _ => yes (i64 n)
  | _ => none
def mmF (m : Bool) : List AV → PV
  | x :: r => (r.foldlM (mm2 m) x).bind yes
  | [] => none
def pickF : AV → AV → AV → PV
  | .b t, a, b => yes (if t then a else b)
  | _, _, _ => none
def buildF (z : List AV) (ps : List (Nat × Nat × AV)) : PV := (fillA z (ps.map fun (off, n, x) => (off, n, x.cells))).bind fun cs => yes (.agg cs)

/-- Operations that make a value and touch nothing. -/
def kv (h : Heap) (g : Slots) (o : KO) : PV :=
  match o with
  | .mv x => yes (ev g x)
  | .pick c x y => pickF (ev g c) (ev g x) (ev g y)
  | .build z ps => buildF z (ps.map fun (off, n, x) => (off, n, ev g x))
  | .load agg n x => loadF h agg n (ev g x)
  | .nilck x => nilckF h (ev g x)
  | .bin op x y => binF op (ev g x) (ev g y)
  | .eqt t n x y => eqtF h t n (ev g x) (ev g y)
  | .un op x => unF op (ev g x)
  | .conv c x => convF h c (ev g x)
  | .slc esz x lo hi mx => slcF h esz (ev g x) (lo.map (ev g)) (hi.map (ev g)) (mx.map (ev g))
  | .sls x lo hi => slsF (ev g x) (lo.map (ev g)) (hi.map (ev g))
  | .fld off x => fldF h off (ev g x)
  | .fldv agg off n x => fldvF agg off n (ev g x)
  | .idx esz x i => idxF h esz (ev g x) (ev g i)
  | .ids x i => idsF (ev g x) (ev g i)
  | .ext x i => extF i (ev g x)
  | .len b x => lenF h b (ev g x)
  | .mm m xs => mmF m (xs.map (ev g))
  | .mkf f capt => yes (.fn f (capt.map (ev g)))
  | _ => none

/-! ### Values stored into a row -/
def chunk (esz : Nat) : Nat → List AV → List (List AV)
  | 0, _ => []
  | n + 1, cs => cs.take esz :: chunk esz n (cs.drop esz)

def bigOk (n bytes : Nat) : Prop := n * bytes ≤ 140737488355328

/-- A contract: callee, arguments, objects handed over, is all of the result the callee's own, what may come back: a result, and the objects then. -/
abbrev Con := Nat → List AV → List Ob → Bool → (AV → List Ob → Prop) → Prop
/-- One answer alone. -/
def Con.det (C : Con) (f : Nat) (args : List AV) (obs : List Ob) (r : AV) (own : Bool) (obs' : List Ob) : Prop := C f args obs own fun r' o' => r' = r ∧ o' = obs'

abbrev Post := Slots → Heap → Nat → Prop

/-- Where an object comes from behind a call: the objects that were handed over, and those that come back. 't': the call's name; 'n': how many there are. -/
def tgt (os : List Rid) (t n : Nat) : Rid → Option Nat
  | .r t' j => if t' = t ∧ os.length + j < n then some (os.length + j) else os.idxOf? (.r t' j)
  | u => os.idxOf? u
/-- What a call leaves of the objects that were handed over, and what it gives back. -/
def hcall (h : Heap) (os : List Rid) (obs : List Ob) (t c : Nat) : Heap := fun u => match tgt os t obs.length u with
  | some k => if k < os.length then (h u).bind fun b => (obs[k]?).map fun b' => { b' with ver := b.ver, fixed := b.fixed } else (obs[k]?).map fun b' => { b' with ver := c }
  | none => h u
def nclk (c : Nat) (os : List Rid) (obs : List Ob) : Nat := if os.length < obs.length then c + 1 else c
mutual
/-- A result, as the caller names it. -/
def impA (t n c : Nat) : AV → AV
  | .sl (.p k) _ off len cap => .sl (.r t (k - n)) c off len cap
  | .ptr (.p k) _ e j => .ptr (.r t (k - n)) c e j
  | .agg cs => .agg (impL t n c cs)
  | .tup cs => .tup (impL t n c cs)
  | v => v
def impL (t n c : Nat) : List AV → List AV
  | [] => []
  | v :: r => impA t n c v :: impL t n c r
end

/-- Cells that stay what they are when they are handed over by value. -/
def AV.pure : AV → Bool
  | .b _ | .i _ _ | .s _ | .nilp | .nils | .nilf | .dat _ => true
  | _ => false
def Pure (es : List (List AV)) : Prop := ∀ e ∈ es, ∀ c ∈ e, c.pure = true
/-- May a value be handed over? -/
def ExpOk (h : Heap) (os : List Rid) : AV → Prop
  | .sl o v off len _ => match os.idxOf? o, cur h o v with
    | none, some ob => Pure ob.es ∧ off + len ≤ ob.es.length
    | some _, some _ => True
    | _, none => False
  | .ptr o v _ _ => match os.idxOf? o, cur h o v with
    | some _, some _ => True
    | _, _ => False
  | .agg cs | .tup cs | .fn _ cs => ∀ c ∈ cs, match c with
    | .sl o v off len _ => match os.idxOf? o, cur h o v with
      | none, some ob => Pure ob.es ∧ off + len ≤ ob.es.length
      | some _, some _ => True
      | _, none => False
    | .ptr o v _ _ => match os.idxOf? o, cur h o v with
      | some _, some _ => True
      | _, _ => False
    | c => c.pure = true
  | c => c.pure = true

def kcall (C : Con) (d : Option Nat) (f : AV) (args : List AV) (Q : Post) (g : Slots) (h : Heap) (c : Nat) : Prop :=
  ∃ fid capt, f = .fn fid capt ∧ ∃ (os : List Rid) (obs : List Ob) (own : Bool) (Φ : AV → List Ob → Prop),
      C fid (expL h os (args ++ capt)) obs own Φ ∧ os.map (fun o => (h o).map (fun b => { b with ver := 0, fixed := true })) = obs.map some ∧ os.Nodup ∧
      (∀ a ∈ args ++ capt, ExpOk h os a) ∧ (∀ b ∈ obs, Pure b.es) ∧ (own = true ∨ ∀ a ∈ args ++ capt, a.rooted = false) ∧
      ∀ r obs', Φ r obs' → obs.length ≤ obs'.length ∧ (∀ b ∈ obs', Pure b.es) ∧ (own = true → ∀ b ∈ obs', b.own ∨ Flat b.es) ∧
      Q (updO g d (impA (d.getD 0) os.length c r)) (hcall h os obs' (d.getD 0) c) (nclk c os obs')

/-- Values that know nothing of the heap. -/
def AV.free : AV → Bool
  | .agg cs | .tup cs | .fn _ cs => cs.all AV.pure
  | c => c.pure
/-- A call that is handed values alone. -/
def kcall0 (C : Con) (f : AV) (args : List AV) (r : AV) : Prop :=
  ∃ fid capt own, f = .fn fid capt ∧ C.det fid (args ++ capt) [] r own [] ∧ (∀ t n c, impA t n c r = r) ∧ (∀ a ∈ args ++ capt, a.free = true) ∧ (own = true ∨ ∀ a ∈ args ++ capt, a.rooted = false)

def Rid.isL : Rid → Bool | .l _ => true | _ => false
/-- A call that is handed objects (none that was made here), and gives none back. -/
def kcallh (C : Con) (f : AV) (args : List AV) (r : AV) (h h' : Heap) : Prop :=
  ∃ fid capt own os obs obs', f = .fn fid capt ∧ C.det fid (expL h os (args ++ capt)) obs r own obs' ∧ os.map (fun o => (h o).map (fun b => { b with ver := 0, fixed := true })) = obs.map some ∧ os.Nodup ∧ (∀ o ∈ os, o.isL = false) ∧ obs'.length = obs.length ∧
    (∀ a ∈ args ++ capt, ExpOk h os a ∧ (a.free = true ∨ match a with | .ptr o _ _ _ | .sl o _ _ _ _ => o ∈ os | _ => False)) ∧ (∀ b ∈ obs, Pure b.es) ∧ (∀ b ∈ obs', Pure b.es) ∧ (own = true ∨ ∀ a ∈ args ++ capt, a.rooted = false) ∧
    (own = true → ∀ b ∈ obs', b.own ∨ Flat b.es) ∧ (∀ t n c, impA t n c r = r) ∧ h' = hcall h os obs' 0 0

/-- A condition, and the heap behind a store. -/
def storeF (h : Heap) (n : Nat) (a v : AV) : Option (Prop × Heap) :=
  match a with
  | .ptr o ver e j => (cur h o ver).bind fun ob => (ob.es[e]?).bind fun cells =>
      some (v.cells.length = n ∧ j + n ≤ cells.length ∧ v.cells.all AV.storable = true, hup h o { ob with es := ob.es.set e (cells.take j ++ v.cells ++ cells.drop (j + n)), own := ob.own ∧ NoDat v.cells })
  | _ => none

abbrev PE := Option (Prop × AV × Heap × Nat)
/-- Elements of so many cells, each of which a cell may hold. -/
def Good (es : List (List AV)) (n : Nat) : Prop := ∀ e ∈ es, e.length = n ∧ e.all AV.storable = true
/-- What is appended: a condition, and the elements. -/
def srcF (h : Heap) (esz : Nat) : AV → Option (Prop × List (List AV))
  | .nils => some (True, [])
  | .dat es => some (Good es esz, es)
  | .s l => some (esz = 1, l.map fun b => [.i .u8 b.toNat])
  | .sl o v off len _ => (cur h o v).bind fun ob => some (ob.esz = esz ∧ (ob.own → Flat (sub ob.es off len)) ∧ Good (sub ob.es off len) esz, sub ob.es off len)
  | _ => none
def appF (esz bytes : Nat) (t : Nat) (s x : AV) (h : Heap) (c : Nat) : PE :=
  (srcF h esz x).bind fun (px, xs) => match s with
    | .nils => match xs with
      | [] => some (px, .nils, h, c)
      | y :: ys => some (px ∧ bigOk (y :: ys).length bytes ∧ (y :: ys).length ≤ 9223372036854775807, .sl (.l t) c 0 (y :: ys).length none,
          hup (h) (.l t) { ver := c, es := y :: ys, esz := esz, own := Flat (y :: ys) }, c + 1)
    | .sl o v off len cap => (cur h o v).bind fun ob => if len = ob.es.length then
          some (px ∧ ob.esz = esz ∧ off = 0 ∧ ob.fixed = false ∧ bigOk (len + xs.length) bytes ∧ len + xs.length ≤ 9223372036854775807, .sl o c 0 (len + xs.length) none,
            hup (h) o { ob with ver := c, es := ob.es ++ xs, own := ob.own ∧ Flat xs }, c + 1)
        else some (px ∧ ob.esz = esz ∧ off = 0 ∧ ob.fixed = false ∧ cap = none ∧ len + xs.length ≤ ob.es.length, .sl o v 0 (len + xs.length) none,
            hup (h) o { ob with es := ob.es.take len ++ xs ++ ob.es.drop (len + xs.length), own := ob.own ∧ Flat xs }, c)
    | _ => none
def bslF (esz n : Nat) (z : List AV) (t : Nat) (ps : List (Nat × AV)) (h : Heap) (c : Nat) : PE :=
  (fillA ((List.replicate n z).flatten) (ps.map fun (j, x) => (j * esz, esz, x.cells))).bind fun cs =>
    some (n * esz ≤ 16777216 ∧ z.length = esz, .sl (.l t) c 0 n (some n), hup h (.l t) { ver := c, es := chunk esz n cs, esz := esz, own := NoDat cs }, c + 1)
def mksF (esz bytes : Nat) (z : List AV) (t : Nat) (l cp : AV) (h : Heap) (c : Nat) : PE :=
  l.asI.bind fun (_, a) => cp.asI.bind fun (_, b) => some (a = b ∧ 0 ≤ a ∧ bigOk a.toNat bytes ∧ a ≤ 9223372036854775807 ∧ z.length = esz,
    .sl (.l t) c 0 a.toNat none, hup h (.l t) { ver := c, es := List.replicate a.toNat z, esz := esz, own := NoDat z }, c + 1)
def allocF (cs : List AV) (t : Nat) (h : Heap) (c : Nat) : PE :=
  some (True, .ptr (.l t) c 0 0, hup h (.l t) { ver := c, es := [cs], esz := cs.length, fixed := true, own := False }, c + 1)

def boxF (x : AV) (t : Nat) (h : Heap) (c : Nat) : PE :=
  some (x.cells.all AV.storable = true, .ptr (.l t) c 0 0, hup h (.l t) { ver := c, es := [x.cells], esz := x.cells.length, fixed := true, own := False }, c + 1)

/-- Operations that make memory. -/
def ke (t : Nat) (o : KO) (g : Slots) (h : Heap) (c : Nat) : PE :=
  match o with
  | .alloc cs => allocF cs t h c
  | .box x => boxF (ev g x) t h c
  | .bslice esz n z ps => bslF esz n z t (ps.map fun (j, x) => (j, ev g x)) h c
  | .mks esz bytes z l cp => mksF esz bytes z t (ev g l) (ev g cp) h c
  | .app esz bytes _ s x => appF esz bytes t (ev g s) (ev g x) h c
  | _ => none

def kop (C : Con) (d : Option Nat) (o : KO) (Q : Post) (g : Slots) (h : Heap) (c : Nat) : Prop :=
  match o with
  | .store n a v => ∃ p h', storeF h n (ev g a) (ev g v) = some (p, h') ∧ p ∧ Q (updO g d .undef) h' c
  | .call f args => kcall C d (ev g f) (args.map (ev g)) Q g h c
  | .call0 f args => ∃ r, kcall0 C (ev g f) (args.map (ev g)) r ∧ Q (updO g d r) h c
  | .callh f args => ∃ r h', kcallh C (ev g f) (args.map (ev g)) r h h' ∧ Q (updO g d r) h' c
  | .alloc .. | .box .. | .bslice .. | .mks .. | .app .. => ∃ t p v h' c', d = some t ∧ ke t o g h c = some (p, v, h', c') ∧ p ∧ Q (upd g t v) h' c'
  | o => ∃ p v, kv h g o = some (p, v) ∧ p ∧ Q (updO g d v) h c

/-! ### Code -/
inductive Ex where
  | normal | exit (id : Nat) | ret

def kops (C : Con) : List KOp → Post → Post
  | [], Q, g, h, c => Q g h c
  | o :: r, Q, g, h, c => match o.g with
    | none => kop C o.d o.o ((kops C r Q)) g h c
    | some (t, w) => ∃ x, g t = .b x ∧ (x = w → kop C o.d o.o (kops C r Q) (upd g t (.b w)) h c) ∧ (x = !w → kops C r Q (updO (upd g t (.b (!w))) o.d .undef) h c)

/-- A ghost step: it changes what we hold, not what is. -/
inductive Gh : Slots → Heap → Nat → Slots → Heap → Nat → Prop
  | refl (g h c) : Gh g h c g h c

def Ex.then (A : Post) (Q : Ex → Post) : Ex → Post
  | .normal => A
  | e => Q e
def Ex.inBlock (id : Nat) (Q : Ex → Post) : Ex → Post
  | .exit j => fun g h c => if j = id then Q .normal g h c else Q (.exit j) g h c
  | e => Q e

def kwp (C : Con) : K → (Ex → Post) → Post
  | .skip, Q, g, h, c => Q .normal g h c
  | .reg ops, Q, g, h, c => kops C ops (Q .normal) g h c
  | .dreg ops _, Q, g, h, c => kops C ops (Q .normal) g h c
  | .seq a b, Q, g, h, c => kwp C a (Ex.then (kwp C b Q) Q) g h c
  | .cond (.t t) a b, Q, g, h, c => ∃ x, g t = .b x ∧ (x = true → kwp C a Q (upd g t (.b true)) h c) ∧ (x = false → kwp C b Q (upd g t (.b false)) h c)
  | .cond v a b, Q, g, h, c => ∃ x, ev g v = .b x ∧ (x = true → kwp C a Q g h c) ∧ (x = false → kwp C b Q g h c)
  | .block id k, Q, g, h, c => kwp C k (Ex.inBlock id Q) g h c
  | .loop k, Q, g, h, c => ∃ (I : Post) (μ : Slots → Heap → Nat → Nat), I g h c ∧ ∀ g h c, I g h c → kwp C k (Ex.then (fun g' h' c' => I g' h' c' ∧ μ g' h' c' < μ g h c) Q) g h c
  | .exit id, Q, g, h, c => Q (.exit id) g h c
  | .ret, Q, g, h, c => Q .ret g h c
  | .gh, Q, g, h, c => ∃ g' h' c', Gh g h c g' h' c' ∧ Q .normal g' h' c'
  | .bad, _, _, _, _ => False

theorem hcall_nil (h : Heap) (t c : Nat) : hcall h [] [] t c = h := by
  funext u
  unfold hcall
  have e : tgt [] t 0 u = none := by cases u <;> simp [tgt]
  show (match tgt [] t 0 u with | some k => _ | none => h u) = h u
  rw [e]
end Go.AM
