/- The abstract machine: values, heap, a small language K, its weakest preconditions. No condition. -/
import Derived.Calls
import Derived.Tactics
import Derived.Orders
import Derived.Test.YtbhdjaccdaccbaaGreatAmG00
set_option linter.all false
set_option linter.unusedSimpArgs false
set_option linter.unusedVariables false
set_option linter.deprecated false
/-! Core -/
section
namespace Go.AM

/-- A root's name: a parameter's object, or one that the function made (by its temporary's number), or a part of a call's result. -/
inductive Rid where
  | p (n : Nat) | l (n : Nat) | r (n k : Nat)
  deriving DecidableEq

/-- Abstract values. 'dat': a slice that is read by value (its elements' cells). -/
inductive AV where
  | b (v : Bool) | i (k : IntKind) (n : Int) | s (l : List UInt8)
  | nilp | nils | nilf | undef
  | ptr (o : Rid) (ver e c : Nat)
  | sl (o : Rid) (ver off len : Nat) (cap : Option Nat)
  | dat (z : Nat) (es : List (List AV))
  | eptr (cells : List AV) (c : Nat)
  | agg (cs : List AV) | tup (vs : List AV)
  | fn (f : Nat) (capt : List AV)

/-- What the program's variables hold, those that are looked at. -/
def globs (n : Nat) : List AV := (globT n).map fun | some (k, m) => .i k m | none => .undef
abbrev i64 (n : Int) : AV := .i .i64 n
abbrev u8 (n : Int) : AV := .i .u8 n

def AV.isDat : AV → Bool | .dat _ _ => true | _ => false
/-- No cell of these is a slice that is held by value. -/
def NoDat (cs : List AV) : Prop := ∀ c ∈ cs, c.isDat = false
def Flat (es : List (List AV)) : Prop := ∀ e ∈ es, NoDat e

structure Ob where
  ver : Nat
  es : List (List AV)
  esz : Nat
  own : Prop := True
  fixed : Bool := false
  tmp : Bool := false

abbrev Heap := Rid → Option Ob

structure St where
  g : Nat → AV
  h : Heap
  clk : Nat

def St.put (σ : St) (t : Nat) (v : AV) : St := { σ with g := fun u => if u = t then v else σ.g u }
def St.hset (σ : St) (o : Rid) (b : Ob) : St := { σ with h := fun u => if u = o then some b else σ.h u }
inductive KV where
  | t (n : Nat) | c (v : AV) | f (n : Nat) | g (n : Nat) | bad

inductive KC where
  | int (k : IntKind) | str | s2b | b2s | bad

/-- What is held against each other by == : truths, addresses, slices and functions against nil, structs of numbers, texts and truths. -/
inductive SK where
  | bool | int | str
inductive EqT where
  | bool | ptr | slice | func | struct (ks : List SK)

inductive KO where
  | mv (x : KV) | pick (c a b : KV)
  | alloc (cells : List AV) | box (x : KV)
  | build (zero : List AV) (parts : List (Nat × Nat × KV))
  | bslice (esz len : Nat) (zero : List AV) (parts : List (Nat × KV))
  | load (agg : Bool) (n : Nat) (a : KV) | store (n : Nat) (a v : KV)
  | nilck (x : KV)
  | bin (op : BinOp) (x y : KV) | eqt (t : EqT) (neg : Bool) (x y : KV) | eqn (neg : Bool) (x y : KV) | un (op : UnOp) (x : KV) | conv (c : KC) (x : KV)
  | mks (esz bytes : Nat) (zero : List AV) (len cap : KV)
  | slc (esz : Nat) (x : KV) (lo hi mx : Option KV) | sls (x : KV) (lo hi : Option KV)
  | fld (off : Nat) (a : KV) | fldv (agg : Bool) (off n : Nat) (x : KV)
  | idx (esz : Nat) (x i : KV) | ids (x i : KV) | idxa (n esz : Nat) (x i : KV) | slca (n esz : Nat) (x : KV) (lo hi : Option KV)
  | ext (x : KV) (i : Nat)
  | len (str : Bool) (x : KV) | cap (x : KV)
  | app (esz bytes : Nat) (zero : List AV) (s x : KV)
  | appz (esz bytes : Nat) (zero : List AV) (s x : KV)
  | cpy (esz : Nat) (d s : KV) | clr (esz : Nat) (zero : List AV) (x : KV)
  | mm (isMax : Bool) (xs : List KV)
  | call (f : KV) (args : List KV) | call0 (f : KV) (args : List KV) | callh (f : KV) (args : List KV) | callg (f : KV) (args : List KV)
  | mkf (f : Nat) (capt : List KV)
  | mk4 (o : KO) | callc (f : Nat) (args : List KV) | callv (f : KV) (args : List KV) | calln (f : KV) (args : List KV)
  | ldl (m : Nat) (agg : Bool) (n : Nat) (a : KV) | stl (m : Nat) (n : Nat) (a v : KV)
  | gh
  | bad

structure KOp where
  d : Option Nat
  g : Option (Nat × Bool)
  o : KO

inductive K where
  | skip | reg (ops : List KOp) | dreg (ops : List KOp) (w : List (List Nat)) | seq (a b : K) | cond (c : KV) (a b : K)
  | block (id : Nat) (k : K) | loop (k : K) | exit (id : Nat) | ret | bad

/-! ## From the model's code -/
def cval : Value → AV
  | .bool b => .b b
  | .int k n => .i k n
  | .string s => .s s.data.toList
  | .pointer none => .nilp
  | .slice none 0 0 => .nils
  | .nilFunc => .nilf
  | .agg cs => .agg (cs.toList.map fun | .bool b => .b b | .int k n => .i k n | .string s => .s s.data.toList | .pointer none => .nilp | .slice none 0 0 => .nils | .nilFunc => .nilf | _ => .undef)
  | _ => .undef
def cv : Operand → KV
  | .tmp t => .t t
  | .const v => .c (cval v)
  | .func f => .f f
  | .global n => if globs n = [] then .bad else .g n
def isAggT (P : Program) (t : TypeId) : Bool := match P.underlying t with | some (.struct _) | some (.array _ _) => true | _ => false
def AV.cells : AV → List AV
  | .agg cs => cs
  | v => [v]
def zeroT (P : Program) (t : TypeId) : List AV := match (P.info? t).bind (·.zero) with | some z => (cval z).cells | none => []
def fieldT (P : Program) (t : TypeId) (f : Nat) : Option Field := match P.underlying t with | some (.struct fs) => fs[f]? | _ => none
def elemT (P : Program) (t : TypeId) : Option TypeId := match P.underlying t with | some (.slice e) => if (P.info? e).isSome then some e else none | _ => none
def arrT (P : Program) (t : TypeId) : Option (Nat × TypeId) := match P.underlying t with | some (.array n e) => if (P.info? e).isSome then some (n, e) else none | _ => none
def isIntT (P : Program) (t : TypeId) : Option IntKind := match P.underlying t with | some (.int k) => some k | _ => none
def isStrT (P : Program) (t : TypeId) : Bool := match P.underlying t with | some .string => true | _ => false

def ccall (P : Program) (c : Call) : KO :=
  match c.callee with
  | .value f => .call (cv f) (c.args.toList.map cv)
  | .builtin b =>
    match b, c.args.toList.map cv, c.argTypes.toList with
    | .len, [x], [t] => if isStrT P t then .len true x else match elemT P t with
      | some _ => .len false x
      | none => .bad
    | .cap, [x], [t] => match elemT P t with
      | some _ => .cap x
      | none => .bad
    | .append, [s, x], [st, xt] => match elemT P st with
      | some e => if ((P.info? e).bind (·.zero)).isSome && (zeroT P e).length == P.cellsOf e && (isStrT P xt || (elemT P xt).isSome) then .app (P.cellsOf e) (P.bytesOf e) (zeroT P e) s x
        else if ((P.info? e).bind (·.zero)).isSome && (zeroT P e).length == P.cellsOf e && (isIntT P xt).isSome then .appz (P.cellsOf e) (P.bytesOf e) (zeroT P e) s x else .bad
      | _ => .bad
    | .copy, [d, s], [dt, st] => match elemT P dt with
      | some e => if isStrT P st || (elemT P st).isSome then .cpy (P.cellsOf e) d s else .bad
      | none => .bad
    | .clear, [x], [t] => match elemT P t with
      | some e => if ((P.info? e).bind (·.zero)).isSome && (zeroT P e).length == P.cellsOf e then .clr (P.cellsOf e) (zeroT P e) x else .bad
      | none => .bad
    | .min, xs, _ => .mm false xs
    | .max, xs, _ => .mm true xs
    | _, _, _ => .bad
  | _ => .bad

/-- A struct of numbers, texts and truths (and of such structs): its cells, one behind the other. -/
def flatF (P : Program) (rec : TypeId → Option (List SK)) : List Field → Nat → Option (List SK)
  | [], _ => some []
  | f :: fs, off => if f.name != "_" && f.offset == off && (P.info? f.type).isSome && (P.underlying f.type).isSome then
      match rec f.type with
      | some ks => if P.cellsOf f.type == ks.length && (isAggT P f.type || ks.length == 1) then (flatF P rec fs (off + ks.length)).map (ks ++ ·) else none
      | none => none
    else none
def flatT (P : Program) : Nat → TypeId → Option (List SK)
  | 0, _ => none
  | d + 1, t => match P.underlying t with
    | some .bool => some [.bool]
    | some (.int _) => some [.int]
    | some .string => some [.str]
    | some (.struct fs) => if P.stoodInHeld t then none else flatF P (flatT P d) fs.toList 0
    | _ => none
def ceq (P : Program) (neg : Bool) (t : TypeId) (x y : KV) : KO :=
  match P.underlying t with
  | some (.int _) | some .string => .bin (if neg then .neq else .eql) x y
  | some .bool => .eqt .bool neg x y
  | some (.pointer _) => .eqt .ptr neg x y
  | some (.slice _) => .eqn neg x y
  | some (.func _ _ _) => .eqt .func neg x y
  | some (.struct _) => match flatT P 8 t with
    | some ks => if P.eqGuardType P.depth t then .bad else .eqt (.struct ks) neg x y
    | none => .bad
  | _ => .bad

def co (P : Program) (op : Op) : KO :=
  match op with
  | .move x | .assign x => .mv (cv x)
  | .pick c a b => .pick (cv c) (cv a) (cv b)
  | .alloc t => if ((P.info? t).bind (·.zero)).isSome then .alloc (zeroT P t) else .bad
  | .box t x => .box (cv x)
  | .build t ps => match P.underlying t with
    | some (.struct fs) => if ((P.info? t).bind (·.zero)).isSome && fs.all (fun f => (P.info? f.type).isSome) && ps.all (fun x => x.1 < fs.size) then .build (zeroT P t) (ps.toList.map fun (i, x) => ((fs[i]?).elim 0 (·.offset), (fs[i]?).elim 0 (fun f => P.cellsOf f.type), cv x)) else .bad
    | _ => .bad
  | .buildSlice t n ps => match elemT P t with
    | some e => if ((P.info? e).bind (·.zero)).isNone then .bad else .bslice (P.cellsOf e) n (zeroT P e) (ps.toList.map fun (i, x) => (i, cv x))
    | none => .bad
  | .load t a => if (P.info? t).isSome && (P.underlying t).isSome && (isAggT P t || P.cellsOf t == 1) then .load (isAggT P t) (P.cellsOf t) (cv a) else .bad
  | .store t a v => if (P.info? t).isSome then .store (P.cellsOf t) (cv a) (cv v) else .bad
  | .nilCheck x => .nilck (cv x)
  | .binOp op t x y _ => match op with
    | .eql => ceq P false t (cv x) (cv y)
    | .neq => ceq P true t (cv x) (cv y)
    | op => .bin op (cv x) (cv y)
  | .unOp op _ x => .un op (cv x)
  | .convert s d x => if (P.underlying s).isNone then .bad else match isIntT P d, isStrT P d, isStrT P s with
    | some k, _, _ => .conv (.int k) (cv x)
    | none, true, true => .conv .str (cv x)
    | none, true, false => match (elemT P s).bind (isIntT P) with
      | some .u8 => .conv .b2s (cv x)
      | _ => .bad
    | none, false, true => match (elemT P d).bind (isIntT P) with
      | some .u8 => .conv .s2b (cv x)
      | _ => .bad
    | _, _, _ => .bad
  | .makeSlice t l c => match elemT P t with
    | some e => if ((P.info? e).bind (·.zero)).isNone then .bad else .mks (P.cellsOf e) (P.bytesOf e) (zeroT P e) (cv l) (cv c)
    | none => .bad
  | .slice t x lo hi mx => if mx.isSome && hi.isNone then .bad else if isStrT P t then (if mx.isSome then .bad else .sls (cv x) (lo.map cv) (hi.map cv)) else match elemT P t with
    | some e => .slc (P.cellsOf e) (cv x) (lo.map cv) (hi.map cv) (mx.map cv)
    | none => if mx.isSome then .bad else match arrT P t with
      | some (n, e) => .slca n (P.cellsOf e) (cv x) (lo.map cv) (hi.map cv)
      | none => .bad
  | .fieldAddr t x f => match fieldT P t f with
    | some fd => if P.cellsOf fd.type = 0 || (P.info? fd.type).isNone then .bad else .fld fd.offset (cv x)
    | none => .bad
  | .field t x f => match fieldT P t f with
    | some fd => if (P.info? fd.type).isSome && (P.underlying fd.type).isSome && (isAggT P fd.type || P.cellsOf fd.type == 1) then .fldv (isAggT P fd.type) fd.offset (P.cellsOf fd.type) (cv x) else .bad
    | none => .bad
  | .indexAddr t x i => match elemT P t with
    | some e => .idx (P.cellsOf e) (cv x) (cv i)
    | none => match arrT P t with
      | some (n, e) => .idxa n (P.cellsOf e) (cv x) (cv i)
      | none => .bad
  | .index t x i => if isStrT P t then .ids (cv x) (cv i) else .bad
  | .extract x i => .ext (cv x) i
  | .call c => ccall P c
  | .makeFunc (.func f) first capt => if first.size = 0 then .mkf f (capt.toList.map cv) else .bad
  | _ => .bad

/-- 'n': how many temporaries there are. -/
def cop (P : Program) (n : Nat) (ops : Array Oper) (o : Oper) : KOp :=
  ⟨o.dst, o.guard.map fun (j, w) => ((((ops[j]?).bind (·.dst)).getD n), w), if o.dst.all (· < n) then co P o.op else .bad⟩

/-- In a region whose order is drawn a call hands over no objects, but for those that 'hint' names. -/
def KO.makes : KO → Bool | .alloc .. | .box .. | .bslice .. | .mks .. | .app .. => true | _ => false
def KO.drawn (m : Nat) (hint : Nat → Nat) : KO → KO
  | .call (.f n) as => match hint n with
    | 1 => .callh (.f n) as
    | 5 => .callg (.f n) as
    | 2 => .callc n as
    | 3 => .callv (.f n) as
    | 4 => .calln (.f n) as
    | _ => .call0 (.f n) as
  | .call f as => .call0 f as
  | .eqn n x y => .eqt .slice n x y
  | .gh => .bad
  | .load a n x => if 2 ≤ m then .ldl (m - 2) a n x else .load a n x
  | .store n a x => if 2 < m then .stl (m - 2) n a x else .store n a x
  | o => if m ≠ 0 ∧ o.makes = true then .mk4 o else o
def KOp.drawn (m : Nat) (hint : Nat → Nat) (o : KOp) : KOp := { o with o := o.o.drawn m hint }
/-- What an operation looks at. -/
def KV.reads : KV → List Nat
  | .t n => [n]
  | _ => []
def readsO : Option KV → List Nat
  | some x => x.reads
  | none => []
def KO.reads : KO → List Nat
  | .mv x | .box x | .nilck x | .un _ x | .conv _ x | .fld _ x | .fldv _ _ _ x | .ext x _ | .len _ x | .cap x | .load _ _ x | .ldl _ _ _ x | .clr _ _ x => x.reads
  | .pick c a b => c.reads ++ a.reads ++ b.reads
  | .alloc _ | .gh | .bad => []
  | .build _ ps => ps.flatMap fun p => p.2.2.reads
  | .bslice _ _ _ ps => ps.flatMap fun p => p.2.reads
  | .store _ a v | .stl _ _ a v => a.reads ++ v.reads
  | .bin _ x y | .eqt _ _ x y | .eqn _ x y | .mks _ _ _ x y | .idx _ x y | .ids x y | .app _ _ _ x y | .appz _ _ _ x y | .cpy _ x y | .idxa _ _ x y => x.reads ++ y.reads
  | .slc _ x a b c => x.reads ++ readsO a ++ readsO b ++ readsO c
  | .sls x a b | .slca _ _ x a b => x.reads ++ readsO a ++ readsO b
  | .mm _ xs => xs.flatMap KV.reads
  | .call f as | .call0 f as | .callh f as | .callg f as | .callv f as | .calln f as => f.reads ++ as.flatMap KV.reads
  | .mkf _ as | .callc _ as => as.flatMap KV.reads
  | .mk4 o => o.reads
def KOp.reads (o : KOp) : List Nat := o.o.reads ++ (match o.g with | some (t, _) => [t] | none => [])

/-- 0: it knows nothing of the heap; 1: it reads it; 2: it writes; 3: a call that is handed objects; 4: it makes memory; 5: a call that reads objects; 7: a call that is handed values; 8: it makes memory, of any version; 9: it appends. -/
def KO.cls : KO → Nat
  | .mv _ | .pick .. | .build .. | .bin .. | .un .. | .sls .. | .fldv .. | .ids .. | .ext .. | .mm .. | .mkf .. => 0
  | .load .. | .nilck _ | .eqt .. | .eqn .. | .conv .. | .slc .. | .fld .. | .idx .. | .idxa .. | .slca .. | .len .. | .cap .. => 1
  | .callh .. => 3
  | .call0 .. => 7
  | .callv .. => 5
  | .calln .. => 11
  | .callc .. => 8
  | .ldl .. => 12
  | .stl .. => 13
  | .mk4 (.app ..) => 9
  | .mk4 (.appz ..) => 10
  | .mk4 _ => 8
  | .alloc .. | .bslice .. | .mks .. => 4
  | _ => 2
/-- It asks only whether an object is there. -/
def KO.live : KO → Bool
  | .fld .. | .len .. => true
  | _ => false
/-- A load looks at objects from this number on; a store at objects below it. -/
def KO.lim : KO → Nat
  | .ldl m .. | .stl m .. => m
  | _ => 0
/-- May two operations change places? -/
def apartK (x y : KOp) : Bool :=
  (match x.d with | some d => !(y.reads.contains d) && y.d != some d | none => true) && (match y.d with | some d => !(x.reads.contains d) | none => true) &&
  (x.o.cls == 0 || y.o.cls == 0 || x.o.cls == 7 || (y.o.cls == 7 && x.o.cls < 8) || ((x.o.cls == 1 || x.o.cls == 5 || x.o.cls == 8 || x.o.cls == 9 || x.o.cls == 11 || x.o.cls == 3) && y.o.cls == 8) || ((x.o.cls == 8 || x.o.cls == 9) && y.o.cls == 1) || ((x.o.cls == 1 || x.o.cls == 5) && (y.o.cls == 1 || y.o.cls == 5)) || (x.o.cls == 3 && y.o.cls == 4) || (x.o.cls == 4 && y.o.cls == 3) || (x.o.cls == 12 && (y.o.cls == 3 || y.o.cls == 8 || y.o.cls == 12)) || (x.o.live && y.o.cls == 3) || (x.o.cls == 12 && y.o.cls == 13 && Nat.ble y.o.lim x.o.lim))
def waitsT (w : List (List Nat)) : Nat → Nat → Nat → Bool
  | 0, _, _ => false
  | f + 1, i, x => ((w[i]?).getD []).any fun e => e == x || waitsT w f e x
/-- Whatever order is drawn, it comes to the same. -/
def drawOk (l : List KOp) (w : List (List Nat)) : Bool :=
  (List.range l.length).all fun i => (((w[i]?).getD []).all fun e => decide (e < i)) && (List.range i).all fun x => waitsT w l.length i x || (match l[x]?, l[i]? with | some a, some b => apartK a b | _, _ => false)
/-- Memory of any version is made only where it must be. -/
def modeL (hint : Nat → Nat) (l : List KOp) (w : List (List Nat)) : Nat := if drawOk (l.map (KOp.drawn 0 hint)) w then 0 else if drawOk (l.map (KOp.drawn 1 hint)) w then 1 else if drawOk (l.map (KOp.drawn 2 hint)) w then 2 else 6
def drawnL (hint : Nat → Nat) (l : List KOp) (w : List (List Nat)) : List KOp := l.map (KOp.drawn (modeL hint l w) hint)
def drawsOk : K → Bool
  | .dreg l w => drawOk l w
  | .seq a b => drawsOk a && drawsOk b
  | .cond _ a b => drawsOk a && drawsOk b
  | .block _ c => drawsOk c
  | .loop c => drawsOk c
  | _ => true
/-- Ghost steps stand in a walk's program, not in the code. -/
def KOp.real : KOp → Bool | ⟨none, none, .gh⟩ => false | _ => true
def K.strip : K → K
  | .reg l => .reg (l.filter KOp.real)
  | .seq a b => .seq a.strip b.strip
  | .cond c a b => .cond c a.strip b.strip
  | .block i a => .block i a.strip
  | .loop a => .loop a.strip
  | k => k
def edges (ops : Array Oper) : List (List Nat) := ops.toList.map fun o => o.after.toList.filterMap fun e => if Region.binds .any e then some e.on else none

def comp (P : Program) (n : Nat) (hint : Nat → Nat) : Code → K
  | .skip => .skip
  | .region _ ops d =>
    let l := ops.toList.map (cop P n ops)
    if d then K.dreg (drawnL hint l (edges ops)) (edges ops) else K.reg l
  | .seq a b => .seq (comp P n hint a) (comp P n hint b)
  | .cond c a b => .cond (cv c) (comp P n hint a) (comp P n hint b)
  | .block i c => .block i (comp P n hint c)
  | .loop c => .loop (comp P n hint c)
  | .exit i => .exit i
  | .ret => .ret
  | _ => .bad
end Go.AM
end
/-! Wp -/
section
namespace Go.AM

abbrev Slots := Nat → AV
def upd (g : Slots) (t : Nat) (v : AV) : Slots := fun u => if u = t then v else g u
def updO (g : Slots) : Option Nat → AV → Slots
  | some t, v => upd g t v
  | none, _ => g
def hup (h : Heap) (o : Rid) (b : Ob) : Heap := fun u => if u = o then some b else h u
def hdel (h : Heap) (o : Rid) : Heap := fun u => if u = o then none else h u
theorem upd_at (g : Slots) (t u : Nat) (v : AV) : upd g t v u = if u = t then v else g u := rfl
theorem hup_at (h : Heap) (o u : Rid) (b : Ob) : hup h o b u = if u = o then some b else h u := rfl
theorem hdel_at (h : Heap) (o u : Rid) : hdel h o u = if u = o then none else h u := rfl

def ev (g : Slots) : KV → AV
  | .t n => g n
  | .c v => v
  | .f f => .fn f []
  | .g n => .eptr (globs n) 0
  | .bad => .undef

def AV.asB : AV → Option Bool | .b x => some x | _ => none
def AV.asI : AV → Option (IntKind × Int) | .i k n => some (k, n) | _ => none
def AV.asS : AV → Option (List UInt8) | .s l => some l | _ => none
def AV.asAgg : AV → Option (List AV) | .agg l => some l | _ => none
def AV.asTup : AV → Option (List AV) | .tup l => some l | _ => none
/-- Has a value a row that would be handed over by value? -/
def AV.ref1 : AV → Bool | .sl .. => true | _ => false
def AV.rooted : AV → Bool | .sl .. => true | .agg cs | .tup cs | .fn _ cs => cs.any AV.ref1 | _ => false
/-- .. of an object that is not handed over? -/
def AV.ref1X (os : List Rid) : AV → Bool | .sl o .. => !os.contains o | _ => false
def AV.rootedX (os : List Rid) : AV → Bool | .sl o .. => !os.contains o | .agg cs | .tup cs | .fn _ cs => cs.any (AV.ref1X os) | _ => false
theorem AV.ref1X_of {os : List Rid} {a : AV} (h : a.ref1 = false) : a.ref1X os = false := by
  cases a <;> first | rfl | (simp [AV.ref1] at h; done)
theorem AV.rootedX_of {os : List Rid} {a : AV} (h : a.rooted = false) : a.rootedX os = false := by
  have l : ∀ cs : List AV, cs.any AV.ref1 = false → cs.any (AV.ref1X os) = false := fun cs hc => by
    rw [List.any_eq_false] at hc ⊢
    exact fun x hx => by have := AV.ref1X_of (os := os) (by simpa using hc x hx : x.ref1 = false); simp [this]
  cases a <;> first | rfl | (simp [AV.rooted] at h; done) | exact l _ h

/-- A part of a row. -/
def sub (es : List (List AV)) (off len : Nat) : List (List AV) := if off = 0 ∧ len = es.length then es else (es.drop off).take len
def cur (h : Heap) (o : Rid) (ver : Nat) : Option Ob := match h o with | some b => if b.ver = ver then some b else none | none => none

/-- The elements that a slice value shows. -/
def elems (h : Heap) : AV → Option (List (List AV))
  | .nils => some []
  | .dat _ es => some es
  | .s l => some (l.map fun b => [.i .u8 b.toNat])
  | .sl o v off len _ => (cur h o v).map fun b => sub b.es off len
  | _ => none

mutual
def expA (h : Heap) (os : List Rid) : AV → AV
  | .ptr o v e c => match os.idxOf? o, cur h o v with
    | some k, some _ => .ptr (.p k) 0 e c
    | _, _ => .undef
  | .sl o v off len cap => match os.idxOf? o, cur h o v with
    | some k, some _ => .sl (.p k) 0 off len cap
    | none, some ob => .dat ob.esz (sub ob.es off len)
    | _, _ => .undef
  | .agg cs => .agg (expL h os cs)
  | .tup cs => .tup (expL h os cs)
  | .fn f cs => .fn f (expL h os cs)
  | v => v
def expL (h : Heap) (os : List Rid) : List AV → List AV
  | [] => []
  | v :: r => expA h os v :: expL h os r
end

/-- May a cell hold it? -/
def AV.storable : AV → Bool
  | .undef | .agg _ | .tup _ => false
  | _ => true

/-! ### Plain operations -/
def fillA : List AV → List (Nat × Nat × List AV) → Option (List AV)
  | z, [] => some z
  | z, (off, n, vs) :: r => if vs.length = n ∧ off + n ≤ z.length ∧ vs.all AV.storable = true then fillA (z.take off ++ vs ++ z.drop (off + n)) r else none

def eqK : SK → AV → AV → Option Bool
  | .bool, .b x, .b y => some (x == y)
  | .int, .i k x, .i k' y => if k = k' then some (x == y) else none
  | .str, .s x, .s y => some (x == y)
  | _, _, _ => none
def eqCells : List SK → List AV → List AV → Option Bool
  | [], [], [] => some true
  | k :: ks, x :: xs, y :: ys => (eqK k x y).bind fun a => (eqCells ks xs ys).bind fun b => some (a && b)
  | _, _, _ => none

def bits2 (op : BinOp) (k : IntKind) (x y : Int) : Int :=
  match op with
  | .and => k.wrap (BitVec.ofInt k.bits x &&& BitVec.ofInt k.bits y).toNat
  | .or => k.wrap (BitVec.ofInt k.bits x ||| BitVec.ofInt k.bits y).toNat
  | .xor => k.wrap (BitVec.ofInt k.bits x ^^^ BitVec.ofInt k.bits y).toNat
  | _ => k.wrap (BitVec.ofInt k.bits x &&& ~~~ BitVec.ofInt k.bits y).toNat
abbrev PV := Option (Prop × AV)
def yes (v : AV) : PV := some (True, v)
def binI (op : BinOp) (k : IntKind) (x y : Int) : PV :=
  match op with
  | .add => yes (.i k (k.wrap (x + y)))
  | .sub => yes (.i k (k.wrap (x - y)))
  | .mul => yes (.i k (k.wrap (x * y)))
  | .quo => some (y ≠ 0, .i k (k.wrap (x.tdiv y)))
  | .rem => some (y ≠ 0, .i k (x.tmod y))
  | .and => yes (.i k (bits2 .and k x y))
  | .or => yes (.i k (bits2 .or k x y))
  | .xor => yes (.i k (bits2 .xor k x y))
  | .andNot => yes (.i k (bits2 .andNot k x y))
  | .eql => yes (.b (x == y))
  | .neq => yes (.b (x != y))
  | .lss => yes (.b (decide (x < y)))
  | .leq => yes (.b (decide (x ≤ y)))
  | .gtr => yes (.b (decide (x > y)))
  | .geq => yes (.b (decide (x ≥ y)))
  | .shl | .shr => none
def binS (op : BinOp) (x y : List UInt8) : PV :=
  match op with
  | .add => some (x.length + y.length ≤ 9223372036854775807, .s (x ++ y))
  | .eql => yes (.b (x == y))
  | .neq => yes (.b (!(x == y)))
  | .lss => yes (.b (Op.bytesLess x y))
  | .leq => yes (.b (Op.bytesLess x y || x == y))
  | .gtr => yes (.b (!(Op.bytesLess x y || x == y)))
  | .geq => yes (.b (!Op.bytesLess x y))
  | _ => none
def eqtF (h : Heap) (t : EqT) (neg : Bool) (x y : AV) : PV :=
  match t, x, y with
  | .bool, .b x, .b y => yes (.b ((x == y) != neg))
  | .ptr, .nilp, .nilp => yes (.b (!neg))
  | .ptr, .nilp, .ptr o v _ _ | .ptr, .ptr o v _ _, .nilp => (cur h o v).bind fun _ => yes (.b neg)
  | .ptr, .nilp, .eptr _ _ | .ptr, .eptr _ _, .nilp => yes (.b neg)
  | .slice, .nils, .nils => yes (.b (!neg))
  | .slice, .dat _ es, .nils | .slice, .nils, .dat _ es => some (es ≠ [], .b neg)
  | .slice, .sl o v _ len _, .nils | .slice, .nils, .sl o v _ len _ => (cur h o v).bind fun _ => some (len ≠ 0, .b neg)
  | .func, .nilf, .nilf => yes (.b (!neg))
  | .func, .nilf, .fn _ _ | .func, .fn _ _, .nilf => yes (.b neg)
  | .struct ks, .agg a, .agg b => (eqCells ks a b).bind fun t => yes (.b (t != neg))
  | _, _, _ => none
def binF (op : BinOp) (x y : AV) : PV :=
  match x, y with
  | .i k a, .i k' b => match op with
    | .shl => some (0 ≤ b, .i k (k.wrap (a * 2 ^ (min b.toNat k.bits))))
    | .shr => some (0 ≤ b, .i k (a.fdiv (2 ^ (min b.toNat k.bits))))
    | op => if k = k' then binI op k a b else none
  | .s a, .s b => binS op a b
  | _, _ => none
def unF (op : UnOp) (x : AV) : PV :=
  match op, x with
  | .not, .b t => yes (.b (!t))
  | .neg, .i k n => yes (.i k (k.wrap (0 - n)))
  | .xor, .i k n => yes (.i k (bits2 .xor k (if k.signed then -1 else k.max) n))
  | _, _ => none
/-- A row of bytes, as they are. -/
def bytesOf : List (List AV) → Option (List UInt8)
  | [] => some []
  | [.i .u8 n] :: r => (bytesOf r).map (UInt8.ofNat n.toNat :: ·)
  | _ => none
def convF (h : Heap) (c : KC) (x : AV) : PV :=
  match c, x with
  | .int k, .i _ n => yes (.i k (k.wrap n))
  | .str, .s l => yes (.s l)
  | .b2s, .nils => yes (.s [])
  | .b2s, .dat _ es => (bytesOf es).bind fun l => yes (.s l)
  | .b2s, .sl o v off len _ => (cur h o v).bind fun ob => (bytesOf (sub ob.es off len)).bind fun l => some (ob.esz = 1, .s l)
  | _, _ => none

def loN : Option AV → Option Int
  | none => some 0
  | some v => v.asI.map (·.2)
def hiN (len : Nat) : Option AV → Option Int
  | none => some len
  | some v => v.asI.map (·.2)
def mm2 (isMax : Bool) : AV → AV → Option AV
  | .i k x, .i k' y => if k = k' then some (.i k (if isMax then max x y else min x y)) else none
  | _, _ => none

def loadF (h : Heap) (agg : Bool) (n : Nat) (a : AV) : PV :=
  match a with
  | .ptr o v e c => (cur h o v).bind fun ob => (ob.es[e]?).bind fun cells =>
      match agg with
      | true => some (c + n ≤ cells.length ∧ (ob.own → Flat [((cells.drop c).take n)]), .agg ((cells.drop c).take n))
      | false => (cells[c]?).bind fun x => some (x.isDat = true → ¬ ob.own, x)
  | .eptr cells c => match agg with
      | true => some (c + n ≤ cells.length, .agg ((cells.drop c).take n))
      | false => (cells[c]?).bind yes
  | _ => none
def nilckF (h : Heap) : AV → PV
  | .ptr o v e c => (cur h o v).bind fun _ => yes (.ptr o v e c)
  | .eptr cells c => yes (.eptr cells c)
  | .fn f c => yes (.fn f c)
  | _ => none
def slcF (h : Heap) (esz : Nat) (x : AV) (lo hi mx : Option AV) : PV :=
  match x with
  | .nils => (loN lo).bind fun l => (hiN 0 hi).bind fun hh => some (0 ≤ l ∧ l ≤ hh ∧ hh ≤ 0 ∧ mx.isNone = true, .nils)
  | .dat z es => (loN lo).bind fun l => (hiN es.length hi).bind fun hh => some (0 ≤ l ∧ l ≤ hh ∧ hh ≤ es.length ∧ mx.isNone = true ∧ z = esz, .dat z (sub es l.toNat (hh - l).toNat))
  | .sl o v off len cap => (cur h o v).bind fun ob => (loN lo).bind fun l => (hiN len hi).bind fun hh =>
      match mx with
      | none => some (ob.esz = esz ∧ 0 ≤ l ∧ l ≤ hh ∧ (hh ≤ len ∨ (off + hh.toNat ≤ ob.es.length ∧ (∀ k, cap = some k → len ≠ 0 ∧ hh.toNat ≤ k))), .sl o v (off + l.toNat) (hh - l).toNat (cap.map (· - l.toNat)))
      | some m => (hiN len (some m)).bind fun mm => some (ob.esz = esz ∧ 0 ≤ l ∧ l ≤ hh ∧ hh ≤ len ∧ hh ≤ mm ∧ mm ≤ len, .sl o v (off + l.toNat) (hh - l).toNat (some (mm - l).toNat))
  | _ => none
def capF (h : Heap) : AV → PV
  | .nils => yes (i64 0)
  | .sl o v _ len (some k) => (cur h o v).bind fun _ => some (len ≠ 0, i64 k)
  | _ => none
def slsF (x : AV) (lo hi : Option AV) : PV :=
  (x.asS).bind fun s => (loN lo).bind fun l => (hiN s.length hi).bind fun hh => some (0 ≤ l ∧ l ≤ hh ∧ hh ≤ s.length, .s ((s.drop l.toNat).take (hh - l).toNat))
def fldF (h : Heap) (off : Nat) : AV → PV
  | .ptr o v e c => (cur h o v).bind fun _ => yes (.ptr o v e (c + off))
  | .eptr cells c => some (c + off < cells.length, .eptr cells (c + off))
  | _ => none
def fldvF (agg : Bool) (off n : Nat) : AV → PV
  | .agg cs => match agg with
    | true => some (off + n ≤ cs.length, .agg ((cs.drop off).take n))
    | false => (cs[off]?).bind yes
  | _ => none
def idxF (h : Heap) (esz : Nat) : AV → AV → PV
  | .dat _ es, .i _ n => (es[n.toNat]?).bind fun cells => some (0 ≤ n ∧ cells.length = esz, .eptr cells 0)
  | .sl o v off len _, .i _ n => (cur h o v).bind fun ob => some (ob.esz = esz ∧ 0 ≤ n ∧ n < len, .ptr o v (off + n.toNat) 0)
  | _, _ => none
/-- An element of an array; a part of one that stands as rows. -/
def idxaF (h : Heap) (n esz : Nat) : AV → AV → PV
  | .ptr o v e c, .i _ k => (cur h o v).bind fun ob => (ob.es[e]?).bind fun cells => some (0 ≤ k ∧ k < n ∧ c + n * esz ≤ cells.length, .ptr o v e (c + k.toNat * esz))
  | .eptr cells c, .i _ k => some (0 ≤ k ∧ k < n ∧ c + n * esz ≤ cells.length, .eptr cells (c + k.toNat * esz))
  | _, _ => none
def slcaF (h : Heap) (n esz : Nat) (x : AV) (lo hi : Option AV) : PV :=
  match x with
  | .ptr o v 0 0 => (cur h o v).bind fun ob => (loN lo).bind fun l => (hiN n hi).bind fun hh => some (ob.esz = esz ∧ 0 ≤ l ∧ l ≤ hh ∧ hh ≤ n ∧ n = ob.es.length ∧ 0 < n, .sl o v l.toNat (hh - l).toNat none)
  | _ => none
def idsF : AV → AV → PV
  | .s l, .i _ n => (l[n.toNat]?).bind fun b => some (0 ≤ n, .i .u8 b.toNat)
  | _, _ => none
def extF (i : Nat) : AV → PV
  | .tup vs => (vs[i]?).bind yes
  | _ => none
def lenF (h : Heap) (str : Bool) : AV → PV
  | .s l => match str with | true => yes (i64 l.length) | false => none
  | .nils => match str with | true => none | false => yes (i64 0)
  | .dat _ es => match str with | true => none | false => yes (i64 es.length)
  | .sl o v _ n _ => match str with | true => none | false => (cur h o v).bind fun _ => yes (i64 n)
  | _ => none
def mmF (m : Bool) : List AV → PV
  | x :: r => (r.foldlM (mm2 m) x).bind yes
  | [] => none
def pickF : AV → AV → AV → PV
  | .b t, a, b => yes (if t then a else b)
  | _, _, _ => none
def buildF (z : List AV) (ps : List (Nat × Nat × AV)) : PV := (fillA z (ps.map fun (off, n, x) => (off, n, x.cells))).bind fun cs => yes (.agg cs)

/-- Objects made here, from this number on; below it. -/
def ldA (m : Nat) : AV → AV
  | .ptr (.l o) v e j => if m ≤ o then .ptr (.l o) v e j else .undef
  | _ => .undef
def stA (m : Nat) : AV → AV
  | .ptr (.l o) v e j => if o < m then .ptr (.l o) v e j else .undef
  | _ => .undef
/-- Operations that make a value and touch nothing. -/
def kv (h : Heap) (g : Slots) (o : KO) : PV :=
  match o with
  | .mv x => yes (ev g x)
  | .pick c x y => pickF (ev g c) (ev g x) (ev g y)
  | .build z ps => buildF z (ps.map fun (off, n, x) => (off, n, ev g x))
  | .load agg n x => loadF h agg n (ev g x)
  | .ldl m agg n x => loadF h agg n (ldA m (ev g x))
  | .nilck x => nilckF h (ev g x)
  | .bin op x y => binF op (ev g x) (ev g y)
  | .eqt t n x y => eqtF h t n (ev g x) (ev g y)
  | .eqn n x y => eqtF h .slice n (ev g x) (ev g y)
  | .un op x => unF op (ev g x)
  | .conv c x => convF h c (ev g x)
  | .slc esz x lo hi mx => slcF h esz (ev g x) (lo.map (ev g)) (hi.map (ev g)) (mx.map (ev g))
  | .sls x lo hi => slsF (ev g x) (lo.map (ev g)) (hi.map (ev g))
  | .fld off x => fldF h off (ev g x)
  | .fldv agg off n x => fldvF agg off n (ev g x)
  | .idx esz x i => idxF h esz (ev g x) (ev g i)
  | .ids x i => idsF (ev g x) (ev g i)
  | .idxa n esz x i => idxaF h n esz (ev g x) (ev g i)
  | .slca n esz x lo hi => slcaF h n esz (ev g x) (lo.map (ev g)) (hi.map (ev g))
  | .ext x i => extF i (ev g x)
  | .len b x => lenF h b (ev g x)
  | .cap x => capF h (ev g x)
  | .mm m xs => mmF m (xs.map (ev g))
  | .mkf f capt => yes (.fn f (capt.map (ev g)))
  | _ => none

/-! ### Values stored into a row -/
def chunk (esz : Nat) : Nat → List AV → List (List AV)
  | 0, _ => []
  | n + 1, cs => cs.take esz :: chunk esz n (cs.drop esz)

def bigOk (n bytes : Nat) : Prop := n * bytes ≤ 140737488355328

/-- A contract: callee, arguments, objects handed over, is all of the result the callee's own, what may come back: a result, and the objects then. -/
structure Con where
  c : Nat → List AV → List Ob → Bool → (AV → List Ob → Prop) → Prop
  /-- A callee that goes on in the caller's heap: its arguments, the heap, the clock, what then holds. -/
  x : Nat → List AV → Heap → Nat → (AV → Heap → Nat → Prop) → Prop
  /-- A callee that gives back a copy of a row, in new memory. -/
  cp : Nat → Nat → List (List AV) → Prop
instance : CoeFun Con (fun _ => Nat → List AV → List Ob → Bool → (AV → List Ob → Prop) → Prop) := ⟨Con.c⟩
/-- One answer alone. -/
def Con.det (C : Con) (f : Nat) (args : List AV) (obs : List Ob) (r : AV) (own : Bool) (obs' : List Ob) : Prop := C f args obs own fun r' o' => r' = r ∧ o' = obs'

abbrev Post := Slots → Heap → Nat → Prop

/-- Where an object comes from behind a call: the objects that were handed over, and those that come back. 't': the call's name; 'n': how many there are. -/
def tgt (os : List Rid) (t n : Nat) : Rid → Option Nat
  | .r t' j => if t' = t ∧ os.length + j < n then some (os.length + j) else os.idxOf? (.r t' j)
  | u => os.idxOf? u
/-- What a call leaves of the objects that were handed over, and what it gives back. -/
def hcall (h : Heap) (os : List Rid) (obs : List Ob) (t c : Nat) : Heap := fun u => match tgt os t obs.length u with
  | some k => if k < os.length then (h u).bind fun b => (obs[k]?).map fun b' => { b' with ver := b.ver, fixed := b.fixed } else (obs[k]?).map fun b' => { b' with ver := c }
  | none => h u
def nclk (c : Nat) (os : List Rid) (obs : List Ob) : Nat := if os.length < obs.length then c + 1 else c
mutual
/-- A result, as the caller names it. -/
def impA (t n c : Nat) : AV → AV
  | .sl (.p k) _ off len cap => .sl (.r t (k - n)) c off len cap
  | .ptr (.p k) _ e j => .ptr (.r t (k - n)) c e j
  | .agg cs => .agg (impL t n c cs)
  | .tup cs => .tup (impL t n c cs)
  | v => v
def impL (t n c : Nat) : List AV → List AV
  | [] => []
  | v :: r => impA t n c v :: impL t n c r
end

/-- Cells that stay what they are when they are handed over by value. -/
def AV.pure : AV → Bool
  | .b _ | .i _ _ | .s _ | .nilp | .nils | .nilf | .undef | .dat _ _ => true
  | _ => false
def Pure (es : List (List AV)) : Prop := ∀ e ∈ es, ∀ c ∈ e, c.pure = true
/-- May a value be handed over? -/
def ExpOk (h : Heap) (os : List Rid) : AV → Prop
  | .sl o v off len _ => match os.idxOf? o, cur h o v with
    | none, some ob => Pure ob.es ∧ off + len ≤ ob.es.length
    | some _, some _ => True
    | _, none => False
  | .ptr o v _ _ => match os.idxOf? o, cur h o v with
    | some _, some _ => True
    | _, _ => False
  | .agg cs | .tup cs | .fn _ cs => ∀ c ∈ cs, match c with
    | .sl o v off len _ => match os.idxOf? o, cur h o v with
      | none, some ob => Pure ob.es ∧ off + len ≤ ob.es.length
      | some _, some _ => True
      | _, none => False
    | .ptr o v _ _ => match os.idxOf? o, cur h o v with
      | some _, some _ => True
      | _, _ => False
    | c => c.pure = true
  | c => c.pure = true

def kcall (C : Con) (d : Option Nat) (f : AV) (args : List AV) (Q : Post) (g : Slots) (h : Heap) (c : Nat) : Prop :=
  ∃ fid capt, f = .fn fid capt ∧ ∃ (os : List Rid) (obs : List Ob) (own : Bool) (Φ : AV → List Ob → Prop),
      C fid (expL h os (args ++ capt)) obs own Φ ∧ os.map (fun o => (h o).map (fun b => { b with ver := 0, fixed := true })) = obs.map some ∧ os.Nodup ∧
      (∀ a ∈ args ++ capt, ExpOk h os a) ∧ (∀ b ∈ obs, Pure b.es) ∧ (own = true ∨ ∀ a ∈ args ++ capt, a.rootedX os = false) ∧
      ∀ r obs', Φ r obs' → obs.length ≤ obs'.length ∧ (∀ b ∈ obs', Pure b.es) ∧ (own = true → ∀ b ∈ obs', b.own ∨ Flat b.es) ∧
      Q (updO g d (impA (d.getD 0) os.length c r)) (hcall h os obs' (d.getD 0) c) (nclk c os obs')

/-- A call that goes on in the same heap. -/
def kcallx (C : Con) (d : Option Nat) (f : AV) (args : List AV) (Q : Post) (g : Slots) (h : Heap) (c : Nat) : Prop :=
  ∃ fid capt, f = .fn fid capt ∧ C.x fid (args ++ capt) h c (fun r h' c' => Q (updO g d r) h' c')
/-- Values that know nothing of the heap. -/
def AV.free : AV → Bool
  | .agg cs | .tup cs | .fn _ cs => cs.all AV.pure
  | c => c.pure
/-- A call that is handed values alone. -/
def kcall0 (C : Con) (f : AV) (args : List AV) (r : AV) : Prop :=
  ∃ fid capt own, f = .fn fid capt ∧ C.det fid (args ++ capt) [] r own [] ∧ (∀ t n c, impA t n c r = r) ∧ (∀ a ∈ args ++ capt, a.free = true) ∧ (own = true ∨ ∀ a ∈ args ++ capt, a.rooted = false)

/-- A call that is handed values, some of them what objects hold. -/
def kcallv (C : Con) (f : AV) (args : List AV) (r : AV) (h : Heap) : Prop :=
  ∃ fid capt own, f = .fn fid capt ∧ C.det fid (expL h [] (args ++ capt)) [] r own [] ∧ (∀ t n c, impA t n c r = r) ∧ (∀ a ∈ args ++ capt, ExpOk h [] a) ∧ (own = true ∨ ∀ a ∈ args ++ capt, a.rooted = false)
/-- The heap behind a call that gives back new objects. -/
def newObs (t c : Nat) : Nat → List Ob → Heap → Heap
  | _, [], h => h
  | k, b :: r, h => newObs t c (k + 1) r (hup h (.r t k) { b with ver := c })
/-- Such a call that gives back new objects. -/
def kcalln (C : Con) (f : AV) (args : List AV) (r : AV) (obs' : List Ob) (h : Heap) : Prop :=
  ∃ fid capt own, f = .fn fid capt ∧ C.det fid (expL h [] (args ++ capt)) [] r own obs' ∧ (∀ a ∈ args ++ capt, ExpOk h [] a) ∧ (∀ b ∈ obs', Pure b.es) ∧ (own = true → ∀ b ∈ obs', b.own ∨ Flat b.es) ∧ (own = true ∨ ∀ a ∈ args ++ capt, a.rooted = false)
def Rid.isP : Rid → Bool | .p _ => true | _ => false
def Rid.isL : Rid → Bool | .l _ => true | _ => false
/-- A call that is handed objects (none that was made here), and gives none back. -/
def kcallh (C : Con) (l : Bool) (f : AV) (args : List AV) (r : AV) (h h' : Heap) : Prop :=
  ∃ fid capt own os obs obs', f = .fn fid capt ∧ C.det fid (expL h os (args ++ capt)) obs r own obs' ∧ os.map (fun o => (h o).map (fun b => { b with ver := 0, fixed := true })) = obs.map some ∧ os.Nodup ∧ (l = true ∨ ∀ o ∈ os, o.isL = false) ∧ obs'.length = obs.length ∧
    (∀ a ∈ args ++ capt, ExpOk h os a ∧ (a.free = true ∨ match a with | .ptr o _ _ _ | .sl o _ _ _ _ => o ∈ os | _ => False)) ∧ (∀ b ∈ obs, Pure b.es) ∧ (∀ b ∈ obs', Pure b.es) ∧ (own = true ∨ ∀ a ∈ args ++ capt, a.rootedX os = false) ∧
    (own = true → ∀ b ∈ obs', b.own ∨ Flat b.es) ∧ (∀ t n c, impA t n c r = r) ∧ h' = hcall h os obs' 0 0

/-- A condition, and the heap behind a store. -/
def storeF (h : Heap) (n : Nat) (a v : AV) : Option (Prop × Heap) :=
  match a with
  | .ptr o ver e j => (cur h o ver).bind fun ob => (ob.es[e]?).bind fun cells =>
      some (v.cells.length = n ∧ j + n ≤ cells.length ∧ v.cells.all AV.storable = true, hup h o { ob with es := ob.es.set e (cells.take j ++ v.cells ++ cells.drop (j + n)), own := ob.own ∧ NoDat v.cells })
  | _ => none

abbrev PE := Option (Prop × AV × Heap × Nat)
/-- Elements of so many cells, each of which a cell may hold. -/
def Good (es : List (List AV)) (n : Nat) : Prop := ∀ e ∈ es, e.length = n ∧ e.all AV.storable = true
/-- What is appended: a condition, and the elements. -/
def srcF (h : Heap) (esz : Nat) : AV → Option (Prop × List (List AV))
  | .nils => some (True, [])
  | .dat _ es => some (Good es esz, es)
  | .s l => some (esz = 1, l.map fun b => [.i .u8 b.toNat])
  | .sl o v off len _ => (cur h o v).bind fun ob => some (ob.esz = esz ∧ (ob.own → Flat (sub ob.es off len)) ∧ Good (sub ob.es off len) esz, sub ob.es off len)
  | _ => none
def appF (esz bytes : Nat) (t : Nat) (s x : AV) (h : Heap) (c : Nat) : PE :=
  (srcF h esz x).bind fun (px, xs) => match s with
    | .nils => match xs with
      | [] => some (px, .nils, h, c)
      | y :: ys => some (px ∧ bigOk (y :: ys).length bytes ∧ (y :: ys).length ≤ 9223372036854775807, .sl (.l t) c 0 (y :: ys).length none,
          hup (h) (.l t) { ver := c, es := y :: ys, esz := esz, own := Flat (y :: ys) }, c + 1)
    | .sl o v off len cap => (cur h o v).bind fun ob => if len = ob.es.length then
          some (px ∧ ob.esz = esz ∧ off = 0 ∧ ob.fixed = false ∧ bigOk (len + xs.length) bytes ∧ len + xs.length ≤ 9223372036854775807, .sl o c 0 (len + xs.length) none,
            hup (h) o { ob with ver := c, es := ob.es ++ xs, own := ob.own ∧ Flat xs }, c + 1)
        else some (px ∧ ob.esz = esz ∧ off = 0 ∧ ob.fixed = false ∧ (∀ k, cap = some k → len ≠ 0 ∧ len + xs.length ≤ k) ∧ len + xs.length ≤ ob.es.length, .sl o v 0 (len + xs.length) cap,
            hup (h) o { ob with es := ob.es.take len ++ xs ++ ob.es.drop (len + xs.length), own := ob.own ∧ Flat xs }, c)
    | _ => none
/-- So many zeros behind a part of a row that has no room for them. -/
def appzF (esz bytes : Nat) (z : List AV) (t : Nat) (s x : AV) (h : Heap) (c : Nat) : PE :=
  match s, x with
  | .sl o v off len (some k), .i _ n => (cur h o v).bind fun ob => some (ob.esz = esz ∧ z.length = esz ∧ 0 < esz ∧ 0 < n ∧ k < len + n.toNat ∧ off + len ≤ ob.es.length ∧ len + n.toNat ≤ 9223372036854775807 ∧ bigOk (len + n.toNat) bytes ∧
        Good (sub ob.es off len) esz ∧ Flat (sub ob.es off len) ∧ z.all AV.storable = true ∧ NoDat z,
      .sl (.l t) c 0 (len + n.toNat) none, hup h (.l t) { ver := c, es := sub ob.es off len ++ List.replicate n.toNat z, esz := esz }, c + 1)
  | _, _ => none
/-- The first elements of a slice. -/
def truncA (m : Nat) : AV → AV
  | .nils => if m = 0 then .nils else .undef
  | .dat z es => if m = es.length then .dat z es else .undef
  | .sl o v off len cap => if m ≤ len then .sl o v off m cap else .undef
  | _ => .undef
def lenA : AV → Option Nat
  | .nils => some 0
  | .dat _ es => some es.length
  | .sl _ _ _ len _ => some len
  | _ => none
/-- What a part of a row holds behind xs were laid there. -/
def laidF (ob : Ob) (off : Nat) (xs : List (List AV)) : Ob := { ob with es := ob.es.take off ++ xs ++ ob.es.drop (off + xs.length), own := ob.own ∧ Flat xs }
def cpyF (h : Heap) (esz : Nat) (d s : AV) : Option (Prop × AV × Heap) :=
  match d with
  | .sl o v off len _ => (cur h o v).bind fun ob => (lenA s).bind fun n => (srcF h esz (truncA (min n len) s)).bind fun (px, xs) =>
      some (px ∧ ob.esz = esz ∧ len ≠ 0 ∧ xs.length = min n len, i64 ((min n len : Nat) : Int), hup h o (laidF ob off xs))
  | _ => none
def clrF (h : Heap) (esz : Nat) (z : List AV) (x : AV) : Option (Prop × Heap) :=
  match x with
  | .sl o v off len _ => (cur h o v).bind fun ob => some (ob.esz = esz ∧ len ≠ 0 ∧ z.length = esz ∧ z.all AV.storable = true, hup h o (laidF ob off (List.replicate len z)))
  | _ => none
def bslF (esz n : Nat) (z : List AV) (t : Nat) (ps : List (Nat × AV)) (h : Heap) (c : Nat) : PE :=
  (fillA ((List.replicate n z).flatten) (ps.map fun (j, x) => (j * esz, esz, x.cells))).bind fun cs =>
    some (n * esz ≤ 16777216 ∧ z.length = esz, .sl (.l t) c 0 n (some n), hup h (.l t) { ver := c, es := chunk esz n cs, esz := esz, own := NoDat cs }, c + 1)
def mksF (esz bytes : Nat) (z : List AV) (t : Nat) (l cp : AV) (h : Heap) (c : Nat) : PE :=
  l.asI.bind fun (_, a) => cp.asI.bind fun (_, b) => some (a = b ∧ 0 ≤ a ∧ bigOk a.toNat bytes ∧ a ≤ 9223372036854775807 ∧ z.length = esz,
    .sl (.l t) c 0 a.toNat none, hup h (.l t) { ver := c, es := List.replicate a.toNat z, esz := esz, own := NoDat z }, c + 1)
def allocF (cs : List AV) (t : Nat) (h : Heap) (c : Nat) : PE :=
  some (True, .ptr (.l t) c 0 0, hup h (.l t) { ver := c, es := [cs], esz := cs.length, fixed := true, own := False }, c + 1)

def boxF (x : AV) (t : Nat) (h : Heap) (c : Nat) : PE :=
  some (x.cells.all AV.storable = true, .ptr (.l t) c 0 0, hup h (.l t) { ver := c, es := [x.cells], esz := x.cells.length, fixed := true, own := False }, c + 1)

/-- Operations that make memory. -/
def ke (t : Nat) (o : KO) (g : Slots) (h : Heap) (c : Nat) : PE :=
  match o with
  | .alloc cs => allocF cs t h c
  | .box x => boxF (ev g x) t h c
  | .bslice esz n z ps => bslF esz n z t (ps.map fun (j, x) => (j, ev g x)) h c
  | .mks esz bytes z l cp => mksF esz bytes z t (ev g l) (ev g cp) h c
  | .app esz bytes _ s x => appF esz bytes t (ev g s) (ev g x) h c
  | .appz esz bytes z s x => appzF esz bytes z t (ev g s) (ev g x) h c
  | _ => none

/-- A slice, of which it may be unknown whether it is nil. -/
def AV.isSl : AV → Bool | .dat _ _ | .sl .. | .nils => true | _ => false
def AV.isRef : AV → Bool | .sl .. => true | _ => false
def AV.isNils : AV → Bool | .nils => true | _ => false
/-- A ghost step: it changes what we hold, not what is. -/
inductive Gh : Slots → Heap → Nat → Slots → Heap → Nat → Prop
  | refl (g h c) : Gh g h c g h c
  | trans {g1 h1 c1 g2 h2 c2 g3 h3 c3} : Gh g1 h1 c1 g2 h2 c2 → Gh g2 h2 c2 g3 h3 c3 → Gh g1 h1 c1 g3 h3 c3
  /-- nil, as an object without elements -/
  | nil (g h c) (t : Nat) (n : Rid) (z : Nat) : g t = .nils → h n = none → n.isP = false → Gh g h c (upd g t (.sl n c 0 0 none)) (hup h n { ver := c, es := [], esz := z }) (c + 1)
  /-- .. of which the room is told -/
  | nilc (g h c) (t : Nat) (n : Rid) (z : Nat) (cap : Option Nat) : g t = .nils → h n = none → n.isP = false → Gh g h c (upd g t (.sl n c 0 0 cap)) (hup h n { ver := c, es := [], esz := z }) (c + 1)
  /-- a cell that is nil, as a row without elements -/
  | dat0 (g h c) (o : Rid) (ob : Ob) (row : List AV) (e j z : Nat) : h o = some ob → ob.es[e]? = some row → row[j]? = some .nils → Gh g h c g (hup h o { ob with es := ob.es.set e (row.set j (.dat z [])) }) c
  /-- cells that nobody will look at -/
  | weak (g h c) (o : Rid) (ob : Ob) (es' : List (List AV)) : h o = some ob → es'.length = ob.es.length → (∀ e ∈ es', e.length = ob.esz) → (∀ (e j : Nat) (r r' : List AV) (x x' : AV), es'[e]? = some r' → r'[j]? = some x' → ob.es[e]? = some r → r[j]? = some x → x' = .undef ∨ x' = x) → Gh g h c g (hup h o { ob with es := es' }) c
  /-- an object that nobody needs -/
  | drop (g h c) (n : Rid) : n.isP = false → Gh g h c g (hdel h n) c
  /-- an object that is only read from now on -/
  | read (g h c) (t : Nat) (n : Rid) (bn : Ob) (off len : Nat) (cap : Option Nat) : g t = .sl n bn.ver off len cap → h n = some bn → off + len ≤ bn.es.length → Pure bn.es →
      Gh g h c (upd g t (.dat bn.esz (sub bn.es off len))) (hdel h n) c
  /-- a row that is held by value, as an object of its own -/
  | take (g h c) (o n : Rid) (ob : Ob) (row : List AV) (e j z : Nat) (es : List (List AV)) : h o = some ob → ob.own → ob.es[e]? = some row → row[j]? = some (.dat z es) → h n = none → n.isP = false → n ≠ o →
      Gh g h c g (hup (hup h o { ob with es := ob.es.set e (row.set j (.sl n c 0 es.length none)) }) n { ver := c, es := es, esz := z }) (c + 1)
  /-- an object, as a row that is held by value -/
  | give (g h c) (o n : Rid) (ob bn : Ob) (row : List AV) (e j off len : Nat) (cap : Option Nat) : h o = some ob → ob.own → ob.es[e]? = some row → row[j]? = some (.sl n bn.ver off len cap) → h n = some bn → n ≠ o → off + len ≤ bn.es.length → Pure bn.es → (bn.own ∨ Flat bn.es) →
      Gh g h c g (hup (hdel h n) o { ob with es := ob.es.set e (row.set j (.dat bn.esz (sub bn.es off len))) }) c
  /-- one row, as many -/
  | rows (g h c) (t z n : Nat) (o : Rid) (ob : Ob) (cs : List AV) : g t = .ptr o ob.ver 0 0 → h o = some ob → ob.es = [cs] → 0 < z → cs.length = n * z → 0 < n → (∀ x ∈ cs, x.isDat = false) →
      Gh g h c (upd g t (.ptr o c 0 0)) (hup h o { ob with ver := c, es := chunk z n cs, esz := z }) (c + 1)
  /-- an object by another name -/
  | ren (g h c) (o n n' : Rid) (ob bn : Ob) (row : List AV) (e j off len : Nat) (cap : Option Nat) : h o = some ob → ob.es[e]? = some row → row[j]? = some (.sl n bn.ver off len cap) → h n = some bn → n ≠ o → h n' = none →
      Gh g h c g (hup (hup (hdel h n) n' { bn with ver := c }) o { ob with es := ob.es.set e (row.set j (.sl n' c off len cap)) }) (c + 1)

/-- Where an operation makes memory there is none yet. -/
def fr4 (t : Nat) (o : KO) (g : Slots) (h : Heap) : Prop := match o with
  | .app _ _ _ s _ => (ev g s).isRef = true
  | _ => h (.l t) = none
def kop (C : Con) (d : Option Nat) (o : KO) (Q : Post) (g : Slots) (h : Heap) (c : Nat) : Prop :=
  match o with
  | .mk4 o => ∀ v, ∃ t p val h', d = some t ∧ ke t o g h v = some (p, val, h', v + 1) ∧ p ∧ fr4 t o g h ∧ Q (upd g t val) h' (c + 1)
  | .callc f as => ∃ t z es, d = some t ∧ as.map (ev g) = [.dat z es] ∧ C.cp f z es ∧ Pure es ∧ h (.r t 0) = none ∧ ∀ v, Q (upd g t (.sl (.r t 0) v 0 es.length none)) (hup h (.r t 0) { ver := v, es := es, esz := z }) (c + 1)
  | .gh => ∃ g' h' c', Gh g h c g' h' c' ∧ Q g' h' c'
  | .store n a v => ∃ p h', storeF h n (ev g a) (ev g v) = some (p, h') ∧ p ∧ Q (updO g d .undef) h' c
  | .stl m n a v => ∃ p h', storeF h n (stA m (ev g a)) (ev g v) = some (p, h') ∧ p ∧ Q (updO g d .undef) h' c
  | .call f args => kcall C d (ev g f) (args.map (ev g)) Q g h c ∨ kcallx C d (ev g f) (args.map (ev g)) Q g h c
  | .eqn n x y => (∃ p v, kv h g (.eqn n x y) = some (p, v) ∧ p ∧ Q (updO g d v) h c) ∨ ((ev g x).isSl = true ∧ (ev g y).isNils = true ∧ ∀ b, Q (updO g d (.b b)) h c)
  | .call0 f args => ∃ r, kcall0 C (ev g f) (args.map (ev g)) r ∧ Q (updO g d r) h c
  | .calln f args => ∀ v, ∃ t r obs', d = some t ∧ kcalln C (ev g f) (args.map (ev g)) r obs' h ∧ (∀ j, j < obs'.length → h (.r t j) = none) ∧ Q (upd g t (impA t 0 v r)) (newObs t v 0 obs' h) (nclk c [] obs')
  | .callv f args => ∃ r, kcallv C (ev g f) (args.map (ev g)) r h ∧ Q (updO g d r) h c
  | .cpy esz x y => ∃ p r h', cpyF h esz (ev g x) (ev g y) = some (p, r, h') ∧ p ∧ Q (updO g d r) h' c
  | .clr esz z x => ∃ p h', clrF h esz z (ev g x) = some (p, h') ∧ p ∧ Q (updO g d (.tup [])) h' c
  | .callh f args => ∃ r h', kcallh C false (ev g f) (args.map (ev g)) r h h' ∧ Q (updO g d r) h' c
  | .callg f args => ∃ r h', kcallh C true (ev g f) (args.map (ev g)) r h h' ∧ Q (updO g d r) h' c
  | .alloc .. | .box .. | .bslice .. | .mks .. | .app .. | .appz .. => ∃ t p v h' c', d = some t ∧ ke t o g h c = some (p, v, h', c') ∧ p ∧ Q (upd g t v) h' c'
  | o => ∃ p v, kv h g o = some (p, v) ∧ p ∧ Q (updO g d v) h c

/-! ### Code -/
inductive Ex where
  | normal | exit (id : Nat) | ret

/-- What a guard says; an operation that was not wanted leaves no answer behind. -/
def AV.says (w : Bool) : AV → Option Bool
  | .b x => some x
  | .tup [] => some (!w)
  | _ => none
def kops (C : Con) : List KOp → Post → Post
  | [], Q, g, h, c => Q g h c
  | o :: r, Q, g, h, c => match o.g with
    | none => kop C o.d o.o ((kops C r Q)) g h c
    | some (t, w) => ∃ x, (g t).says w = some x ∧ (x = w → kop C o.d o.o (kops C r Q) g h c) ∧ (x = !w → kops C r Q (updO g o.d (.tup [])) h c)

def Ex.then (A : Post) (Q : Ex → Post) : Ex → Post
  | .normal => A
  | e => Q e
def Ex.inBlock (id : Nat) (Q : Ex → Post) : Ex → Post
  | .exit j => fun g h c => if j = id then Q .normal g h c else Q (.exit j) g h c
  | e => Q e

def kwp (C : Con) : K → (Ex → Post) → Post
  | .skip, Q, g, h, c => Q .normal g h c
  | .reg ops, Q, g, h, c => kops C ops (Q .normal) g h c
  | .dreg ops _, Q, g, h, c => kops C ops (Q .normal) g h c
  | .seq a b, Q, g, h, c => kwp C a (Ex.then (kwp C b Q) Q) g h c
  | .cond (.t t) a b, Q, g, h, c => ∃ x, g t = .b x ∧ (x = true → kwp C a Q (upd g t (.b true)) h c) ∧ (x = false → kwp C b Q (upd g t (.b false)) h c)
  | .cond v a b, Q, g, h, c => ∃ x, ev g v = .b x ∧ (x = true → kwp C a Q g h c) ∧ (x = false → kwp C b Q g h c)
  | .block id k, Q, g, h, c => kwp C k (Ex.inBlock id Q) g h c
  | .loop k, Q, g, h, c => ∃ (I : Post) (μ : Slots → Heap → Nat → Nat), I g h c ∧ ∀ g h c, I g h c → kwp C k (Ex.then (fun g' h' c' => I g' h' c' ∧ μ g' h' c' < μ g h c) Q) g h c
  | .exit id, Q, g, h, c => Q (.exit id) g h c
  | .ret, Q, g, h, c => Q .ret g h c
  | .bad, _, _, _, _ => False

theorem hcall_nil (h : Heap) (t c : Nat) : hcall h [] [] t c = h := by
  funext u
  unfold hcall
  have e : tgt [] t 0 u = none := by cases u <;> simp [tgt]
  show (match tgt [] t 0 u with | some k => _ | none => h u) = h u
  rw [e]
end Go.AM
end
/-! Rel -/
section
namespace Go.AM

abbrev Bs := Nat → Prop

/-- The cell at a place of a block. -/
abbrev at_ (b o : Nat) : Addr := ⟨b, o, none⟩

/-- A cell of a row of elements. -/
def cellOf (es : List (List AV)) (e j : Nat) : Option AV := (es[e]?).bind (·[j]?)

/-- A value that reads as this, in blocks of X alone. -/
inductive Ro (w : World) (X : Bs) : AV → Value → Prop
  | b (x : Bool) : Ro w X (.b x) (.bool x)
  | i (k : IntKind) (n : Int) : Ro w X (.i k n) (.int k n)
  | s (l : List UInt8) : Ro w X (.s l) (.string ⟨l.toArray⟩)
  | nilp : Ro w X .nilp (.pointer none)
  | nils : Ro w X .nils (.slice none 0 0)
  | nilf : Ro w X .nilf .nilFunc
  | undef (v : Value) : Ro w X .undef v
  | dat0 (z : Nat) (a : Option Addr) (cap : Nat) : Ro w X (.dat z []) (.slice a 0 cap)
  | dat (es : List (List AV)) (blk off cap esz : Nat) (val : Nat → Nat → Value) (hX : X blk) (hl : es.length ≤ cap) (hz : ∀ e ∈ es, e.length = esz)
      (hc : ∀ e j x, cellOf es e j = some x → w.cell? (at_ blk (off + e * esz + j)) = some (val e j))
      (hr : ∀ e j x, cellOf es e j = some x → Ro w X x (val e j)) : Ro w X (.dat esz es) (.slice (some (at_ blk off)) es.length cap)

/-- A block of the machine's own: its cells are there, and none of them is frozen. -/
def OwnBlk (w : World) (blk n : Nat) : Prop := ∃ c t f, w.heap[blk]? = some (.cells c t f) ∧ n ≤ c.size ∧ ∀ o, w.frozen? (at_ blk o) = false

/-- A value that reads as this, in blocks of S alone, each of which serves one row. -/
inductive Od (w : World) : Bs → AV → Value → Prop
  | b (S : Bs) (x : Bool) : Od w S (.b x) (.bool x)
  | i (S : Bs) (k : IntKind) (n : Int) : Od w S (.i k n) (.int k n)
  | s (S : Bs) (l : List UInt8) : Od w S (.s l) (.string ⟨l.toArray⟩)
  | nilp (S : Bs) : Od w S .nilp (.pointer none)
  | nils (S : Bs) : Od w S .nils (.slice none 0 0)
  | nilf (S : Bs) : Od w S .nilf .nilFunc
  | undef (S : Bs) (v : Value) : Od w S .undef v
  | dat0 (S : Bs) (z : Nat) (a : Option Addr) : Od w S (.dat z []) (.slice a 0 0)
  | dat (S : Bs) (es : List (List AV)) (blk off cap esz : Nat) (val : Nat → Nat → Value) (Sf : Nat → Nat → Bs) (hS : S blk) (hl : es.length ≤ cap) (ho : OwnBlk w blk (off + cap * esz)) (hz : ∀ e ∈ es, e.length = esz)
      (hc : ∀ e j x, cellOf es e j = some x → w.cell? (at_ blk (off + e * esz + j)) = some (val e j))
      (hr : ∀ e j x, cellOf es e j = some x → Od w (Sf e j) x (val e j))
      (hs : ∀ e j b, Sf e j b → S b ∧ b ≠ blk) (hd : ∀ e j e' j' b, Sf e j b → Sf e' j' b → e = e' ∧ j = j') : Od w S (.dat esz es) (.slice (some (at_ blk off)) es.length cap)

theorem cell_same {w w' : World} {b : Nat} (h : w'.heap[b]? = w.heap[b]?) (o : Nat) : w'.cell? (at_ b o) = w.cell? (at_ b o) := by
  simp [World.cell?, h]
theorem frozen_same {w w' : World} {b : Nat} (h : w'.heap[b]? = w.heap[b]?) (o : Nat) : w'.frozen? (at_ b o) = w.frozen? (at_ b o) := by
  simp [World.frozen?, h]
theorem OwnBlk.same {w w' : World} {b n : Nat} (h : w'.heap[b]? = w.heap[b]?) (k : OwnBlk w b n) : OwnBlk w' b n := by
  obtain ⟨c, t, f, h1, h2, h3⟩ := k
  exact ⟨c, t, f, by rw [h, h1], h2, fun o => by rw [frozen_same h]; exact h3 o⟩

theorem Ro.frame {w w' : World} {X X' : Bs} (hX : ∀ b, X b → X' b) (hw : ∀ b, X b → w'.heap[b]? = w.heap[b]?) {x : AV} {v : Value} (h : Ro w X x v) : Ro w' X' x v := by
  induction h with
  | b x => exact .b x
  | i k n => exact .i k n
  | s l => exact .s l
  | nilp => exact .nilp
  | nils => exact .nils
  | nilf => exact .nilf
  | undef v => exact .undef v
  | dat0 z a cap => exact .dat0 z a cap
  | dat es blk off cap esz val hb hl hz hc hr ih =>
    exact .dat es blk off cap esz val (hX _ hb) hl hz (fun e j x hx => by rw [cell_same (hw _ hb)]; exact hc e j x hx) (fun e j x hx => ih e j x hx)

theorem Od.frame {w w' : World} {S : Bs} {x : AV} {v : Value} (h : Od w S x v) : ∀ {S' : Bs}, (∀ b, S b → S' b) → (∀ b, S b → w'.heap[b]? = w.heap[b]?) → Od w' S' x v := by
  induction h with
  | b S x => exact fun _ _ => .b _ x
  | i S k n => exact fun _ _ => .i _ k n
  | s S l => exact fun _ _ => .s _ l
  | nilp S => exact fun _ _ => .nilp _
  | nils S => exact fun _ _ => .nils _
  | nilf S => exact fun _ _ => .nilf _
  | undef S v => exact fun _ _ => .undef _ v
  | dat0 S z a => exact fun _ _ => .dat0 _ z a
  | dat S es blk off cap esz val Sf hS hl ho hz hc hr hs hd ih =>
    intro S' h1 h2
    exact .dat S' es blk off cap esz val Sf (h1 _ hS) hl (ho.same (h2 _ hS)) hz (fun e j x hx => by rw [cell_same (h2 _ hS)]; exact hc e j x hx)
      (fun e j x hx => ih e j x hx (fun b hb => hb) (fun b hb => h2 b (hs e j b hb).1)) (fun e j b hb => ⟨h1 _ (hs e j b hb).1, (hs e j b hb).2⟩) hd

/-- What is the machine's own can be read. -/
theorem Od.ro {w : World} {S : Bs} {x : AV} {v : Value} (h : Od w S x v) : ∀ {X : Bs}, (∀ b, S b → X b) → Ro w X x v := by
  induction h with
  | b S x => exact fun _ => .b x
  | i S k n => exact fun _ => .i k n
  | s S l => exact fun _ => .s l
  | nilp S => exact fun _ => .nilp
  | nils S => exact fun _ => .nils
  | nilf S => exact fun _ => .nilf
  | undef S v => exact fun _ => .undef v
  | dat0 S z a => exact fun _ => .dat0 z a 0
  | dat S es blk off cap esz val Sf hS hl ho hz hc hr hs hd ih =>
    intro X hX
    exact .dat es blk off cap esz val (hX _ hS) hl hz hc (fun e j x hx => ih e j x hx (fun b hb => hX _ (hs e j b hb).1))

/-! ### The state -/
structure Cfg where
  ι : Rid → Nat × Nat
  re : Rid → Prop
  F : Rid → Nat → Nat → Bs
  A : Bs

/-- The blocks of an object. -/
def Cfg.foot (κ : Cfg) (o : Rid) : Bs := fun b => (κ.re o ∧ b = (κ.ι o).1) ∨ ∃ e j, κ.F o e j b
def Cfg.X (κ : Cfg) (h : Heap) (w : World) : Bs := fun b => b < w.heap.size ∧ κ.A b ∧ ∀ o ob, h o = some ob → ¬ κ.foot o b

/-- A reference's address. -/
def Cfg.addr (κ : Cfg) (o : Rid) (esz e j : Nat) : Addr := at_ (κ.ι o).1 ((κ.ι o).2 + e * esz + j)

def SlOk (w : World) (κ : Cfg) (o : Rid) (ob : Ob) (off len : Nat) (cap : Option Nat) (v : Value) : Prop :=
  (len = 0 ∧ (∃ a, v = .slice a 0 0) ∧ (cap = none → ob.es.length ≤ off)) ∨
  (∃ rc, κ.re o ∧ v = .slice (some (κ.addr o ob.esz off 0)) len rc ∧ off + len ≤ ob.es.length ∧ len ≤ rc ∧ (∀ k, cap = some k → rc = k) ∧ (cap = none → ob.es.length ≤ off + rc) ∧
    OwnBlk w (κ.ι o).1 ((κ.ι o).2 + (off + rc) * ob.esz))

/-- A temporary's value, or a cell's. -/
inductive VR (w : World) (κ : Cfg) (h : Heap) (clk : Nat) : AV → Value → Prop
  | ro (x : AV) (v : Value) (hr : Ro w (κ.X h w) x v) : VR w κ h clk x v
  | ptr (o : Rid) (ver e c : Nat) (v : Value) (hs : ∃ a, v = .pointer a) (hv : ver < clk) (hp : ∀ ob, cur h o ver = some ob → v = .pointer (some (κ.addr o ob.esz e c))) : VR w κ h clk (.ptr o ver e c) v
  | sl (o : Rid) (ver off len : Nat) (cap : Option Nat) (v : Value) (hs : ∃ a l c, v = .slice a l c) (hv : ver < clk) (hp : ∀ ob, cur h o ver = some ob → SlOk w κ o ob off len cap v) : VR w κ h clk (.sl o ver off len cap) v
  | eptr (cells : List AV) (c : Nat) (blk off : Nat) (val : Nat → Value) (hX : κ.X h w blk) (hc : ∀ j x, cells[j]? = some x → w.cell? (at_ blk (off + j)) = some (val j))
      (hr : ∀ j x, cells[j]? = some x → Ro w (κ.X h w) x (val j)) : VR w κ h clk (.eptr cells c) (.pointer (some (at_ blk (off + c))))
  | agg (cs : List AV) (vs : Array Value) (hl : cs.length = vs.size) (hr : ∀ (j : Nat) x, cs[j]? = some x → VR w κ h clk x (vs.getD j undef)) : VR w κ h clk (.agg cs) (.agg vs)
  | tup (cs : List AV) (vs : Array Value) (hl : cs.length = vs.size) (hr : ∀ (j : Nat) x, cs[j]? = some x → VR w κ h clk x (vs.getD j undef)) : VR w κ h clk (.tup cs) (.tuple vs)
  | fn (f : Nat) (cs : List AV) (vs : Array Value) (hl : cs.length = vs.size) (hr : ∀ (j : Nat) x, cs[j]? = some x → VR w κ h clk x (vs.getD j undef)) : VR w κ h clk (.fn f cs) (.func (.func f) #[] vs)

/-- A cell of an object. -/
def CR (w : World) (κ : Cfg) (h : Heap) (clk : Nat) (own : Prop) (S : Bs) (x : AV) (v : Value) : Prop :=
  match x with
  | .dat z es => (own → Od w S (.dat z es) v) ∧ (¬ own → Ro w (κ.X h w) (.dat z es) v)
  | .agg _ | .tup _ => False
  | x => VR w κ h clk x v

structure ObR (w : World) (κ : Cfg) (h : Heap) (clk : Nat) (o : Rid) (ob : Ob) : Prop where
  ver : ob.ver < clk
  esz : ∀ e ∈ ob.es, e.length = ob.esz
  blk : ob.es ≠ [] → κ.re o ∧ OwnBlk w (κ.ι o).1 ((κ.ι o).2 + ob.es.length * ob.esz)
  cells : ∀ e j x, cellOf ob.es e j = some x → ∃ v, w.cell? (κ.addr o ob.esz e j) = some v ∧ CR w κ h clk ob.own (κ.F o e j) x v
  sep : ∀ e j b, κ.F o e j b → b ≠ (κ.ι o).1
  disj : ∀ e j e' j' b, κ.F o e j b → κ.F o e' j' b → e = e' ∧ j = j'

/-- A variable's cell. -/
def Gv : AV → Value → Prop
  | .i k m, v => v = .int k m
  | .undef, _ => True
  | _, _ => False
/-- The variables are there, and nobody's. -/
def GlobCells (w : World) (P0 A : Bs) : Prop := ∀ n, globs n ≠ [] → ¬ P0 n ∧ n < w.heap.size ∧ A n ∧ ∀ (j : Nat) x, (globs n)[j]? = some x → ∃ v, w.cell? (at_ n j) = some v ∧ Gv x v
/-- .. and so are those of which the library's contracts ask something. -/
def GlobMore (w : World) (P0 A : Bs) : Prop := ∀ x ∈ globX, ¬ P0 x.1 ∧ x.1 < w.heap.size ∧ A x.1 ∧ x.2 w.heap[x.1]?
def GlobOk (w : World) (P0 A : Bs) : Prop := GlobCells w P0 A ∧ GlobMore w P0 A

/-- The heap's part. 'w0': the world at the beginning; 'P0': the blocks that were handed over. -/
structure HR (w0 : World) (P0 : Bs) (w : World) (κ : Cfg) (h : Heap) (clk : Nat) : Prop where
  ob : ∀ o ob, h o = some ob → ObR w κ h clk o ob
  apart : ∀ o o' ob ob' b, h o = some ob → h o' = some ob' → o ≠ o' → κ.foot o b → κ.foot o' b → False
  base : ∀ o ob b, h o = some ob → κ.foot o b → (w0.heap.size ≤ b ∨ P0 b) ∧ b < w.heap.size
  os : w.os = w0.os ∧ ∀ a, a.block < w0.heap.size → w.frozen? a = w0.frozen? a
  tape : w.tape = w0.tape
  output : w.output = w0.output
  size : w0.heap.size ≤ w.heap.size
  old : ∀ b, b < w0.heap.size → ¬ P0 b → w.heap[b]? = w0.heap[b]?
  free : ∀ b, (w0.heap.size ≤ b ∨ P0 b) → κ.A b
  glob : GlobOk w0 P0 κ.A

end Go.AM
end
