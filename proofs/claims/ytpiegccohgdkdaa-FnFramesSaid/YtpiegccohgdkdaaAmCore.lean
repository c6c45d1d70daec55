/- The abstract machine: values, heap, a small language K, its weakest preconditions. No condition. -/
import Derived.Calls
import Derived.Tactics
import Derived.Orders
set_option linter.all false
set_option linter.unusedSimpArgs false
set_option linter.unusedVariables false
set_option linter.deprecated false
namespace Go.AM

/-- A root's name: a parameter's object, or one that the function made (by its temporary's number), or a part of a call's result. -/
inductive Rid where
  | p (n : Nat) | l (n : Nat) | r (n k : Nat)
  deriving DecidableEq

/-- Abstract values. 'dat': a slice that is read by value (its elements' cells). -/
inductive AV where
  | b (v : Bool) | i (k : IntKind) (n : Int) | s (l : List UInt8)
  | nilp | nils | nilf | undef
  | ptr (o : Rid) (ver e c : Nat)
  | sl (o : Rid) (ver off len : Nat) (cap : Option Nat)
  | dat (es : List (List AV))
  | eptr (cells : List AV) (c : Nat)
  | agg (cs : List AV) | tup (vs : List AV)
  | fn (f : Nat) (capt : List AV)

abbrev i64 (n : Int) : AV := .i .i64 n
abbrev u8 (n : Int) : AV := .i .u8 n

def AV.isDat : AV → Bool | .dat _ => true | _ => false
/-- No cell of these is a slice that is held by value. -/
def NoDat (cs : List AV) : Prop := ∀ c ∈ cs, c.isDat = false
def Flat (es : List (List AV)) : Prop := ∀ e ∈ es, NoDat e

structure Ob where
  ver : Nat
  es : List (List AV)
  esz : Nat
  own : Prop := True
  fixed : Bool := false
  tmp : Bool := false

abbrev Heap := Rid → Option Ob

structure St where
  g : Nat → AV
  h : Heap
  clk : Nat

def St.put (σ : St) (t : Nat) (v : AV) : St := { σ with g := fun u => if u = t then v else σ.g u }
def St.putO (σ : St) : Option Nat → AV → St
  | some t, v => σ.put t v
  | none, _ => σ
def St.hset (σ : St) (o : Rid) (b : Ob) : St := { σ with h := fun u => if u = o then some b else σ.h u }
def St.del (σ : St) (o : Rid) : St := { σ with h := fun u => if u = o then none else σ.h u }
def St.tick (σ : St) : St := { σ with clk := σ.clk + 1 }

inductive KV where
  | t (n : Nat) | c (v : AV) | f (n : Nat) | bad

inductive KC where
  | int (k : IntKind) | str | s2b | b2s | bad

/-- What is held against each other by == : truths, addresses, slices and functions against nil, structs of numbers, texts and truths. -/
inductive SK where
  | bool | int | str
inductive EqT where
  | bool | ptr | slice | func | struct (ks : List SK)

inductive KO where
  | mv (x : KV) | pick (c a b : KV)
  | alloc (cells : List AV) | box (x : KV)
  | build (zero : List AV) (parts : List (Nat × Nat × KV))
  | bslice (esz len : Nat) (zero : List AV) (parts : List (Nat × KV))
  | load (agg : Bool) (n : Nat) (a : KV) | store (n : Nat) (a v : KV)
  | nilck (x : KV)
  | bin (op : BinOp) (x y : KV) | eqt (t : EqT) (neg : Bool) (x y : KV) | un (op : UnOp) (x : KV) | conv (c : KC) (x : KV)
  | mks (esz bytes : Nat) (zero : List AV) (len cap : KV)
  | slc (esz : Nat) (x : KV) (lo hi mx : Option KV) | sls (x : KV) (lo hi : Option KV)
  | fld (off : Nat) (a : KV) | fldv (agg : Bool) (off n : Nat) (x : KV)
  | idx (esz : Nat) (x i : KV) | ids (x i : KV)
  | ext (x : KV) (i : Nat)
  | len (str : Bool) (x : KV) | cap (x : KV)
  | app (esz bytes : Nat) (zero : List AV) (s x : KV)
  | cpy (esz : Nat) (d s : KV) | clr (esz : Nat) (zero : List AV) (x : KV)
  | mm (isMax : Bool) (xs : List KV)
  | call (f : KV) (args : List KV) | call0 (f : KV) (args : List KV) | callh (f : KV) (args : List KV)
  | mkf (f : Nat) (capt : List KV)
  | bad

structure KOp where
  d : Option Nat
  g : Option (Nat × Bool)
  o : KO

inductive K where
  | skip | reg (ops : List KOp) | dreg (ops : List KOp) (w : List (List Nat)) | seq (a b : K) | cond (c : KV) (a b : K)
  | block (id : Nat) (k : K) | loop (k : K) | exit (id : Nat) | ret | gh | bad

/-! ## From the model's code -/
def cval : Value → AV
  | .bool b => .b b
  | .int k n => .i k n
  | .string s => .s s.data.toList
  | .pointer none => .nilp
  | .slice none 0 0 => .nils
  | .nilFunc => .nilf
  | .agg cs => .agg (cs.toList.map fun | .bool b => .b b | .int k n => .i k n | .string s => .s s.data.toList | .pointer none => .nilp | .slice none 0 0 => .nils | .nilFunc => .nilf | _ => .undef)
  | _ => .undef
def cv : Operand → KV
  | .tmp t => .t t
  | .const v => .c (cval v)
  | .func f => .f f
  | .global _ => .bad
def isAggT (P : Program) (t : TypeId) : Bool := match P.underlying t with | some (.struct _) | some (.array _ _) => true | _ => false
def AV.cells : AV → List AV
  | .agg cs => cs
  | v => [v]
def zeroT (P : Program) (t : TypeId) : List AV := match (P.info? t).bind (·.zero) with | some z => (cval z).cells | none => []
def fieldT (P : Program) (t : TypeId) (f : Nat) : Option Field := match P.underlying t with | some (.struct fs) => fs[f]? | _ => none
def elemT (P : Program) (t : TypeId) : Option TypeId := match P.underlying t with | some (.slice e) => if (P.info? e).isSome then some e else none | _ => none
def isIntT (P : Program) (t : TypeId) : Option IntKind := match P.underlying t with | some (.int k) => some k | _ => none
def isStrT (P : Program) (t : TypeId) : Bool := match P.underlying t with | some .string => true | _ => false

def ccall (P : Program) (c : Call) : KO :=
  match c.callee with
  | .value f => .call (cv f) (c.args.toList.map cv)
  | .builtin b =>
    match b, c.args.toList.map cv, c.argTypes.toList with
    | .len, [x], [t] => if isStrT P t then .len true x else match elemT P t with
      | some _ => .len false x
      | none => .bad
    | .cap, [x], _ => .cap x
    | .append, [s, x], [st, xt] => match elemT P st with
      | some e => if ((P.info? e).bind (·.zero)).isSome && (zeroT P e).length == P.cellsOf e && (isStrT P xt || (elemT P xt).isSome) then .app (P.cellsOf e) (P.bytesOf e) (zeroT P e) s x else .bad
      | _ => .bad
    | .copy, [d, s], [dt, _] => match elemT P dt with
      | some e => .cpy (P.cellsOf e) d s
      | none => .bad
    | .clear, [x], [t] => match elemT P t with
      | some e => .clr (P.cellsOf e) (zeroT P e) x
      | none => .bad
    | .min, xs, _ => .mm false xs
    | .max, xs, _ => .mm true xs
    | _, _, _ => .bad
  | _ => .bad

/-- A struct of numbers, texts and truths (and of such structs): its cells, one behind the other. -/
def flatF (P : Program) (rec : TypeId → Option (List SK)) : List Field → Nat → Option (List SK)
  | [], _ => some []
  | f :: fs, off => if f.name != "_" && f.offset == off && (P.info? f.type).isSome && (P.underlying f.type).isSome then
      match rec f.type with
      | some ks => if P.cellsOf f.type == ks.length && (isAggT P f.type || ks.length == 1) then (flatF P rec fs (off + ks.length)).map (ks ++ ·) else none
      | none => none
    else none
def flatT (P : Program) : Nat → TypeId → Option (List SK)
  | 0, _ => none
  | d + 1, t => match P.underlying t with
    | some .bool => some [.bool]
    | some (.int _) => some [.int]
    | some .string => some [.str]
    | some (.struct fs) => if P.stoodInHeld t then none else flatF P (flatT P d) fs.toList 0
    | _ => none
def ceq (P : Program) (neg : Bool) (t : TypeId) (x y : KV) : KO :=
  match P.underlying t with
  | some (.int _) | some .string => .bin (if neg then .neq else .eql) x y
  | some .bool => .eqt .bool neg x y
  | some (.pointer _) => .eqt .ptr neg x y
  | some (.slice _) => .eqt .slice neg x y
  | some (.func _ _ _) => .eqt .func neg x y
  | some (.struct _) => match flatT P 8 t with
    | some ks => if P.eqGuardType P.depth t then .bad else .eqt (.struct ks) neg x y
    | none => .bad
  | _ => .bad

def co (P : Program) (op : Op) : KO :=
  match op with
  | .move x | .assign x => .mv (cv x)
  | .pick c a b => .pick (cv c) (cv a) (cv b)
  | .alloc t => if ((P.info? t).bind (·.zero)).isSome then .alloc (zeroT P t) else .bad
  | .box t x => .box (cv x)
  | .build t ps => match P.underlying t with
    | some (.struct fs) => if ((P.info? t).bind (·.zero)).isSome && fs.all (fun f => (P.info? f.type).isSome) && ps.all (fun x => x.1 < fs.size) then .build (zeroT P t) (ps.toList.map fun (i, x) => ((fs[i]?).elim 0 (·.offset), (fs[i]?).elim 0 (fun f => P.cellsOf f.type), cv x)) else .bad
    | _ => .bad
  | .buildSlice t n ps => match elemT P t with
    | some e => if ((P.info? e).bind (·.zero)).isNone then .bad else .bslice (P.cellsOf e) n (zeroT P e) (ps.toList.map fun (i, x) => (i, cv x))
    | none => .bad
  | .load t a => if (P.info? t).isSome && (P.underlying t).isSome && (isAggT P t || P.cellsOf t == 1) then .load (isAggT P t) (P.cellsOf t) (cv a) else .bad
  | .store t a v => if (P.info? t).isSome then .store (P.cellsOf t) (cv a) (cv v) else .bad
  | .nilCheck x => .nilck (cv x)
  | .binOp op t x y _ => match op with
    | .eql => ceq P false t (cv x) (cv y)
    | .neq => ceq P true t (cv x) (cv y)
    | op => .bin op (cv x) (cv y)
  | .unOp op _ x => .un op (cv x)
  | .convert s d x => if (P.underlying s).isNone then .bad else match isIntT P d, isStrT P d, isStrT P s with
    | some k, _, _ => .conv (.int k) (cv x)
    | none, true, true => .conv .str (cv x)
    | none, true, false => match (elemT P s).bind (isIntT P) with
      | some .u8 => .conv .b2s (cv x)
      | _ => .bad
    | none, false, true => match (elemT P d).bind (isIntT P) with
      | some .u8 => .conv .s2b (cv x)
      | _ => .bad
    | _, _, _ => .bad
  | .makeSlice t l c => match elemT P t with
    | some e => if ((P.info? e).bind (·.zero)).isNone then .bad else .mks (P.cellsOf e) (P.bytesOf e) (zeroT P e) (cv l) (cv c)
    | none => .bad
  | .slice t x lo hi mx => if mx.isSome && hi.isNone then .bad else if isStrT P t then (if mx.isSome then .bad else .sls (cv x) (lo.map cv) (hi.map cv)) else match elemT P t with
    | some e => .slc (P.cellsOf e) (cv x) (lo.map cv) (hi.map cv) (mx.map cv)
    | none => .bad
  | .fieldAddr t x f => match fieldT P t f with
    | some fd => if P.cellsOf fd.type = 0 || (P.info? fd.type).isNone then .bad else .fld fd.offset (cv x)
    | none => .bad
  | .field t x f => match fieldT P t f with
    | some fd => if (P.info? fd.type).isSome && (P.underlying fd.type).isSome && (isAggT P fd.type || P.cellsOf fd.type == 1) then .fldv (isAggT P fd.type) fd.offset (P.cellsOf fd.type) (cv x) else .bad
    | none => .bad
  | .indexAddr t x i => match elemT P t with
    | some e => .idx (P.cellsOf e) (cv x) (cv i)
    | none => .bad
  | .index t x i => if isStrT P t then .ids (cv x) (cv i) else .bad
  | .extract x i => .ext (cv x) i
  | .call c => ccall P c
  | .makeFunc (.func f) first capt => if first.size = 0 then .mkf f (capt.toList.map cv) else .bad
  | _ => .bad

/-- 'n': how many temporaries there are. -/
def cop (P : Program) (n : Nat) (ops : Array Oper) (o : Oper) : KOp :=
  ⟨o.dst, o.guard.map fun (j, w) => ((((ops[j]?).bind (·.dst)).getD n), w), if o.dst.all (· < n) then co P o.op else .bad⟩

/-- In a region whose order is drawn a call hands over no objects, but for those that 'hint' names. -/
def KO.drawn (hint : Nat → Bool) : KO → KO
  | .call (.f n) as => if hint n then .callh (.f n) as else .call0 (.f n) as
  | .call f as => .call0 f as
  | o => o
def KOp.drawn (hint : Nat → Bool) (o : KOp) : KOp := { o with o := o.o.drawn hint }

/-- What an operation looks at. -/
def KV.reads : KV → List Nat
  | .t n => [n]
  | _ => []
def readsO : Option KV → List Nat
  | some x => x.reads
  | none => []
def KO.reads : KO → List Nat
  | .mv x | .box x | .nilck x | .un _ x | .conv _ x | .fld _ x | .fldv _ _ _ x | .ext x _ | .len _ x | .cap x | .load _ _ x | .clr _ _ x => x.reads
  | .pick c a b => c.reads ++ a.reads ++ b.reads
  | .alloc _ | .bad => []
  | .build _ ps => ps.flatMap fun p => p.2.2.reads
  | .bslice _ _ _ ps => ps.flatMap fun p => p.2.reads
  | .store _ a v => a.reads ++ v.reads
  | .bin _ x y | .eqt _ _ x y | .mks _ _ _ x y | .idx _ x y | .ids x y | .app _ _ _ x y | .cpy _ x y => x.reads ++ y.reads
  | .slc _ x a b c => x.reads ++ readsO a ++ readsO b ++ readsO c
  | .sls x a b => x.reads ++ readsO a ++ readsO b
  | .mm _ xs => xs.flatMap KV.reads
  | .call f as | .call0 f as | .callh f as => f.reads ++ as.flatMap KV.reads
  | .mkf _ as => as.flatMap KV.reads
def KOp.reads (o : KOp) : List Nat := o.o.reads ++ (match o.g with | some (t, _) => [t] | none => [])

/-- 0: it knows nothing of the heap; 1: it reads it; 2: it writes; 3: a call that is handed objects; 4: it makes memory. -/
def KO.cls : KO → Nat
  | .mv _ | .pick .. | .build .. | .bin .. | .un .. | .sls .. | .fldv .. | .ids .. | .ext .. | .mm .. | .mkf .. | .call0 .. => 0
  | .load .. | .nilck _ | .eqt .. | .conv .. | .slc .. | .fld .. | .idx .. | .len .. => 1
  | .callh .. => 3
  | .alloc .. | .bslice .. | .mks .. => 4
  | _ => 2
/-- May two operations change places? -/
def apartK (x y : KOp) : Bool :=
  (match x.d with | some d => !(y.reads.contains d) && y.d != some d | none => true) && (match y.d with | some d => !(x.reads.contains d) | none => true) &&
  (x.o.cls == 0 || y.o.cls == 0 || (x.o.cls == 1 && y.o.cls == 1) || (x.o.cls == 3 && y.o.cls == 4) || (x.o.cls == 4 && y.o.cls == 3))
def waitsT (w : List (List Nat)) : Nat → Nat → Nat → Bool
  | 0, _, _ => false
  | f + 1, i, x => ((w[i]?).getD []).any fun e => e == x || waitsT w f e x
/-- Whatever order is drawn, it comes to the same. -/
def drawOk (l : List KOp) (w : List (List Nat)) : Bool :=
  (List.range l.length).all fun i => (((w[i]?).getD []).all fun e => decide (e < i)) && (List.range i).all fun x => waitsT w l.length i x || (match l[x]?, l[i]? with | some a, some b => apartK a b | _, _ => false)
def drawsOk : K → Bool
  | .dreg l w => drawOk l w
  | .seq a b => drawsOk a && drawsOk b
  | .cond _ a b => drawsOk a && drawsOk b
  | .block _ c => drawsOk c
  | .loop c => drawsOk c
  | _ => true
def edges (ops : Array Oper) : List (List Nat) := ops.toList.map fun o => o.after.toList.filterMap fun e => if Region.binds .any e then some e.on else none

def comp (P : Program) (n : Nat) (hint : Nat → Bool) : Code → K
  | .skip => .skip
  | .region _ ops d =>
    let l := ops.toList.map (cop P n ops)
    if d then K.dreg (l.map (KOp.drawn hint)) (edges ops) else K.reg l
  | .seq a b => .seq (comp P n hint a) (comp P n hint b)
  | .cond c a b => .cond (cv c) (comp P n hint a) (comp P n hint b)
  | .block i c => .block i (comp P n hint c)
  | .loop c => .loop (comp P n hint c)
  | .exit i => .exit i
  | .ret => .ret
  | _ => .bad
end Go.AM
