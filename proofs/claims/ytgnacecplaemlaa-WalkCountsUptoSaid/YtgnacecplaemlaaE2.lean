/-
  An abstract interpreter for the model's code, part 2: what an operation, a region, a piece of code, a function comes to.
-/
import Derived.Test.YtgnacecplaemlaaE1
namespace Go.Proofs.Ytgnacecplaemlaa.AI

/-! ### Types -/
def asize (P : Program) (t : TypeId) : Option Nat := (P.info? t).map (·.size)
def aisAgg (P : Program) (t : TypeId) : Option Bool :=
  match P.underlying t with
  | some (.struct _) | some (.array _ _) => some true
  | some _ => some false
  | none => none
def azero (P : Program) (t : TypeId) : Option AV := ((P.info? t).bind (·.zero)).map ofConst

/-! ### Operands -/
def aev (fr : List AV) : Operand → AV
  | .tmp t => fr.getD t .top
  | .const v => ofConst v
  | .global _ => .top
  | .func f => .fn (.func f) [] []
def aput (fr : List AV) (dst : Option Tmp) (v : AV) : List AV :=
  match dst with
  | some d => fr.set d v
  | none => fr

/-! ### Operations that look at no memory -/
def aIntOp (op : BinOp) (k : IntKind) (a b : Int) : Option AV :=
  match op with
  | .add => some (.int k (k.wrap (a + b)))
  | .sub => some (.int k (k.wrap (a - b)))
  | .mul => some (.int k (k.wrap (a * b)))
  | .quo => if b = 0 then none else some (.int k (k.wrap (a.tdiv b)))
  | .rem => if b = 0 then none else some (.int k (a.tmod b))
  | .and => some (.int k (k.wrap (BitVec.ofInt k.bits a &&& BitVec.ofInt k.bits b).toNat))
  | .or => some (.int k (k.wrap (BitVec.ofInt k.bits a ||| BitVec.ofInt k.bits b).toNat))
  | .xor => some (.int k (k.wrap (BitVec.ofInt k.bits a ^^^ BitVec.ofInt k.bits b).toNat))
  | .andNot => some (.int k (k.wrap (BitVec.ofInt k.bits a &&& ~~~ BitVec.ofInt k.bits b).toNat))
  | .eql => some (.bool (a == b))
  | .neq => some (.bool (a != b))
  | .lss => some (.bool (a < b))
  | .leq => some (.bool (a ≤ b))
  | .gtr => some (.bool (a > b))
  | .geq => some (.bool (a ≥ b))
  | .shl | .shr => none
def natsLess : List Nat → List Nat → Bool
  | _, [] => false
  | [], _ :: _ => true
  | a :: x, b :: y => Nat.blt a b || (Nat.beq a b && natsLess x y)
def natsEq : List Nat → List Nat → Bool
  | [], [] => true
  | a :: x, b :: y => Nat.beq a b && natsEq x y
  | _, _ => false
def aStrOp (op : BinOp) (x y : List Nat) : Option AV :=
  match op with
  | .add => if x.length + y.length ≤ 9223372036854775807 then some (.str (x ++ y)) else none
  | .eql => some (.bool (natsEq x y))
  | .neq => some (.bool (!natsEq x y))
  | .lss => some (.bool (natsLess x y))
  | .leq => some (.bool (natsLess x y || natsEq x y))
  | .gtr => some (.bool (!(natsLess x y || natsEq x y)))
  | .geq => some (.bool (!natsLess x y))
  | _ => none
/-- A part of a struct's or an array's cells. -/
def apart (P : Program) (t : TypeId) (cs : List AV) (off : Nat) : Option AV :=
  match aisAgg P t, asize P t with
  | some true, some n => if off + n ≤ cs.length then some (.agg ((cs.drop off).take n)) else none
  | some false, _ => cs[off]?
  | _, _ => none
/-- '==' of structs, field by field. -/
def aeqFields (P : Program) (eq : TypeId → AV → AV → Option Bool) (xs ys : List AV) : List Field → Option Bool
  | [] => some true
  | f :: fs =>
    if f.name ≠ "_" then
      match apart P f.type xs f.offset, apart P f.type ys f.offset with
      | some a, some b =>
        match eq f.type a b with
        | some true => aeqFields P eq xs ys fs
        | some false => some false
        | none => none
      | _, _ => none
    else aeqFields P eq xs ys fs
def aeq1 (P : Program) (eq : TypeId → AV → AV → Option Bool) (t : TypeId) (x y : AV) : Option Bool :=
  match P.underlying t, x, y with
  | some .bool, .bool a, .bool b => some (a == b)
  | some (.int _), .int k a, .int k' b => if k = k' then some (a == b) else none
  | some .string, .str a, .str b => some (natsEq a b)
  | some (.pointer _), .nilp, .nilp => some true
  | some (.pointer _), .nilp, .ptr _ _ => some false
  | some (.pointer _), .ptr _ _, .nilp => some false
  | some (.slice _), .nilSl, .nilSl => some true
  | some (.slice _), .nilSl, .sl .. => some false
  | some (.slice _), .sl .., .nilSl => some false
  | some (.func ..), .nilFn, .nilFn => some true
  | some (.func ..), .nilFn, .fn .. => some false
  | some (.func ..), .fn .., .nilFn => some false
  | some (.interface _), .nilIface, .nilIface => some true
  | some (.interface _), .nilIface, .iface .. => some false
  | some (.interface _), .iface .., .nilIface => some false
  | some (.map ..), .nilMap, .nilMap => some true
  | some (.struct fields), .agg xs, .agg ys => if P.stoodInHeld t then none else aeqFields P eq xs ys fields.toList
  | _, _, _ => none
/-- '==' at a type. -/
def aeq (P : Program) : Nat → TypeId → AV → AV → Option Bool
  | 0, _, _, _ => none
  | d + 1, t, x, y => aeq1 P (aeq P d) t x y
def isCst : Operand → Bool
  | .const _ => true
  | _ => false
def aguard (P : Program) (xt : TypeId) (xo yo : Operand) (x y : AV) : Bool :=
  match x, y with
  | .nilIface, .nilIface => isCst xo || isCst yo
  | .agg _, .agg _ => !P.eqGuardType P.depth xt
  | _, _ => true
def abin (P : Program) (op : BinOp) (xt : TypeId) (xo yo : Operand) (x y : AV) : Option AV :=
  match x, y with
  | .int k a, .int k' b =>
    match op with
    | .shl => if b < 0 then none else some (.int k (k.wrap (a * 2 ^ (min b.toNat k.bits))))
    | .shr => if b < 0 then none else some (.int k (a.fdiv (2 ^ (min b.toNat k.bits))))
    | op => if k = k' then aIntOp op k a b else none
  | .str a, .str b => aStrOp op a b
  | x, y =>
    match op with
    | .eql => if aguard P xt xo yo x y then (aeq P Op.maxDepth xt x y).map .bool else none
    | .neq => if aguard P xt xo yo x y then (aeq P Op.maxDepth xt x y).map (fun b => .bool (!b)) else none
    | _ => none
def aun (op : UnOp) (x : AV) : Option AV :=
  match op, x with
  | .not, .bool b => some (.bool (!b))
  | .neg, .int k n => some (.int k (k.wrap (0 - n)))
  | .xor, .int k n => some (.int k (k.wrap (BitVec.ofInt k.bits (if k.signed then -1 else k.max) ^^^ BitVec.ofInt k.bits n).toNat))
  | _, _ => none
def aIx (x : AV) (most : Nat) : Option Nat :=
  match x with
  | .int _ i => if 0 ≤ i ∧ i ≤ (most : Int) then some i.toNat else none
  | _ => none
def abound (x : Option AV) (most dflt : Nat) : Option Nat :=
  match x with
  | none => some dflt
  | some v => aIx v most
def aslice (P : Program) (t : TypeId) (x : AV) (lo hi mx : Option AV) : Option AV :=
  match P.underlying t, x with
  | some .string, .str s =>
    if mx.isSome then none else
    match abound hi s.length s.length with
    | none => none
    | some h =>
      match abound lo h 0 with
      | none => none
      | some l => some (.str ((s.drop l).take (h - l)))
  | some (.slice e), .nilSl =>
    match asize P e, abound mx 0 0 with
    | some _, some m =>
      match abound hi m 0 with
      | none => none
      | some h =>
        match abound lo h 0 with
        | none => none
        | some _ => if mx.isSome && !hi.isSome then none else some .nilSl
    | _, _ => none
  | some (.slice e), .sl id off len es c =>
    match asize P e with
    | none => none
    | some n =>
      if n ≠ es then none else
      match mx with
      | none =>
        match abound hi (c.getD len) len with
        | none => none
        | some h =>
          match abound lo h 0 with
          | none => none
          | some l => some (.sl id (off + l * es) (h - l) es (c.map (· - l)))
      | some m =>
        if !hi.isSome then none else
        match aIx m (c.getD len) with
        | none => none
        | some m =>
          match abound hi m 0 with
          | none => none
          | some h =>
            match abound lo h 0 with
            | none => none
            | some l => some (.sl id (off + l * es) (h - l) es (some (m - l)))
  | _, _ => none
def afieldAt (P : Program) (s : TypeId) (x : AV) (f : Nat) : Option AV :=
  match P.underlying s, x with
  | some (.struct fields), .ptr id off =>
    match fields[f]? with
    | none => none
    | some fd =>
      match asize P fd.type with
      | some (_ + 1) => some (.ptr id (off + fd.offset))
      | _ => none
  | _, _ => none
def aindexAt (P : Program) (t : TypeId) (x ix : AV) : Option AV :=
  match P.underlying t, x, ix with
  | some (.slice e), .sl id off len es _, .int _ i =>
    match asize P e with
    | none => none
    | some n => if n = es ∧ 0 ≤ i ∧ i < (len : Int) then some (.ptr id (off + i.toNat * es)) else none
  | some (.array len e), .ptr id off, .int _ i =>
    match asize P e with
    | none => none
    | some n => if 0 ≤ i ∧ i < (len : Int) then some (.ptr id (off + i.toNat * n)) else none
  | _, _, _ => none
def aindex (P : Program) (t : TypeId) (x ix : AV) : Option AV :=
  match P.underlying t, x, ix with
  | some .string, .str s, .int _ i => if 0 ≤ i then (s[i.toNat]?).map (fun b => .int .u8 (b : Int)) else none
  | some (.array len e), .agg cs, .int _ i =>
    match asize P e with
    | none => none
    | some n => if 0 ≤ i ∧ i < (len : Int) then apart P e cs (i.toNat * n) else none
  | _, _, _ => none
def AV.isTop : AV → Bool
  | .top => true
  | _ => false
def afill (place : Nat → Option (Nat × Nat)) (cells : List AV) : List (Nat × AV) → Option (List AV)
  | [] => some cells
  | (i, v) :: rest =>
    match place i with
    | none => none
    | some (off, size) =>
      if v.isTop || v.cells.length != size || Nat.blt cells.length (off + size) then none
      else afill place (cells.take off ++ v.cells ++ cells.drop (off + size)) rest
def aplaces (P : Program) : List Field → Option (List (Nat × Nat))
  | [] => some []
  | f :: fs =>
    match asize P f.type, aplaces P fs with
    | some n, some l => some ((f.offset, n) :: l)
    | _, _ => none
def abuild (P : Program) (t : TypeId) (parts : List (Nat × AV)) : Option AV :=
  match azero P t, P.underlying t with
  | some z, some (.struct fields) =>
    if z.isTop then none else
    match aplaces P fields.toList with
    | none => none
    | some places => (afill (places[·]?) z.cells parts).map .agg
  | some z, some (.array _ e) =>
    if z.isTop then none else
    match asize P e with
    | none => none
    | some n => (afill (fun i => some (i * n, n)) z.cells parts).map .agg
  | _, _ => none
def alen (P : Program) (t : TypeId) (x : AV) : Option Nat :=
  match P.underlying t, x with
  | some .string, .str s => some s.length
  | some (.slice _), .sl _ _ n _ _ => some n
  | some (.slice _), .nilSl => some 0
  | some (.map ..), .nilMap => some 0
  | _, _ => none
def acap (P : Program) (t : TypeId) (x : AV) : Option Nat :=
  match P.underlying t, x with
  | some (.slice _), .sl _ _ _ _ c => c
  | some (.slice _), .nilSl => some 0
  | _, _ => none
def afold2 (g : Int → Int → Bool) : AV → List AV → Option AV
  | x, [] => some x
  | .int k a, .int _ b :: rest => afold2 g (.int k (if g a b then b else a)) rest
  | _, _ :: _ => none
def isInt : AV → Bool
  | .int .. => true
  | _ => false
def anilCheck (x : AV) : Option AV :=
  match x with
  | .ptr id off => some (.ptr id off)
  | .fn (.func f) a b => some (.fn (.func f) a b)
  | .iface t v => some (.iface t v)
  | _ => none
def aconv (P : Program) (src dst : TypeId) (x : AV) : Option AV :=
  match P.underlying src, P.underlying dst, x with
  | some _, some (.int k), .int _ n => some (.int k (k.wrap n))
  | some _, some .string, .str s => some (.str s)
  | _, _, _ => none
def apure (P : Program) (ρ : Operand → AV) (o : Oper) : Option AV :=
  match o.op with
  | .move x | .assign x => some (ρ x)
  | .pick c a b =>
    match ρ c with
    | .bool t => some (if t then ρ a else ρ b)
    | _ => none
  | .nilCheck x => anilCheck (ρ x)
  | .binOp op xt x y _ => abin P op xt x y (ρ x) (ρ y)
  | .unOp op _ x => aun op (ρ x)
  | .convert src dst x => aconv P src dst (ρ x)
  | .makeInterface xt x =>
    match P.underlying xt with
    | some (.interface _) | none => none
    | some _ => some (.iface xt (ρ x))
  | .makeFunc fn first captured =>
    match fn with
    | .func g => some (.fn (.func g) (first.toList.map ρ) (captured.toList.map ρ))
    | _ => none
  | .slice t x lo hi mx =>
    match P.underlying t with
    | some .string | some (.slice _) => aslice P t (ρ x) (lo.map ρ) (hi.map ρ) (mx.map ρ)
    | _ => none
  | .fieldAddr s x f => afieldAt P s (ρ x) f
  | .field t x f =>
    match P.underlying t, ρ x with
    | some (.struct fields), .agg cs =>
      match fields[f]? with
      | some fd => apart P fd.type cs fd.offset
      | none => none
    | _, _ => none
  | .indexAddr t x ix => aindexAt P t (ρ x) (ρ ix)
  | .index t x ix => aindex P t (ρ x) (ρ ix)
  | .extract t ix =>
    match ρ t with
    | .tup l => l[ix]?
    | _ => none
  | .build t parts => abuild P t (parts.toList.map fun p => (p.1, ρ p.2))
  | .call { callee := .builtin .len, args, argTypes } =>
    match argTypes[0]?, args[0]? with
    | some t, some x => (alen P t (ρ x)).map fun n => .int .i64 (n : Int)
    | _, _ => none
  | .call { callee := .builtin .cap, args, argTypes } =>
    match argTypes[0]?, args[0]? with
    | some t, some x => (acap P t (ρ x)).map fun n => .int .i64 (n : Int)
    | _, _ => none
  | .call { callee := .builtin .min, args, .. } =>
    match args.toList.map ρ with
    | x :: rest => if isInt x then afold2 (fun a b => b < a) x rest else none
    | [] => none
  | .call { callee := .builtin .max, args, .. } =>
    match args.toList.map ρ with
    | x :: rest => if isInt x then afold2 (fun a b => b > a) x rest else none
    | [] => none
  | _ => none

/-! ### Operations that only look at memory -/
def toBytes : List AV → Option (List Nat)
  | [] => some []
  | .int .u8 n :: l => if 0 ≤ n ∧ n < 256 then (toBytes l).map (n.toNat :: ·) else none
  | _ :: _ => none
noncomputable def aload (P : Program) (ρ : Operand → AV) (o : Oper) (h : AH) : Option AV :=
  match o.op with
  | .load t a =>
    match ρ a, aisAgg P t, asize P t with
    | .ptr id off, some true, some n => (h.cells? id n off).map .agg
    | .ptr id off, some false, _ => h.cell? id off
    | _, _, _ => none
  | .convert src dst x =>
    match P.underlying src, P.underlying dst, ρ x with
    | some (.slice e), some .string, .sl id off len es _ =>
      match P.underlying e with
      | some (.int .u8) => if es = 1 then ((h.cells? id len off).bind toBytes).map .str else none
      | _ => none
    | some (.slice e), some .string, .nilSl =>
      match P.underlying e with
      | some (.int .u8) => some (.str [])
      | _ => none
    | _, _, _ => none
  | _ => none

/-! ### Operations that turn memory -/
def atoms : List AV → Bool
  | [] => true
  | v :: l => v.atom && atoms l
/-- Cells that are there, written anew. -/
noncomputable def AH.write (h : AH) (id off : Nat) (l : List AV) : Option AH :=
  match h.blk? id with
  | some b => if !b.ro && Nat.ble b.lo off && Nat.ble (off + l.length) b.hi then some (h.put id (some { b with cells := putCells l off b.cells })) else none
  | none => none
def arep (z : List AV) : Nat → List AV
  | 0 => []
  | n + 1 => z ++ arep z n
noncomputable def afirst (h : AH) (es : Nat) (x : AV) : Option (List AV) :=
  match x with
  | .sl id off len es' _ => if es' = es then h.cells? id (len * es) off else none
  | .nilSl => some []
  | .str s => if es = 1 then some (s.map fun (b : Nat) => .int .u8 (b : Int)) else none
  | _ => none
def alenOf : AV → Option Nat
  | .sl _ _ len _ _ => some len
  | .nilSl => some 0
  | .str s => some s.length
  | _ => none
/-- A slice or a string. -/
def isSeq : TypeDesc → Bool
  | .slice _ | .string => true
  | _ => false
/-- append(nil, make([]T, k)...): cells that are zero. -/
noncomputable def azeros (P : Program) (e : TypeId) (s x : AV) (h : AH) : Option (AV × AH) :=
  match s, x with
  | .nilSl, .int _ k =>
    match P.info? e with
    | none => none
    | some i =>
      match i.zero with
      | none => none
      | some z =>
        if (ofConst z).isTop || (ofConst z).cells.length != i.size || i.size = 0 || i.bytes = 0 || decide (IntKind.i64.wrap k ≤ 0) || Nat.blt 140737488355328 ((IntKind.i64.wrap k).toNat * i.bytes) then none
        else some (.sl h.next 0 (IntKind.i64.wrap k).toNat i.size none, h.alloc (arep (ofConst z).cells (IntKind.i64.wrap k).toNat))
  | _, _ => none
noncomputable def aappend (P : Program) (t0 t1 : TypeId) (s x : AV) (h : AH) : Option (AV × AH) :=
  match P.underlying t0, P.underlying t1 with
  | some (.slice e), some (.int _) => azeros P e s x h
  | some (.slice e), some d1 =>
    if !isSeq d1 then none else
    match P.info? e with
    | none => none
    | some i =>
      match i.zero, alenOf x with
      | some z, some n =>
        if i.size = 0 || i.bytes = 0 || z.cells.size != i.size then none else
        match s with
        | .nilSl =>
          if n = 0 then some (.nilSl, h) else
          if Nat.blt 140737488355328 (n * i.bytes) then none else
          match afirst h i.size x with
          | none => none
          | some new => some (.sl h.next 0 n i.size none, h.alloc new)
        | .sl id off len es c =>
          if es ≠ i.size then none else
          if n = 0 then some (.sl id off len es c, h) else
          if Nat.blt 140737488355328 ((len + n) * i.bytes) then none else
          match afirst h i.size x, h.cells? id (len * es) off with
          | some new, some old =>
            match c with
            | some k =>
              if Nat.blt k (len + n) then some (.sl h.next 0 (len + n) es none, h.alloc (old ++ new))
              else amove h id off len n es new
            | none => amove h id off len n es new
          | _, _ => none
        | _ => none
      | _, _ => none
  | _, _ => none
 where amove (h : AH) (id off len n es : Nat) (new : List AV) : Option (AV × AH) :=
  match h.blk? id with
  | none => none
  | some b =>
    if b.ro || !atoms new then none else
    let h1 := h.put id none
    some (.sl h.next off (len + n) es none, { m := h1.m.set (some { lo := off, hi := off + (len + n) * es, ro := false, cells := putCells new (off + len * es) b.cells }) h.next, ob := h.ob, next := h.next + 1 })
noncomputable def acopy (P : Program) (t0 : TypeId) (d x : AV) (h : AH) : Option (AV × AH) :=
  match P.underlying t0 with
  | some (.slice e) =>
    match asize P e with
    | some es =>
      match d, x with
      | .nilSl, .nilSl => some (.int .i64 0, h)
      | .nilSl, .sl .. => some (.int .i64 0, h)
      | .sl .., .nilSl => some (.int .i64 0, h)
      | .sl id off len es1 _, .sl id2 off2 n es2 _ =>
        if es1 ≠ es ∨ es2 ≠ es then none else
        if min n len = 0 then some (.int .i64 0, h) else
        match h.cells? id2 (min n len * es) off2 with
        | none => none
        | some l =>
          if !atoms l then none else
          match h.write id off l with
          | none => none
          | some h' => some (.int .i64 (min n len : Nat), h')
      | _, _ => none
    | none => none
  | _ => none
/-- A step of a walk through a string: a byte below 128 alone. -/
noncomputable def anext (h : AH) (id : Nat) : Option (AV × AH) :=
  match h.ob? id with
  | some (.iter s pos) =>
    match s[pos]? with
    | some b => if Nat.blt b 128 then some (.tup [.bool true, .int .i64 (pos : Int), .int .i32 (b : Int)], h.putOb id (some (.iter s (pos + 1)))) else none
    | none => some (.tup [.bool false], h)
  | _ => none
noncomputable def aheap (P : Program) (call : ACall) (ρ : Operand → AV) (o : Oper) (h : AH) : Option (AV × AH) :=
  match o.op with
  | .alloc e =>
    match azero P e with
    | some z => if z.isTop then none else some (.ptr h.next 0, h.alloc z.cells)
    | none => none
  | .box _ x => if (ρ x).isTop then none else some (.ptr h.next 0, h.alloc (ρ x).cells)
  | .buildSlice t len parts =>
    match P.underlying t with
    | some (.slice e) =>
      match asize P e, azero P e with
      | some n, some z =>
        if len = 0 then (if parts.toList.isEmpty then some (.sl h.next 0 0 n (some 0), h.alloc []) else none) else
        if z.isTop || z.cells.length != n || n = 0 || len = 0 || Nat.blt 16777216 (len * n) then none else
        match afill (fun i => some (i * n, n)) (arep z.cells len) (parts.toList.map fun p => (p.1, ρ p.2)) with
        | none => none
        | some l => some (.sl h.next 0 len n (some len), h.alloc l)
      | _, _ => none
    | _ => none
  | .makeSlice t l c =>
    match P.underlying t, ρ l, ρ c with
    | some (.slice e), .int _ l, .int _ c =>
      match P.info? e with
      | none => none
      | some i =>
        match i.zero.map ofConst with
        | none => none
        | some z =>
          let l := IntKind.i64.wrap l
          let c := IntKind.i64.wrap c
          if z.isTop || z.cells.length != i.size || i.size = 0 || decide (l < 0) || decide (l > c) || Nat.blt 140737488355328 (c.toNat * i.bytes) then none else
          some (.sl h.next 0 l.toNat i.size (some c.toNat), h.alloc (arep z.cells c.toNat))
    | _, _, _ => none
  | .store t a x =>
    match ρ a, asize P t with
    | .ptr id off, some n =>
      if (ρ x).isTop || (ρ x).cells.length != n || !atoms (ρ x).cells then none else
      (h.write id off (ρ x).cells).map fun h' => (.tup [], h')
    | _, _ => none
  | .call { callee := .builtin .append, args, argTypes } =>
    match argTypes[0]?, argTypes[1]?, args[0]?, args[1]? with
    | some t0, some t1, some s, some x => aappend P t0 t1 (ρ s) (ρ x) h
    | _, _, _, _ => none
  | .call { callee := .builtin .copy, args, argTypes } =>
    match argTypes[0]?, args[0]?, args[1]? with
    | some t0, some d, some x => acopy P t0 (ρ d) (ρ x) h
    | _, _, _ => none
  | .call { callee := .value f, args, .. } =>
    match ρ f with
    | .fn (.func g) first captured => call (.func g) (first ++ args.toList.map ρ ++ captured) h
    | .fn (.yield id) [] [] => call (.yield id) (args.toList.map ρ) h
    | _ => none
  | .range t x =>
    match P.underlying t, ρ x with
    | some .string, .str s => some (.ptr h.next 0, h.newOb (.iter s 0))
    | _, _ => none
  | .next it isString =>
    match isString, ρ it with
    | true, .ptr id 0 => anext h id
    | _, _ => none
  | _ => none

inductive Cls where
  | pure | load | heap
  deriving DecidableEq
def cls (P : Program) (o : Oper) : Cls :=
  match o.op with
  | .load .. => .load
  | .convert src dst _ =>
    match P.underlying src, P.underlying dst with
    | some (.slice _), some .string => .load
    | _, _ => .pure
  | .alloc _ | .box .. | .buildSlice .. | .makeSlice .. | .store .. | .range .. | .next .. => .heap
  | .call { callee := .builtin .append, .. } | .call { callee := .builtin .copy, .. } | .call { callee := .value _, .. } => .heap
  | _ => .pure
noncomputable def aop (P : Program) (call : ACall) (ρ : Operand → AV) (o : Oper) (h : AH) : Option (AV × AH) :=
  match cls P o with
  | .pure => (apure P ρ o).map fun v => (v, h)
  | .load => (aload P ρ o h).map fun v => (v, h)
  | .heap => aheap P call ρ o h

/-! ### Regions -/
def awanted (ops : Array Oper) (fr : List AV) (o : Oper) : Option Bool :=
  match o.guard with
  | none => some true
  | some (j, want) =>
    match (ops[j]?).bind (·.dst) with
    | none => some false
    | some d =>
      match fr.getD d .top with
      | .bool b => some (b == want)
      | .tup [] => some false
      | _ => none
noncomputable def astep (P : Program) (call : ACall) (ops : Array Oper) (i : Nat) (fr : List AV) (h : AH) : Option (List AV × AH) :=
  match ops[i]? with
  | none => none
  | some o =>
    match awanted ops fr o with
    | none => none
    | some false => some (aput fr o.dst (.tup []), h)
    | some true => (aop P call (aev fr) o h).map fun r => (aput fr o.dst r.1, r.2)
noncomputable def aops (P : Program) (call : ACall) (ops : Array Oper) : List Nat → List AV → AH → Option (List AV × AH)
  | [], fr, h => some (fr, h)
  | i :: rest, fr, h =>
    match astep P call ops i fr h with
    | none => none
    | some (fr', h') => aops P call ops rest fr' h'
end Go.Proofs.Ytgnacecplaemlaa.AI
