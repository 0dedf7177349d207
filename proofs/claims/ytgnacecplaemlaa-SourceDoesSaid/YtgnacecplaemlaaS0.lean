/-
  How simp runs the abstract interpreter: the forms in which the steps are stated, and what they come to.
-/
import Derived.Test.YtgnacecplaemlaaA18
import Derived.Test.YtgnacecplaemlaaB1
import Derived.Test.YtgnacecplaemlaaProg
import Derived.KernelRfl
namespace Go.Proofs.Ytgnacecplaemlaa
open AI

def regionIn : Code → Nat → Option (Array Oper)
  | .region id ops _, n => if id = n then some ops else none
  | .seq a b, n => match regionIn a n with | some x => some x | none => regionIn b n
  | .cond _ a b, n => match regionIn a n with | some x => some x | none => regionIn b n
  | .block _ c, n | .loop c, n | .scope c, n => regionIn c n
  | .rangeFunc _ _ a b, n => match regionIn a n with | some x => some x | none => regionIn b n
  | _, _ => none
/-- A function's region, by its number. -/
def rg (fn : Func) (n : Nat) : Array Oper := match fn.body with | none => #[] | some c => (regionIn c n).getD #[]

def pureS (x : Option AV) (fr : List AV) (d : Nat) (h : AH) : Option (List AV × AH) := (x.map fun v => (v, h)).map fun r => (fr.set d r.1, r.2)
def heapS (x : Option (AV × AH)) (fr : List AV) (d : Nat) : Option (List AV × AH) := x.map fun r => (fr.set d r.1, r.2)
def heapN (x : Option (AV × AH)) (fr : List AV) : Option (List AV × AH) := x.map fun r => (fr, r.2)
def gdS (g : AV) (want : Bool) (a b : Option (List AV × AH)) : Option (List AV × AH) :=
  match (match g with | .bool b => some (b == want) | .tup [] => some false | _ => none : Option Bool) with
  | none => none
  | some false => a
  | some true => b
def pickV (c a b : AV) : Option AV :=
  match c with
  | .bool t => some (if t then a else b)
  | _ => none
noncomputable def ldV (P : Program) (t : TypeId) (x : AV) (h : AH) : Option AV :=
  match x, aisAgg P t, asize P t with
  | .ptr id off, some true, some n => (h.cells? id n off).map .agg
  | .ptr id off, some false, _ => h.cell? id off
  | _, _, _ => none
noncomputable def newV (P : Program) (e : TypeId) (h : AH) : Option (AV × AH) :=
  match azero P e with
  | some z => if z.isTop then none else some (.ptr h.next 0, h.alloc z.cells)
  | none => none
noncomputable def boxV (x : AV) (h : AH) : Option (AV × AH) := if x.isTop then none else some (.ptr h.next 0, h.alloc x.cells)
noncomputable def bslV (P : Program) (t : TypeId) (len : Nat) (parts : List (Nat × AV)) (h : AH) : Option (AV × AH) :=
  match P.underlying t with
  | some (.slice e) =>
    match asize P e, azero P e with
    | some n, some z =>
      if len = 0 then (if parts.isEmpty then some (.sl h.next 0 0 n (some 0), h.alloc []) else none) else
      if z.isTop || z.cells.length != n || n = 0 || len = 0 || Nat.blt 16777216 (len * n) then none else
      match afill (fun i => some (i * n, n)) (arep z.cells len) parts with
      | none => none
      | some l => some (.sl h.next 0 len n (some len), h.alloc l)
    | _, _ => none
  | _ => none
noncomputable def mksV (P : Program) (t : TypeId) (x y : AV) (h : AH) : Option (AV × AH) :=
  match P.underlying t, x, y with
  | some (.slice e), .int _ l, .int _ c =>
    match P.info? e with
    | none => none
    | some i =>
      match i.zero.map ofConst with
      | none => none
      | some z =>
        let l := IntKind.i64.wrap l
        let c := IntKind.i64.wrap c
        if z.isTop || z.cells.length != i.size || i.size = 0 || decide (l < 0) || decide (l > c) || Nat.blt 140737488355328 (c.toNat * i.bytes) then none else
        some (.sl h.next 0 l.toNat i.size (some c.toNat), h.alloc (arep z.cells c.toNat))
  | _, _, _ => none
noncomputable def stV (P : Program) (t : TypeId) (a x : AV) (h : AH) : Option (AV × AH) :=
  match a, asize P t with
  | .ptr id off, some n =>
    if x.isTop || x.cells.length != n || !atoms x.cells then none else
    (h.write id off x.cells).map fun h' => (.tup [], h')
  | _, _ => none
def callV (call : FuncId → List AV → AH → Option (AV × AH)) (f : AV) (args : List AV) (h : AH) : Option (AV × AH) :=
  match f with
  | .fn (.func g) first captured => call g (first ++ args ++ captured) h
  | _ => none
def lenV (x : Option Nat) : Option AV := x.map fun n => .int .i64 (n : Int)
def extV (x : AV) (i : Nat) : Option AV :=
  match x with
  | .tup l => l[i]?
  | _ => none
def regR (x : Option (List AV × AH)) : ARes :=
  match x with
  | some (fr, h) => some (.normal, fr, h)
  | none => none
def fin1 (x : ARes) (t : Nat) : Option (AV × AH) :=
  match x with
  | some (.normal, fr, h) => some (fr.getD t .top, h)
  | some (.ret, fr, h) => some (fr.getD t .top, h)
  | _ => none
def fin0 (x : ARes) : Option (AV × AH) :=
  match x with
  | some (.normal, _, h) => some (.tup [], h)
  | some (.ret, _, h) => some (.tup [], h)
  | _ => none
def finN (x : ARes) (ts : List Nat) : Option (AV × AH) :=
  match x with
  | some (.normal, fr, h) => some (.tup (ts.map fun t => fr.getD t .top), h)
  | some (.ret, fr, h) => some (.tup (ts.map fun t => fr.getD t .top), h)
  | _ => none
def seqR (x : ARes) (k : List AV → AH → ARes) : ARes :=
  match x with
  | some (.normal, fr, h) => k fr h
  | r => r
def condR (c : AV) (x y : ARes) : ARes :=
  match c with
  | .bool true => x
  | .bool false => y
  | _ => none
def blockR (id : Nat) (x : ARes) : ARes :=
  match x with
  | some (.exit id', fr, h) => if id' = id then some (.normal, fr, h) else some (.exit id', fr, h)
  | r => r

section
variable (fr : List AV) (h : AH) (d : Nat) (v : AV)
@[simp] theorem pureS_some : pureS (some v) fr d h = some (fr.set d v, h) := rfl
@[simp] theorem heapS_some : heapS (some (v, h)) fr d = some (fr.set d v, h) := rfl
@[simp] theorem heapN_some : heapN (some (v, h)) fr = some (fr, h) := rfl
@[simp] theorem gdS_bool (b want : Bool) (x y : Option (List AV × AH)) : gdS (.bool b) want x y = if b = want then y else x := by cases b <;> cases want <;> rfl
@[simp] theorem gdS_tt (x y : Option (List AV × AH)) : gdS (.bool true) true x y = y := rfl
@[simp] theorem gdS_ff (x y : Option (List AV × AH)) : gdS (.bool false) false x y = y := rfl
@[simp] theorem gdS_tf (x y : Option (List AV × AH)) : gdS (.bool true) false x y = x := rfl
@[simp] theorem gdS_ft (x y : Option (List AV × AH)) : gdS (.bool false) true x y = x := rfl
@[simp] theorem pickV_t (x y : AV) : pickV (.bool true) x y = some x := rfl
@[simp] theorem pickV_f (x y : AV) : pickV (.bool false) x y = some y := rfl
@[simp] theorem gdS_undef (want : Bool) (x y : Option (List AV × AH)) : gdS (.tup []) want x y = x := rfl
@[simp] theorem pickV_bool (b : Bool) (x y : AV) : pickV (.bool b) x y = some (if b then x else y) := rfl
@[simp] theorem callV_func (call : FuncId → List AV → AH → Option (AV × AH)) (g : FuncId) (a c l : List AV) : callV call (.fn (.func g) a c) l h = call g (a ++ l ++ c) h := rfl
@[simp] theorem lenV_some (n : Nat) : lenV (some n) = some (.int .i64 (n : Int)) := rfl
@[simp] theorem extV_tup (l : List AV) (i : Nat) : extV (.tup l) i = l[i]? := rfl
@[simp] theorem regR_some : regR (some (fr, h)) = some (.normal, fr, h) := rfl
@[simp] theorem fin1_normal (t : Nat) : fin1 (some (.normal, fr, h)) t = some (fr.getD t .top, h) := rfl
@[simp] theorem fin1_ret (t : Nat) : fin1 (some (.ret, fr, h)) t = some (fr.getD t .top, h) := rfl
@[simp] theorem fin0_normal : fin0 (some (.normal, fr, h)) = some (.tup [], h) := rfl
@[simp] theorem fin0_ret : fin0 (some (.ret, fr, h)) = some (.tup [], h) := rfl
@[simp] theorem finN_normal (ts : List Nat) : finN (some (.normal, fr, h)) ts = some (.tup (ts.map fun t => fr.getD t .top), h) := rfl
@[simp] theorem finN_ret (ts : List Nat) : finN (some (.ret, fr, h)) ts = some (.tup (ts.map fun t => fr.getD t .top), h) := rfl
@[simp] theorem seqR_normal (k : List AV → AH → ARes) : seqR (some (.normal, fr, h)) k = k fr h := rfl
@[simp] theorem seqR_ret (k : List AV → AH → ARes) : seqR (some (.ret, fr, h)) k = some (.ret, fr, h) := rfl
@[simp] theorem seqR_exit (k : List AV → AH → ARes) (id : Nat) : seqR (some (.exit id, fr, h)) k = some (.exit id, fr, h) := rfl
@[simp] theorem condR_true (x y : ARes) : condR (.bool true) x y = x := rfl
@[simp] theorem condR_false (x y : ARes) : condR (.bool false) x y = y := rfl
theorem condR_bool (b : Bool) (x y : ARes) : condR (.bool b) x y = if b then x else y := by cases b <;> rfl
@[simp] theorem blockR_normal (id : Nat) : blockR id (some (.normal, fr, h)) = some (.normal, fr, h) := rfl
@[simp] theorem blockR_ret (id : Nat) : blockR id (some (.ret, fr, h)) = some (.ret, fr, h) := rfl
@[simp] theorem blockR_exit (id id' : Nat) : blockR id (some (.exit id', fr, h)) = if id' = id then some (.normal, fr, h) else some (.exit id', fr, h) := rfl
end
section
variable {P : Program} {K : Hint} {call : FuncId → List AV → AH → Option (AV × AH)} {lf : Nat} (fr : List AV) (h : AH)
theorem run_seq (x y : Code) : arun P K call lf (.seq x y) fr h = seqR (arun P K call lf x fr h) (fun fr' h' => arun P K call lf y fr' h') := by
  show (match arun P K call lf x fr h with | some (AEx.normal, fr', h') => arun P K call lf y fr' h' | r => r) = _
  unfold seqR
  split <;> rfl
theorem run_cond (c : Operand) (x y : Code) : arun P K call lf (.cond c x y) fr h = condR (aev fr c) (arun P K call lf x fr h) (arun P K call lf y fr h) := rfl
theorem run_block (id : Nat) (c : Code) : arun P K call lf (.block id c) fr h = blockR id (arun P K call lf c fr h) := by
  show (match arun P K call lf c fr h with | some (AEx.exit id', fr', h') => if id' = id then some (AEx.normal, fr', h') else some (AEx.exit id', fr', h') | r => r) = _
  unfold blockR
  split <;> rfl
theorem run_loop (c : Code) : arun P K call lf (.loop c) fr h = aloop (arun P K call lf c) (aclear K c) lf fr h := rfl
/-- Behind one way through a loop's body. -/
def loopR (x : ARes) (k : List AV → AH → ARes) : ARes :=
  match x with
  | some (.normal, fr, h) => k fr h
  | r => r
theorem loop_succ (body : List AV → AH → ARes) (cl : List AV → List AV) (n : Nat) : aloop body cl (n + 1) fr h = loopR (body (cl fr) h) (aloop body cl n) := by
  show (match body (cl fr) h with | some (AEx.normal, fr', h') => aloop body cl n fr' h' | r => r) = _
  unfold loopR
  split <;> rfl
theorem loopR_normal (k : List AV → AH → ARes) : loopR (some (.normal, fr, h)) k = k fr h := rfl
theorem loopR_ret (k : List AV → AH → ARes) : loopR (some (.ret, fr, h)) k = some (.ret, fr, h) := rfl
theorem loopR_exit (k : List AV → AH → ARes) (id : Nat) : loopR (some (.exit id, fr, h)) k = some (.exit id, fr, h) := rfl
theorem run_exit (id : Nat) : arun P K call lf (.exit id) fr h = some (.exit id, fr, h) := rfl
theorem run_ret : arun P K call lf .ret fr h = some (.ret, fr, h) := rfl
theorem run_skip : arun P K call lf .skip fr h = some (.normal, fr, h) := rfl
theorem ops_nil (ops : Array Oper) : aops P call ops [] fr h = some (fr, h) := rfl
theorem ops_cons (ops : Array Oper) (i : Nat) (l : List Nat) : aops P call ops (i :: l) fr h = (astep P call ops i fr h).bind fun r => aops P call ops l r.1 r.2 := by
  show (match astep P call ops i fr h with | none => none | some (fr', h') => aops P call ops l fr' h') = _
  cases astep P call ops i fr h <;> rfl
theorem ev_tmp (t : Nat) : aev fr (.tmp t) = fr.getD t .top := rfl
theorem abin_int (op : BinOp) (t : TypeId) (xo yo : Operand) (k : IntKind) (a b : Int) (h1 : op ≠ .shl) (h2 : op ≠ .shr) : abin P op t xo yo (.int k a) (.int k b) = aIntOp op k a b := by
  unfold abin; cases op <;> simp_all
theorem abin_str (op : BinOp) (t : TypeId) (xo yo : Operand) (a b : List Nat) : abin P op t xo yo (.str a) (.str b) = aStrOp op a b := rfl
end
/-- The hints at the heads of loops. -/
def HK : FuncId → Hint
  | 3, 9 => some [0, 1, 2, 6, 7, 8, 9, 10]
  | 4, 3 => some [0, 2, 3, 4, 5]
  | 13, 3 => some [0, 2, 3, 6, 7]
  | 19, 3 => some [0, 2, 3, 4]
  | 20, 2 => some [0, 1, 4, 8, 9]
  | 21, 2 => some [0, 1, 4, 5]
  | 22, 4 => some [0, 1, 4, 5]
  | 23, 3 => some [0, 2, 3, 6, 7]
  | 24, 3 => some [0, 2, 3, 4]
  | _, _ => none
/-- What the chapters' guard answers. -/
noncomputable def X : Nat → FuncId → List AV → AH → Option (AV × AH) := bexec Try.prog HK (closedOv [(8, .bool true)])
theorem okTrue_ex {x : Option (AV × AH)} (h : okTrue x = true) : ∃ h', x = some (.bool true, h') := by
  unfold okTrue at h
  split at h
  · exact ⟨_, rfl⟩
  · simp at h
theorem X_ok (n : Nat) : CallOK Try.prog (X n) :=
  bexec_ok (by kernel_rfl) HK (closed_ok (by kernel_rfl) (fun _ _ => none) _ fun p hp => by
    simp only [List.mem_singleton] at hp
    subst hp
    exact ⟨⟨30, okTrue_ex awake37⟩, true, rfl⟩) n
theorem X_awake (n : Nat) (h : AH) : X (n + 1) 8 [] h = some (.bool true, h) := rfl
theorem calls_of_X {n : Nat} {g : FuncId} {args : List AV} {vs : Array Value} (hv : VRs (fun _ => none) vs.toList args) {h' : AH}
    (h0 : X n g args AH.empty = some (.bool true, h')) (w : World) : Calls Try.prog g vs w (fun e w' => e = .returned (.bool true) ∧ RowKit.Below w.heap.size w w') :=
  ((X_ok n g args AH.empty _ h' h0).2 w.heap.size _ w vs (HR.empty w) hv).mono fun e w' ⟨v, he, f', _, _, hb, hvr⟩ => ⟨by rw [he, hvr.bool_inv], hb⟩
end Go.Proofs.Ytgnacecplaemlaa
