/-
  How simp runs the interpreter: the forms in which the steps are stated, and what they come to; rows of the abstract heap; loops; regions whose order is open.
-/
import Derived.Test.YtgnacecplaemlaaE20
import Derived.Test.YtgnacecplaemlaaE18
namespace Go.Proofs.Ytgnacecplaemlaa
open AI

def regionIn : Code → Nat → Option (Array Oper)
  | .region id ops _, n => if id = n then some ops else none
  | .seq a b, n => match regionIn a n with | some x => some x | none => regionIn b n
  | .cond _ a b, n => match regionIn a n with | some x => some x | none => regionIn b n
  | .block _ c, n | .loop c, n | .scope c, n => regionIn c n
  | .rangeFunc _ _ a b, n => match regionIn a n with | some x => some x | none => regionIn b n
  | _, _ => none
/-- A function's region, by its number. -/
def rg (fn : Func) (n : Nat) : Array Oper := match fn.body with | none => #[] | some c => (regionIn c n).getD #[]

def pureS (x : Option AV) (fr : List AV) (d : Nat) (h : AH) : Option (List AV × AH) := (x.map fun v => (v, h)).map fun r => (fr.set d r.1, r.2)
def heapS (x : Option (AV × AH)) (fr : List AV) (d : Nat) : Option (List AV × AH) := x.map fun r => (fr.set d r.1, r.2)
def heapN (x : Option (AV × AH)) (fr : List AV) : Option (List AV × AH) := x.map fun r => (fr, r.2)
def gdS (g : AV) (want : Bool) (a b : Option (List AV × AH)) : Option (List AV × AH) :=
  match (match g with | .bool b => some (b == want) | .tup [] => some false | _ => none : Option Bool) with
  | none => none
  | some false => a
  | some true => b
def pickV (c a b : AV) : Option AV :=
  match c with
  | .bool t => some (if t then a else b)
  | _ => none
noncomputable def ldV (P : Program) (t : TypeId) (x : AV) (h : AH) : Option AV :=
  match x, aisAgg P t, asize P t with
  | .ptr id off, some true, some n => (h.cells? id n off).map .agg
  | .ptr id off, some false, _ => h.cell? id off
  | _, _, _ => none
noncomputable def newV (P : Program) (e : TypeId) (h : AH) : Option (AV × AH) :=
  match azero P e with
  | some z => if z.isTop then none else some (.ptr h.next 0, h.alloc z.cells)
  | none => none
noncomputable def boxV (x : AV) (h : AH) : Option (AV × AH) := if x.isTop then none else some (.ptr h.next 0, h.alloc x.cells)
noncomputable def bslV (P : Program) (t : TypeId) (len : Nat) (parts : List (Nat × AV)) (h : AH) : Option (AV × AH) :=
  match P.underlying t with
  | some (.slice e) =>
    match asize P e, azero P e with
    | some n, some z =>
      if len = 0 then (if parts.isEmpty then some (.sl h.next 0 0 n (some 0), h.alloc []) else none) else
      if z.isTop || z.cells.length != n || n = 0 || len = 0 || Nat.blt 16777216 (len * n) then none else
      match afill (fun i => some (i * n, n)) (arep z.cells len) parts with
      | none => none
      | some l => some (.sl h.next 0 len n (some len), h.alloc l)
    | _, _ => none
  | _ => none
noncomputable def mksV (P : Program) (t : TypeId) (x y : AV) (h : AH) : Option (AV × AH) :=
  match P.underlying t, x, y with
  | some (.slice e), .int _ l, .int _ c =>
    match P.info? e with
    | none => none
    | some i =>
      match i.zero.map ofConst with
      | none => none
      | some z =>
        let l := IntKind.i64.wrap l
        let c := IntKind.i64.wrap c
        if z.isTop || z.cells.length != i.size || i.size = 0 || decide (l < 0) || decide (l > c) || Nat.blt 140737488355328 (c.toNat * i.bytes) then none else
        some (.sl h.next 0 l.toNat i.size (some c.toNat), h.alloc (arep z.cells c.toNat))
  | _, _, _ => none
noncomputable def stV (P : Program) (t : TypeId) (a x : AV) (h : AH) : Option (AV × AH) :=
  match a, asize P t with
  | .ptr id off, some n =>
    if x.isTop || x.cells.length != n || !atoms x.cells then none else
    (h.write id off x.cells).map fun h' => (.tup [], h')
  | _, _ => none
def callV (call : ACall) (f : AV) (args : List AV) (h : AH) : Option (AV × AH) :=
  match f with
  | .fn (.func g) first captured => call (.func g) (first ++ args ++ captured) h
  | .fn (.yield id) [] [] => call (.yield id) args h
  | _ => none
def maxV (l : List AV) : Option AV :=
  match l with
  | x :: rest => if isInt x then afold2 (fun a b => b > a) x rest else none
  | [] => none
def minV (l : List AV) : Option AV :=
  match l with
  | x :: rest => if isInt x then afold2 (fun a b => b < a) x rest else none
  | [] => none
def lenV (x : Option Nat) : Option AV := x.map fun n => .int .i64 (n : Int)
def extV (x : AV) (i : Nat) : Option AV :=
  match x with
  | .tup l => l[i]?
  | _ => none
def regR (x : Option (List AV × AH)) : ARes :=
  match x with
  | some (fr, h) => some (.normal, fr, h)
  | none => none
def fin1 (x : ARes) (t : Nat) : Option (AV × AH) :=
  match x with
  | some (.normal, fr, h) => some (fr.getD t .top, h)
  | some (.ret, fr, h) => some (fr.getD t .top, h)
  | _ => none
def fin0 (x : ARes) : Option (AV × AH) :=
  match x with
  | some (.normal, _, h) => some (.tup [], h)
  | some (.ret, _, h) => some (.tup [], h)
  | _ => none
def finN (x : ARes) (ts : List Nat) : Option (AV × AH) :=
  match x with
  | some (.normal, fr, h) => some (.tup (ts.map fun t => fr.getD t .top), h)
  | some (.ret, fr, h) => some (.tup (ts.map fun t => fr.getD t .top), h)
  | _ => none
def seqR (x : ARes) (k : List AV → AH → ARes) : ARes :=
  match x with
  | some (.normal, fr, h) => k fr h
  | r => r
def condR (c : AV) (x y : ARes) : ARes :=
  match c with
  | .bool true => x
  | .bool false => y
  | _ => none
def blockR (id : Nat) (x : ARes) : ARes :=
  match x with
  | some (.exit id', fr, h) => if id' = id then some (.normal, fr, h) else some (.exit id', fr, h)
  | r => r

section
variable (fr : List AV) (h : AH) (d : Nat) (v : AV)
@[simp] theorem pureS_some : pureS (some v) fr d h = some (fr.set d v, h) := rfl
@[simp] theorem heapS_some : heapS (some (v, h)) fr d = some (fr.set d v, h) := rfl
@[simp] theorem heapN_some : heapN (some (v, h)) fr = some (fr, h) := rfl
@[simp] theorem gdS_bool (b want : Bool) (x y : Option (List AV × AH)) : gdS (.bool b) want x y = if b = want then y else x := by cases b <;> cases want <;> rfl
@[simp] theorem gdS_tt (x y : Option (List AV × AH)) : gdS (.bool true) true x y = y := rfl
@[simp] theorem gdS_ff (x y : Option (List AV × AH)) : gdS (.bool false) false x y = y := rfl
@[simp] theorem gdS_tf (x y : Option (List AV × AH)) : gdS (.bool true) false x y = x := rfl
@[simp] theorem gdS_ft (x y : Option (List AV × AH)) : gdS (.bool false) true x y = x := rfl
@[simp] theorem pickV_t (x y : AV) : pickV (.bool true) x y = some x := rfl
@[simp] theorem pickV_f (x y : AV) : pickV (.bool false) x y = some y := rfl
@[simp] theorem gdS_undef (want : Bool) (x y : Option (List AV × AH)) : gdS (.tup []) want x y = x := rfl
@[simp] theorem pickV_bool (b : Bool) (x y : AV) : pickV (.bool b) x y = some (if b then x else y) := rfl
@[simp] theorem callV_func (call : ACall) (g : FuncId) (a c l : List AV) : callV call (.fn (.func g) a c) l h = call (.func g) (a ++ l ++ c) h := rfl
@[simp] theorem callV_yield (call : ACall) (id : Nat) (l : List AV) : callV call (.fn (.yield id) [] []) l h = call (.yield id) l h := rfl
@[simp] theorem lenV_some (n : Nat) : lenV (some n) = some (.int .i64 (n : Int)) := rfl
@[simp] theorem extV_tup (l : List AV) (i : Nat) : extV (.tup l) i = l[i]? := rfl
@[simp] theorem regR_some : regR (some (fr, h)) = some (.normal, fr, h) := rfl
@[simp] theorem fin1_normal (t : Nat) : fin1 (some (.normal, fr, h)) t = some (fr.getD t .top, h) := rfl
@[simp] theorem fin1_ret (t : Nat) : fin1 (some (.ret, fr, h)) t = some (fr.getD t .top, h) := rfl
@[simp] theorem fin0_normal : fin0 (some (.normal, fr, h)) = some (.tup [], h) := rfl
@[simp] theorem fin0_ret : fin0 (some (.ret, fr, h)) = some (.tup [], h) := rfl
@[simp] theorem finN_normal (ts : List Nat) : finN (some (.normal, fr, h)) ts = some (.tup (ts.map fun t => fr.getD t .top), h) := rfl
@[simp] theorem finN_ret (ts : List Nat) : finN (some (.ret, fr, h)) ts = some (.tup (ts.map fun t => fr.getD t .top), h) := rfl
@[simp] theorem seqR_normal (k : List AV → AH → ARes) : seqR (some (.normal, fr, h)) k = k fr h := rfl
@[simp] theorem seqR_ret (k : List AV → AH → ARes) : seqR (some (.ret, fr, h)) k = some (.ret, fr, h) := rfl
@[simp] theorem seqR_exit (k : List AV → AH → ARes) (id : Nat) : seqR (some (.exit id, fr, h)) k = some (.exit id, fr, h) := rfl
@[simp] theorem condR_true (x y : ARes) : condR (.bool true) x y = x := rfl
@[simp] theorem condR_false (x y : ARes) : condR (.bool false) x y = y := rfl
theorem condR_bool (b : Bool) (x y : ARes) : condR (.bool b) x y = if b then x else y := by cases b <;> rfl
@[simp] theorem blockR_normal (id : Nat) : blockR id (some (.normal, fr, h)) = some (.normal, fr, h) := rfl
@[simp] theorem blockR_ret (id : Nat) : blockR id (some (.ret, fr, h)) = some (.ret, fr, h) := rfl
@[simp] theorem blockR_exit (id id' : Nat) : blockR id (some (.exit id', fr, h)) = if id' = id then some (.normal, fr, h) else some (.exit id', fr, h) := rfl
end
section
variable {P : Program} {K : Hint} {fid : FuncId} {call : ACall} {lf : Nat} {rd : Option Nat} (fr : List AV) (h : AH)
theorem run_seq (x y : Code) : arun P K fid call lf rd (.seq x y) fr h = seqR (arun P K fid call lf rd x fr h) (arun P K fid call lf rd y) := by
  show (match arun P K fid call lf rd x fr h with | some (AEx.normal, fr', h') => arun P K fid call lf rd y fr' h' | r => r) = _
  unfold seqR
  split <;> rfl
theorem run_cond (c : Operand) (x y : Code) : arun P K fid call lf rd (.cond c x y) fr h = condR (aev fr c) (arun P K fid call lf rd x fr h) (arun P K fid call lf rd y fr h) := rfl
theorem run_block (id : Nat) (c : Code) : arun P K fid call lf rd (.block id c) fr h = blockR id (arun P K fid call lf rd c fr h) := by
  show (match arun P K fid call lf rd c fr h with | some (AEx.exit id', fr', h') => if id' = id then some (AEx.normal, fr', h') else some (AEx.exit id', fr', h') | r => r) = _
  unfold blockR
  split <;> rfl
theorem run_loop (c : Code) : arun P K fid call lf rd (.loop c) fr h = aloop (arun P K fid call lf rd c) (aclear K c) lf fr h := rfl
/-- Behind one way through a loop's body. -/
def loopR (x : ARes) (k : List AV → AH → ARes) : ARes :=
  match x with
  | some (.normal, fr, h) => k fr h
  | r => r
theorem loop_succ (body : List AV → AH → ARes) (cl : List AV → List AV) (n : Nat) : aloop body cl (n + 1) fr h = loopR (body (cl fr) h) (aloop body cl n) := by
  show (match body (cl fr) h with | some (AEx.normal, fr', h') => aloop body cl n fr' h' | r => r) = _
  unfold loopR
  split <;> rfl
theorem loopR_normal (k : List AV → AH → ARes) : loopR (some (.normal, fr, h)) k = k fr h := rfl
theorem loopR_ret (k : List AV → AH → ARes) : loopR (some (.ret, fr, h)) k = some (.ret, fr, h) := rfl
theorem loopR_exit (k : List AV → AH → ARes) (id : Nat) : loopR (some (.exit id, fr, h)) k = some (.exit id, fr, h) := rfl
theorem run_exit (id : Nat) : arun P K fid call lf rd (.exit id) fr h = some (.exit id, fr, h) := rfl
theorem run_ret : arun P K fid call lf rd .ret fr h = some (.ret, fr, h) := rfl
theorem run_skip : arun P K fid call lf rd .skip fr h = some (.normal, fr, h) := rfl
theorem ops_nil (ops : Array Oper) : aops P call ops [] fr h = some (fr, h) := rfl
theorem ops_cons (ops : Array Oper) (i : Nat) (l : List Nat) : aops P call ops (i :: l) fr h = (astep P call ops i fr h).bind fun r => aops P call ops l r.1 r.2 := by
  show (match astep P call ops i fr h with | none => none | some (fr', h') => aops P call ops l fr' h') = _
  cases astep P call ops i fr h <;> rfl
theorem ev_tmp (t : Nat) : aev fr (.tmp t) = fr.getD t .top := rfl
theorem abin_int (op : BinOp) (t : TypeId) (xo yo : Operand) (k : IntKind) (a b : Int) (h1 : op ≠ .shl) (h2 : op ≠ .shr) : abin P op t xo yo (.int k a) (.int k b) = aIntOp op k a b := by
  unfold abin; cases op <;> simp_all
theorem abin_str (op : BinOp) (t : TypeId) (xo yo : Operand) (a b : List Nat) : abin P op t xo yo (.str a) (.str b) = aStrOp op a b := rfl
end

section
variable {P : Program} {call : ACall} (ops : Array Oper) (fr : List AV) (h : AH)
theorem opsS_nil : aopsS P call ops [] fr h = some (fr, h) := rfl
theorem opsS_cons (i : Nat) (b : Bool) (l : List (Nat × Bool)) : aopsS P call ops ((i, b) :: l) fr h = (astep P call ops i fr h).bind fun r => sameH b h r (aopsS P call ops l) := rfl
theorem sameH_f (r : List AV × AH) (k : List AV → AH → Option (List AV × AH)) : sameH false h r k = k r.1 r.2 := rfl
theorem sameH_t (k : List AV → AH → Option (List AV × AH)) : sameH true h (fr, h) k = k fr h := if_pos rfl
end
/-! ### Loops -/
theorem loop_rule {Post : ARes → Prop} {body : List AV → AH → ARes} {cl : List AV → List AV} {n : Nat} {fr : List AV} {h : AH} {r : ARes} (hr : aloop body cl n fr h = r) (N : Nat) (I : Nat → AH → List AV → Prop)
    (step : ∀ i h fr, i < N → I i h (cl fr) → ∀ k : List AV → AH → ARes, (∀ fr' h', I (i + 1) h' (cl fr') → Post (k fr' h')) → Post (loopR (body (cl fr) h) k))
    (last : ∀ h fr, I N h (cl fr) → ∀ k : List AV → AH → ARes, Post (loopR (body (cl fr) h) k)) (h0 : I 0 h (cl fr)) (hn : N < n) : Post r := by
  have key : ∀ m i n fr h, i + m = N → m < n → I i h (cl fr) → Post (aloop body cl n fr h) := by
    intro m
    induction m with
    | zero =>
      intro i n fr h hi hn hI
      obtain ⟨n, rfl⟩ : ∃ k, n = k + 1 := ⟨n - 1, by omega⟩
      obtain rfl : i = N := by omega
      rw [loop_succ]
      exact last h fr hI _
    | succ m ih =>
      intro i n fr h hi hn hI
      obtain ⟨n, rfl⟩ : ∃ k, n = k + 1 := ⟨n - 1, by omega⟩
      rw [loop_succ]
      exact step i h fr (by omega) hI _ fun fr' h' hI' => ih (i + 1) n fr' h' (by omega) (by omega) hI'
  rw [← hr]
  exact key N 0 n fr h (by omega) hn h0

theorem loop_all {Post : ARes → Prop} {body : List AV → AH → ARes} {cl : List AV → List AV} {n : Nat} {fr : List AV} {h : AH} (N : Nat) (I : Nat → AH → List AV → Prop)
    (step : ∀ i h fr, i < N → I i h (cl fr) → ∀ k : List AV → AH → ARes, (∀ fr' h', I (i + 1) h' (cl fr') → Post (k fr' h')) → Post (loopR (body (cl fr) h) k))
    (last : ∀ h fr, I N h (cl fr) → ∀ k : List AV → AH → ARes, Post (loopR (body (cl fr) h) k)) (h0 : I 0 h (cl fr)) (hn : N < n) : ∀ r, aloop body cl n fr h = r → Post r :=
  fun _ hr => loop_rule hr N I step last h0 hn

/-! ### Rows -/
/-- From the cell off on the block has these cells; it may be written. -/
def Row (h : AH) (id off : Nat) (l : List AV) : Prop :=
  id < h.next ∧ ∃ b, h.blk? id = some b ∧ b.ro = false ∧ b.lo ≤ off ∧ off + l.length ≤ b.hi ∧ ∀ i, i < l.length → b.get (off + i) = l[i]?
theorem Row.keep {h h' : AH} {id off : Nat} {l : List AV} {F : Nat → Prop} (R : Row h id off l) (o : Other F h h') (hf : ¬ F id) : Row h' id off l := by
  obtain ⟨hlt, b, hb, r⟩ := R
  exact ⟨Nat.lt_of_lt_of_le hlt o.next, b, (o.blk id hlt hf).trans hb, r⟩
theorem Row.cell {h : AH} {id off : Nat} {l : List AV} (R : Row h id off l) {i : Nat} {v : AV} (hi : l[i]? = some v) : h.cell? id (off + i) = some v := by
  obtain ⟨_, b, hb, _, _, _, hg⟩ := R
  rw [AH.cell?_eq, hb]
  show b.get (off + i) = some v
  rw [hg i (List.getElem?_eq_some_iff.mp hi).1, hi]
theorem Row.cells {h : AH} {id off : Nat} {l : List AV} (R : Row h id off l) : ∀ (m i : Nat) (p : List AV), p.length = m → l.drop i = p ++ l.drop (i + m) → i + m ≤ l.length → h.cells? id m (off + i) = some p
  | 0, i, p, hp, _, _ => by rw [AH.cells?_zero, List.eq_nil_of_length_eq_zero hp]
  | m + 1, i, p, hp, hd, hle => by
    cases p with
    | nil => simp at hp
    | cons v p =>
      have hv : l[i]? = some v := by
        have := congrArg (fun x => x[0]?) hd
        simpa using this
      have hd' : l.drop (i + 1) = p ++ l.drop (i + 1 + m) := by
        have := congrArg List.tail hd
        simp only [List.cons_append, List.tail_cons, List.tail_drop] at this
        rw [this]; congr 2; omega
      rw [AH.cells?_succ, R.cell hv, Nat.add_assoc, R.cells m (i + 1) p (by simpa using hp) hd' (by omega)]
      rfl
theorem Row.all {h : AH} {id off : Nat} {l : List AV} (R : Row h id off l) : h.cells? id l.length off = some l := by
  have := R.cells l.length 0 l rfl (by simp) (by omega)
  simpa using this
theorem Row.part {h : AH} {id off : Nat} {l : List AV} (R : Row h id off l) {a p c : List AV} (e : l = a ++ p ++ c) : Row h id (off + a.length) p := by
  obtain ⟨hlt, b, hb, hro, hlo, hhi, hg⟩ := R
  subst e
  refine ⟨hlt, b, hb, hro, by omega, by simp at hhi; omega, fun i hi => ?_⟩
  have := hg (a.length + i) (by simp; omega)
  rw [Nat.add_assoc, this, List.append_assoc, List.getElem?_append_right (by omega)]
  rw [show a.length + i - a.length = i by omega, List.getElem?_append_left hi]
theorem Row.write {h : AH} {id off : Nat} {a p c : List AV} (R : Row h id off (a ++ p ++ c)) (p' : List AV) (hp : p'.length = p.length) :
    ∃ h', h.write id (off + a.length) p' = some h' ∧ h'.next = h.next ∧ Row h' id off (a ++ p' ++ c) ∧ Other (fun j => j = id) h h' := by
  obtain ⟨hlt, b, hb, hro, hlo, hhi, hg⟩ := R
  simp only [List.length_append] at hhi
  have hw : h.write id (off + a.length) p' = some (h.put id (some { b with cells := putCells p' (off + a.length) b.cells })) := by
    unfold AH.write
    rw [hb]
    have e1 : Nat.ble b.lo (off + a.length) = true := Nat.ble_eq.mpr (by omega)
    have e2 : Nat.ble (off + a.length + p'.length) b.hi = true := Nat.ble_eq.mpr (by omega)
    simp [hro, e1, e2]
  refine ⟨_, hw, rfl, ⟨hlt, { b with cells := putCells p' (off + a.length) b.cells }, by rw [AH.blk?_put, if_pos rfl], hro, hlo, by simp only [List.length_append]; omega, fun i hi => ?_⟩, ⟨Nat.le_refl _, fun j _ hj => by rw [AH.blk?_put, if_neg hj], fun _ _ _ => rfl⟩⟩
  simp only [List.length_append] at hi
  rw [Blk.get_eq]
  have hin : b.lo ≤ off + i ∧ off + i < b.hi := by omega
  show (if b.lo ≤ off + i ∧ off + i < b.hi then (putCells p' (off + a.length) b.cells).get (off + i) else none) = _
  rw [if_pos hin, get_putCells]
  have h0 := hg i (by simp only [List.length_append]; omega)
  rw [Blk.get_eq, if_pos hin] at h0
  by_cases h1 : off + a.length ≤ off + i ∧ off + i < off + a.length + p'.length
  · rw [if_pos h1, List.append_assoc, List.getElem?_append_right (by omega), List.getElem?_append_left (by omega)]
    congr 1; omega
  · rw [if_neg h1, h0]
    by_cases h2 : i < a.length
    · rw [List.append_assoc, List.getElem?_append_left h2, List.append_assoc, List.getElem?_append_left h2]
    · rw [List.getElem?_append_right (by simp; omega), List.getElem?_append_right (by simp; omega)]
      congr 1; simp; omega
theorem Row.new (h : AH) (l : List AV) : Row (h.alloc l) h.next 0 l := by
  refine ⟨Nat.lt_succ_self _, _, by rw [AH.blk?_alloc, if_pos rfl], rfl, Nat.zero_le _, by simp, fun i hi => ?_⟩
  rw [Blk.get_eq]
  rw [if_pos ⟨Nat.zero_le _, by simpa using hi⟩, get_putCells, if_pos ⟨Nat.zero_le _, by simpa using hi⟩]
  congr 1; omega
theorem AH.next_alloc (h : AH) (l : List AV) : (h.alloc l).next = h.next + 1 := rfl
/-- An append that takes the row's block away and lays a new one. -/
theorem Row.move {h : AH} {id off len n es : Nat} {l new : List AV} (R : Row h id off l) (hl : l.length = len * es) (hn : new.length = n * es) (ha : atoms new = true) :
    ∃ h', aappend.amove h id off len n es new = some (.sl h.next off (len + n) es none, h') ∧ h'.next = h.next + 1 ∧ Row h' h.next off (l ++ new) ∧ Other (fun j => j = id) h h' := by
  obtain ⟨hlt, b, hb, hro, hlo, hhi, hg⟩ := R
  have e0 : ∀ (B : Blk) j, AH.blk? { m := (h.put id none).m.set (some B) h.next, ob := h.ob, next := h.next + 1 } j = if j = h.next then some B else if j = id then none else h.blk? j := by
    intro B j
    have := AH.blk?_put (h.put id none) h.next (some B) j
    rw [AH.blk?_put h id none j] at this
    exact this
  refine ⟨{ m := (h.put id none).m.set (some { lo := off, hi := off + (len + n) * es, ro := false, cells := putCells new (off + len * es) b.cells }) h.next, ob := h.ob, next := h.next + 1 }, ?_, rfl, ⟨Nat.lt_succ_self _, { lo := off, hi := off + (len + n) * es, ro := false, cells := putCells new (off + len * es) b.cells }, by rw [e0, if_pos rfl], rfl, Nat.le_refl _, by simp [hl, hn, Nat.add_mul], fun i hi => ?_⟩, ⟨Nat.le_succ _, fun j hj hne => by rw [e0, if_neg (by omega), if_neg hne], fun _ _ _ => rfl⟩⟩
  · unfold aappend.amove
    rw [hb]
    simp [hro, ha]
  · simp only [List.length_append, hl, hn] at hi
    rw [Blk.get_eq, if_pos ⟨by show off ≤ off + i; omega, by show off + i < off + (len + n) * es; rw [Nat.add_mul]; omega⟩]
    show (putCells new (off + len * es) b.cells).get (off + i) = _
    rw [get_putCells]
    by_cases h1 : off + len * es ≤ off + i ∧ off + i < off + len * es + new.length
    · rw [if_pos h1, List.getElem?_append_right (by omega)]
      congr 1; omega
    · rw [if_neg h1]
      have h2 : i < l.length := by omega
      have h0 := hg i h2
      rw [Blk.get_eq, if_pos (by omega)] at h0
      rw [h0, List.getElem?_append_left h2]

/-- Cells of a block, which may be one that came in. -/
def Has (h : AH) (id off : Nat) (l : List AV) : Prop := id < h.next ∧ ∃ b, h.blk? id = some b ∧ ∀ i v, l[i]? = some v → b.get (off + i) = some v
theorem Row.has {h : AH} {id off : Nat} {l : List AV} (R : Row h id off l) : Has h id off l := by
  obtain ⟨h1, b, h2, _, _, _, h3⟩ := R
  exact ⟨h1, b, h2, fun i v hi => by rw [h3 i (List.getElem?_eq_some_iff.mp hi).1, hi]⟩
theorem Has.keep {h h' : AH} {id off : Nat} {l : List AV} {F : Nat → Prop} (R : Has h id off l) (o : Other F h h') (hf : ¬ F id) : Has h' id off l := by
  obtain ⟨h1, b, h2, h3⟩ := R
  exact ⟨Nat.lt_of_lt_of_le h1 o.next, b, (o.blk id h1 hf).trans h2, h3⟩
theorem Has.quiet {h h' : AH} {id off : Nat} {l : List AV} (R : Has h id off l) (o : Quiet h h') : Has h' id off l := R.keep o (fun x => x)
theorem Has.cell {h : AH} {id off : Nat} {l : List AV} (R : Has h id off l) {i : Nat} {v : AV} (hi : l[i]? = some v) : h.cell? id (off + i) = some v := by
  obtain ⟨_, b, hb, hg⟩ := R
  rw [AH.cell?_eq, hb]
  exact hg i v hi
theorem Has.part {h : AH} {id off : Nat} {a p c : List AV} (R : Has h id off (a ++ p ++ c)) : Has h id (off + a.length) p := by
  obtain ⟨h1, b, h2, h3⟩ := R
  refine ⟨h1, b, h2, fun i v hi => ?_⟩
  rw [Nat.add_assoc]
  refine h3 _ v ?_
  rw [List.append_assoc, List.getElem?_append_right (by omega), show a.length + i - a.length = i by omega, List.getElem?_append_left (List.getElem?_eq_some_iff.mp hi).1]
  exact hi
theorem Has.cells {h : AH} {id off : Nat} {l : List AV} (R : Has h id off l) : h.cells? id l.length off = some l := by
  have key : ∀ (l : List AV) (off : Nat), (∀ (i : Nat) v, l[i]? = some v → h.cell? id (off + i) = some v) → h.cells? id l.length off = some l := by
    intro l
    induction l with
    | nil => intro off _; rw [List.length_nil, AH.cells?_zero]
    | cons v l ih =>
      intro off hc
      rw [List.length_cons, AH.cells?_succ, show h.cell? id off = some v from hc 0 v rfl, ih (off + 1) (fun i u hi => by rw [Nat.add_assoc, Nat.add_comm 1 i]; exact hc (i + 1) u hi)]
      rfl
  exact key l off fun i v hi => R.cell hi
theorem Has.new (h : AH) (l : List AV) : Has (h.alloc l) h.next 0 l := (Row.new h l).has
theorem cell_alloc (h : AH) (l : List AV) (i : Nat) : (h.alloc l).cell? h.next i = l[i]? := by
  by_cases hi : i < l.length
  · obtain ⟨v, hv⟩ : ∃ v, l[i]? = some v := ⟨l[i], List.getElem?_eq_getElem hi⟩
    have := (Has.new h l).cell hv
    rw [Nat.zero_add] at this
    rw [this, hv]
  · rw [AH.cell?_eq, AH.blk?_alloc, if_pos rfl]
    simp only [Option.bind_some]
    rw [Blk.get_eq, if_neg (by simp; omega), List.getElem?_eq_none (by omega)]

/-! ### Regions whose order is open -/
section
variable {P : Program} {call : ACall} {ops : Array Oper}
noncomputable def bytesV (x : AV) (h : AH) : Option AV :=
  match x with
  | .sl id off len es _ => if es = 1 then ((h.cells? id len off).bind toBytes).map .str else none
  | .nilSl => some (.str [])
  | _ => none
noncomputable def loadI (P : Program) (ops : Array Oper) (i : Nat) (fr : List AV) (h : AH) : Option AV :=
  match ops[i]? with
  | some o => aload P (aev fr) o h
  | none => none
/-- Every load and every step that writes: ordered, or listed. -/
def pairsOK (P : Program) (T : List Nat) (ops : Array Oper) (pairs : List (Nat × Nat)) : Bool :=
  (List.range ops.size).all fun i => match ops[i]? with
    | none => false
    | some o => !decide (cls P o = .load) || (List.range ops.size).all fun j => !heapOp P ops j || (bef T j i || (bef T i j || pairs.any fun p => Nat.beq p.1 i && Nat.beq p.2 j))

theorem alog_get : ∀ (l : List Nat) (fr : List AV) (h : AH) (log : List (List AV × AH)), alog P call ops l fr h = some log → ∀ k, k ≤ l.length → log[k]? = aops P call ops (l.take k) fr h
  | [], fr, h, log, h0, k, hk => by
    simp only [alog, Option.some.injEq] at h0
    subst h0
    obtain rfl : k = 0 := by simpa using hk
    rfl
  | i :: l, fr, h, log, h0, k, hk => by
    unfold alog at h0
    split at h0
    · simp at h0
    · rename_i fr' h' hs
      split at h0
      · simp at h0
      · rename_i log' hl
        injection h0 with h0
        subst h0
        cases k with
        | zero => rfl
        | succ k =>
          rw [List.take_succ_cons, ops_cons, hs]
          simpa using alog_get l fr' h' log' hl k (by simpa using hk)
theorem alog_some : ∀ (l : List Nat) (fr : List AV) (h : AH) (r : List AV × AH), aops P call ops l fr h = some r → ∃ log, alog P call ops l fr h = some log
  | [], fr, h, r, h0 => ⟨_, rfl⟩
  | i :: l, fr, h, r, h0 => by
    rw [ops_cons] at h0
    obtain ⟨s, hs, h0⟩ := Option.bind_eq_some_iff.mp h0
    obtain ⟨log, hl⟩ := alog_some l s.1 s.2 r h0
    refine ⟨(fr, h) :: log, ?_⟩
    unfold alog
    rw [hs]
    show (match alog P call ops l s.1 s.2 with | none => none | some l => some ((fr, h) :: l)) = _
    rw [hl]
theorem take_range (k n : Nat) (hk : k ≤ n) : (List.range n).take k = List.range k := by
  rw [List.take_range]; congr 1; omega
/-- A listed pair's look: the load finds the same ahead of the write, and behind it. -/
def PairOK (P : Program) (call : ACall) (ops : Array Oper) (fr : List AV) (h : AH) (i j : Nat) : Prop :=
  ∃ s sj sj1 v, aops P call ops (List.range i) fr h = some s ∧ aops P call ops (List.range j) fr h = some sj ∧ aops P call ops (List.range (j + 1)) fr h = some sj1 ∧
    loadI P ops i s.1 s.2 = some v ∧ loadI P ops i s.1 sj.2 = some v ∧ loadI P ops i s.1 sj1.2 = some v
theorem loads_all {fr : List AV} {h : AH} {log : List (List AV × AH)} (pairs : List (Nat × Nat)) (hp : pairsOK P (befs ops.toList []) ops pairs = true)
    (hl : alog P call ops (List.range ops.size) fr h = some log) (hq : ∀ p ∈ pairs, PairOK P call ops fr h p.1 p.2) : (List.range ops.size).all (loadOK P (befs ops.toList []) ops log) = true := by
  have hg : ∀ k, k ≤ ops.size → log[k]? = aops P call ops (List.range k) fr h := fun k hk => by
    rw [alog_get _ _ _ _ hl k (by simpa using hk), take_range k _ hk]
  have hlen : log.length = ops.size + 1 := by simpa using (alog_spec _ _ _ _ hl).2.1
  rw [List.all_eq_true]
  intro i hi
  have hi : i < ops.size := List.mem_range.mp hi
  unfold loadOK
  obtain ⟨⟨fi, hhi⟩, hs⟩ : ∃ s, log[i]? = some s := ⟨log[i]'(by omega), List.getElem?_eq_getElem _⟩
  have ho : ops[i]? = some ops[i] := by simp [hi]
  have hpi := all_range hp hi
  rw [ho] at hpi
  rw [ho, hs]
  show (if cls P ops[i] = .load then (match awanted ops fi ops[i] with
      | some true => (List.range ops.size).all fun j => !heapOp P ops j || bef (befs ops.toList []) j i || bef (befs ops.toList []) i j || match log[j]?, log[j + 1]? with
        | some (_, hj), some (_, hj1) => sameLoad (aload P (aev fi) ops[i] hj) (aload P (aev fi) ops[i] hhi) && sameLoad (aload P (aev fi) ops[i] hj1) (aload P (aev fi) ops[i] hhi)
        | _, _ => false
      | _ => true) else true) = true
  split
  · rename_i hc
    split
    · rw [List.all_eq_true]
      intro j hj
      have hj : j < ops.size := List.mem_range.mp hj
      simp only [hc, decide_true, Bool.not_true, Bool.false_or] at hpi
      have hpj := all_range hpi hj
      simp only [Bool.or_eq_true] at hpj ⊢
      rcases hpj with h1 | h1 | h1 | h1
      · exact .inl (.inl (.inl h1))
      · exact .inl (.inl (.inr h1))
      · exact .inl (.inr h1)
      · refine .inr ?_
        rw [List.any_eq_true] at h1
        obtain ⟨⟨pi, pj⟩, hm, hpp⟩ := h1
        rw [Bool.and_eq_true] at hpp
        obtain ⟨rfl, rfl⟩ : pi = i ∧ pj = j := ⟨Nat.eq_of_beq_eq_true hpp.1, Nat.eq_of_beq_eq_true hpp.2⟩
        obtain ⟨s, sj, sj1, v, q1, q2, q3, q4, q5, q6⟩ := hq _ hm
        have e1 : log[pi]? = some s := by rw [hg _ (by omega)]; exact q1
        have e2 : log[pj]? = some sj := by rw [hg _ (by omega)]; exact q2
        have e3 : log[pj + 1]? = some sj1 := by rw [hg _ (by omega)]; exact q3
        rw [hs] at e1
        injection e1 with e1
        subst e1
        rw [e2, e3]
        unfold loadI at q4 q5 q6
        rw [ho] at q4 q5 q6
        simp only at q4 q5 q6
        show (sameLoad (aload P (aev fi) ops[pi] sj.2) (aload P (aev fi) ops[pi] hhi) && sameLoad (aload P (aev fi) ops[pi] sj1.2) (aload P (aev fi) ops[pi] hhi)) = true
        rw [q4, q5, q6]
        simp [sameLoad, AV.beq_refl]
    · rfl
  · rfl
theorem adraw_eval {fr : List AV} {h : AH} {r : List AV × AH} (pairs : List (Nat × Nat)) (hd : drawOK P (befs ops.toList []) ops = true) (hp : pairsOK P (befs ops.toList []) ops pairs = true)
    (h0 : aops P call ops (List.range ops.size) fr h = some r) (hq : ∀ p ∈ pairs, PairOK P call ops fr h p.1 p.2) : adraw P call ops fr h = some r := by
  obtain ⟨log, hl⟩ := alog_some _ _ _ _ h0
  have hg : ∀ k, k ≤ ops.size → log[k]? = aops P call ops (List.range k) fr h := fun k hk => by
    rw [alog_get _ _ _ _ hl k (by simpa using hk), take_range k _ hk]
  unfold adraw
  rw [if_pos hd, hl]
  show (if (List.range ops.size).all (loadOK P (befs ops.toList []) ops log) then log[ops.size]? else none) = some r
  rw [if_pos (loads_all pairs hp hl hq), hg _ (Nat.le_refl _), h0]
/-- A region where no such load is. -/
theorem adraw_plain {fr : List AV} {h : AH} (hd : drawOK P (befs ops.toList []) ops = true) (hp : pairsOK P (befs ops.toList []) ops [] = true) : adraw P call ops fr h = aops P call ops (List.range ops.size) fr h := by
  cases h0 : aops P call ops (List.range ops.size) fr h with
  | some r => exact adraw_eval [] hd hp h0 (fun _ h => by simp at h)
  | none =>
    unfold adraw
    rw [if_pos hd]
    cases hl : alog P call ops (List.range ops.size) fr h with
    | none => rfl
    | some log =>
      have := alog_get _ _ _ _ hl ops.size (by simp)
      rw [List.take_of_length_le (by simp), h0] at this
      have hlen := (alog_spec _ _ _ _ hl).2.1
      simp only [List.length_range] at hlen
      rw [List.getElem?_eq_none_iff] at this
      omega

/-- Where the last write floats: with which stores it stands in no order. -/
def floatsOK (T : List Nat) (ops : Array Oper) (s : Nat) (fl : List Nat) : Bool :=
  (List.range ops.size).all fun i => !(Nat.blt i s && !bef T i s) || (match storeOp ops i with | some _ => fl.any (Nat.beq i) | none => true)
/-- They write other blocks. -/
def ApartAt (P : Program) (call : ACall) (ops : Array Oper) (fr : List AV) (h : AH) (s i : Nat) : Prop :=
  ∃ si ss a b, aops P call ops (List.range i) fr h = some si ∧ aops P call ops (List.range s) fr h = some ss ∧ storeId ops i si.1 = some a ∧ storeId ops s ss.1 = some b ∧ a ≠ b
theorem adraw_float {fr : List AV} {h : AH} {r : List AV × AH} (pairs : List (Nat × Nat)) (fl : List Nat) (hd : drawOK P (befs ops.toList []) ops = false) (hf : floatOK P (befs ops.toList []) ops (ops.size - 1) = true)
    (hp : pairsOK P (befs ops.toList []) ops pairs = true) (hfl : floatsOK (befs ops.toList []) ops (ops.size - 1) fl = true)
    (h0 : aops P call ops (List.range ops.size) fr h = some r) (hq : ∀ p ∈ pairs, PairOK P call ops fr h p.1 p.2) (hne : fl ≠ []) (ha : ∀ i ∈ fl, ApartAt P call ops fr h (ops.size - 1) i) : adraw P call ops fr h = some r := by
  obtain ⟨log, hl⟩ := alog_some _ _ _ _ h0
  have hg : ∀ k, k ≤ ops.size → log[k]? = aops P call ops (List.range k) fr h := fun k hk => by
    rw [alog_get _ _ _ _ hl k (by simpa using hk), take_range k _ hk]
  have hlen : log.length = ops.size + 1 := by simpa using (alog_spec _ _ _ _ hl).2.1
  have hs : ops.size - 1 < ops.size := by
    simp only [floatOK, Bool.and_eq_true] at hf
    exact Nat.blt_eq.mp hf.1.1.2
  unfold adraw
  rw [if_neg (by rw [hd]; simp), if_pos hf, hl]
  show (if (List.range ops.size).all (loadOK P (befs ops.toList []) ops log) && (List.range ops.size).all (apartOK (befs ops.toList []) ops log (ops.size - 1)) && sidOK ops log (ops.size - 1) then log[ops.size]? else none) = some r
  rw [if_pos, hg _ (Nat.le_refl _), h0]
  rw [Bool.and_eq_true, Bool.and_eq_true]
  refine ⟨⟨loads_all pairs hp hl hq, ?_⟩, ?_⟩
  · rw [List.all_eq_true]
    intro i hi
    have hi : i < ops.size := List.mem_range.mp hi
    unfold apartOK
    split
    · rename_i hc
      have h1 := all_range hfl hi
      rw [hc] at h1
      simp only [Bool.not_true, Bool.false_or] at h1
      split
      · rename_i x hx
        rw [hx] at h1
        simp only at h1
        rw [List.any_eq_true] at h1
        obtain ⟨j, hj, hij⟩ := h1
        obtain rfl := Nat.eq_of_beq_eq_true hij
        obtain ⟨si, ss, a, b, q1, q2, q3, q4, q5⟩ := ha _ hj
        rw [hg _ (by omega), hg _ (by omega), q1, q2]
        simp only [q3, q4]
        cases hx : Nat.beq a b with
        | false => rfl
        | true => exact absurd (Nat.eq_of_beq_eq_true hx) q5
      · rfl
    · rfl
  · obtain ⟨i, hi⟩ := List.exists_mem_of_ne_nil fl hne
    obtain ⟨si, ss, a, b, q1, q2, q3, q4, q5⟩ := ha i hi
    unfold sidOK
    rw [hg _ (by omega), q2]
    simp only [q4]
    rfl
end

end Go.Proofs.Ytgnacecplaemlaa
