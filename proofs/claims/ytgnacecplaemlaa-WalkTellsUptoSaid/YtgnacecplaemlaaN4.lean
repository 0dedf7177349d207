/-
  Part 4 of 9 of the proof of WalkTells: what follows.
-/
import Derived.KernelRfl
import Derived.Laws.StandIn
import Derived.Lib.Bytealg
import Derived.Lib.Overlaps
import Derived.Test.YtgnacecplaemlaaProg
import Derived.Test.YtgnacecplaemlaaN3
/-
  The interpreter at this program: the library's stand-in for strings.IndexByte; chapter 42's guard, run.
-/
namespace Go.Proofs.Ytgnacecplaemlaa
open AI
/-- The first place of a byte, from a number on. -/
def ixb (c : Nat) : List Nat → Nat → Int
  | [], _ => -1
  | b :: l, k => bif Nat.beq b c then (k : Int) else ixb c l (k + 1)
theorem ixb_eq (c : UInt8) : ∀ (l : List UInt8) (k : Nat), ixb c.toNat (l.map UInt8.toNat) k = if Lib.indexByte l c = -1 then -1 else Lib.indexByte l c + k
  | [], k => by simp [ixb, Lib.indexByte]
  | b :: l, k => by
    have hd : Lib.indexByte (b :: l) c = if (b == c) = true then 0 else if (Lib.indexByte l c == -1) = true then -1 else Lib.indexByte l c + 1 := rfl
    rw [hd]
    show (bif Nat.beq b.toNat c.toNat then (k : Int) else ixb c.toNat (l.map UInt8.toNat) (k + 1)) = _
    by_cases h : b = c
    · subst h
      have e : Nat.beq b.toNat b.toNat = true := Nat.beq_eq.mpr rfl
      rw [e]; simp
    · have e : Nat.beq b.toNat c.toNat = false := by
        cases hx : Nat.beq b.toNat c.toNat with
        | false => rfl
        | true => exact absurd (UInt8.toNat_inj.mp (Nat.beq_eq.mp hx)) h
      have e2 : (b == c) = false := by simpa using h
      simp only [e2]
      rw [e, cond_false, ixb_eq c l (k + 1)]
      simp only [Bool.false_eq_true, if_false]
      have hg := Lib.indexByte_ge l c
      by_cases h1 : Lib.indexByte l c = -1
      · simp [h1]
      · have h2 : (Lib.indexByte l c == -1) = false := by simpa using h1
        rw [if_neg h1, h2]
        simp only [Bool.false_eq_true, if_false]
        rw [if_neg (by omega)]
        omega
/-- What the library's function without a body answers. -/
def ovX : FuncId → List AV → AH → Option (AV × AH) := fun g args h =>
  match Nat.beq g 101, args with
  | true, [.str s, .int .u8 c] => if 0 ≤ c ∧ c < 256 then some (.int .i64 (ixb c.toNat s 0), h) else none
  | _, _ => none
theorem ovX_ok : ∀ g args h a h', ovX g args h = some (a, h') → ∀ B f w (vs : Array Value), HR B f h w → VRs f vs.toList args → FnRuns Try.prog g vs w (HPost B f w h' a) := by
  intro g args h a h' h0 B f w vs H hv
  unfold ovX at h0
  split at h0
  · rename_i s c hg
    split at h0
    · rename_i hc
      injection h0 with h0
      injection h0 with h1 h2
      subst h1 h2
      obtain rfl := Nat.eq_of_beq_eq_true hg
      obtain ⟨vl⟩ := vs
      cases hv with
      | cons v1 _ vl' _ g1 g2 => cases g2 with
        | cons v2 _ vl2 _ g3 g4 =>
          cases g4
          obtain ⟨b, rfl, rfl⟩ := g1.str_inv
          obtain rfl := g3.int_inv
          have hr := run_callFunc_indexByte (P := Try.prog) (f := 101) (fn := Try.f101) (by kernel_rfl) (by kernel_rfl) (by kernel_rfl) (by kernel_rfl) (by kernel_rfl) #[.string b, .int .u8 c] w
          rw [Lib.run_indexByteString] at hr
          refine .inl ⟨_, w, hr, f, Ext.refl f, H, Kept.refl B w, ?_⟩
          have hcc : (c.toNat.toUInt8).toNat = c.toNat := by
            have : c.toNat < 256 := by omega
            simp only [Nat.toUInt8, UInt8.toNat_ofNat']
            omega
          have e := ixb_eq c.toNat.toUInt8 b.data.toList 0
          rw [hcc] at e
          have e2 : ixb c.toNat (nats b) 0 = Lib.indexByte b.data.toList c.toNat.toUInt8 := by
            show ixb c.toNat (b.data.toList.map UInt8.toNat) 0 = _
            rw [e]
            split
            · rename_i h; exact h.symm
            · simp
          rw [e2]
          exact .int _ _
    · simp at h0
  · simp at h0
def okTrue : Option (AV × AH) → Bool
  | some (.bool true, _) => true
  | _ => false
theorem okTrue_ex {x : Option (AV × AH)} (h : okTrue x = true) : ∃ h', x = some (.bool true, h') := by
  unfold okTrue at h
  split at h
  · exact ⟨_, rfl⟩
  · simp at h
theorem awake42 : okTrue (bexec Try.prog (fun _ _ => none) ovX 60 (.func 26) [] AH.empty) = true := by kernel_rfl
end Go.Proofs.Ytgnacecplaemlaa
/-
  How simp runs the interpreter: the forms in which the steps are stated, and what they come to; rows of the abstract heap; loops; regions whose order is open.
-/
namespace Go.Proofs.Ytgnacecplaemlaa
open AI

def regionIn : Code → Nat → Option (Array Oper)
  | .region id ops _, n => if id = n then some ops else none
  | .seq a b, n => match regionIn a n with | some x => some x | none => regionIn b n
  | .cond _ a b, n => match regionIn a n with | some x => some x | none => regionIn b n
  | .block _ c, n | .loop c, n | .scope c, n => regionIn c n
  | .rangeFunc _ _ a b, n => match regionIn a n with | some x => some x | none => regionIn b n
  | _, _ => none
/-- A function's region, by its number. -/
def rg (fn : Func) (n : Nat) : Array Oper := match fn.body with | none => #[] | some c => (regionIn c n).getD #[]

def pureS (x : Option AV) (fr : List AV) (d : Nat) (h : AH) : Option (List AV × AH) := (x.map fun v => (v, h)).map fun r => (fr.set d r.1, r.2)
def heapS (x : Option (AV × AH)) (fr : List AV) (d : Nat) : Option (List AV × AH) := x.map fun r => (fr.set d r.1, r.2)
def heapN (x : Option (AV × AH)) (fr : List AV) : Option (List AV × AH) := x.map fun r => (fr, r.2)
def gdS (g : AV) (want : Bool) (a b : Option (List AV × AH)) : Option (List AV × AH) :=
  match (match g with | .bool b => some (b == want) | .tup [] => some false | _ => none : Option Bool) with
  | none => none
  | some false => a
  | some true => b
def pickV (c a b : AV) : Option AV :=
  match c with
  | .bool t => some (if t then a else b)
  | _ => none
noncomputable def ldV (P : Program) (t : TypeId) (x : AV) (h : AH) : Option AV :=
  match x, aisAgg P t, asize P t with
  | .ptr id off, some true, some n => (h.cells? id n off).map .agg
  | .ptr id off, some false, _ => h.cell? id off
  | _, _, _ => none
noncomputable def newV (P : Program) (e : TypeId) (h : AH) : Option (AV × AH) :=
  match azero P e with
  | some z => if z.isTop then none else some (.ptr h.next 0, h.alloc z.cells)
  | none => none
noncomputable def boxV (x : AV) (h : AH) : Option (AV × AH) := if x.isTop then none else some (.ptr h.next 0, h.alloc x.cells)
noncomputable def bslV (P : Program) (t : TypeId) (len : Nat) (parts : List (Nat × AV)) (h : AH) : Option (AV × AH) :=
  match P.underlying t with
  | some (.slice e) =>
    match asize P e, azero P e with
    | some n, some z =>
      if len = 0 then (if parts.isEmpty then some (.sl h.next 0 0 n (some 0), h.alloc []) else none) else
      if z.isTop || z.cells.length != n || n = 0 || len = 0 || Nat.blt 16777216 (len * n) then none else
      match afill (fun i => some (i * n, n)) (arep z.cells len) parts with
      | none => none
      | some l => some (.sl h.next 0 len n (some len), h.alloc l)
    | _, _ => none
  | _ => none
noncomputable def mksV (P : Program) (t : TypeId) (x y : AV) (h : AH) : Option (AV × AH) :=
  match P.underlying t, x, y with
  | some (.slice e), .int _ l, .int _ c =>
    match P.info? e with
    | none => none
    | some i =>
      match i.zero.map ofConst with
      | none => none
      | some z =>
        let l := IntKind.i64.wrap l
        let c := IntKind.i64.wrap c
        if z.isTop || z.cells.length != i.size || i.size = 0 || decide (l < 0) || decide (l > c) || Nat.blt 140737488355328 (c.toNat * i.bytes) then none else
        some (.sl h.next 0 l.toNat i.size (some c.toNat), h.alloc (arep z.cells c.toNat))
  | _, _, _ => none
noncomputable def stV (P : Program) (t : TypeId) (a x : AV) (h : AH) : Option (AV × AH) :=
  match a, asize P t with
  | .ptr id off, some n =>
    if x.isTop || x.cells.length != n || !atoms x.cells then none else
    (h.write id off x.cells).map fun h' => (.tup [], h')
  | _, _ => none
def callV (call : ACall) (f : AV) (args : List AV) (h : AH) : Option (AV × AH) :=
  match f with
  | .fn (.func g) first captured => call (.func g) (first ++ args ++ captured) h
  | .fn (.yield id) [] [] => call (.yield id) args h
  | _ => none
def maxV (l : List AV) : Option AV :=
  match l with
  | x :: rest => if isInt x then afold2 (fun a b => b > a) x rest else none
  | [] => none
def minV (l : List AV) : Option AV :=
  match l with
  | x :: rest => if isInt x then afold2 (fun a b => b < a) x rest else none
  | [] => none
def lenV (x : Option Nat) : Option AV := x.map fun n => .int .i64 (n : Int)
def extV (x : AV) (i : Nat) : Option AV :=
  match x with
  | .tup l => l[i]?
  | _ => none
def regR (x : Option (List AV × AH)) : ARes :=
  match x with
  | some (fr, h) => some (.normal, fr, h)
  | none => none
def fin1 (x : ARes) (t : Nat) : Option (AV × AH) :=
  match x with
  | some (.normal, fr, h) => some (fr.getD t .top, h)
  | some (.ret, fr, h) => some (fr.getD t .top, h)
  | _ => none
def fin0 (x : ARes) : Option (AV × AH) :=
  match x with
  | some (.normal, _, h) => some (.tup [], h)
  | some (.ret, _, h) => some (.tup [], h)
  | _ => none
def finN (x : ARes) (ts : List Nat) : Option (AV × AH) :=
  match x with
  | some (.normal, fr, h) => some (.tup (ts.map fun t => fr.getD t .top), h)
  | some (.ret, fr, h) => some (.tup (ts.map fun t => fr.getD t .top), h)
  | _ => none
def seqR (x : ARes) (k : List AV → AH → ARes) : ARes :=
  match x with
  | some (.normal, fr, h) => k fr h
  | r => r
def condR (c : AV) (x y : ARes) : ARes :=
  match c with
  | .bool true => x
  | .bool false => y
  | _ => none
def blockR (id : Nat) (x : ARes) : ARes :=
  match x with
  | some (.exit id', fr, h) => if id' = id then some (.normal, fr, h) else some (.exit id', fr, h)
  | r => r

section
variable (fr : List AV) (h : AH) (d : Nat) (v : AV)
@[simp] theorem pureS_some : pureS (some v) fr d h = some (fr.set d v, h) := rfl
@[simp] theorem heapS_some : heapS (some (v, h)) fr d = some (fr.set d v, h) := rfl
@[simp] theorem heapN_some : heapN (some (v, h)) fr = some (fr, h) := rfl
@[simp] theorem gdS_bool (b want : Bool) (x y : Option (List AV × AH)) : gdS (.bool b) want x y = if b = want then y else x := by cases b <;> cases want <;> rfl
@[simp] theorem gdS_tt (x y : Option (List AV × AH)) : gdS (.bool true) true x y = y := rfl
@[simp] theorem gdS_ff (x y : Option (List AV × AH)) : gdS (.bool false) false x y = y := rfl
@[simp] theorem gdS_tf (x y : Option (List AV × AH)) : gdS (.bool true) false x y = x := rfl
@[simp] theorem gdS_ft (x y : Option (List AV × AH)) : gdS (.bool false) true x y = x := rfl
@[simp] theorem pickV_t (x y : AV) : pickV (.bool true) x y = some x := rfl
@[simp] theorem pickV_f (x y : AV) : pickV (.bool false) x y = some y := rfl
@[simp] theorem gdS_undef (want : Bool) (x y : Option (List AV × AH)) : gdS (.tup []) want x y = x := rfl
@[simp] theorem pickV_bool (b : Bool) (x y : AV) : pickV (.bool b) x y = some (if b then x else y) := rfl
@[simp] theorem callV_func (call : ACall) (g : FuncId) (a c l : List AV) : callV call (.fn (.func g) a c) l h = call (.func g) (a ++ l ++ c) h := rfl
@[simp] theorem callV_yield (call : ACall) (id : Nat) (l : List AV) : callV call (.fn (.yield id) [] []) l h = call (.yield id) l h := rfl
@[simp] theorem lenV_some (n : Nat) : lenV (some n) = some (.int .i64 (n : Int)) := rfl
@[simp] theorem extV_tup (l : List AV) (i : Nat) : extV (.tup l) i = l[i]? := rfl
@[simp] theorem regR_some : regR (some (fr, h)) = some (.normal, fr, h) := rfl
@[simp] theorem fin1_normal (t : Nat) : fin1 (some (.normal, fr, h)) t = some (fr.getD t .top, h) := rfl
@[simp] theorem fin1_ret (t : Nat) : fin1 (some (.ret, fr, h)) t = some (fr.getD t .top, h) := rfl
@[simp] theorem fin0_normal : fin0 (some (.normal, fr, h)) = some (.tup [], h) := rfl
@[simp] theorem fin0_ret : fin0 (some (.ret, fr, h)) = some (.tup [], h) := rfl
@[simp] theorem finN_normal (ts : List Nat) : finN (some (.normal, fr, h)) ts = some (.tup (ts.map fun t => fr.getD t .top), h) := rfl
@[simp] theorem finN_ret (ts : List Nat) : finN (some (.ret, fr, h)) ts = some (.tup (ts.map fun t => fr.getD t .top), h) := rfl
@[simp] theorem seqR_normal (k : List AV → AH → ARes) : seqR (some (.normal, fr, h)) k = k fr h := rfl
@[simp] theorem seqR_ret (k : List AV → AH → ARes) : seqR (some (.ret, fr, h)) k = some (.ret, fr, h) := rfl
@[simp] theorem seqR_exit (k : List AV → AH → ARes) (id : Nat) : seqR (some (.exit id, fr, h)) k = some (.exit id, fr, h) := rfl
@[simp] theorem condR_true (x y : ARes) : condR (.bool true) x y = x := rfl
@[simp] theorem condR_false (x y : ARes) : condR (.bool false) x y = y := rfl
theorem condR_bool (b : Bool) (x y : ARes) : condR (.bool b) x y = if b then x else y := by cases b <;> rfl
@[simp] theorem blockR_normal (id : Nat) : blockR id (some (.normal, fr, h)) = some (.normal, fr, h) := rfl
@[simp] theorem blockR_ret (id : Nat) : blockR id (some (.ret, fr, h)) = some (.ret, fr, h) := rfl
@[simp] theorem blockR_exit (id id' : Nat) : blockR id (some (.exit id', fr, h)) = if id' = id then some (.normal, fr, h) else some (.exit id', fr, h) := rfl
end
section
variable {P : Program} {K : Hint} {fid : FuncId} {call : ACall} {lf : Nat} {rd : Option Nat} (fr : List AV) (h : AH)
theorem run_seq (x y : Code) : arun P K fid call lf rd (.seq x y) fr h = seqR (arun P K fid call lf rd x fr h) (arun P K fid call lf rd y) := by
  show (match arun P K fid call lf rd x fr h with | some (AEx.normal, fr', h') => arun P K fid call lf rd y fr' h' | r => r) = _
  unfold seqR
  split <;> rfl
theorem run_cond (c : Operand) (x y : Code) : arun P K fid call lf rd (.cond c x y) fr h = condR (aev fr c) (arun P K fid call lf rd x fr h) (arun P K fid call lf rd y fr h) := rfl
theorem run_block (id : Nat) (c : Code) : arun P K fid call lf rd (.block id c) fr h = blockR id (arun P K fid call lf rd c fr h) := by
  show (match arun P K fid call lf rd c fr h with | some (AEx.exit id', fr', h') => if id' = id then some (AEx.normal, fr', h') else some (AEx.exit id', fr', h') | r => r) = _
  unfold blockR
  split <;> rfl
theorem run_loop (c : Code) : arun P K fid call lf rd (.loop c) fr h = aloop (arun P K fid call lf rd c) (aclear K c) lf fr h := rfl
/-- Behind one way through a loop's body. -/
def loopR (x : ARes) (k : List AV → AH → ARes) : ARes :=
  match x with
  | some (.normal, fr, h) => k fr h
  | r => r
theorem loop_succ (body : List AV → AH → ARes) (cl : List AV → List AV) (n : Nat) : aloop body cl (n + 1) fr h = loopR (body (cl fr) h) (aloop body cl n) := by
  show (match body (cl fr) h with | some (AEx.normal, fr', h') => aloop body cl n fr' h' | r => r) = _
  unfold loopR
  split <;> rfl
theorem loopR_normal (k : List AV → AH → ARes) : loopR (some (.normal, fr, h)) k = k fr h := rfl
theorem loopR_ret (k : List AV → AH → ARes) : loopR (some (.ret, fr, h)) k = some (.ret, fr, h) := rfl
theorem loopR_exit (k : List AV → AH → ARes) (id : Nat) : loopR (some (.exit id, fr, h)) k = some (.exit id, fr, h) := rfl
theorem run_exit (id : Nat) : arun P K fid call lf rd (.exit id) fr h = some (.exit id, fr, h) := rfl
theorem run_ret : arun P K fid call lf rd .ret fr h = some (.ret, fr, h) := rfl
theorem run_skip : arun P K fid call lf rd .skip fr h = some (.normal, fr, h) := rfl
theorem ops_nil (ops : Array Oper) : aops P call ops [] fr h = some (fr, h) := rfl
theorem ops_cons (ops : Array Oper) (i : Nat) (l : List Nat) : aops P call ops (i :: l) fr h = (astep P call ops i fr h).bind fun r => aops P call ops l r.1 r.2 := by
  show (match astep P call ops i fr h with | none => none | some (fr', h') => aops P call ops l fr' h') = _
  cases astep P call ops i fr h <;> rfl
theorem ev_tmp (t : Nat) : aev fr (.tmp t) = fr.getD t .top := rfl
theorem abin_int (op : BinOp) (t : TypeId) (xo yo : Operand) (k : IntKind) (a b : Int) (h1 : op ≠ .shl) (h2 : op ≠ .shr) : abin P op t xo yo (.int k a) (.int k b) = aIntOp op k a b := by
  unfold abin; cases op <;> simp_all
theorem abin_str (op : BinOp) (t : TypeId) (xo yo : Operand) (a b : List Nat) : abin P op t xo yo (.str a) (.str b) = aStrOp op a b := rfl
end

section
variable {P : Program} {call : ACall} (ops : Array Oper) (fr : List AV) (h : AH)
theorem opsS_nil : aopsS P call ops [] fr h = some (fr, h) := rfl
theorem opsS_cons (i : Nat) (b : Bool) (l : List (Nat × Bool)) : aopsS P call ops ((i, b) :: l) fr h = (astep P call ops i fr h).bind fun r => sameH b h r (aopsS P call ops l) := rfl
theorem sameH_f (r : List AV × AH) (k : List AV → AH → Option (List AV × AH)) : sameH false h r k = k r.1 r.2 := rfl
theorem sameH_t (k : List AV → AH → Option (List AV × AH)) : sameH true h (fr, h) k = k fr h := if_pos rfl
end
/-! ### Loops -/
theorem loop_rule {Post : ARes → Prop} {body : List AV → AH → ARes} {cl : List AV → List AV} {n : Nat} {fr : List AV} {h : AH} {r : ARes} (hr : aloop body cl n fr h = r) (N : Nat) (I : Nat → AH → List AV → Prop)
    (step : ∀ i h fr, i < N → I i h (cl fr) → ∀ k : List AV → AH → ARes, (∀ fr' h', I (i + 1) h' (cl fr') → Post (k fr' h')) → Post (loopR (body (cl fr) h) k))
    (last : ∀ h fr, I N h (cl fr) → ∀ k : List AV → AH → ARes, Post (loopR (body (cl fr) h) k)) (h0 : I 0 h (cl fr)) (hn : N < n) : Post r := by
  have key : ∀ m i n fr h, i + m = N → m < n → I i h (cl fr) → Post (aloop body cl n fr h) := by
    intro m
    induction m with
    | zero =>
      intro i n fr h hi hn hI
      obtain ⟨n, rfl⟩ : ∃ k, n = k + 1 := ⟨n - 1, by omega⟩
      obtain rfl : i = N := by omega
      rw [loop_succ]
      exact last h fr hI _
    | succ m ih =>
      intro i n fr h hi hn hI
      obtain ⟨n, rfl⟩ : ∃ k, n = k + 1 := ⟨n - 1, by omega⟩
      rw [loop_succ]
      exact step i h fr (by omega) hI _ fun fr' h' hI' => ih (i + 1) n fr' h' (by omega) (by omega) hI'
  rw [← hr]
  exact key N 0 n fr h (by omega) hn h0

theorem loop_all {Post : ARes → Prop} {body : List AV → AH → ARes} {cl : List AV → List AV} {n : Nat} {fr : List AV} {h : AH} (N : Nat) (I : Nat → AH → List AV → Prop)
    (step : ∀ i h fr, i < N → I i h (cl fr) → ∀ k : List AV → AH → ARes, (∀ fr' h', I (i + 1) h' (cl fr') → Post (k fr' h')) → Post (loopR (body (cl fr) h) k))
    (last : ∀ h fr, I N h (cl fr) → ∀ k : List AV → AH → ARes, Post (loopR (body (cl fr) h) k)) (h0 : I 0 h (cl fr)) (hn : N < n) : ∀ r, aloop body cl n fr h = r → Post r :=
  fun _ hr => loop_rule hr N I step last h0 hn

/-! ### Rows -/
/-- From the cell off on the block has these cells; it may be written. -/
def Row (h : AH) (id off : Nat) (l : List AV) : Prop :=
  id < h.next ∧ ∃ b, h.blk? id = some b ∧ b.ro = false ∧ b.lo ≤ off ∧ off + l.length ≤ b.hi ∧ ∀ i, i < l.length → b.get (off + i) = l[i]?
theorem Row.keep {h h' : AH} {id off : Nat} {l : List AV} {F : Nat → Prop} (R : Row h id off l) (o : Other F h h') (hf : ¬ F id) : Row h' id off l := by
  obtain ⟨hlt, b, hb, r⟩ := R
  exact ⟨Nat.lt_of_lt_of_le hlt o.next, b, (o.blk id hlt hf).trans hb, r⟩
theorem Row.cell {h : AH} {id off : Nat} {l : List AV} (R : Row h id off l) {i : Nat} {v : AV} (hi : l[i]? = some v) : h.cell? id (off + i) = some v := by
  obtain ⟨_, b, hb, _, _, _, hg⟩ := R
  rw [AH.cell?_eq, hb]
  show b.get (off + i) = some v
  rw [hg i (List.getElem?_eq_some_iff.mp hi).1, hi]
theorem Row.cells {h : AH} {id off : Nat} {l : List AV} (R : Row h id off l) : ∀ (m i : Nat) (p : List AV), p.length = m → l.drop i = p ++ l.drop (i + m) → i + m ≤ l.length → h.cells? id m (off + i) = some p
  | 0, i, p, hp, _, _ => by rw [AH.cells?_zero, List.eq_nil_of_length_eq_zero hp]
  | m + 1, i, p, hp, hd, hle => by
    cases p with
    | nil => simp at hp
    | cons v p =>
      have hv : l[i]? = some v := by
        have := congrArg (fun x => x[0]?) hd
        simpa using this
      have hd' : l.drop (i + 1) = p ++ l.drop (i + 1 + m) := by
        have := congrArg List.tail hd
        simp only [List.cons_append, List.tail_cons, List.tail_drop] at this
        rw [this]; congr 2; omega
      rw [AH.cells?_succ, R.cell hv, Nat.add_assoc, R.cells m (i + 1) p (by simpa using hp) hd' (by omega)]
      rfl
theorem Row.all {h : AH} {id off : Nat} {l : List AV} (R : Row h id off l) : h.cells? id l.length off = some l := by
  have := R.cells l.length 0 l rfl (by simp) (by omega)
  simpa using this
theorem Row.part {h : AH} {id off : Nat} {l : List AV} (R : Row h id off l) {a p c : List AV} (e : l = a ++ p ++ c) : Row h id (off + a.length) p := by
  obtain ⟨hlt, b, hb, hro, hlo, hhi, hg⟩ := R
  subst e
  refine ⟨hlt, b, hb, hro, by omega, by simp at hhi; omega, fun i hi => ?_⟩
  have := hg (a.length + i) (by simp; omega)
  rw [Nat.add_assoc, this, List.append_assoc, List.getElem?_append_right (by omega)]
  rw [show a.length + i - a.length = i by omega, List.getElem?_append_left hi]
theorem Row.write {h : AH} {id off : Nat} {a p c : List AV} (R : Row h id off (a ++ p ++ c)) (p' : List AV) (hp : p'.length = p.length) :
    ∃ h', h.write id (off + a.length) p' = some h' ∧ h'.next = h.next ∧ Row h' id off (a ++ p' ++ c) ∧ Other (fun j => j = id) h h' := by
  obtain ⟨hlt, b, hb, hro, hlo, hhi, hg⟩ := R
  simp only [List.length_append] at hhi
  have hw : h.write id (off + a.length) p' = some (h.put id (some { b with cells := putCells p' (off + a.length) b.cells })) := by
    unfold AH.write
    rw [hb]
    have e1 : Nat.ble b.lo (off + a.length) = true := Nat.ble_eq.mpr (by omega)
    have e2 : Nat.ble (off + a.length + p'.length) b.hi = true := Nat.ble_eq.mpr (by omega)
    simp [hro, e1, e2]
  refine ⟨_, hw, rfl, ⟨hlt, { b with cells := putCells p' (off + a.length) b.cells }, by rw [AH.blk?_put, if_pos rfl], hro, hlo, by simp only [List.length_append]; omega, fun i hi => ?_⟩, ⟨Nat.le_refl _, fun j _ hj => by rw [AH.blk?_put, if_neg hj], fun _ _ _ => rfl⟩⟩
  simp only [List.length_append] at hi
  rw [Blk.get_eq]
  have hin : b.lo ≤ off + i ∧ off + i < b.hi := by omega
  show (if b.lo ≤ off + i ∧ off + i < b.hi then (putCells p' (off + a.length) b.cells).get (off + i) else none) = _
  rw [if_pos hin, get_putCells]
  have h0 := hg i (by simp only [List.length_append]; omega)
  rw [Blk.get_eq, if_pos hin] at h0
  by_cases h1 : off + a.length ≤ off + i ∧ off + i < off + a.length + p'.length
  · rw [if_pos h1, List.append_assoc, List.getElem?_append_right (by omega), List.getElem?_append_left (by omega)]
    congr 1; omega
  · rw [if_neg h1, h0]
    by_cases h2 : i < a.length
    · rw [List.append_assoc, List.getElem?_append_left h2, List.append_assoc, List.getElem?_append_left h2]
    · rw [List.getElem?_append_right (by simp; omega), List.getElem?_append_right (by simp; omega)]
      congr 1; simp; omega
theorem Row.new (h : AH) (l : List AV) : Row (h.alloc l) h.next 0 l := by
  refine ⟨Nat.lt_succ_self _, _, by rw [AH.blk?_alloc, if_pos rfl], rfl, Nat.zero_le _, by simp, fun i hi => ?_⟩
  rw [Blk.get_eq]
  rw [if_pos ⟨Nat.zero_le _, by simpa using hi⟩, get_putCells, if_pos ⟨Nat.zero_le _, by simpa using hi⟩]
  congr 1; omega
theorem AH.next_alloc (h : AH) (l : List AV) : (h.alloc l).next = h.next + 1 := rfl
/-- An append that takes the row's block away and lays a new one. -/
theorem Row.move {h : AH} {id off len n es : Nat} {l new : List AV} (R : Row h id off l) (hl : l.length = len * es) (hn : new.length = n * es) (ha : atoms new = true) :
    ∃ h', aappend.amove h id off len n es new = some (.sl h.next off (len + n) es none, h') ∧ h'.next = h.next + 1 ∧ Row h' h.next off (l ++ new) ∧ Other (fun j => j = id) h h' := by
  obtain ⟨hlt, b, hb, hro, hlo, hhi, hg⟩ := R
  have e0 : ∀ (B : Blk) j, AH.blk? { m := (h.put id none).m.set (some B) h.next, ob := h.ob, next := h.next + 1 } j = if j = h.next then some B else if j = id then none else h.blk? j := by
    intro B j
    have := AH.blk?_put (h.put id none) h.next (some B) j
    rw [AH.blk?_put h id none j] at this
    exact this
  refine ⟨{ m := (h.put id none).m.set (some { lo := off, hi := off + (len + n) * es, ro := false, cells := putCells new (off + len * es) b.cells }) h.next, ob := h.ob, next := h.next + 1 }, ?_, rfl, ⟨Nat.lt_succ_self _, { lo := off, hi := off + (len + n) * es, ro := false, cells := putCells new (off + len * es) b.cells }, by rw [e0, if_pos rfl], rfl, Nat.le_refl _, by simp [hl, hn, Nat.add_mul], fun i hi => ?_⟩, ⟨Nat.le_succ _, fun j hj hne => by rw [e0, if_neg (by omega), if_neg hne], fun _ _ _ => rfl⟩⟩
  · unfold aappend.amove
    rw [hb]
    simp [hro, ha]
  · simp only [List.length_append, hl, hn] at hi
    rw [Blk.get_eq, if_pos ⟨by show off ≤ off + i; omega, by show off + i < off + (len + n) * es; rw [Nat.add_mul]; omega⟩]
    show (putCells new (off + len * es) b.cells).get (off + i) = _
    rw [get_putCells]
    by_cases h1 : off + len * es ≤ off + i ∧ off + i < off + len * es + new.length
    · rw [if_pos h1, List.getElem?_append_right (by omega)]
      congr 1; omega
    · rw [if_neg h1]
      have h2 : i < l.length := by omega
      have h0 := hg i h2
      rw [Blk.get_eq, if_pos (by omega)] at h0
      rw [h0, List.getElem?_append_left h2]

/-- Cells of a block, which may be one that came in. -/
def Has (h : AH) (id off : Nat) (l : List AV) : Prop := id < h.next ∧ ∃ b, h.blk? id = some b ∧ ∀ i v, l[i]? = some v → b.get (off + i) = some v
theorem Row.has {h : AH} {id off : Nat} {l : List AV} (R : Row h id off l) : Has h id off l := by
  obtain ⟨h1, b, h2, _, _, _, h3⟩ := R
  exact ⟨h1, b, h2, fun i v hi => by rw [h3 i (List.getElem?_eq_some_iff.mp hi).1, hi]⟩
theorem Has.keep {h h' : AH} {id off : Nat} {l : List AV} {F : Nat → Prop} (R : Has h id off l) (o : Other F h h') (hf : ¬ F id) : Has h' id off l := by
  obtain ⟨h1, b, h2, h3⟩ := R
  exact ⟨Nat.lt_of_lt_of_le h1 o.next, b, (o.blk id h1 hf).trans h2, h3⟩
theorem Has.quiet {h h' : AH} {id off : Nat} {l : List AV} (R : Has h id off l) (o : Quiet h h') : Has h' id off l := R.keep o (fun x => x)
theorem Has.cell {h : AH} {id off : Nat} {l : List AV} (R : Has h id off l) {i : Nat} {v : AV} (hi : l[i]? = some v) : h.cell? id (off + i) = some v := by
  obtain ⟨_, b, hb, hg⟩ := R
  rw [AH.cell?_eq, hb]
  exact hg i v hi
theorem Has.part {h : AH} {id off : Nat} {a p c : List AV} (R : Has h id off (a ++ p ++ c)) : Has h id (off + a.length) p := by
  obtain ⟨h1, b, h2, h3⟩ := R
  refine ⟨h1, b, h2, fun i v hi => ?_⟩
  rw [Nat.add_assoc]
  refine h3 _ v ?_
  rw [List.append_assoc, List.getElem?_append_right (by omega), show a.length + i - a.length = i by omega, List.getElem?_append_left (List.getElem?_eq_some_iff.mp hi).1]
  exact hi
theorem Has.cells {h : AH} {id off : Nat} {l : List AV} (R : Has h id off l) : h.cells? id l.length off = some l := by
  have key : ∀ (l : List AV) (off : Nat), (∀ (i : Nat) v, l[i]? = some v → h.cell? id (off + i) = some v) → h.cells? id l.length off = some l := by
    intro l
    induction l with
    | nil => intro off _; rw [List.length_nil, AH.cells?_zero]
    | cons v l ih =>
      intro off hc
      rw [List.length_cons, AH.cells?_succ, show h.cell? id off = some v from hc 0 v rfl, ih (off + 1) (fun i u hi => by rw [Nat.add_assoc, Nat.add_comm 1 i]; exact hc (i + 1) u hi)]
      rfl
  exact key l off fun i v hi => R.cell hi
theorem Has.new (h : AH) (l : List AV) : Has (h.alloc l) h.next 0 l := (Row.new h l).has
theorem cell_alloc (h : AH) (l : List AV) (i : Nat) : (h.alloc l).cell? h.next i = l[i]? := by
  by_cases hi : i < l.length
  · obtain ⟨v, hv⟩ : ∃ v, l[i]? = some v := ⟨l[i], List.getElem?_eq_getElem hi⟩
    have := (Has.new h l).cell hv
    rw [Nat.zero_add] at this
    rw [this, hv]
  · rw [AH.cell?_eq, AH.blk?_alloc, if_pos rfl]
    simp only [Option.bind_some]
    rw [Blk.get_eq, if_neg (by simp; omega), List.getElem?_eq_none (by omega)]

/-! ### Regions whose order is open -/
section
variable {P : Program} {call : ACall} {ops : Array Oper}
noncomputable def bytesV (x : AV) (h : AH) : Option AV :=
  match x with
  | .sl id off len es _ => if es = 1 then ((h.cells? id len off).bind toBytes).map .str else none
  | .nilSl => some (.str [])
  | _ => none
noncomputable def loadI (P : Program) (ops : Array Oper) (i : Nat) (fr : List AV) (h : AH) : Option AV :=
  match ops[i]? with
  | some o => aload P (aev fr) o h
  | none => none
/-- Every load and every step that writes: ordered, or listed. -/
def pairsOK (P : Program) (T : List Nat) (ops : Array Oper) (pairs : List (Nat × Nat)) : Bool :=
  (List.range ops.size).all fun i => match ops[i]? with
    | none => false
    | some o => !decide (cls P o = .load) || (List.range ops.size).all fun j => !heapOp P ops j || (bef T j i || (bef T i j || pairs.any fun p => Nat.beq p.1 i && Nat.beq p.2 j))

theorem alog_get : ∀ (l : List Nat) (fr : List AV) (h : AH) (log : List (List AV × AH)), alog P call ops l fr h = some log → ∀ k, k ≤ l.length → log[k]? = aops P call ops (l.take k) fr h
  | [], fr, h, log, h0, k, hk => by
    simp only [alog, Option.some.injEq] at h0
    subst h0
    obtain rfl : k = 0 := by simpa using hk
    rfl
  | i :: l, fr, h, log, h0, k, hk => by
    unfold alog at h0
    split at h0
    · simp at h0
    · rename_i fr' h' hs
      split at h0
      · simp at h0
      · rename_i log' hl
        injection h0 with h0
        subst h0
        cases k with
        | zero => rfl
        | succ k =>
          rw [List.take_succ_cons, ops_cons, hs]
          simpa using alog_get l fr' h' log' hl k (by simpa using hk)
theorem alog_some : ∀ (l : List Nat) (fr : List AV) (h : AH) (r : List AV × AH), aops P call ops l fr h = some r → ∃ log, alog P call ops l fr h = some log
  | [], fr, h, r, h0 => ⟨_, rfl⟩
  | i :: l, fr, h, r, h0 => by
    rw [ops_cons] at h0
    obtain ⟨s, hs, h0⟩ := Option.bind_eq_some_iff.mp h0
    obtain ⟨log, hl⟩ := alog_some l s.1 s.2 r h0
    refine ⟨(fr, h) :: log, ?_⟩
    unfold alog
    rw [hs]
    show (match alog P call ops l s.1 s.2 with | none => none | some l => some ((fr, h) :: l)) = _
    rw [hl]
theorem take_range (k n : Nat) (hk : k ≤ n) : (List.range n).take k = List.range k := by
  rw [List.take_range]; congr 1; omega
/-- A listed pair's look: the load finds the same ahead of the write, and behind it. -/
def PairOK (P : Program) (call : ACall) (ops : Array Oper) (fr : List AV) (h : AH) (i j : Nat) : Prop :=
  ∃ s sj sj1 v, aops P call ops (List.range i) fr h = some s ∧ aops P call ops (List.range j) fr h = some sj ∧ aops P call ops (List.range (j + 1)) fr h = some sj1 ∧
    loadI P ops i s.1 s.2 = some v ∧ loadI P ops i s.1 sj.2 = some v ∧ loadI P ops i s.1 sj1.2 = some v
theorem loads_all {fr : List AV} {h : AH} {log : List (List AV × AH)} (pairs : List (Nat × Nat)) (hp : pairsOK P (befs ops.toList []) ops pairs = true)
    (hl : alog P call ops (List.range ops.size) fr h = some log) (hq : ∀ p ∈ pairs, PairOK P call ops fr h p.1 p.2) : (List.range ops.size).all (loadOK P (befs ops.toList []) ops log) = true := by
  have hg : ∀ k, k ≤ ops.size → log[k]? = aops P call ops (List.range k) fr h := fun k hk => by
    rw [alog_get _ _ _ _ hl k (by simpa using hk), take_range k _ hk]
  have hlen : log.length = ops.size + 1 := by simpa using (alog_spec _ _ _ _ hl).2.1
  rw [List.all_eq_true]
  intro i hi
  have hi : i < ops.size := List.mem_range.mp hi
  unfold loadOK
  obtain ⟨⟨fi, hhi⟩, hs⟩ : ∃ s, log[i]? = some s := ⟨log[i]'(by omega), List.getElem?_eq_getElem _⟩
  have ho : ops[i]? = some ops[i] := by simp [hi]
  have hpi := all_range hp hi
  rw [ho] at hpi
  rw [ho, hs]
  show (if cls P ops[i] = .load then (match awanted ops fi ops[i] with
      | some true => (List.range ops.size).all fun j => !heapOp P ops j || bef (befs ops.toList []) j i || bef (befs ops.toList []) i j || match log[j]?, log[j + 1]? with
        | some (_, hj), some (_, hj1) => sameLoad (aload P (aev fi) ops[i] hj) (aload P (aev fi) ops[i] hhi) && sameLoad (aload P (aev fi) ops[i] hj1) (aload P (aev fi) ops[i] hhi)
        | _, _ => false
      | _ => true) else true) = true
  split
  · rename_i hc
    split
    · rw [List.all_eq_true]
      intro j hj
      have hj : j < ops.size := List.mem_range.mp hj
      simp only [hc, decide_true, Bool.not_true, Bool.false_or] at hpi
      have hpj := all_range hpi hj
      simp only [Bool.or_eq_true] at hpj ⊢
      rcases hpj with h1 | h1 | h1 | h1
      · exact .inl (.inl (.inl h1))
      · exact .inl (.inl (.inr h1))
      · exact .inl (.inr h1)
      · refine .inr ?_
        rw [List.any_eq_true] at h1
        obtain ⟨⟨pi, pj⟩, hm, hpp⟩ := h1
        rw [Bool.and_eq_true] at hpp
        obtain ⟨rfl, rfl⟩ : pi = i ∧ pj = j := ⟨Nat.eq_of_beq_eq_true hpp.1, Nat.eq_of_beq_eq_true hpp.2⟩
        obtain ⟨s, sj, sj1, v, q1, q2, q3, q4, q5, q6⟩ := hq _ hm
        have e1 : log[pi]? = some s := by rw [hg _ (by omega)]; exact q1
        have e2 : log[pj]? = some sj := by rw [hg _ (by omega)]; exact q2
        have e3 : log[pj + 1]? = some sj1 := by rw [hg _ (by omega)]; exact q3
        rw [hs] at e1
        injection e1 with e1
        subst e1
        rw [e2, e3]
        unfold loadI at q4 q5 q6
        rw [ho] at q4 q5 q6
        simp only at q4 q5 q6
        show (sameLoad (aload P (aev fi) ops[pi] sj.2) (aload P (aev fi) ops[pi] hhi) && sameLoad (aload P (aev fi) ops[pi] sj1.2) (aload P (aev fi) ops[pi] hhi)) = true
        rw [q4, q5, q6]
        simp [sameLoad, AV.beq_refl]
    · rfl
  · rfl
theorem adraw_eval {fr : List AV} {h : AH} {r : List AV × AH} (pairs : List (Nat × Nat)) (hd : drawOK P (befs ops.toList []) ops = true) (hp : pairsOK P (befs ops.toList []) ops pairs = true)
    (h0 : aops P call ops (List.range ops.size) fr h = some r) (hq : ∀ p ∈ pairs, PairOK P call ops fr h p.1 p.2) : adraw P call ops fr h = some r := by
  obtain ⟨log, hl⟩ := alog_some _ _ _ _ h0
  have hg : ∀ k, k ≤ ops.size → log[k]? = aops P call ops (List.range k) fr h := fun k hk => by
    rw [alog_get _ _ _ _ hl k (by simpa using hk), take_range k _ hk]
  unfold adraw
  rw [if_pos hd, hl]
  show (if (List.range ops.size).all (loadOK P (befs ops.toList []) ops log) then log[ops.size]? else none) = some r
  rw [if_pos (loads_all pairs hp hl hq), hg _ (Nat.le_refl _), h0]
/-- A region where no such load is. -/
theorem adraw_plain {fr : List AV} {h : AH} (hd : drawOK P (befs ops.toList []) ops = true) (hp : pairsOK P (befs ops.toList []) ops [] = true) : adraw P call ops fr h = aops P call ops (List.range ops.size) fr h := by
  cases h0 : aops P call ops (List.range ops.size) fr h with
  | some r => exact adraw_eval [] hd hp h0 (fun _ h => by simp at h)
  | none =>
    unfold adraw
    rw [if_pos hd]
    cases hl : alog P call ops (List.range ops.size) fr h with
    | none => rfl
    | some log =>
      have := alog_get _ _ _ _ hl ops.size (by simp)
      rw [List.take_of_length_le (by simp), h0] at this
      have hlen := (alog_spec _ _ _ _ hl).2.1
      simp only [List.length_range] at hlen
      rw [List.getElem?_eq_none_iff] at this
      omega
/-- A region where two new variables stand in no order. -/
theorem adraw_gap {fr : List AV} {h : AH} {r : List AV × AH} (pairs : List (Nat × Nat)) (hd : drawOK P (befs ops.toList []) ops = false) (hf : floatOK P (befs ops.toList []) ops (ops.size - 1) = false) (hgp : gapOK P (befs ops.toList []) ops (firstHeap P ops) = true)
    (hp : pairsOK P (befs ops.toList []) ops pairs = true) (h0 : aops P call ops (List.range ops.size) fr h = some r) (hq : ∀ p ∈ pairs, PairOK P call ops fr h p.1 p.2) : adraw P call ops fr h = some r := by
  obtain ⟨log, hl⟩ := alog_some _ _ _ _ h0
  have hg : ∀ k, k ≤ ops.size → log[k]? = aops P call ops (List.range k) fr h := fun k hk => by
    rw [alog_get _ _ _ _ hl k (by simpa using hk), take_range k _ hk]
  unfold adraw
  rw [if_neg (by rw [hd]; simp), if_neg (by rw [hf]; simp), if_pos hgp, hl]
  show (if (List.range ops.size).all (loadOK P (befs ops.toList []) ops log) then log[ops.size]? else none) = some r
  rw [if_pos (loads_all pairs hp hl hq), hg _ (Nat.le_refl _), h0]

/-- Where the last write floats: with which stores it stands in no order. -/
def floatsOK (T : List Nat) (ops : Array Oper) (s : Nat) (fl : List Nat) : Bool :=
  (List.range ops.size).all fun i => !(Nat.blt i s && !bef T i s) || (match storeOp ops i with | some _ => fl.any (Nat.beq i) | none => true)
/-- They write other blocks. -/
def ApartAt (P : Program) (call : ACall) (ops : Array Oper) (fr : List AV) (h : AH) (s i : Nat) : Prop :=
  ∃ si ss a b, aops P call ops (List.range i) fr h = some si ∧ aops P call ops (List.range s) fr h = some ss ∧ storeId ops i si.1 = some a ∧ storeId ops s ss.1 = some b ∧ a ≠ b
theorem adraw_float {fr : List AV} {h : AH} {r : List AV × AH} (pairs : List (Nat × Nat)) (fl : List Nat) (hd : drawOK P (befs ops.toList []) ops = false) (hf : floatOK P (befs ops.toList []) ops (ops.size - 1) = true)
    (hp : pairsOK P (befs ops.toList []) ops pairs = true) (hfl : floatsOK (befs ops.toList []) ops (ops.size - 1) fl = true)
    (h0 : aops P call ops (List.range ops.size) fr h = some r) (hq : ∀ p ∈ pairs, PairOK P call ops fr h p.1 p.2) (hne : fl ≠ []) (ha : ∀ i ∈ fl, ApartAt P call ops fr h (ops.size - 1) i) : adraw P call ops fr h = some r := by
  obtain ⟨log, hl⟩ := alog_some _ _ _ _ h0
  have hg : ∀ k, k ≤ ops.size → log[k]? = aops P call ops (List.range k) fr h := fun k hk => by
    rw [alog_get _ _ _ _ hl k (by simpa using hk), take_range k _ hk]
  have hlen : log.length = ops.size + 1 := by simpa using (alog_spec _ _ _ _ hl).2.1
  have hs : ops.size - 1 < ops.size := by
    simp only [floatOK, Bool.and_eq_true] at hf
    exact Nat.blt_eq.mp hf.1.1.2
  unfold adraw
  rw [if_neg (by rw [hd]; simp), if_pos hf, hl]
  show (if (List.range ops.size).all (loadOK P (befs ops.toList []) ops log) && (List.range ops.size).all (apartOK (befs ops.toList []) ops log (ops.size - 1)) && sidOK ops log (ops.size - 1) then log[ops.size]? else none) = some r
  rw [if_pos, hg _ (Nat.le_refl _), h0]
  rw [Bool.and_eq_true, Bool.and_eq_true]
  refine ⟨⟨loads_all pairs hp hl hq, ?_⟩, ?_⟩
  · rw [List.all_eq_true]
    intro i hi
    have hi : i < ops.size := List.mem_range.mp hi
    unfold apartOK
    split
    · rename_i hc
      have h1 := all_range hfl hi
      rw [hc] at h1
      simp only [Bool.not_true, Bool.false_or] at h1
      split
      · rename_i x hx
        rw [hx] at h1
        simp only at h1
        rw [List.any_eq_true] at h1
        obtain ⟨j, hj, hij⟩ := h1
        obtain rfl := Nat.eq_of_beq_eq_true hij
        obtain ⟨si, ss, a, b, q1, q2, q3, q4, q5⟩ := ha _ hj
        rw [hg _ (by omega), hg _ (by omega), q1, q2]
        simp only [q3, q4]
        cases hx : Nat.beq a b with
        | false => rfl
        | true => exact absurd (Nat.eq_of_beq_eq_true hx) q5
      · rfl
    · rfl
  · obtain ⟨i, hi⟩ := List.exists_mem_of_ne_nil fl hne
    obtain ⟨si, ss, a, b, q1, q2, q3, q4, q5⟩ := ha i hi
    unfold sidOK
    rw [hg _ (by omega), q2]
    simp only [q4]
    rfl
end


/-! ### A walk through a string -/
noncomputable def rngV (P : Program) (t : TypeId) (x : AV) (h : AH) : Option (AV × AH) :=
  match P.underlying t, x with
  | some .string, .str s => some (.ptr h.next 0, h.newOb (.iter s 0))
  | _, _ => none
noncomputable def nxtV (it : AV) (h : AH) : Option (AV × AH) :=
  match it with
  | .ptr id 0 => anext h id
  | _ => none
end Go.Proofs.Ytgnacecplaemlaa
/-
  Trees of commands: what they are, how the abstract heap holds them.
-/
namespace Go.Proofs.Ytgnacecplaemlaa
open AI

mutual
/-- A part: its kind, its text, its operator; its kids and its commands, each with the slice that holds them. -/
inductive Pt where
  | mk (k : Int) (t o : List Nat) (sk : AV) (kids : List Pt) (sc : AV) (cmds : List Nd)
inductive Wd where
  | mk (s : AV) (ps : List Pt)
inductive Rdr where
  | mk (num : List Nat) (op : Int) (s : AV) (ps : List Pt) (here : List Nat)
inductive Am where
  | mk (s : AV) (pats : List Wd) (body : Nd)
inductive Nd where
  | mk (k : Int) (name : List Nat) (nt inn : Bool) (so : AV) (ops : List Int) (sa : AV) (az : List Wd) (sw : AV) (ws : List Wd) (sr : AV) (rs : List Rdr) (sm : AV) (ms : List Am) (sk : AV) (kids : List Nd)
end
def Pt.cells : Pt → List AV
  | .mk k t o sk _ sc _ => [.int .i64 k, .str t, .str o, sk, sc]
def Wd.cells : Wd → List AV
  | .mk s _ => [s]
def Rdr.cells : Rdr → List AV
  | .mk num op s _ here => [.str num, .int .i64 op, s, .str here]
def Nd.cells : Nd → List AV
  | .mk k name nt inn so _ sa _ sw _ sr _ sm _ sk _ => [.int .i64 k, .str name, .bool nt, .bool inn, so, sa, sw, sr, sm, sk]
def Am.cells : Am → List AV
  | .mk s _ body => s :: body.cells

/-- The slice s holds these elements, of es cells each. -/
def Sl (h : AH) (s : AV) (es : Nat) (L : List (List AV)) : Prop :=
  (∀ x ∈ L, x.length = es) ∧ ((L = [] ∧ (s = .nilSl ∨ ∃ id off c, s = .sl id off 0 es c ∧ id < h.next)) ∨ ∃ id off c, s = .sl id off L.length es c ∧ Has h id off L.flatten)

/-! ### How much there is -/
mutual
def Pt.sz : Pt → Nat
  | .mk _ t _ _ kids _ cmds => 1 + t.length + szP kids + szN cmds
def Wd.sz : Wd → Nat
  | .mk _ ps => 1 + szP ps
def Rdr.sz : Rdr → Nat
  | .mk _ _ _ ps _ => 1 + szP ps
def Am.sz : Am → Nat
  | .mk _ pats body => 1 + szW pats + body.sz
def Nd.sz : Nd → Nat
  | .mk _ _ _ _ _ ops _ az _ ws _ rs _ ms _ kids => 1 + ops.length + szW az + szW ws + szR rs + szM ms + szN kids
def szP : List Pt → Nat
  | [] => 0
  | p :: l => p.sz + szP l
def szW : List Wd → Nat
  | [] => 0
  | p :: l => p.sz + szW l
def szR : List Rdr → Nat
  | [] => 0
  | p :: l => p.sz + szR l
def szM : List Am → Nat
  | [] => 0
  | p :: l => p.sz + szM l
def szN : List Nd → Nat
  | [] => 0
  | p :: l => p.sz + szN l
end

/-! ### How it lies in the heap -/
mutual
def Pt.ok (h : AH) : Pt → Prop
  | .mk _ _ _ sk kids sc cmds => Sl h sk 5 (kids.map Pt.cells) ∧ okP h kids ∧ Sl h sc 10 (cmds.map Nd.cells) ∧ okN h cmds
def Wd.ok (h : AH) : Wd → Prop
  | .mk s ps => Sl h s 5 (ps.map Pt.cells) ∧ okP h ps
def Rdr.ok (h : AH) : Rdr → Prop
  | .mk _ _ s ps _ => Sl h s 5 (ps.map Pt.cells) ∧ okP h ps
def Am.ok (h : AH) : Am → Prop
  | .mk s pats body => Sl h s 1 (pats.map Wd.cells) ∧ okW h pats ∧ body.ok h
def Nd.ok (h : AH) : Nd → Prop
  | .mk _ _ _ _ so ops sa az sw ws sr rs sm ms sk kids =>
    Sl h so 1 (ops.map fun x => [.int .i64 x]) ∧ (Sl h sa 1 (az.map Wd.cells) ∧ okW h az) ∧ (Sl h sw 1 (ws.map Wd.cells) ∧ okW h ws) ∧ (Sl h sr 4 (rs.map Rdr.cells) ∧ okR h rs) ∧
      (Sl h sm 11 (ms.map Am.cells) ∧ okM h ms) ∧ Sl h sk 10 (kids.map Nd.cells) ∧ okN h kids
def okP (h : AH) : List Pt → Prop
  | [] => True
  | p :: l => p.ok h ∧ okP h l
def okW (h : AH) : List Wd → Prop
  | [] => True
  | p :: l => p.ok h ∧ okW h l
def okR (h : AH) : List Rdr → Prop
  | [] => True
  | p :: l => p.ok h ∧ okR h l
def okM (h : AH) : List Am → Prop
  | [] => True
  | p :: l => p.ok h ∧ okM h l
def okN (h : AH) : List Nd → Prop
  | [] => True
  | p :: l => p.ok h ∧ okN h l
end
theorem Pt.sz_pos (p : Pt) : 1 ≤ p.sz := by cases p; simp only [Pt.sz]; omega
theorem Wd.sz_pos (p : Wd) : 1 ≤ p.sz := by cases p; simp only [Wd.sz]; omega
theorem Rdr.sz_pos (p : Rdr) : 1 ≤ p.sz := by cases p; simp only [Rdr.sz]; omega
theorem Am.sz_pos (p : Am) : 1 ≤ p.sz := by cases p; simp only [Am.sz]; omega
theorem Nd.sz_pos (p : Nd) : 1 ≤ p.sz := by cases p; simp only [Nd.sz]; omega
section
variable {h : AH}
theorem szP_mem : ∀ {l : List Pt} {p : Pt}, p ∈ l → p.sz ≤ szP l
  | q :: l, p, hm => by
    rcases List.mem_cons.mp hm with rfl | hm
    · simp only [szP]; omega
    · have := szP_mem hm; simp only [szP]; omega
theorem szW_mem : ∀ {l : List Wd} {p : Wd}, p ∈ l → p.sz ≤ szW l
  | q :: l, p, hm => by
    rcases List.mem_cons.mp hm with rfl | hm
    · simp only [szW]; omega
    · have := szW_mem hm; simp only [szW]; omega
theorem szR_mem : ∀ {l : List Rdr} {p : Rdr}, p ∈ l → p.sz ≤ szR l
  | q :: l, p, hm => by
    rcases List.mem_cons.mp hm with rfl | hm
    · simp only [szR]; omega
    · have := szR_mem hm; simp only [szR]; omega
theorem szM_mem : ∀ {l : List Am} {p : Am}, p ∈ l → p.sz ≤ szM l
  | q :: l, p, hm => by
    rcases List.mem_cons.mp hm with rfl | hm
    · simp only [szM]; omega
    · have := szM_mem hm; simp only [szM]; omega
theorem szN_mem : ∀ {l : List Nd} {p : Nd}, p ∈ l → p.sz ≤ szN l
  | q :: l, p, hm => by
    rcases List.mem_cons.mp hm with rfl | hm
    · simp only [szN]; omega
    · have := szN_mem hm; simp only [szN]; omega
theorem szP_len : ∀ (l : List Pt), l.length ≤ szP l
  | [] => Nat.le_refl _
  | p :: l => by have := szP_len l; have := p.sz_pos; simp only [szP, List.length_cons]; omega
theorem szW_len : ∀ (l : List Wd), l.length ≤ szW l
  | [] => Nat.le_refl _
  | p :: l => by have := szW_len l; have := p.sz_pos; simp only [szW, List.length_cons]; omega
theorem szR_len : ∀ (l : List Rdr), l.length ≤ szR l
  | [] => Nat.le_refl _
  | p :: l => by have := szR_len l; have := p.sz_pos; simp only [szR, List.length_cons]; omega
theorem szM_len : ∀ (l : List Am), l.length ≤ szM l
  | [] => Nat.le_refl _
  | p :: l => by have := szM_len l; have := p.sz_pos; simp only [szM, List.length_cons]; omega
theorem szN_len : ∀ (l : List Nd), l.length ≤ szN l
  | [] => Nat.le_refl _
  | p :: l => by have := szN_len l; have := p.sz_pos; simp only [szN, List.length_cons]; omega
theorem okP_mem : ∀ {l : List Pt}, okP h l → ∀ p ∈ l, p.ok h
  | q :: l, hv, p, hm => by
    simp only [okP] at hv
    rcases List.mem_cons.mp hm with rfl | hm
    · exact hv.1
    · exact okP_mem hv.2 p hm
theorem okW_mem : ∀ {l : List Wd}, okW h l → ∀ p ∈ l, p.ok h
  | q :: l, hv, p, hm => by
    simp only [okW] at hv
    rcases List.mem_cons.mp hm with rfl | hm
    · exact hv.1
    · exact okW_mem hv.2 p hm
theorem okR_mem : ∀ {l : List Rdr}, okR h l → ∀ p ∈ l, p.ok h
  | q :: l, hv, p, hm => by
    simp only [okR] at hv
    rcases List.mem_cons.mp hm with rfl | hm
    · exact hv.1
    · exact okR_mem hv.2 p hm
theorem okM_mem : ∀ {l : List Am}, okM h l → ∀ p ∈ l, p.ok h
  | q :: l, hv, p, hm => by
    simp only [okM] at hv
    rcases List.mem_cons.mp hm with rfl | hm
    · exact hv.1
    · exact okM_mem hv.2 p hm
theorem okN_mem : ∀ {l : List Nd}, okN h l → ∀ p ∈ l, p.ok h
  | q :: l, hv, p, hm => by
    simp only [okN] at hv
    rcases List.mem_cons.mp hm with rfl | hm
    · exact hv.1
    · exact okN_mem hv.2 p hm
end
theorem Pt.cells_len (p : Pt) : p.cells.length = 5 := by cases p; rfl
theorem Wd.cells_len (p : Wd) : p.cells.length = 1 := by cases p; rfl
theorem Rdr.cells_len (p : Rdr) : p.cells.length = 4 := by cases p; rfl
theorem Nd.cells_len (p : Nd) : p.cells.length = 10 := by cases p; rfl
theorem Am.cells_len (p : Am) : p.cells.length = 11 := by cases p; simp [Am.cells, Nd.cells_len]

/-! ### They stand while nothing old turns -/
theorem Sl.quiet {h h' : AH} {s : AV} {es : Nat} {L : List (List AV)} (S : Sl h s es L) (q : Quiet h h') : Sl h' s es L :=
  ⟨S.1, S.2.imp (fun ⟨e, d⟩ => ⟨e, d.imp_right fun ⟨id, off, c, e, hlt⟩ => ⟨id, off, c, e, Nat.lt_of_lt_of_le hlt q.next⟩⟩) fun ⟨id, off, c, e, H⟩ => ⟨id, off, c, e, H.quiet q⟩⟩
mutual
theorem Pt.ok.quiet {h h' : AH} (q : Quiet h h') : ∀ {p : Pt}, p.ok h → p.ok h'
  | .mk _ _ _ _ _ _ _, hv => by simp only [Pt.ok] at *; exact ⟨hv.1.quiet q, okP.quiet q hv.2.1, hv.2.2.1.quiet q, okN.quiet q hv.2.2.2⟩
theorem Wd.ok.quiet {h h' : AH} (q : Quiet h h') : ∀ {p : Wd}, p.ok h → p.ok h'
  | .mk _ _, hv => by simp only [Wd.ok] at *; exact ⟨hv.1.quiet q, okP.quiet q hv.2⟩
theorem Rdr.ok.quiet {h h' : AH} (q : Quiet h h') : ∀ {p : Rdr}, p.ok h → p.ok h'
  | .mk _ _ _ _ _, hv => by simp only [Rdr.ok] at *; exact ⟨hv.1.quiet q, okP.quiet q hv.2⟩
theorem Am.ok.quiet {h h' : AH} (q : Quiet h h') : ∀ {p : Am}, p.ok h → p.ok h'
  | .mk _ _ _, hv => by simp only [Am.ok] at *; exact ⟨hv.1.quiet q, okW.quiet q hv.2.1, Nd.ok.quiet q hv.2.2⟩
theorem Nd.ok.quiet {h h' : AH} (q : Quiet h h') : ∀ {p : Nd}, p.ok h → p.ok h'
  | .mk _ _ _ _ _ _ _ _ _ _ _ _ _ _ _ _, hv => by
    simp only [Nd.ok] at *
    exact ⟨hv.1.quiet q, ⟨hv.2.1.1.quiet q, okW.quiet q hv.2.1.2⟩, ⟨hv.2.2.1.1.quiet q, okW.quiet q hv.2.2.1.2⟩, ⟨hv.2.2.2.1.1.quiet q, okR.quiet q hv.2.2.2.1.2⟩, ⟨hv.2.2.2.2.1.1.quiet q, okM.quiet q hv.2.2.2.2.1.2⟩, hv.2.2.2.2.2.1.quiet q, okN.quiet q hv.2.2.2.2.2.2⟩
theorem okP.quiet {h h' : AH} (q : Quiet h h') : ∀ {l : List Pt}, okP h l → okP h' l
  | [], _ => by simp only [okP]
  | _ :: _, hv => by simp only [okP] at *; exact ⟨Pt.ok.quiet q hv.1, okP.quiet q hv.2⟩
theorem okW.quiet {h h' : AH} (q : Quiet h h') : ∀ {l : List Wd}, okW h l → okW h' l
  | [], _ => by simp only [okW]
  | _ :: _, hv => by simp only [okW] at *; exact ⟨Wd.ok.quiet q hv.1, okW.quiet q hv.2⟩
theorem okR.quiet {h h' : AH} (q : Quiet h h') : ∀ {l : List Rdr}, okR h l → okR h' l
  | [], _ => by simp only [okR]
  | _ :: _, hv => by simp only [okR] at *; exact ⟨Rdr.ok.quiet q hv.1, okR.quiet q hv.2⟩
theorem okM.quiet {h h' : AH} (q : Quiet h h') : ∀ {l : List Am}, okM h l → okM h' l
  | [], _ => by simp only [okM]
  | _ :: _, hv => by simp only [okM] at *; exact ⟨Am.ok.quiet q hv.1, okM.quiet q hv.2⟩
theorem okN.quiet {h h' : AH} (q : Quiet h h') : ∀ {l : List Nd}, okN h l → okN h' l
  | [], _ => by simp only [okN]
  | _ :: _, hv => by simp only [okN] at *; exact ⟨Nd.ok.quiet q hv.1, okN.quiet q hv.2⟩
end
end Go.Proofs.Ytgnacecplaemlaa
/-
  Slices: reading them, making them.
-/
namespace Go.Proofs.Ytgnacecplaemlaa
open AI
section
variable {h : AH} {s : AV} {es : Nat} {L : List (List AV)} {t e : TypeId}
theorem Sl.alenOf (S : Sl h s es L) : alenOf s = some L.length := by
  rcases S.2 with ⟨rfl, rfl | ⟨id, off, c, rfl, _⟩⟩ | ⟨id, off, c, rfl, _⟩ <;> rfl
theorem Sl.alen (S : Sl h s es L) (ht : Try.prog.underlying t = some (.slice e)) : alen Try.prog t s = some L.length := by
  unfold AI.alen
  rw [ht]
  rcases S.2 with ⟨rfl, rfl | ⟨id, off, c, rfl, _⟩⟩ | ⟨id, off, c, rfl, _⟩ <;> rfl
theorem Sl.flat_len : ∀ {L : List (List AV)}, (∀ x ∈ L, x.length = es) → L.flatten.length = L.length * es
  | [], _ => by simp
  | x :: L, hL => by
    have := Sl.flat_len (L := L) (fun y hy => hL y (by simp [hy]))
    simp only [List.flatten_cons, List.length_append, List.length_cons, this, hL x (by simp), Nat.succ_mul]
    omega
theorem Sl.first (S : Sl h s es L) : afirst h es s = some L.flatten := by
  rcases S.2 with ⟨rfl, rfl | ⟨id, off, c, rfl, _⟩⟩ | ⟨id, off, c, rfl, H⟩
  · rfl
  · simp [afirst, AH.cells?_zero]
  · simp only [afirst, if_true]
    have := H.cells
    rw [Sl.flat_len S.1] at this
    exact this
theorem Sl.atom (S : Sl h s es L) : s.atom = true := by
  rcases S.2 with ⟨rfl, rfl | ⟨id, off, c, rfl, _⟩⟩ | ⟨id, off, c, rfl, _⟩ <;> rfl
theorem Sl.old (S : Sl h s es L) : oldAV h.next s = true := by
  rcases S.2 with ⟨rfl, rfl | ⟨id, off, c, rfl, hl⟩⟩ | ⟨id, off, c, rfl, H⟩
  · rfl
  · exact Nat.blt_eq.mpr hl
  · exact Nat.blt_eq.mpr H.1
theorem Sl.notTop (S : Sl h s es L) : s.isTop = false := by
  rcases S.2 with ⟨rfl, rfl | ⟨id, off, c, rfl, _⟩⟩ | ⟨id, off, c, rfl, _⟩ <;> rfl
theorem flatten_split {L : List (List AV)} {i : Nat} {x : List AV} (hi : L[i]? = some x) (hL : ∀ x ∈ L, x.length = es) : ∃ a c, L.flatten = a ++ x ++ c ∧ a.length = i * es := by
  obtain ⟨h1, h2⟩ := List.getElem?_eq_some_iff.mp hi
  refine ⟨(L.take i).flatten, (L.drop (i + 1)).flatten, ?_, ?_⟩
  · have : L = L.take i ++ ([x] ++ L.drop (i + 1)) := by
      rw [← h2, List.singleton_append, List.getElem_cons_drop, List.take_append_drop]
    conv => lhs; rw [this]
    simp
  · rw [Sl.flat_len (fun y hy => hL y (List.mem_of_mem_take hy)), List.length_take, Nat.min_eq_left (by omega)]
theorem Sl.ix (S : Sl h s es L) (ht : Try.prog.underlying t = some (.slice e)) (hz : asize Try.prog e = some es) {i : Nat} {x : List AV} (hi : L[i]? = some x) :
    ∃ id off, (∀ k, aindexAt Try.prog t s (.int k (i : Int)) = some (.ptr id off)) ∧ Has h id off x := by
  have hlt : i < L.length := (List.getElem?_eq_some_iff.mp hi).1
  rcases S.2 with ⟨rfl, _⟩ | ⟨id, off, c, rfl, H⟩
  · simp at hlt
  · obtain ⟨a, d, e1, e2⟩ := flatten_split hi S.1
    rw [e1] at H
    refine ⟨id, off + i * es, fun k => ?_, by rw [← e2]; exact H.part⟩
    unfold aindexAt
    rw [ht]
    simp only [hz]
    rw [if_pos ⟨trivial, by omega, by omega⟩, Int.toNat_natCast]
theorem Sl.of_has {id off : Nat} {c : Option Nat} (hL : ∀ x ∈ L, x.length = es) (H : Has h id off L.flatten) : Sl h (.sl id off L.length es c) es L := ⟨hL, .inr ⟨id, off, c, rfl, H⟩⟩
theorem Sl.nil : Sl h .nilSl es [] := ⟨by simp, .inl ⟨rfl, .inl rfl⟩⟩
end

/-! ### Appending to what is one's own -/
/-- A slice of one's own: its block is one of those from N on, and may be written. -/
def Own (h : AH) (s : AV) (es : Nat) (l : List AV) (N : Nat) : Prop :=
  (s = .nilSl ∧ l = []) ∨ ∃ id len c, s = .sl id 0 len es c ∧ l.length = len * es ∧ N ≤ id ∧ Row h id 0 l
/-- An element's type, as the library's append asks of it. -/
structure Elem (e : TypeId) (es nb : Nat) : Prop where
  info : ∃ i z, Try.prog.info? e = some i ∧ i.zero = some z ∧ i.size = es ∧ i.bytes = nb ∧ z.cells.size = es
  es0 : es ≠ 0
  nb0 : nb ≠ 0
theorem Elem.of {e : TypeId} {es nb : Nat} (h : (Try.prog.info? e).map (fun i => (i.size, i.bytes, i.zero.map (·.cells.size))) = some (es, nb, some es)) (h1 : es ≠ 0) (h2 : nb ≠ 0) : Elem e es nb := by
  refine ⟨?_, h1, h2⟩
  cases hi : Try.prog.info? e with
  | none => rw [hi] at h; simp at h
  | some i =>
    rw [hi] at h
    simp only [Option.map_some, Option.some.injEq, Prod.mk.injEq] at h
    cases hz : i.zero with
    | none => rw [hz] at h; simp at h
    | some z => rw [hz] at h; simp at h; exact ⟨i, z, rfl, hz, h.1, h.2.1, h.2.2⟩
theorem Own.quiet {h h' : AH} {s : AV} {es N : Nat} {l : List AV} (o : Own h s es l N) (q : Quiet h h') : Own h' s es l N :=
  o.imp_right fun ⟨id, len, c, e, hl, hn, R⟩ => ⟨id, len, c, e, hl, hn, R.keep q (fun x => x)⟩
theorem Own.nil (h : AH) (es N : Nat) : Own h .nilSl es [] N := .inl ⟨rfl, rfl⟩
theorem Own.keep {h h' : AH} {s : AV} {es N : Nat} {l : List AV} {F : Nat → Prop} (o : Own h s es l N) (q : Other F h h') (hF : ∀ id off len c, s = .sl id off len es c → ¬ F id) : Own h' s es l N := by
  rcases o with o | ⟨id, len, c, rfl, hl, hn, R⟩
  · exact .inl o
  · exact .inr ⟨id, len, c, rfl, hl, hn, R.keep q (hF _ _ _ _ rfl)⟩
theorem Own.atom {h : AH} {s : AV} {es N : Nat} {l : List AV} (o : Own h s es l N) : s.atom = true := by
  rcases o with ⟨rfl, _⟩ | ⟨id, len, c, rfl, _⟩ <;> rfl
theorem Own.notTop {h : AH} {s : AV} {es N : Nat} {l : List AV} (o : Own h s es l N) : s.isTop = false := by
  rcases o with ⟨rfl, _⟩ | ⟨id, len, c, rfl, _⟩ <;> rfl
theorem Own.sl {h : AH} {s : AV} {es N : Nat} {L : List (List AV)} (o : Own h s es L.flatten N) (hL : ∀ x ∈ L, x.length = es) (he : es ≠ 0) : Sl h s es L := by
  rcases o with ⟨rfl, e⟩ | ⟨id, len, c, rfl, hl, hn, R⟩
  · have : L = [] := by
      cases L with
      | nil => rfl
      | cons x L =>
        have h1 := hL x (by simp)
        simp only [List.flatten_cons, List.append_eq_nil_iff] at e
        rw [e.1] at h1
        exact absurd h1.symm he
    subst this
    exact Sl.nil
  · rw [Sl.flat_len hL] at hl
    have : L.length = len := Nat.eq_of_mul_eq_mul_right (Nat.pos_of_ne_zero he) hl
    subst this
    exact Sl.of_has hL R.has
/-- The block of a slice. -/
def SlF (s : AV) : Nat → Prop := fun j => ∃ off len es c, s = .sl j off len es c
theorem own_app {h : AH} {s x : AV} {es nb N n : Nat} {l new : List AV} {t t1 e : TypeId} {d1 : TypeDesc} (o : Own h s es l N) (hN : N ≤ h.next) (E : Elem e es nb) (ht : Try.prog.underlying t = some (.slice e))
    (ht1 : Try.prog.underlying t1 = some d1) (hd1 : isSeq d1 = true) (hn : alenOf x = some n) (hf : afirst h es x = some new) (hnew : new.length = n * es) (ha : atoms new = true) (hb : (l.length + new.length) * nb ≤ 140737488355328) :
    ∃ s' h', aappend Try.prog t t1 s x h = some (s', h') ∧ Own h' s' es (l ++ new) N ∧ Other (fun j => N ≤ j) h h' ∧ (∀ id off len c, s' = .sl id off len es c → (∃ off len c, s = .sl id off len es c) ∨ h.next ≤ id) ∧ Other (SlF s) h h' := by
  obtain ⟨i, z, q1, q2, q3, q4, q5⟩ := E.info
  have e1 : decide (es = 0) = false := decide_eq_false E.es0
  have e2 : decide (nb = 0) = false := decide_eq_false E.nb0
  have open_nil : aappend Try.prog t t1 .nilSl x h = (if n = 0 then some (.nilSl, h) else if Nat.blt 140737488355328 (n * nb) then none else some (.sl h.next 0 n es none, h.alloc new)) := by
    unfold aappend
    rw [ht, ht1]
    cases d1 <;> simp [isSeq] at hd1 <;> simp only [isSeq, q1, q2, hn, Bool.not_true, Bool.false_eq_true, if_false, q5, q3, bne_self_eq_false, hf, q4, e1, e2, Bool.or_self]
  have open_sl : ∀ id off len c old, h.cells? id (len * es) off = some old → aappend Try.prog t t1 (.sl id off len es c) x h = (if n = 0 then some (.sl id off len es c, h) else if Nat.blt 140737488355328 ((len + n) * nb) then none else
      match c with
      | some k => if Nat.blt k (len + n) then some (.sl h.next 0 (len + n) es none, h.alloc (old ++ new)) else aappend.amove h id off len n es new
      | none => aappend.amove h id off len n es new) := fun id off len c old hold => by
    unfold aappend
    rw [ht, ht1]
    cases d1 <;> simp [isSeq] at hd1 <;> simp only [isSeq, q1, q2, hn, Bool.not_true, Bool.false_eq_true, if_false, q5, q3, bne_self_eq_false, hf, q4, e1, e2, Bool.or_self, ne_eq, not_true_eq_false, hold] <;> (cases c <;> rfl)
  rcases o with ⟨rfl, rfl⟩ | ⟨id, len, c, rfl, hl, hle, R⟩
  · rw [open_nil]
    by_cases hz : n = 0
    · subst hz
      rw [if_pos rfl]
      have : new = [] := List.eq_nil_of_length_eq_zero (by simpa using hnew)
      subst this
      exact ⟨_, _, rfl, .inl ⟨rfl, rfl⟩, Other.refl _ _, fun _ _ _ _ e => (by cases e), Other.refl _ _⟩
    · have hblt : Nat.blt 140737488355328 (n * nb) = false := by
        cases hx : Nat.blt 140737488355328 (n * nb) with
        | false => rfl
        | true =>
          have h1 := Nat.blt_eq.mp hx
          have h2 : n ≤ new.length := by rw [hnew]; exact Nat.le_mul_of_pos_right n (Nat.pos_of_ne_zero E.es0)
          have h3 := Nat.mul_le_mul_right nb h2
          simp only [List.length_nil, Nat.zero_add] at hb
          omega
      rw [if_neg hz, hblt]
      simp only [Bool.false_eq_true, if_false]
      exact ⟨_, _, rfl, .inr ⟨h.next, n, none, rfl, by simpa using hnew, hN, by simpa using Row.new h new⟩, Other.alloc _ _ _, fun id off len c e => (by injection e with e; exact .inr (Nat.le_of_eq e)), Other.alloc _ _ _⟩
  · have hall := R.all
    rw [hl] at hall
    rw [open_sl _ _ _ _ _ hall]
    by_cases hz : n = 0
    · subst hz
      rw [if_pos rfl]
      have : new = [] := List.eq_nil_of_length_eq_zero (by simpa using hnew)
      subst this
      exact ⟨_, _, rfl, .inr ⟨id, len, c, rfl, by simpa using hl, hle, by simpa using R⟩, Other.refl _ _, fun id off len c e => (by injection e with e; exact .inl ⟨_, _, _, by rw [e]⟩), Other.refl _ _⟩
    · have hblt : Nat.blt 140737488355328 ((len + n) * nb) = false := by
        cases hx : Nat.blt 140737488355328 ((len + n) * nb) with
        | false => rfl
        | true =>
          have h1 := Nat.blt_eq.mp hx
          have h2 : len + n ≤ l.length + new.length := by rw [hnew, hl, ← Nat.add_mul]; exact Nat.le_mul_of_pos_right _ (Nat.pos_of_ne_zero E.es0)
          have h3 := Nat.mul_le_mul_right nb h2
          omega
      rw [if_neg hz, hblt]
      simp only [Bool.false_eq_true, if_false]
      have mv : ∃ s' h', aappend.amove h id 0 len n es new = some (s', h') ∧ Own h' s' es (l ++ new) N ∧ Other (fun j => N ≤ j) h h' ∧ (∀ id' off len' c', s' = .sl id' off len' es c' → (∃ off1 len1 c1, AV.sl id 0 len es c = .sl id' off1 len1 es c1) ∨ h.next ≤ id') ∧ Other (SlF (.sl id 0 len es c)) h h' := by
        obtain ⟨h1, e1, e2, e3, e4⟩ := Row.move R hl hnew ha
        refine ⟨_, _, e1, .inr ⟨h.next, len + n, none, rfl, by simp [hl, hnew, Nat.add_mul], hN, by simpa using e3⟩, e4.mono fun j _ e => (by subst e; exact hle), fun id' off len' c' e => (by injection e with e; exact .inr (Nat.le_of_eq e)), e4.mono fun j _ e => (by subst e; exact ⟨_, _, _, _, rfl⟩)⟩
      have mk : Own (h.alloc (l ++ new)) (.sl h.next 0 (len + n) es none) es (l ++ new) N := .inr ⟨h.next, len + n, none, rfl, by simp [hl, hnew, Nat.add_mul], hN, Row.new h _⟩
      cases c with
      | none => simp only; exact mv
      | some k =>
        simp only
        split
        · exact ⟨_, _, rfl, mk, Other.alloc _ _ _, fun id' off len' c' e => (by injection e with e; exact .inr (Nat.le_of_eq e)), Other.alloc _ _ _⟩
        · exact mv
/-- Handing it back. -/
theorem nrm_own' {h0 h' : AH} {s : AV} {es : Nat} {L : List (List AV)} (o : Own h' s es L.flatten h0.next) (q : Quiet h0 h') (hL : ∀ x ∈ L, x.length = es) (he : es ≠ 0) (hold : ∀ a ∈ L.flatten, oldAV h0.next a = true) :
    ∃ s2 h2, nrm h0 (some (s, h')) = some (s2, h2) ∧ Sl h2 s2 es L ∧ Quiet h0 h2 ∧ Own h2 s2 es L.flatten h0.next := by
  rcases o with ⟨rfl, e⟩ | ⟨id, len, c, rfl, hl, hn, R⟩
  · have : L = [] := by
      cases L with
      | nil => rfl
      | cons x L =>
        have h1 := hL x (by simp)
        simp only [List.flatten_cons, List.append_eq_nil_iff] at e
        rw [e.1] at h1
        exact absurd h1.symm he
    subst this
    exact ⟨_, _, nrm_flat q rfl, Sl.nil, Other.refl _ _, Own.nil _ _ _⟩
  · rw [Sl.flat_len hL] at hl
    have : L.length = len := Nat.eq_of_mul_eq_mul_right (Nat.pos_of_ne_zero he) hl
    subst this
    have hall := R.all
    rw [Sl.flat_len hL] at hall
    obtain ⟨_, b, hb, hro, hlo, hhi, _⟩ := R
    rw [Sl.flat_len hL] at hhi
    exact ⟨_, _, nrm_of ⟨q, .inr ⟨id, 0, L.length, es, c, b, L.flatten, rfl, hn, hb, hro, hlo, hhi, hall, hold, rfl, rfl⟩⟩, Sl.of_has hL (Has.new h0 _), Other.alloc _ _ _,
      .inr ⟨h0.next, L.length, none, rfl, Sl.flat_len hL, Nat.le_refl _, Row.new h0 _⟩⟩
theorem nrm_own {h0 h' : AH} {s : AV} {es : Nat} {L : List (List AV)} (o : Own h' s es L.flatten h0.next) (q : Quiet h0 h') (hL : ∀ x ∈ L, x.length = es) (he : es ≠ 0) (hold : ∀ a ∈ L.flatten, oldAV h0.next a = true) :
    ∃ s2 h2, nrm h0 (some (s, h')) = some (s2, h2) ∧ Sl h2 s2 es L ∧ Quiet h0 h2 := by
  obtain ⟨s2, h2, g1, g2, g3, _⟩ := nrm_own' o q hL he hold
  exact ⟨s2, h2, g1, g2, g3⟩
/-- A slice whose block is one of those from N on. -/
def SlNew (s : AV) (N : Nat) : Prop := ∀ id off len es c, s = .sl id off len es c → N ≤ id
theorem nrm_own3 {h0 h' : AH} {s : AV} {es : Nat} {L : List (List AV)} (o : Own h' s es L.flatten h0.next) (q : Quiet h0 h') (hL : ∀ x ∈ L, x.length = es) (he : es ≠ 0) (hold : ∀ a ∈ L.flatten, oldAV h0.next a = true) :
    ∃ s2 h2, nrm h0 (some (s, h')) = some (s2, h2) ∧ Sl h2 s2 es L ∧ Quiet h0 h2 ∧ SlNew s2 h0.next := by
  obtain ⟨s2, h2, g1, g2, g3, g4⟩ := nrm_own' o q hL he hold
  refine ⟨s2, h2, g1, g2, g3, fun id off len es c e => ?_⟩
  rcases g4 with ⟨rfl, _⟩ | ⟨id', len', c', rfl, _, hn, _⟩
  · cases e
  · cases e; exact hn
theorem Sl.keep {h h' : AH} {s : AV} {es : Nat} {L : List (List AV)} {F : Nat → Prop} (S : Sl h s es L) (o : Other F h h') (hF : ∀ id off len es c, s = .sl id off len es c → ¬ F id) : Sl h' s es L :=
  ⟨S.1, S.2.imp (fun ⟨e, d⟩ => ⟨e, d.imp_right fun ⟨id, off, c, e2, hl⟩ => ⟨id, off, c, e2, Nat.lt_of_lt_of_le hl o.next⟩⟩) (fun ⟨id, off, c, e, H⟩ => ⟨id, off, c, e, H.keep o (hF _ _ _ _ _ e)⟩)⟩
end Go.Proofs.Ytgnacecplaemlaa
/-
  Facts of this program's types; the spec of what is counted.
-/
namespace Go.Proofs.Ytgnacecplaemlaa
open AI
theorem u58 : Try.prog.underlying 58 = some (.slice 78) := by kernel_rfl
theorem u47 : Try.prog.underlying 47 = some (.slice 49) := by kernel_rfl
theorem u44 : Try.prog.underlying 44 = some (.slice 60) := by kernel_rfl
theorem u45 : Try.prog.underlying 45 = some (.slice 73) := by kernel_rfl
theorem u46 : Try.prog.underlying 46 = some (.slice 76) := by kernel_rfl
theorem u89 : Try.prog.underlying 89 = some (.slice 47) := by kernel_rfl
theorem u104 : Try.prog.underlying 104 = some (.slice 44) := by kernel_rfl
theorem u43 : Try.prog.underlying 43 = some (.slice 3) := by kernel_rfl
theorem u40 : Try.prog.underlying 40 = some (.slice 9) := by kernel_rfl
theorem z78 : asize Try.prog 78 = some 5 := by kernel_rfl
theorem z49 : asize Try.prog 49 = some 10 := by kernel_rfl
theorem z60 : asize Try.prog 60 = some 1 := by kernel_rfl
theorem z73 : asize Try.prog 73 = some 4 := by kernel_rfl
theorem z76 : asize Try.prog 76 = some 11 := by kernel_rfl
theorem z47 : asize Try.prog 47 = some 1 := by kernel_rfl
theorem z44 : asize Try.prog 44 = some 1 := by kernel_rfl
theorem z3 : asize Try.prog 3 = some 1 := by kernel_rfl
theorem z9 : asize Try.prog 9 = some 1 := by kernel_rfl
theorem el49 : Elem 49 10 176 := Elem.of (by kernel_rfl) (by decide) (by decide)
theorem el60 : Elem 60 1 24 := Elem.of (by kernel_rfl) (by decide) (by decide)
theorem el47 : Elem 47 1 24 := Elem.of (by kernel_rfl) (by decide) (by decide)
theorem el9 : Elem 9 1 16 := Elem.of (by kernel_rfl) (by decide) (by decide)
section
variable (id off len n : Nat) (c : Option Nat) (h : AH) (xo yo : Operand) (a b : Int) (s t : List Nat) (x y : Bool)
theorem fa49_0 : afieldAt Try.prog 49 (.ptr id off) 0 = some (.ptr id (off + 0)) := by kernel_rfl
theorem fa49_1 : afieldAt Try.prog 49 (.ptr id off) 1 = some (.ptr id (off + 1)) := by kernel_rfl
theorem fa49_2 : afieldAt Try.prog 49 (.ptr id off) 2 = some (.ptr id (off + 2)) := by kernel_rfl
theorem fa49_3 : afieldAt Try.prog 49 (.ptr id off) 3 = some (.ptr id (off + 3)) := by kernel_rfl
theorem fa49_4 : afieldAt Try.prog 49 (.ptr id off) 4 = some (.ptr id (off + 4)) := by kernel_rfl
theorem fa49_5 : afieldAt Try.prog 49 (.ptr id off) 5 = some (.ptr id (off + 5)) := by kernel_rfl
theorem fa49_6 : afieldAt Try.prog 49 (.ptr id off) 6 = some (.ptr id (off + 6)) := by kernel_rfl
theorem fa49_7 : afieldAt Try.prog 49 (.ptr id off) 7 = some (.ptr id (off + 7)) := by kernel_rfl
theorem fa49_8 : afieldAt Try.prog 49 (.ptr id off) 8 = some (.ptr id (off + 8)) := by kernel_rfl
theorem fa49_9 : afieldAt Try.prog 49 (.ptr id off) 9 = some (.ptr id (off + 9)) := by kernel_rfl
theorem fa60_0 : afieldAt Try.prog 60 (.ptr id off) 0 = some (.ptr id (off + 0)) := by kernel_rfl
theorem fa73_0 : afieldAt Try.prog 73 (.ptr id off) 0 = some (.ptr id (off + 0)) := by kernel_rfl
theorem fa73_1 : afieldAt Try.prog 73 (.ptr id off) 1 = some (.ptr id (off + 1)) := by kernel_rfl
theorem fa73_2 : afieldAt Try.prog 73 (.ptr id off) 2 = some (.ptr id (off + 2)) := by kernel_rfl
theorem fa73_3 : afieldAt Try.prog 73 (.ptr id off) 3 = some (.ptr id (off + 3)) := by kernel_rfl
theorem fa76_0 : afieldAt Try.prog 76 (.ptr id off) 0 = some (.ptr id (off + 0)) := by kernel_rfl
theorem fa76_1 : afieldAt Try.prog 76 (.ptr id off) 1 = some (.ptr id (off + 1)) := by kernel_rfl
theorem fa78_0 : afieldAt Try.prog 78 (.ptr id off) 0 = some (.ptr id (off + 0)) := by kernel_rfl
theorem fa78_1 : afieldAt Try.prog 78 (.ptr id off) 1 = some (.ptr id (off + 1)) := by kernel_rfl
theorem fa78_2 : afieldAt Try.prog 78 (.ptr id off) 2 = some (.ptr id (off + 2)) := by kernel_rfl
theorem fa78_3 : afieldAt Try.prog 78 (.ptr id off) 3 = some (.ptr id (off + 3)) := by kernel_rfl
theorem fa78_4 : afieldAt Try.prog 78 (.ptr id off) 4 = some (.ptr id (off + 4)) := by kernel_rfl
theorem ld3 : ldV Try.prog 3 (.ptr id off) h = h.cell? id off := by kernel_rfl
theorem ld4 : ldV Try.prog 4 (.ptr id off) h = h.cell? id off := by kernel_rfl
theorem ld9 : ldV Try.prog 9 (.ptr id off) h = h.cell? id off := by kernel_rfl
theorem ld40 : ldV Try.prog 40 (.ptr id off) h = h.cell? id off := by kernel_rfl
theorem ld43 : ldV Try.prog 43 (.ptr id off) h = h.cell? id off := by kernel_rfl
theorem ld44 : ldV Try.prog 44 (.ptr id off) h = h.cell? id off := by kernel_rfl
theorem ld45 : ldV Try.prog 45 (.ptr id off) h = h.cell? id off := by kernel_rfl
theorem ld46 : ldV Try.prog 46 (.ptr id off) h = h.cell? id off := by kernel_rfl
theorem ld47 : ldV Try.prog 47 (.ptr id off) h = h.cell? id off := by kernel_rfl
theorem ld53 : ldV Try.prog 53 (.ptr id off) h = h.cell? id off := by kernel_rfl
theorem ld58 : ldV Try.prog 58 (.ptr id off) h = h.cell? id off := by kernel_rfl
theorem ld89 : ldV Try.prog 89 (.ptr id off) h = h.cell? id off := by kernel_rfl
theorem ld49 : ldV Try.prog 49 (.ptr id off) h = (h.cells? id 10 off).map .agg := by kernel_rfl
theorem ld60 : ldV Try.prog 60 (.ptr id off) h = (h.cells? id 1 off).map .agg := by kernel_rfl
theorem ld73 : ldV Try.prog 73 (.ptr id off) h = (h.cells? id 4 off).map .agg := by kernel_rfl
theorem ld76 : ldV Try.prog 76 (.ptr id off) h = (h.cells? id 11 off).map .agg := by kernel_rfl
theorem ld78 : ldV Try.prog 78 (.ptr id off) h = (h.cells? id 5 off).map .agg := by kernel_rfl
theorem nilck : anilCheck (.ptr id off) = some (.ptr id off) := by kernel_rfl
theorem len9 : alen Try.prog 9 (.str s) = some s.length := by kernel_rfl
theorem i_gtr : abin Try.prog .gtr 3 xo yo (.int .i64 a) (.int .i64 b) = some (.bool (decide (a > b))) := rfl
theorem i_geq : abin Try.prog .geq 3 xo yo (.int .i64 a) (.int .i64 b) = some (.bool (decide (a ≥ b))) := rfl
theorem i_leq : abin Try.prog .leq 3 xo yo (.int .i64 a) (.int .i64 b) = some (.bool (decide (a ≤ b))) := rfl
theorem i_lss : abin Try.prog .lss 3 xo yo (.int .i64 a) (.int .i64 b) = some (.bool (decide (a < b))) := rfl
theorem i_add : abin Try.prog .add 3 xo yo (.int .i64 a) (.int .i64 b) = some (.int .i64 (IntKind.i64.wrap (a + b))) := rfl
theorem i_sub : abin Try.prog .sub 3 xo yo (.int .i64 a) (.int .i64 b) = some (.int .i64 (IntKind.i64.wrap (a - b))) := rfl
theorem i_quo10 : abin Try.prog .quo 3 xo yo (.int .i64 a) (.int .i64 10) = some (.int .i64 (IntKind.i64.wrap (a.tdiv 10))) := rfl
theorem i_eql : abin Try.prog .eql 3 xo yo (.int .i64 a) (.int .i64 b) = some (.bool (a == b)) := rfl
theorem i_neq : abin Try.prog .neq 3 xo yo (.int .i64 a) (.int .i64 b) = some (.bool (a != b)) := rfl
theorem not_b : aun .not (.bool x) = some (.bool (!x)) := rfl
theorem box_agg (l : List AV) : boxV (.agg l) h = some (.ptr h.next 0, h.alloc l) := rfl
theorem box_int (k : IntKind) : boxV (.int k a) h = some (.ptr h.next 0, h.alloc [.int k a]) := rfl
theorem max_int (k : IntKind) : maxV [.int k a, .int k b] = some (.int k (if b > a then b else a)) := by
  show some (AV.int k (if decide (b > a) = true then b else a)) = _
  simp only [decide_eq_true_eq]
theorem wrap_nat (hn : n < 4611686018427387904) : IntKind.i64.wrap (n : Int) = n := by
  unfold IntKind.wrap
  simp [IntKind.signed, IntKind.bits]
  omega
theorem wrap_add (m : Nat) (hn : n + m < 4611686018427387904) : IntKind.i64.wrap ((n : Int) + (m : Int)) = ((n + m : Nat) : Int) := by
  rw [show ((n : Int) + (m : Int)) = ((n + m : Nat) : Int) by omega]; exact wrap_nat _ hn
theorem wrap_succ (hn : n + 1 < 4611686018427387904) : IntKind.i64.wrap ((n : Int) + 1) = ((n + 1 : Nat) : Int) := wrap_add n 1 hn
theorem nat0 : ((0 : Nat) : Int) = 0 := rfl
end
/-- A struct, read whole. -/
theorem ldS {h : AH} {id off n : Nat} {l : List AV} (H : Has h id off l) (hl : l.length = n) : (h.cells? id n off).map AV.agg = some (.agg l) := by
  rw [← hl, H.cells]; rfl
/-- A slice of one element that was just made. -/
theorem bsl60 (h : AH) (s : AV) : bslV Try.prog 44 1 [(0, .agg [s])] h = some (.sl h.next 0 1 1 (some 1), h.alloc [s]) := by
  have : bslV Try.prog 44 1 [(0, .agg [s])] h = some (.sl h.next 0 1 1 (some 1), h.alloc [s]) := by kernel_rfl
  exact this
theorem bsl47 (h : AH) (s : AV) (hs : s.atom = true) : bslV Try.prog 89 1 [(0, s)] h = some (.sl h.next 0 1 1 (some 1), h.alloc [s]) := by
  cases s <;> first | (simp [AV.atom] at hs; done) | kernel_rfl
theorem sl_one {h : AH} (s : AV) (c : Option Nat) : Sl (h.alloc [s]) (.sl h.next 0 1 1 c) 1 [[s]] :=
  Sl.of_has (L := [[s]]) (by simp) (Has.new h [s])

/-! ### What commands hold, counted -/
/-- The commands in parts, in order: each with the slice that holds it. -/
def cmds : List Pt → List (AV × List Nd)
  | [] => []
  | .mk k _ _ _ kids sc cs :: l => (if k = 6 then [(sc, cs)] else []) ++ cmds kids ++ cmds l
mutual
def Nd.cnt : Nd → Nat
  | .mk _ _ _ _ _ _ _ az _ ws _ rs _ ms _ kids => 1 + cntN kids + cntW az + cntW ws + cntR rs + cntM ms
def cntP : List Pt → Nat
  | [] => 0
  | .mk k _ _ _ kids _ cs :: l => (if k = 6 then cntN cs else 0) + cntP kids + cntP l
def cntN : List Nd → Nat
  | [] => 0
  | n :: l => n.cnt + cntN l
def cntW : List Wd → Nat
  | [] => 0
  | .mk _ ps :: l => cntP ps + cntW l
def cntR : List Rdr → Nat
  | [] => 0
  | .mk _ _ _ ps _ :: l => cntP ps + cntR l
def cntM : List Am → Nat
  | [] => 0
  | .mk _ pats body :: l => cntW pats + body.cnt + cntM l
end
theorem cmds_ok {h : AH} : ∀ {ps : List Pt}, okP h ps → ∀ c ∈ cmds ps, Sl h c.1 10 (c.2.map Nd.cells) ∧ okN h c.2 ∧ szN c.2 + 1 ≤ szP ps
  | [], _, c, hc => by simp [cmds] at hc
  | .mk k t o sk kids sc cs :: l, hv, c, hc => by
    simp only [okP, Pt.ok] at hv
    obtain ⟨⟨v1, v2, v3, v4⟩, v5⟩ := hv
    simp only [cmds, List.mem_append] at hc
    simp only [szP, Pt.sz]
    rcases hc with (hc | hc) | hc
    · split at hc
      · simp only [List.mem_singleton] at hc; subst hc; exact ⟨v3, v4, by dsimp only; omega⟩
      · simp at hc
    · obtain ⟨q1, q2, q3⟩ := cmds_ok v2 c hc; exact ⟨q1, q2, by omega⟩
    · obtain ⟨q1, q2, q3⟩ := cmds_ok v5 c hc; exact ⟨q1, q2, by omega⟩
theorem cmds_len : ∀ (ps : List Pt), (cmds ps).length ≤ szP ps
  | [] => by simp [cmds]
  | .mk k t o sk kids sc cs :: l => by
    have := cmds_len kids
    have := cmds_len l
    simp only [cmds, List.length_append, szP, Pt.sz]
    split <;> simp <;> omega
theorem cnt_cmds : ∀ (ps : List Pt), ((cmds ps).map fun c => cntN c.2).sum = cntP ps
  | [] => by simp [cmds, cntP]
  | .mk k t o sk kids sc cs :: l => by
    simp only [cmds, cntP, List.map_append, List.sum_append, cnt_cmds kids, cnt_cmds l]
    split <;> simp
mutual
theorem Nd.cnt_le : ∀ (n : Nd), n.cnt ≤ n.sz
  | .mk _ _ _ _ _ ops _ az _ ws _ rs _ ms _ kids => by
    simp only [Nd.cnt, Nd.sz]
    have := cntN_le kids; have := cntW_le az; have := cntW_le ws; have := cntR_le rs; have := cntM_le ms
    omega
theorem cntP_le : ∀ (l : List Pt), cntP l ≤ szP l
  | [] => Nat.le_refl _
  | .mk k _ _ _ kids _ cs :: l => by
    simp only [cntP, szP, Pt.sz]
    have := cntN_le cs; have := cntP_le kids; have := cntP_le l
    split <;> omega
theorem cntN_le : ∀ (l : List Nd), cntN l ≤ szN l
  | [] => Nat.le_refl _
  | n :: l => by simp only [cntN, szN]; have := n.cnt_le; have := cntN_le l; omega
theorem cntW_le : ∀ (l : List Wd), cntW l ≤ szW l
  | [] => Nat.le_refl _
  | .mk _ ps :: l => by simp only [cntW, szW, Wd.sz]; have := cntP_le ps; have := cntW_le l; omega
theorem cntR_le : ∀ (l : List Rdr), cntR l ≤ szR l
  | [] => Nat.le_refl _
  | .mk _ _ _ ps _ :: l => by simp only [cntR, szR, Rdr.sz]; have := cntP_le ps; have := cntR_le l; omega
theorem cntM_le : ∀ (l : List Am), cntM l ≤ szM l
  | [] => Nat.le_refl _
  | .mk _ pats body :: l => by simp only [cntM, szM, Am.sz]; have := cntW_le pats; have := body.cnt_le; have := cntM_le l; omega
end
end Go.Proofs.Ytgnacecplaemlaa
namespace Go.Proofs.Ytgnacecplaemlaa
open AI
/-
  The rewriting that all functions share, as one theorem.
-/
theorem coreL : (∀ {α : Type} (a : α) (l : List α) (i : Nat) (d : α), (a :: l).getD (i + 1) d = l.getD i d) ∧ (∀ {α : Type} (a : α) (l : List α) (d : α), (a :: l).getD 0 d = a) ∧
    (∀ {α : Type} (a : α) (l : List α) (i : Nat) (b : α), (a :: l).set (i + 1) b = a :: l.set i b) ∧ (∀ {α : Type} (a : α) (l : List α) (b : α), (a :: l).set 0 b = b :: l) ∧
    (∀ {α β : Type} (a : α) (f : α → Option β), (some a).bind f = f a) ∧ (∀ {α β : Type} (a : α) (f : α → β), (some a).map f = some (f a)) ∧
    (∀ {α β : Type} (f : α → β) (a : α) (l : List α), (a :: l).map f = f a :: l.map f) ∧ (∀ {α β : Type} (f : α → β), ([] : List α).map f = []) ∧
    (∀ {α : Type} (l : List α), [] ++ l = l) ∧ (∀ {α : Type} (l : List α), l ++ [] = l) ∧ (∀ {α : Type} (a : α) (l m : List α), a :: l ++ m = a :: (l ++ m)) ∧
    (∀ {α : Type} (a : α) (l : List α), (a :: l)[0]? = some a) ∧ (∀ {α : Type} (a : α) (l : List α) (i : Nat), (a :: l)[i + 1]? = l[i]?) ∧
    (∀ {α : Type} {_ : Decidable True} (a b : α), (if True then a else b) = a) := by
  refine ⟨?_, ?_, ?_, ?_, ?_, ?_, ?_, ?_, ?_, ?_, ?_, ?_, ?_, ?_⟩ <;> intros <;> simp
theorem core : type_of% (And.intro coreL <| And.intro @run_seq <| And.intro @run_cond <| And.intro @opsS_cons <| And.intro @opsS_nil <| And.intro @sameH_f <| And.intro @sameH_t <| And.intro @run_block <| And.intro @run_loop <| And.intro @run_exit <| And.intro @run_ret <| And.intro @run_skip <| And.intro @ops_cons <| And.intro @ops_nil <| And.intro @ev_tmp <| And.intro @pureS_some <| And.intro @heapS_some <| And.intro @heapN_some <| And.intro @gdS_tt <| And.intro @gdS_ff <| And.intro @gdS_tf <| And.intro @gdS_ft <| And.intro @gdS_undef <| And.intro @regR_some <| And.intro @seqR_normal <| And.intro @seqR_ret <| And.intro @seqR_exit <| And.intro @fin0_ret <| And.intro @fin0_normal <| And.intro @fin1_ret <| And.intro @fin1_normal <| And.intro @finN_ret <| And.intro @finN_normal <| And.intro @lenV_some <| And.intro @pickV_t <| And.intro @pickV_f <| And.intro @callV_func <| And.intro @callV_yield <| And.intro @extV_tup <| And.intro @condR_true <| And.intro @condR_false <| And.intro @blockR_normal <| And.intro @blockR_ret <| And.intro @blockR_exit <| And.intro @loopR_normal <| And.intro @loopR_exit @loopR_ret) :=
  And.intro coreL <| And.intro @run_seq <| And.intro @run_cond <| And.intro @opsS_cons <| And.intro @opsS_nil <| And.intro @sameH_f <| And.intro @sameH_t <| And.intro @run_block <| And.intro @run_loop <| And.intro @run_exit <| And.intro @run_ret <| And.intro @run_skip <| And.intro @ops_cons <| And.intro @ops_nil <| And.intro @ev_tmp <| And.intro @pureS_some <| And.intro @heapS_some <| And.intro @heapN_some <| And.intro @gdS_tt <| And.intro @gdS_ff <| And.intro @gdS_tf <| And.intro @gdS_ft <| And.intro @gdS_undef <| And.intro @regR_some <| And.intro @seqR_normal <| And.intro @seqR_ret <| And.intro @seqR_exit <| And.intro @fin0_ret <| And.intro @fin0_normal <| And.intro @fin1_ret <| And.intro @fin1_normal <| And.intro @finN_ret <| And.intro @finN_normal <| And.intro @lenV_some <| And.intro @pickV_t <| And.intro @pickV_f <| And.intro @callV_func <| And.intro @callV_yield <| And.intro @extV_tup <| And.intro @condR_true <| And.intro @condR_false <| And.intro @blockR_normal <| And.intro @blockR_ret <| And.intro @blockR_exit <| And.intro @loopR_normal <| And.intro @loopR_exit @loopR_ret

theorem fas : type_of% (And.intro @fa49_0 <| And.intro @fa49_1 <| And.intro @fa49_2 <| And.intro @fa49_3 <| And.intro @fa49_4 <| And.intro @fa49_5 <| And.intro @fa49_6 <| And.intro @fa49_7 <| And.intro @fa49_8 <| And.intro @fa49_9 <| And.intro @fa60_0 <| And.intro @fa73_0 <| And.intro @fa73_1 <| And.intro @fa73_2 <| And.intro @fa73_3 <| And.intro @fa76_0 <| And.intro @fa76_1 <| And.intro @fa78_0 <| And.intro @fa78_1 <| And.intro @fa78_2 <| And.intro @fa78_3 @fa78_4) :=
  And.intro @fa49_0 <| And.intro @fa49_1 <| And.intro @fa49_2 <| And.intro @fa49_3 <| And.intro @fa49_4 <| And.intro @fa49_5 <| And.intro @fa49_6 <| And.intro @fa49_7 <| And.intro @fa49_8 <| And.intro @fa49_9 <| And.intro @fa60_0 <| And.intro @fa73_0 <| And.intro @fa73_1 <| And.intro @fa73_2 <| And.intro @fa73_3 <| And.intro @fa76_0 <| And.intro @fa76_1 <| And.intro @fa78_0 <| And.intro @fa78_1 <| And.intro @fa78_2 <| And.intro @fa78_3 @fa78_4
end Go.Proofs.Ytgnacecplaemlaa
/-
  The interpreter at this program: the library's function without a body that tells whether two slices overlap.
-/
namespace Go.Proofs.Ytgnacecplaemlaa
open AI
/-- Two slices of one block that lie apart. -/
theorem run_overlaps_same {P : Program} (w : World) (tS tR e : TypeId) (ht : P.underlying tS = some (.slice e)) (size : Nat) (hz : ∀ w, (Go.sizeOf e).run P w = .ok size w) (blk oa ob la ca lb cb : Nat)
    (hd : oa + la * size ≤ ob ∨ ob + lb * size ≤ oa) :
    (Extern.SlicesOverlaps.overlaps #[tS, tS] #[tR] #[.slice (some ⟨blk, oa, none⟩) la ca, .slice (some ⟨blk, ob, none⟩) lb cb]).run P w = .ok (.bool false) w := by
  change Sem.run P (α := Value) (do
    let some t := (#[tS, tS] : Array TypeId)[0]? | stuck "slices.overlaps: no parameter types"
    let .slice elem ← underlying t | stuck "slices.overlaps: slice type expected"
    let size ← sizeOf elem
    match (some ⟨blk, oa, none⟩ : Option Addr), (some ⟨blk, ob, none⟩ : Option Addr) with
    | some a, some b =>
      if la = 0 ∨ lb = 0 ∨ size = 0 then pure (Value.bool false)
      else if a.block != b.block && (← frozen a) && (← frozen b) then unsupported .addressObserved
      else do
        if a.block != b.block then do
          noView a; noView b
          if ← mayBeOne a b then return Value.bool ((← choose (.extern "sameAddr.stringBytes" 2)) == 1)
        pure (Value.bool (a.block == b.block && a.off < b.off + lb * size && b.off < a.off + la * size))
    | _, _ => pure (Value.bool false)) w = _
  by_cases h0 : la = 0 ∨ lb = 0 ∨ size = 0
  · simp [run_underlying ht, hz, h0]
  · simp [run_underlying ht, hz, h0, frozen, Sem.run]
    intro h1
    rcases hd with h | h <;> omega
open Classical in
/-- What the library's function without a body answers of two slices in two blocks. -/
noncomputable def ovO : FuncId → List AV → AH → Option (AV × AH) := fun g args h =>
  match Nat.beq g 91, args with
  | true, [.sl a _ n1 e1 _, .sl b _ n2 e2 _] =>
    if e1 = 5 ∧ e2 = 5 ∧ 0 < n1 ∧ 0 < n2 ∧ a ≠ b ∧ ∃ x y, h.blk? a = some x ∧ h.blk? b = some y ∧ x.ro = false ∧ y.ro = false then some (.bool false, h) else none
  | _, _ => none
theorem ovO_ok : ∀ g args h a h', ovO g args h = some (a, h') → ∀ B f w (vs : Array Value), HR B f h w → VRs f vs.toList args → FnRuns Try.prog g vs w (HPost B f w h' a) := by
  intro g args h a h' h0 B f w vs H hv
  unfold ovO at h0
  split at h0
  · rename_i ia o1 n1 e1 c1 ib o2 n2 e2 c2 hg
    split at h0
    · rename_i hc
      obtain ⟨rfl, rfl, hn1, hn2, hne, x, y, hx, hy, hrx, hry⟩ := hc
      injection h0 with h0
      injection h0 with h1 h2
      subst h1 h2
      obtain rfl := Nat.eq_of_beq_eq_true hg
      obtain ⟨vl⟩ := vs
      cases hv with
      | cons v1 _ vl' _ g1 g2 => cases g2 with
        | cons v2 _ vl2 _ g3 g4 =>
          cases g4
          obtain ⟨ra, Oa, ka, sa, fa, loa, la, ha, _, spa, rfl⟩ := g1.sl_inv
          obtain ⟨rb, Ob, kb, sb, fb, lob, lb, hb, _, spb, rfl⟩ := g3.sl_inv
          obtain ⟨ra', ca, ea, fza, q1, q2, q3, q4, q5, q6, _⟩ := H.blk _ _ hx
          obtain ⟨rb', cb, eb, fzb, p1, p2, p3, p4, p5, p6, _⟩ := H.blk _ _ hy
          rw [fa] at q1
          injection q1 with q1
          subst q1
          rw [fb] at p1
          injection p1 with p1
          subst p1
          obtain ⟨_, rfl⟩ := q6 hrx
          obtain ⟨_, rfl⟩ := p6 hry
          have ha := ha.resolve_left (by omega)
          have hb := hb.resolve_left (by omega)
          obtain rfl := spa.resolve_left (by omega)
          obtain rfl := spb.resolve_left (by omega)
          have hr := run_callFunc_extern (P := Try.prog) (f := 91) (fn := Try.f91) (by kernel_rfl) (by kernel_rfl) (by kernel_rfl) (by kernel_rfl) (e := Extern.SlicesOverlaps.overlaps #[58, 58] #[4]) (by kernel_rfl)
            #[.slice (some ⟨ra.blk, Oa, none⟩) n1 ka, .slice (some ⟨rb.blk, Ob, none⟩) n2 kb] w
          have ht : Try.prog.underlying 58 = some (.slice 78) := by kernel_rfl
          have hz : ∀ w, (Go.sizeOf 78).run Try.prog w = .ok 5 w := fun w => by kernel_rfl
          have hov : (Extern.SlicesOverlaps.overlaps #[58, 58] #[4] #[.slice (some ⟨ra.blk, Oa, none⟩) n1 ka, .slice (some ⟨rb.blk, Ob, none⟩) n2 kb]).run Try.prog w = .ok (.bool false) w := by
            by_cases hblk : ra.blk = rb.blk
            · rw [hblk]
              refine run_overlaps_same w 58 4 78 ht 5 hz _ _ _ _ _ _ _ ?_
              rcases H.apart _ _ _ _ _ _ hne hx hy hrx hry fa fb with q | q | q
              · exact absurd hblk q
              · left; omega
              · right; omega
            · refine Lib.run_overlaps_apart w 58 4 78 ht 5 hz ⟨ra.blk, Oa, none⟩ ⟨rb.blk, Ob, none⟩ n1 ka n2 kb hblk ea eb ca.size cb.size ?_ ?_ ?_ ?_ ?_
              · simp [World.shape?, q2]
              · simp [World.shape?, p2]
              · omega
              · simp [World.frozen?, q2]
              · simp [World.frozen?, q2]
          rw [hov] at hr
          exact .inl ⟨_, w, hr, f, Ext.refl f, H, Kept.refl B w, .bool false⟩
    · simp at h0
  · simp at h0
end Go.Proofs.Ytgnacecplaemlaa
namespace Go.Proofs.Ytgnacecplaemlaa
open AI Try
set_option linter.unusedVariables false
/-- The hints: the slots that are live at the heads of loops; the steps of open regions that leave the heap as it is (1000000 and the number). -/
def HK1 : FuncId → Hint
  | 79, 1000011 => some []
  | 79, 1000015 => some []
  | _, _ => none
noncomputable def X1 : Nat → ACall := cexec prog HK1 ovO (fun _ => false)
theorem X1_ok (n : Nat) : CallOK prog (X1 n) := cexec_ok (by kernel_rfl) HK1 _ ovO_ok n
/-! ### 79: slices.Insert[[]conch/api.Part,conch/api.Part] -/
noncomputable def cd79 : Code := (.seq (.region 0 (rg f79 0) false) (.seq (.region 1 (rg f79 1) false) (.seq (.region 2 (rg f79 2) false) (.seq (.seq (.region 3 (rg f79 3) false) (.cond (.tmp 16) (.seq (.region 4 (rg f79 4) false) .ret) .skip)) (.seq (.region 5 (rg f79 5) false) (.seq (.seq (.region 6 (rg f79 6) false) (.cond (.tmp 22) (.seq (.region 7 (rg f79 7) false) .ret) .skip)) (.seq (.seq (.region 8 (rg f79 8) false) (.cond (.tmp 31) (.seq (.region 9 (rg f79 9) false) (.seq (.region 10 (rg f79 10) false) (.seq (.region 11 (rg f79 11) true) (.seq (.region 12 (rg f79 12) false) .ret)))) .skip)) (.seq (.region 13 (rg f79 13) false) (.seq (.seq (.region 14 (rg f79 14) false) (.cond (.tmp 68) (.seq (.region 15 (rg f79 15) true) (.seq (.region 16 (rg f79 16) false) (.seq (.region 17 (rg f79 17) false) .ret))) .skip)) (.seq (.region 18 (rg f79 18) false) (.seq (.region 19 (rg f79 19) false) (.seq (.region 20 (rg f79 20) false) .ret))))))))))))
theorem ent79 (n : Nat) (a0 a1 a2 : AV) (h : AH) : X1 (n + 1) (.func 79) [a0,a1,a2] h = (fin1 (arun prog (HK1 79) 79 (X1 n) n none cd79 [a0,a1,a2,.tup [],.tup [],.tup [],.tup [],.tup [],.tup [],.tup [],.tup [],.tup [],.tup [],.tup [],.tup [],.tup [],.tup [],.tup [],.tup [],.tup [],.tup [],.tup [],.tup [],.tup [],.tup [],.tup [],.tup [],.tup [],.tup [],.tup [],.tup [],.tup [],.tup [],.tup [],.tup [],.tup [],.tup [],.tup [],.tup [],.tup [],.tup [],.tup [],.tup [],.tup [],.tup [],.tup [],.tup [],.tup [],.tup [],.tup [],.tup [],.tup [],.tup [],.tup [],.tup [],.tup [],.tup [],.tup [],.tup [],.tup [],.tup [],.tup [],.tup [],.tup [],.tup [],.tup [],.tup [],.tup [],.tup [],.tup [],.tup [],.tup [],.tup [],.tup [],.tup [],.tup [],.tup [],.tup [],.tup [],.tup [],.tup [],.tup [],.tup [],.tup [],.tup [],.tup [],.tup [],.tup [],.tup [],.tup [],.tup [],.tup [],.tup [],.tup [],.tup []] h) 6) := by kernel_rfl
section
variable (K : Hint) (fid : FuncId) (call : ACall) (lf : Nat) (rd : Option Nat) (fr : List AV) (h : AH)
end
theorem R79 (K : Hint) (i : FuncId) (c : ACall) (n : Nat) (d : Option Nat) (f : List AV) (h : AH) :
 arun prog K i c n d (.region 0 (rg f79 0) false) f h = regR (aops prog c (rg f79 0) [0] f h) ∧
 arun prog K i c n d (.region 1 (rg f79 1) false) f h = regR (aops prog c (rg f79 1) [0,1,2] f h) ∧
 arun prog K i c n d (.region 2 (rg f79 2) false) f h = regR (aops prog c (rg f79 2) [0,1,2] f h) ∧
 arun prog K i c n d (.region 3 (rg f79 3) false) f h = regR (aops prog c (rg f79 3) [0,1] f h) ∧
 arun prog K i c n d (.region 4 (rg f79 4) false) f h = regR (aops prog c (rg f79 4) [0,1] f h) ∧
 arun prog K i c n d (.region 5 (rg f79 5) false) f h = regR (aops prog c (rg f79 5) [0,1,2] f h) ∧
 arun prog K i c n d (.region 6 (rg f79 6) false) f h = regR (aops prog c (rg f79 6) [0,1,2] f h) ∧
 arun prog K i c n d (.region 7 (rg f79 7) false) f h = regR (aops prog c (rg f79 7) [0,1,2,3] f h) ∧
 arun prog K i c n d (.region 8 (rg f79 8) false) f h = regR (aops prog c (rg f79 8) [0,1,2,3,4,5] f h) ∧
 arun prog K i c n d (.region 9 (rg f79 9) false) f h = regR (aops prog c (rg f79 9) [0,1,2,3,4,5,6,7,8,9] f h) ∧
 arun prog K i c n d (.region 10 (rg f79 10) false) f h = regR (aops prog c (rg f79 10) [0,1,2,3,4] f h) ∧
 arun prog K i c n d (.region 12 (rg f79 12) false) f h = regR (aops prog c (rg f79 12) [0,1] f h) ∧
 arun prog K i c n d (.region 13 (rg f79 13) false) f h = regR (aops prog c (rg f79 13) [0,1,2,3,4,5] f h) ∧
 arun prog K i c n d (.region 14 (rg f79 14) false) f h = regR (aops prog c (rg f79 14) [0,1,2,3,4,5,6,7] f h) ∧
 arun prog K i c n d (.region 16 (rg f79 16) false) f h = regR (aops prog c (rg f79 16) [0,1,2,3,4] f h) ∧
 arun prog K i c n d (.region 17 (rg f79 17) false) f h = regR (aops prog c (rg f79 17) [0,1] f h) ∧
 arun prog K i c n d (.region 18 (rg f79 18) false) f h = regR (aops prog c (rg f79 18) [0,1,2,3,4] f h) ∧
 arun prog K i c n d (.region 19 (rg f79 19) false) f h = regR (aops prog c (rg f79 19) [0,1,2,3,4] f h) ∧
 arun prog K i c n d (.region 20 (rg f79 20) false) f h = regR (aops prog c (rg f79 20) [0,1] f h) := by
  repeat' apply And.intro
  all_goals kernel_rfl
theorem D79 (i : FuncId) (c : ACall) (n : Nat) (d : Option Nat) (f : List AV) (h : AH) :
 arun prog (HK1 79) i c n d (.region 11 (rg f79 11) true) f h = regR (aopsS prog c (rg f79 11) [(0,false),(1,false),(2,false),(3,false),(4,false),(5,false),(6,false),(7,false),(8,false)] f h) ∧
 arun prog (HK1 79) i c n d (.region 15 (rg f79 15) true) f h = regR (aopsS prog c (rg f79 15) [(0,false),(1,false),(2,false),(3,false),(4,false),(5,false),(6,false),(7,false),(8,false)] f h) := by
  repeat' apply And.intro
  all_goals kernel_rfl
theorem S79 (c : ACall) (f : List AV) (h : AH) :
 astep prog c (rg f79 0) 0 f h = pureS (some (.nilSl)) f 6 h ∧
 astep prog c (rg f79 1) 0 f h = pureS (some (f.getD 0 .top)) f 10 h ∧
 astep prog c (rg f79 1) 1 f h = pureS (some (f.getD 1 .top)) f 11 h ∧
 astep prog c (rg f79 1) 2 f h = pureS (aslice prog 58 (f.getD 10 .top) (some (f.getD 11 .top)) none none) f 12 h ∧
 astep prog c (rg f79 2) 0 f h = pureS (some (f.getD 2 .top)) f 13 h ∧
 astep prog c (rg f79 2) 1 f h = pureS (lenV (alen prog 58 (f.getD 13 .top))) f 14 h ∧
 astep prog c (rg f79 2) 2 f h = pureS (some (f.getD 14 .top)) f 7 h ∧
 astep prog c (rg f79 3) 0 f h = pureS (some (f.getD 7 .top)) f 15 h ∧
 astep prog c (rg f79 3) 1 f h = pureS (abin prog .eql 3 (.tmp 15) (.const (.int .i64 0)) (f.getD 15 .top) (.int .i64 0)) f 16 h ∧
 astep prog c (rg f79 4) 0 f h = pureS (some (f.getD 0 .top)) f 17 h ∧
 astep prog c (rg f79 4) 1 f h = pureS (some (f.getD 17 .top)) f 6 h ∧
 astep prog c (rg f79 5) 0 f h = pureS (some (f.getD 0 .top)) f 18 h ∧
 astep prog c (rg f79 5) 1 f h = pureS (lenV (alen prog 58 (f.getD 18 .top))) f 19 h ∧
 astep prog c (rg f79 5) 2 f h = pureS (some (f.getD 19 .top)) f 8 h ∧
 astep prog c (rg f79 6) 0 f h = pureS (some (f.getD 1 .top)) f 20 h ∧
 astep prog c (rg f79 6) 1 f h = pureS (some (f.getD 8 .top)) f 21 h ∧
 astep prog c (rg f79 6) 2 f h = pureS (abin prog .eql 3 (.tmp 20) (.tmp 21) (f.getD 20 .top) (f.getD 21 .top)) f 22 h ∧
 astep prog c (rg f79 7) 0 f h = pureS (some (f.getD 0 .top)) f 23 h ∧
 astep prog c (rg f79 7) 1 f h = pureS (some (f.getD 2 .top)) f 24 h ∧
 astep prog c (rg f79 7) 2 f h = heapS (aappend prog 58 58 (f.getD 23 .top) (f.getD 24 .top) h) f 25 ∧
 astep prog c (rg f79 7) 3 f h = pureS (some (f.getD 25 .top)) f 6 h ∧
 astep prog c (rg f79 8) 0 f h = pureS (some (f.getD 8 .top)) f 26 h ∧
 astep prog c (rg f79 8) 1 f h = pureS (some (f.getD 7 .top)) f 27 h ∧
 astep prog c (rg f79 8) 2 f h = pureS (abin prog .add 3 (.tmp 26) (.tmp 27) (f.getD 26 .top) (f.getD 27 .top)) f 28 h ∧
 astep prog c (rg f79 8) 3 f h = pureS (some (f.getD 0 .top)) f 29 h ∧
 astep prog c (rg f79 8) 4 f h = pureS (lenV (acap prog 58 (f.getD 29 .top))) f 30 h ∧
 astep prog c (rg f79 8) 5 f h = pureS (abin prog .gtr 3 (.tmp 28) (.tmp 30) (f.getD 28 .top) (f.getD 30 .top)) f 31 h ∧
 astep prog c (rg f79 9) 0 f h = pureS (some (f.getD 0 .top)) f 32 h ∧
 astep prog c (rg f79 9) 1 f h = pureS (some (f.getD 1 .top)) f 33 h ∧
 astep prog c (rg f79 9) 2 f h = pureS (aslice prog 58 (f.getD 32 .top) none (some (f.getD 33 .top)) none) f 34 h ∧
 astep prog c (rg f79 9) 3 f h = pureS (some (f.getD 8 .top)) f 35 h ∧
 astep prog c (rg f79 9) 4 f h = pureS (some (f.getD 7 .top)) f 36 h ∧
 astep prog c (rg f79 9) 5 f h = pureS (abin prog .add 3 (.tmp 35) (.tmp 36) (f.getD 35 .top) (f.getD 36 .top)) f 37 h ∧
 astep prog c (rg f79 9) 6 f h = pureS (some (f.getD 1 .top)) f 38 h ∧
 astep prog c (rg f79 9) 7 f h = pureS (abin prog .sub 3 (.tmp 37) (.tmp 38) (f.getD 37 .top) (f.getD 38 .top)) f 39 h ∧
 astep prog c (rg f79 9) 8 f h = heapS (aappend prog 58 3 (f.getD 34 .top) (f.getD 39 .top) h) f 40 ∧
 astep prog c (rg f79 9) 9 f h = pureS (some (f.getD 40 .top)) f 9 h ∧
 astep prog c (rg f79 10) 0 f h = pureS (some (f.getD 9 .top)) f 41 h ∧
 astep prog c (rg f79 10) 1 f h = pureS (some (f.getD 1 .top)) f 42 h ∧
 astep prog c (rg f79 10) 2 f h = pureS (aslice prog 58 (f.getD 41 .top) (some (f.getD 42 .top)) none none) f 43 h ∧
 astep prog c (rg f79 10) 3 f h = pureS (some (f.getD 2 .top)) f 44 h ∧
 astep prog c (rg f79 10) 4 f h = heapS (acopy prog 58 (f.getD 43 .top) (f.getD 44 .top) h) f 45 ∧
 astep prog c (rg f79 11) 0 f h = pureS (some (f.getD 9 .top)) f 46 h ∧
 astep prog c (rg f79 11) 1 f h = pureS (some (f.getD 1 .top)) f 47 h ∧
 astep prog c (rg f79 11) 2 f h = pureS (some (f.getD 7 .top)) f 48 h ∧
 astep prog c (rg f79 11) 3 f h = pureS (abin prog .add 3 (.tmp 47) (.tmp 48) (f.getD 47 .top) (f.getD 48 .top)) f 49 h ∧
 astep prog c (rg f79 11) 4 f h = pureS (aslice prog 58 (f.getD 46 .top) (some (f.getD 49 .top)) none none) f 50 h ∧
 astep prog c (rg f79 11) 5 f h = pureS (some (f.getD 0 .top)) f 51 h ∧
 astep prog c (rg f79 11) 6 f h = pureS (some (f.getD 1 .top)) f 52 h ∧
 astep prog c (rg f79 11) 7 f h = pureS (aslice prog 58 (f.getD 51 .top) (some (f.getD 52 .top)) none none) f 53 h ∧
 astep prog c (rg f79 11) 8 f h = heapS (acopy prog 58 (f.getD 50 .top) (f.getD 53 .top) h) f 54 ∧
 astep prog c (rg f79 12) 0 f h = pureS (some (f.getD 9 .top)) f 55 h ∧
 astep prog c (rg f79 12) 1 f h = pureS (some (f.getD 55 .top)) f 6 h ∧
 astep prog c (rg f79 13) 0 f h = pureS (some (f.getD 0 .top)) f 56 h ∧
 astep prog c (rg f79 13) 1 f h = pureS (some (f.getD 8 .top)) f 57 h ∧
 astep prog c (rg f79 13) 2 f h = pureS (some (f.getD 7 .top)) f 58 h ∧
 astep prog c (rg f79 13) 3 f h = pureS (abin prog .add 3 (.tmp 57) (.tmp 58) (f.getD 57 .top) (f.getD 58 .top)) f 59 h ∧
 astep prog c (rg f79 13) 4 f h = pureS (aslice prog 58 (f.getD 56 .top) none (some (f.getD 59 .top)) none) f 60 h ∧
 astep prog c (rg f79 13) 5 f h = pureS (some (f.getD 60 .top)) f 0 h ∧
 astep prog c (rg f79 14) 0 f h = pureS (some (f.getD 2 .top)) f 61 h ∧
 astep prog c (rg f79 14) 1 f h = pureS (some (f.getD 0 .top)) f 62 h ∧
 astep prog c (rg f79 14) 2 f h = pureS (some (f.getD 1 .top)) f 63 h ∧
 astep prog c (rg f79 14) 3 f h = pureS (some (f.getD 7 .top)) f 64 h ∧
 astep prog c (rg f79 14) 4 f h = pureS (abin prog .add 3 (.tmp 63) (.tmp 64) (f.getD 63 .top) (f.getD 64 .top)) f 65 h ∧
 astep prog c (rg f79 14) 5 f h = pureS (aslice prog 58 (f.getD 62 .top) (some (f.getD 65 .top)) none none) f 66 h ∧
 astep prog c (rg f79 14) 6 f h = heapS (callV c (.fn (.func 91) [] []) [(f.getD 61 .top),(f.getD 66 .top)] h) f 67 ∧
 astep prog c (rg f79 14) 7 f h = pureS (aun .not (f.getD 67 .top)) f 68 h ∧
 astep prog c (rg f79 15) 0 f h = pureS (some (f.getD 0 .top)) f 69 h ∧
 astep prog c (rg f79 15) 1 f h = pureS (some (f.getD 1 .top)) f 70 h ∧
 astep prog c (rg f79 15) 2 f h = pureS (some (f.getD 7 .top)) f 71 h ∧
 astep prog c (rg f79 15) 3 f h = pureS (abin prog .add 3 (.tmp 70) (.tmp 71) (f.getD 70 .top) (f.getD 71 .top)) f 72 h ∧
 astep prog c (rg f79 15) 4 f h = pureS (aslice prog 58 (f.getD 69 .top) (some (f.getD 72 .top)) none none) f 73 h ∧
 astep prog c (rg f79 15) 5 f h = pureS (some (f.getD 0 .top)) f 74 h ∧
 astep prog c (rg f79 15) 6 f h = pureS (some (f.getD 1 .top)) f 75 h ∧
 astep prog c (rg f79 15) 7 f h = pureS (aslice prog 58 (f.getD 74 .top) (some (f.getD 75 .top)) none none) f 76 h ∧
 astep prog c (rg f79 15) 8 f h = heapS (acopy prog 58 (f.getD 73 .top) (f.getD 76 .top) h) f 77 ∧
 astep prog c (rg f79 16) 0 f h = pureS (some (f.getD 0 .top)) f 78 h ∧
 astep prog c (rg f79 16) 1 f h = pureS (some (f.getD 1 .top)) f 79 h ∧
 astep prog c (rg f79 16) 2 f h = pureS (aslice prog 58 (f.getD 78 .top) (some (f.getD 79 .top)) none none) f 80 h ∧
 astep prog c (rg f79 16) 3 f h = pureS (some (f.getD 2 .top)) f 81 h ∧
 astep prog c (rg f79 16) 4 f h = heapS (acopy prog 58 (f.getD 80 .top) (f.getD 81 .top) h) f 82 ∧
 astep prog c (rg f79 17) 0 f h = pureS (some (f.getD 0 .top)) f 83 h ∧
 astep prog c (rg f79 17) 1 f h = pureS (some (f.getD 83 .top)) f 6 h ∧
 astep prog c (rg f79 18) 0 f h = pureS (some (f.getD 0 .top)) f 84 h ∧
 astep prog c (rg f79 18) 1 f h = pureS (some (f.getD 8 .top)) f 85 h ∧
 astep prog c (rg f79 18) 2 f h = pureS (aslice prog 58 (f.getD 84 .top) (some (f.getD 85 .top)) none none) f 86 h ∧
 astep prog c (rg f79 18) 3 f h = pureS (some (f.getD 2 .top)) f 87 h ∧
 astep prog c (rg f79 18) 4 f h = heapS (acopy prog 58 (f.getD 86 .top) (f.getD 87 .top) h) f 88 ∧
 astep prog c (rg f79 19) 0 f h = pureS (some (f.getD 0 .top)) f 89 h ∧
 astep prog c (rg f79 19) 1 f h = pureS (some (f.getD 1 .top)) f 90 h ∧
 astep prog c (rg f79 19) 2 f h = pureS (aslice prog 58 (f.getD 89 .top) (some (f.getD 90 .top)) none none) f 91 h ∧
 astep prog c (rg f79 19) 3 f h = pureS (some (f.getD 7 .top)) f 92 h ∧
 astep prog c (rg f79 19) 4 f h = heapS (callV c (.fn (.func 92) [] []) [(f.getD 91 .top),(f.getD 92 .top)] h) f 93 ∧
 astep prog c (rg f79 20) 0 f h = pureS (some (f.getD 0 .top)) f 94 h ∧
 astep prog c (rg f79 20) 1 f h = pureS (some (f.getD 94 .top)) f 6 h := by
  repeat' apply And.intro
  all_goals kernel_rfl

end Go.Proofs.Ytgnacecplaemlaa
/-
  The interpreter at this program: slices.Insert at the front of a slice whose capacity is not known.
-/
namespace Go.Proofs.Ytgnacecplaemlaa
open AI
set_option linter.unusedSimpArgs false
set_option linter.unusedVariables false
theorem el78 : Elem 78 5 88 := Elem.of (by kernel_rfl) (by decide) (by decide)
theorem al58 (id off n : Nat) (c : Option Nat) : alen Try.prog 58 (.sl id off n 5 c) = some n := by unfold AI.alen; rw [u58]
theorem ac58 (id off n : Nat) (c : Option Nat) : acap Try.prog 58 (.sl id off n 5 c) = c := by unfold AI.acap; rw [u58]
theorem sl58l (id off n i : Nat) (c : Option Nat) (hi : i ≤ n) : aslice Try.prog 58 (.sl id off n 5 c) (some (.int .i64 (i : Int))) none none = some (.sl id (off + i * 5) (n - i) 5 (c.map (· - i))) := by
  unfold aslice
  rw [u58]
  have h1 : (0 : Int) ≤ (i : Int) ∧ (i : Int) ≤ (n : Int) := by omega
  simp [z78, abound, aIx, h1]
theorem sl58h (id off n j k : Nat) (hj : j ≤ k) : aslice Try.prog 58 (.sl id off n 5 (some k)) none (some (.int .i64 (j : Int))) none = some (.sl id off j 5 (some k)) := by
  unfold aslice
  rw [u58]
  have h1 : (0 : Int) ≤ (j : Int) ∧ (j : Int) ≤ (k : Int) := by omega
  simp [z78, abound, aIx, h1]
theorem sl58h0 (id off n : Nat) (c : Option Nat) : aslice Try.prog 58 (.sl id off n 5 c) none (some (.int .i64 0)) none = some (.sl id off 0 5 c) := by
  unfold aslice
  rw [u58]
  simp [z78, abound, aIx]
theorem cp58 (a o1 n1 b o2 n2 : Nat) (c1 c2 : Option Nat) (h h' : AH) (l : List AV) (h0 : min n2 n1 ≠ 0) (h1 : h.cells? b (min n2 n1 * 5) o2 = some l) (h2 : atoms l = true) (h3 : h.write a o1 l = some h') :
    acopy Try.prog 58 (.sl a o1 n1 5 c1) (.sl b o2 n2 5 c2) h = some (.int .i64 ((min n2 n1 : Nat) : Int), h') := by
  unfold acopy
  rw [u58]
  simp [z78, h0, h1, h2, h3]
/-- A block with room for so many cells. -/
def Rm (h : AH) (id n : Nat) : Prop := id < h.next ∧ ∃ b, h.blk? id = some b ∧ b.ro = false ∧ b.lo ≤ 0 ∧ n ≤ b.hi
theorem Rm.write {h : AH} {id n : Nat} (R : Rm h id n) (off : Nat) (l : List AV) (hl : off + l.length ≤ n) : ∃ h', h.write id off l = some h' ∧ Rm h' id n ∧ Other (fun j => j = id) h h' ∧ h'.next = h.next := by
  obtain ⟨hlt, b, hb, hro, hlo, hhi⟩ := R
  have hw : h.write id off l = some (h.put id (some { b with cells := putCells l off b.cells })) := by
    unfold AH.write
    rw [hb]
    have e1 : Nat.ble b.lo off = true := Nat.ble_eq.mpr (by omega)
    have e2 : Nat.ble (off + l.length) b.hi = true := Nat.ble_eq.mpr (by omega)
    simp [hro, e1, e2]
  exact ⟨_, hw, ⟨hlt, { b with cells := putCells l off b.cells }, by rw [AH.blk?_put, if_pos rfl], hro, hlo, hhi⟩, ⟨Nat.le_refl _, fun j _ hj => by rw [AH.blk?_put, if_neg hj], fun _ _ _ => rfl⟩, rfl⟩
theorem Rm.new (h : AH) (l : List AV) (n : Nat) (hn : n ≤ l.length) : Rm (h.alloc l) h.next n :=
  ⟨Nat.lt_succ_self _, _, by rw [AH.blk?_alloc, if_pos rfl], rfl, Nat.zero_le _, hn⟩
theorem zr58 (h : AH) (id k : Nat) (m : Nat) (hk : k < m) (hb : m ≤ 1048577) : ∃ l, l.length = m * 5 ∧ aappend Try.prog 58 3 (.sl id 0 0 5 (some k)) (.int .i64 (m : Int)) h = some (.sl h.next 0 m 5 none, h.alloc l) := by
  have hi : (Try.prog.info? 78).map (fun i => (i.size, i.bytes, i.zero.map fun z => ((ofConst z).isTop, (ofConst z).cells.length))) = some (5, 88, some (false, 5)) := by kernel_rfl
  cases hq : Try.prog.info? 78 with
  | none => rw [hq] at hi; simp at hi
  | some i =>
    rw [hq] at hi
    simp only [Option.map_some, Option.some.injEq, Prod.mk.injEq] at hi
    obtain ⟨e1, e2, e3⟩ := hi
    cases hz : i.zero with
    | none => rw [hz] at e3; simp at e3
    | some z =>
      rw [hz] at e3
      simp only [Option.map_some, Option.some.injEq, Prod.mk.injEq] at e3
      obtain ⟨e4, e5⟩ := e3
      have w : IntKind.i64.wrap (m : Int) = m := wrap_nat m (by omega)
      have hu3 : Try.prog.underlying 3 = some (.int .i64) := by kernel_rfl
      refine ⟨arep (ofConst z).cells m, by rw [length_arep, e5], ?_⟩
      unfold aappend azeros
      rw [u58, hu3]
      simp only [hq, hz, e4, e5, e1, e2, w, Int.toNat_natCast]
      have hblt : Nat.blt 140737488355328 (m * 88) = false := by
        cases hx : Nat.blt 140737488355328 (m * 88) with
        | false => rfl
        | true => have := Nat.blt_eq.mp hx; omega
      have hd : decide ((m : Int) ≤ 0) = false := by simp; omega
      have hk : Nat.blt k m = true := Nat.blt_eq.mpr hk
      rw [hblt, hd, hk]
      simp
theorem X1_91 (n a o1 n1 b o2 n2 : Nat) (c1 c2 : Option Nat) (h : AH) (h1 : 0 < n1) (h2 : 0 < n2) (hne : a ≠ b) (hx : ∃ x y, h.blk? a = some x ∧ h.blk? b = some y ∧ x.ro = false ∧ y.ro = false) :
    X1 (n + 1) (.func 91) [.sl a o1 n1 5 c1, .sl b o2 n2 5 c2] h = some (.bool false, h) := by
  have e : ovO 91 [.sl a o1 n1 5 c1, .sl b o2 n2 5 c2] h = some (.bool false, h) := by
    have c : 5 = 5 ∧ 5 = 5 ∧ 0 < n1 ∧ 0 < n2 ∧ a ≠ b ∧ ∃ x y, h.blk? a = some x ∧ h.blk? b = some y ∧ x.ro = false ∧ y.ro = false := ⟨rfl, rfl, h1, h2, hne, hx⟩
    exact if_pos c
  simp only [X1, cexec, e]
theorem wrap_eqq {a : Int} {n : Nat} (h : a = (n : Int)) (hn : n < 4611686018427387904) : IntKind.i64.wrap a = (n : Int) := by rw [h]; exact wrap_nat n hn
/-- The library's text, where the capacity is known. -/
theorem ins79 {h : AH} {id n k vid : Nat} {c2 : Option Nat} {l new : List AV} (R : Row h id 0 l) (hl : l.length = n * 5) (ha : atoms l = true) (V : Row h vid 0 new) (hv : new.length = 5) (hav : atoms new = true) (hne : id ≠ vid)
    (hn : n ≤ 1048576) (hnk : n ≤ k) (hroom : n + 1 ≤ k → Rm h id ((n + 1) * 5)) (m : Nat) :
    ∃ i o c h', X1 (m + 2) (.func 79) [.sl id 0 n 5 (some k), .int .i64 0, .sl vid 0 1 5 c2] h = some (.sl i o (n + 1) 5 c, h') ∧ Other (fun j => j = id) h h' ∧ h'.next ≤ h.next + 1 := by
  have w1 : IntKind.i64.wrap ((n : Int) + 1) = ((n + 1 : Nat) : Int) := wrap_eqq (by omega) (by omega)
  have w2 : IntKind.i64.wrap (((n + 1 : Nat) : Int) - 0) = ((n + 1 : Nat) : Int) := wrap_eqq (by omega) (by omega)
  have w3 : IntKind.i64.wrap ((0 : Int) + 1) = 1 := by decide
  have b1 : ((1 : Int) == 0) = false := by decide
  have s0 : ∀ (i o x : Nat) (c : Option Nat), aslice Try.prog 58 (.sl i o x 5 c) (some (.int .i64 0)) none none = some (.sl i o x 5 c) := fun i o x c => by
    have := sl58l i o x 0 c (Nat.zero_le _)
    simpa using this
  have s1 : ∀ (i x : Nat) (c : Option Nat), 1 ≤ x → aslice Try.prog 58 (.sl i 0 x 5 c) (some (.int .i64 1)) none none = some (.sl i 5 (x - 1) 5 (c.map (· - 1))) := fun i x c hx => by
    have := sl58l i 0 x 1 c hx
    simpa using this
  have al1 : ((1 : Nat) : Int) = 1 := rfl
  have hcv : h.cells? vid 5 0 = some new := by have := V.all; rwa [hv] at this
  have hcl : h.cells? id (n * 5) 0 = some l := by have := R.all; rwa [hl] at this
  rw [ent79]
  unfold cd79
  by_cases hz : n = 0
  · subst hz
    have b2 : ((0 : Int) == ((0 : Nat) : Int)) = true := rfl
    have ap : ∃ i o c h', aappend Try.prog 58 58 (.sl id 0 0 5 (some k)) (.sl vid 0 1 5 c2) h = some (.sl i o 1 5 c, h') ∧ Other (fun j => j = id) h h' ∧ h'.next ≤ h.next + 1 := by
      have hl0 : l = [] := List.eq_nil_of_length_eq_zero (by omega)
      subst hl0
      obtain ⟨s', h', e, o, ot, hid, of⟩ := own_app (x := .sl vid 0 1 5 c2) (new := new) (n := 1) (N := 0) (.inr ⟨id, 0, some k, rfl, rfl, Nat.zero_le _, R⟩) (Nat.zero_le _) el78 u58 u58 rfl rfl (by simp [afirst, hcv]) (by omega) hav (by simp; omega)
      have key : aappend Try.prog 58 58 (.sl id 0 0 5 (some k)) (.sl vid 0 1 5 c2) h = (if Nat.blt k (0 + 1) then some (.sl h.next 0 (0 + 1) 5 none, h.alloc ([] ++ new)) else aappend.amove h id 0 0 1 5 new) := by
        obtain ⟨i, z, q1, q2, q3, q4, q5⟩ := el78.info
        unfold aappend
        rw [u58]
        simp only [isSeq, q1, q2, alenOf, Bool.not_true, Bool.false_eq_true, if_false, q5, q3, bne_self_eq_false, afirst, hcv, q4, decide_eq_false (show ¬ (5 = 0) by decide), decide_eq_false (show ¬ (88 = 0) by decide), Bool.or_self, ne_eq, not_true_eq_false, if_true, Nat.zero_mul, Nat.one_mul, AH.cells?_zero]
        rfl
      rw [key]
      by_cases hk : Nat.blt k (0 + 1) = true
      · rw [if_pos hk]
        exact ⟨_, _, _, _, rfl, (Other.alloc _ _ _).any, Nat.le_refl _⟩
      · rw [if_neg hk]
        obtain ⟨h', e, hx, _, ho⟩ := R.move (len := 0) (n := 1) (es := 5) rfl (by omega) hav
        exact ⟨_, _, _, _, e, ho, by omega⟩
    obtain ⟨i, o, c, h', e, ho, hx⟩ := ap
    refine ⟨i, o, c, h', ?_, ho, hx⟩
    simp (implicitDefEqProofs := false) only [core, reduceIte, R79, D79, S79, s0, al58, al1, i_eql, b1, b2, e]
  · have b2 : ((0 : Int) == (n : Int)) = false := by simp; omega
    have mn : min (n + 1) n = n := by omega
    have mn2 : min 1 (n + 1) = 1 := by omega
    by_cases hk : n + 1 ≤ k
    · -- in its place
      have d1 : decide (((n + 1 : Nat) : Int) > (k : Int)) = false := decide_eq_false (by omega)
      have e1 := sl58h id 0 n (n + 1) k hk
      have Rr := hroom hk
      obtain ⟨h1, p1, p2, p3, p4⟩ := Rr.write 5 l (by omega)
      obtain ⟨h2, q1, q2, q3, q4⟩ := p2.write 0 new (by omega)
      have hcv1 : h1.cells? vid 5 0 = some new := by have := (V.keep p3 (fun e => hne e.symm)).all; rwa [hv] at this
      have ov := X1_91 m vid 0 1 id 5 n c2 (some (k - 1)) h (by omega) (by omega) (Ne.symm hne) (by
        obtain ⟨_, x, x1, x2, _⟩ := V
        obtain ⟨_, y, y1, y2, _⟩ := R
        exact ⟨x, y, x1, y1, x2, y2⟩)
      have c1 := cp58 id 5 n id 0 (n + 1) (some (k - 1)) (some k) h h1 l (by omega) (by rw [mn]; exact hcl) ha p1
      have c3 := cp58 id 0 (n + 1) vid 0 1 (some k) c2 h1 h2 new (by omega) (by rw [mn2]; exact hcv1) hav q1
      have s1' := s1 id (n + 1) (some k) (by omega)
      rw [Nat.add_sub_cancel, Option.map_some] at s1'
      refine ⟨id, 0, some k, h2, ?_, p3.trans q3, by omega⟩
      simp (implicitDefEqProofs := false) only [core, reduceIte, R79, D79, S79, s0, al58, ac58, al1, i_eql, b1, b2, i_add, w1, i_gtr, d1, e1, w3, s1', ov, not_b, Bool.not_false, c1, c3]
    · -- a new row
      have d1 : decide (((n + 1 : Nat) : Int) > (k : Int)) = true := decide_eq_true (by omega)
      obtain ⟨zl, hzl, e1⟩ := zr58 h id k (n + 1) (by omega) (by omega)
      have N1 := Rm.new h zl ((n + 1) * 5) (by omega)
      have Q1 : Quiet h (h.alloc zl) := Other.alloc _ _ _
      have nx : (h.alloc zl).next = h.next + 1 := rfl
      have hid : id < h.next := R.1
      have hvid : vid < h.next := V.1
      generalize h.alloc zl = h1 at *
      obtain ⟨h2, p1, p2, p3, p4⟩ := N1.write 0 new (by omega)
      have hcv1 : h1.cells? vid 5 0 = some new := by have := (V.keep Q1 (fun e => e)).all; rwa [hv] at this
      have hcl2 : h2.cells? id (n * 5) 0 = some l := by have := ((R.keep Q1 (fun e => e)).keep p3 (fun e => by omega)).all; rwa [hl] at this
      obtain ⟨h3, q1, q2, q3, q4⟩ := p2.write 5 l (by omega)
      have mn3 : min n n = n := by omega
      have c1 := cp58 h.next 0 (n + 1) vid 0 1 none c2 h1 h2 new (by omega) (by rw [mn2]; exact hcv1) hav p1
      have c3 := cp58 h.next 5 n id 0 n none (some k) h2 h3 l (by omega) (by rw [mn3]; exact hcl2) ha q1
      have s1' := s1 h.next (n + 1) none (by omega)
      rw [Nat.add_sub_cancel, Option.map_none] at s1'
      refine ⟨h.next, 0, none, h3, ?_, (Q1.any).plus (p3.trans q3) (fun j hj => .inr (by omega)), by omega⟩
      simp (implicitDefEqProofs := false) only [core, reduceIte, R79, D79, S79, s0, al58, ac58, al1, i_eql, b1, b2, i_add, i_sub, w1, w2, i_gtr, d1, sl58h0, e1, w3, s1', c1, c3]
end Go.Proofs.Ytgnacecplaemlaa
/-
  The interpreter at this program: what a call of slices.Insert at the front comes to, whatever the capacity.
-/
namespace Go.Proofs.Ytgnacecplaemlaa
open AI
set_option linter.unusedVariables false
section
variable {B : Nat} {f : Inj} {h : AH} {w : World}
/-- Of a heap that stands for the world, a part does. -/
theorem HR.less (H : HR B f h w) {hU : AH} {f' : Inj} (he : Ext f f') (hb : ∀ j b, hU.blk? j = some b → h.blk? j = some b) (ho : ∀ j o, hU.ob? j = some o → h.ob? j = some o) (hfr : ∀ j, hU.next ≤ j → hU.blk? j = none)
    (hof : ∀ j, hU.next ≤ j → hU.ob? j = none) (hff : ∀ j, hU.next ≤ j → f' j = none) : HR B f' hU w := by
  have back : ∀ j b r, h.blk? j = some b → f' j = some r → f j = some r := fun j b r hj hr => by
    obtain ⟨r0, _, _, _, q, _⟩ := H.blk j b hj
    have := he _ _ q
    rw [hr] at this
    injection this with this
    rw [this]; exact q
  have backo : ∀ j b r, h.ob? j = some b → f' j = some r → f j = some r := fun j b r hj hr => by
    obtain ⟨r0, _, q, _⟩ := H.objs.obj j b hj
    have := he _ _ q
    rw [hr] at this
    injection this with this
    rw [this]; exact q
  refine ⟨fun j b hj => ?_, fun j k bj bk rj rk hne hj hk => ?_, hfr, hff, H.le, ⟨fun j o hj => ?_, fun j k oj ok rj rk hne hj hk h1 h2 => ?_, hof⟩⟩
  · obtain ⟨r, c, e, fz, h1, h2, h3, h4, h5, h6, h7, h8⟩ := H.blk j b (hb j b hj)
    exact ⟨r, c, e, fz, he _ _ h1, h2, h3, h4, h5, h6, h7, fun o a ha => by obtain ⟨v, k1, k2⟩ := h8 o a ha; exact ⟨v, k1, k2.mono he⟩⟩
  · intro h1 h2 h3 h4
    exact H.apart j k bj bk rj rk hne (hb _ _ hj) (hb _ _ hk) h1 h2 (back _ _ _ (hb _ _ hj) h3) (back _ _ _ (hb _ _ hk) h4)
  · obtain ⟨r, x, h1, h2, h3, h4⟩ := H.objs.obj j o (ho _ _ hj)
    exact ⟨r, x, he _ _ h1, h2, h3, h4.mono he⟩
  · exact H.objs.oapart j k oj ok rj rk hne (ho _ _ hj) (ho _ _ hk) (backo _ _ _ (ho _ _ hj) h1) (backo _ _ _ (ho _ _ hk) h2)
/-- A block of which less is said, or whose spare cells are told. -/
theorem HR.reblk (H : HR B f h w) {id : Nat} {b b' : Blk} {r : Reg} (hb : h.blk? id = some b) (hf : f id = some r) (h1 : b'.lo = b.lo) (h2 : b'.ro = b.ro) (h3 : b'.hi - b'.lo ≤ r.ext) (h4 : ∀ o a, b'.get o = some a → b.get o = some a) :
    HR B f (h.put id (some b')) w := by
  have hid : id < h.next := H.lt hf
  have old : ∀ j bj, (h.put id (some b')).blk? j = some bj → ∃ b0, h.blk? j = some b0 ∧ b0.ro = bj.ro := fun j bj hj => by
    rw [AH.blk?_put] at hj
    split at hj
    · rename_i e
      subst e
      injection hj with hj
      subst hj
      exact ⟨b, hb, h2.symm⟩
    · exact ⟨bj, hj, rfl⟩
  refine ⟨fun j bj hj => ?_, fun j k bj bk rj rk hne hj hk roj rok hfj hfk => ?_, fun j hj => ?_, H.ffresh, H.le, H.objs.keep (Ext.refl f) (fun _ => rfl) (Nat.le_refl _) (fun _ _ _ hx _ => hx)⟩
  · rw [AH.blk?_put] at hj
    split at hj
    · rename_i e
      subst e
      injection hj with hj
      subst hj
      obtain ⟨r', c, e, fz, g1, g2, g3, g4, g5, g6, g7, g8⟩ := H.blk _ b hb
      rw [hf] at g1
      injection g1 with g1
      subst g1
      exact ⟨r, c, e, fz, hf, g2, g3, by rw [h1]; exact g4, h3, by rw [h2]; exact g6, by rw [h2]; exact g7, fun o a ha => by rw [h1]; exact g8 o a (h4 o a ha)⟩
    · exact H.blk j bj hj
  · obtain ⟨b1, e1, e2⟩ := old j bj hj
    obtain ⟨b2, e3, e4⟩ := old k bk hk
    exact H.apart j k b1 b2 rj rk hne e1 e3 (by rw [e2]; exact roj) (by rw [e4]; exact rok) hfj hfk
  · have hj : h.next ≤ j := hj
    rw [AH.blk?_put, if_neg (by omega)]
    exact H.fresh j hj
end
open Classical in
/-- What slices.Insert(s, 0, v) answers: another slice; the old row is given up. -/
noncomputable def ovI : FuncId → List AV → AH → Option (AV × AH) := fun g args h =>
  match Nat.beq g 79, args with
  | true, [.sl id o1 n e1 _, .int k z, .sl vid o2 m e2 _] =>
    if k = .i64 ∧ z = 0 ∧ o1 = 0 ∧ e1 = 5 ∧ o2 = 0 ∧ m = 1 ∧ e2 = 5 ∧ id ≠ vid ∧ n ≤ 1048576 ∧ (∃ l, Row h id 0 l ∧ l.length = n * 5 ∧ atoms l = true) ∧ (∃ l, Row h vid 0 l ∧ l.length = 5 ∧ atoms l = true) then
      some (.sl (h.next + 1) 0 (n + 1) 5 none, { m := (h.put id none).m, ob := h.ob, next := h.next + 2 }) else none
  | _, _ => none
theorem ovI_eq {h : AH} {id n vid : Nat} {c1 c2 : Option Nat} {l new : List AV} (R : Row h id 0 l) (hl : l.length = n * 5) (ha : atoms l = true) (V : Row h vid 0 new) (hv : new.length = 5) (hav : atoms new = true) (hne : id ≠ vid) (hn : n ≤ 1048576) :
    ovI 79 [.sl id 0 n 5 c1, .int .i64 0, .sl vid 0 1 5 c2] h = some (.sl (h.next + 1) 0 (n + 1) 5 none, { m := (h.put id none).m, ob := h.ob, next := h.next + 2 }) := by
  exact if_pos ⟨rfl, rfl, rfl, rfl, rfl, rfl, rfl, hne, hn, ⟨l, R, hl, ha⟩, ⟨new, V, hv, hav⟩⟩
theorem ovI_ok : ∀ g args h a h', ovI g args h = some (a, h') → ∀ B f w (vs : Array Value), HR B f h w → VRs f vs.toList args → FnRuns Try.prog g vs w (HPost B f w h' a) := by
  intro g args h a hU h0 B f w vs H hv
  unfold ovI at h0
  split at h0
  · rename_i id o1 n e1 c1 k z vid o2 m e2 c2 hg
    split at h0
    · rename_i hc
      obtain ⟨rfl, rfl, rfl, rfl, rfl, rfl, rfl, hne, hn, ⟨l, R, hl, ha⟩, ⟨new, V, hvl, hav⟩⟩ := hc
      injection h0 with h0
      injection h0 with e1 e2
      subst e1 e2
      obtain rfl := Nat.eq_of_beq_eq_true hg
      obtain ⟨vl⟩ := vs
      cases hv with
      | cons v1 _ vl' _ g1 g2 =>
        obtain ⟨r, O, cap, sp, hf, hlo, hlen, hO, _, hsp, rfl⟩ := g1.sl_inv
        obtain ⟨hlt, b, hb, hro, hblo, hbhi, hget⟩ := R
        obtain ⟨r', c, e, fz, q1, q2, q3, q4, q5, q6, _, _⟩ := H.blk _ _ hb
        rw [hf] at q1
        injection q1 with q1
        subst q1
        have hr0 : r.lo = 0 := by omega
        have hget' : ∀ o a, Blk.get { lo := 0, hi := r.ext, ro := false, cells := putCells l 0 .nil } o = some a → b.get o = some a := fun o a hoa => by
          obtain ⟨h1, h2⟩ := Blk.get_lo hoa
          rw [Blk.get_eq, if_pos ⟨h1, h2⟩] at hoa
          simp only [get_putCells, Tr.get_nil] at hoa
          split at hoa
          · rename_i hin
            have := hget o (by omega)
            rw [Nat.zero_add] at this
            rw [this]
            simpa using hoa
          · simp at hoa
        have H1 : HR B f (h.put id (some { lo := 0, hi := r.ext, ro := false, cells := putCells l 0 .nil })) w :=
          HR.reblk H hb hf (by show 0 = b.lo; omega) hro.symm (by show r.ext - 0 ≤ r.ext; omega) hget'
        have nx : (h.put id (some { lo := 0, hi := r.ext, ro := false, cells := putCells l 0 .nil })).next = h.next := rfl
        have hp : ∀ j, (h.put id (some { lo := 0, hi := r.ext, ro := false, cells := putCells l 0 .nil })).blk? j = if j = id then some { lo := 0, hi := r.ext, ro := false, cells := putCells l 0 .nil } else h.blk? j := AH.blk?_put _ _ _
        have hpo : ∀ j, (h.put id (some { lo := 0, hi := r.ext, ro := false, cells := putCells l 0 .nil })).ob? j = h.ob? j := fun _ => rfl
        generalize h.put id (some { lo := 0, hi := r.ext, ro := false, cells := putCells l 0 .nil }) = h1 at *
        have R1 : Row h1 id 0 l := by
          refine ⟨by omega, _, by rw [hp, if_pos rfl], rfl, Nat.le_refl _, by show 0 + l.length ≤ r.ext; omega, fun i hi => ?_⟩
          rw [Blk.get_eq, if_pos ⟨Nat.zero_le _, by show 0 + i < r.ext; omega⟩, get_putCells, if_pos ⟨Nat.zero_le _, by omega⟩]
          congr 1; omega
        have V1 : Row h1 vid 0 new := by
          obtain ⟨x1, y, y1, y2⟩ := V
          exact ⟨by omega, y, by rw [hp, if_neg (Ne.symm hne)]; exact y1, y2⟩
        have room : n + 1 ≤ cap → Rm h1 id ((n + 1) * 5) := fun hcap => by
          have hO' := hO.resolve_left (by omega)
          exact ⟨by omega, _, by rw [hp, if_pos rfl], rfl, Nat.le_refl _, by show (n + 1) * 5 ≤ r.ext; omega⟩
        obtain ⟨i, o, cc, h', e, ho, hx⟩ := ins79 (c2 := c2) R1 hl ha V1 hvl hav hne hn hlen room 0
        have hrun := (X1_ok 2).fn _ _ _ _ _ e B f w ⟨_⟩ H1 (.cons _ _ _ _ (VR.sl id 0 n 5 (some cap) r O cap hf hlo hlen hO (fun k hk => by injection hk) sp hsp) g2)
        refine hrun.mono fun v w' ⟨f', x1, x2, x3, x4⟩ => ?_
        obtain ⟨r2, O2, cap2, sp2, y1, y2, y3, y4, _, y5, rfl⟩ := x4.sl_inv
        have y4 := y4.resolve_left (by omega)
        obtain rfl := y5.resolve_left (by omega)
        have hfn : f' (h.next + 1) = none := x2.ffresh _ (by omega)
        have hx2 : Ext f' (upd f' (h.next + 1) ⟨r2.blk, O2, 0, cap2 * 5⟩) := Ext.upd hfn _
        refine ⟨upd f' (h.next + 1) ⟨r2.blk, O2, 0, cap2 * 5⟩, x1.trans hx2, HR.less x2 hx2 (fun j bj hj => ?_) (fun j oj hj => ?_) (fun j hj => ?_) (fun j hj => ?_) (fun j hj => ?_), x3, ?_⟩
        · have hj : (h.put id none).blk? j = some bj := hj
          rw [AH.blk?_put] at hj
          split at hj
          · simp at hj
          · rename_i hji
            have hjl : j < h.next := by
              rcases Nat.lt_or_ge j h.next with q | q
              · exact q
              · rw [H.fresh j q] at hj; simp at hj
            rw [ho.blk j (by omega) hji, hp, if_neg hji]
            exact hj
        · have hj : h.ob? j = some oj := hj
          have hjl : j < h.next := by
            rcases Nat.lt_or_ge j h.next with q | q
            · exact q
            · rw [H.objs.ofresh j q] at hj; simp at hj
          have hji : j ≠ id := by
            rintro rfl
            obtain ⟨ra, xa, z1, _, z3, z4⟩ := H.objs.obj _ _ hj
            rw [hf] at z1
            injection z1 with z1
            subst z1
            rw [q2] at z3
            injection z3 with z3
            subst z3
            have := z4.other
            simp [Obj.other] at this
          rw [ho.ob j (by omega) hji, hpo]
          exact hj
        · have hj : h.next + 2 ≤ j := hj
          show (h.put id none).blk? j = none
          rw [AH.blk?_put]
          split
          · rfl
          · exact H.fresh j (by omega)
        · have hj : h.next + 2 ≤ j := hj
          show h.ob? j = none
          exact H.objs.ofresh j (by omega)
        · have hj : h.next + 2 ≤ j := hj
          unfold upd
          rw [if_neg (by omega)]
          exact x2.ffresh j (by omega)
        · exact VR.sl (h.next + 1) 0 (n + 1) 5 none ⟨r2.blk, O2, 0, cap2 * 5⟩ O2 cap2 (upd_same _ _ _) (Nat.le_refl _) y3 (.inr ⟨by simp, by simp⟩) (by simp)
    · simp at h0
  · simp at h0
end Go.Proofs.Ytgnacecplaemlaa
/-
  The interpreter at this program: hints, which calls are brought to the short form, what is known of it.
-/
namespace Go.Proofs.Ytgnacecplaemlaa
open AI
/-- The hints: the slots that are live at the heads of loops; the steps of open regions that leave the heap as it is (1000000 and the number). -/
def HK : FuncId → Hint
  | 7, 12 => some [2, 8, 9, 10]
  | 7, 1000014 => some []
  | 22, 4 => some [0, 1, 5]
  | 22, 1000006 => some []
  | 71, 4 => some [0, 1, 5]
  | 71, 1000006 => some []
  | 35, 4 => some [0, 1, 5]
  | 35, 1000006 => some []
  | 84, 5 => some [5, 6, 7]
  | 84, 1000007 => some []
  | 72, 4 => some [0, 1, 5]
  | 72, 1000006 => some []
  | 73, 4 => some [2, 3, 5]
  | 73, 10 => some [2, 3, 8]
  | 73, 1000012 => some []
  | 32, 4 => some [0, 1, 5]
  | 32, 1000006 => some []
  | 39, 5 => some [3, 4, 14, 15, 16]
  | 40, 4 => some [3, 4, 5]
  | 40, 7 => some [3, 4, 5, 6]
  | 63, 1000010 => some []
  | 80, 2 => some [0, 3]
  | 37, 3 => some [3, 7, 8, 9]
  | 38, 4 => some [3, 4, 5]
  | 76, 3 => some [0, 3, 4]
  | 87, 2 => some [1, 2, 7, 8, 9]
  | 89, 2 => some [0, 3]
  | 93, 2 => some [0, 5, 6]
  | 94, 2 => some [0, 1, 7]
  | 31, 4 => some [3, 4, 5]
  | 34, 4 => some [3, 4, 5]
  | 36, 4 => some [3, 4, 5]
  | 41, 5 => some [3, 11, 12, 13]
  | 42, 4 => some [3, 4, 5]
  | 42, 7 => some [3, 4, 5, 6]
  | 43, 4 => some [3, 4, 5]
  | 55, 4 => some [1, 3, 4, 5]
  | 55, 8 => some [1, 3, 4, 5, 6, 7]
  | 55, 12 => some [1, 3, 8]
  | 58, 3 => some [1, 3, 4]
  | 58, 7 => some [1, 3, 5]
  | 25, 3 => some [1, 3, 4]
  | 25, 7 => some [1, 3, 5]
  | 25, 1000001 => some [1, 2, 3, 4, 5, 6, 7, 8, 9, 10, 11, 12, 13, 14, 15, 16, 17, 18, 19]
  | 25, 1000005 => some [3, 4, 5, 6, 7, 8, 9, 10, 11, 12, 13, 14, 15, 16, 17, 18, 19, 20, 21, 22, 23, 24, 25, 26]
  | 25, 1000009 => some [8, 9, 10, 11, 12, 13, 14]
  | 29, 1000004 => some [0, 1, 2]
  | 46, 3 => some [0, 3, 4]
  | 47, 3 => some [0, 3, 4]
  | 48, 4 => some [3, 4, 5]
  | 57, 3 => some [1, 3, 15, 16, 17]
  | 57, 8 => some [3, 28, 29, 30]
  | 65, 3 => some [0, 3, 4]
  | 65, 1000005 => some [5, 6, 7, 8, 9, 10, 11, 12, 13, 14, 15, 16, 17, 18, 19, 20, 21, 22, 23, 24, 25, 26, 27, 28, 29]
  | 66, 3 => some [0, 3, 4]
  | 67, 3 => some [0, 3, 4]
  | 69, 1 => some [0, 1, 14, 15, 16]
  | 69, 4 => some [0, 1, 14, 15, 16, 21, 22, 23]
  | 69, 7 => some [0, 1, 14, 15, 16, 21, 22, 23, 27, 28, 29]
  | 69, 14 => some [0, 1, 41, 42, 43]
  | 69, 19 => some [0, 54, 55, 56]
  | 74, 3 => some [0, 3, 9, 10, 11]
  | 74, 11 => some [6, 25, 26, 27]
  | 82, 1 => some [1, 6, 7, 8]
  | _, _ => none
/-- The functions whose calls turn nothing old: all but the iterators and what they call. -/
def pu : FuncId → Bool := fun g => !([51, 52, 53, 62, 63, 68, 69, 75, 82, 83, 86, 87] : List Nat).any (Nat.beq g)
noncomputable def ovA : FuncId → List AV → AH → Option (AV × AH) := fun g args h =>
  match closedOv [(26, .bool true)] g args h with
  | some r => some r
  | none =>
    match ovI g args h with
    | some r => some r
    | none => ovX g args h
theorem ovA_ok : ∀ g args h a h', ovA g args h = some (a, h') → ∀ B f w (vs : Array Value), HR B f h w → VRs f vs.toList args → FnRuns Try.prog g vs w (HPost B f w h' a) := by
  intro g args h a h' h0
  unfold ovA at h0
  split at h0
  · rename_i r hr
    injection h0 with h0
    subst h0
    refine closed_ok [(26, .bool true)] (fun p hp => ?_) g args h a h' hr
    simp only [List.mem_singleton] at hp
    subst hp
    exact ⟨⟨_, bexec_ok (by kernel_rfl) (fun _ _ => none) ovX_ok 60, okTrue_ex awake42⟩, true, rfl⟩
  · split at h0
    · rename_i r hr
      injection h0 with h0
      subst h0
      exact ovI_ok g args h a h' hr
    · exact ovX_ok g args h a h' h0
/-- The interpreter. -/
noncomputable def X : Nat → ACall := cexec Try.prog HK ovA pu
theorem X_ok (n : Nat) : CallOK Try.prog (X n) := cexec_ok (by kernel_rfl) HK pu ovA_ok n
theorem X_awake (n : Nat) (h : AH) : X (n + 1) (.func 26) [] h = some (.bool true, h) := rfl
theorem X_79 (n : Nat) {args : List AV} {h : AH} {r : AV × AH} (e : ovI 79 args h = some r) : X (n + 1) (.func 79) args h = some r := by
  have e1 : ovA 79 args h = some r := by
    have e0 : closedOv [(26, .bool true)] 79 args h = none := by cases args <;> rfl
    unfold ovA
    rw [e0]
    simp only [e]
  simp only [X, cexec, e1]
theorem X_yield (n id : Nat) (args : List AV) (h : AH) : X (n + 1) (.yield id) args h = ayield Try.prog HK (X n) n id args h := rfl
end Go.Proofs.Ytgnacecplaemlaa
