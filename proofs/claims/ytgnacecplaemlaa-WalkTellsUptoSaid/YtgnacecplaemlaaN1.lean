/-
  Part 1 of 9 of the proof of WalkTells: the interpreter.
-/
import Derived.Below
import Derived.Laws.Append
import Derived.Laws.BytesString
import Derived.Laws.CopyRow
import Derived.Laws.StructEq
import Derived.LoopNIn
import Derived.Orders
import Derived.OrdersIn
import Derived.RangeFuncNested
import Derived.WalkKit
/-
  An abstract interpreter for the model's code, part 1: the trie, the abstract values, the abstract heap. Nothing here names the program.
-/
namespace Go.Proofs.Ytgnacecplaemlaa.AI

/-! ### A trie, indexed by numbers. Written with the recursors, so that the kernel runs it fast. -/
inductive Tr (α : Type) where
  | nil
  | node (v : Option α) (l r : Tr α)

namespace Tr
variable {α : Type}
noncomputable def get (t : Tr α) : Nat → Option α :=
  Tr.rec (motive := fun _ => Nat → Option α) (fun _ => none)
    (fun v _ _ gl gr i => Nat.rec (motive := fun _ => Option α) v
      (fun j _ => Nat.rec (motive := fun _ => Option α) (gl (Nat.div j 2)) (fun _ _ => gr (Nat.div j 2)) (Nat.mod j 2)) i) t
noncomputable def single (v : α) (fuel : Nat) : Nat → Tr α :=
  Nat.rec (motive := fun _ => Nat → Tr α) (fun _ => .node (some v) .nil .nil)
    (fun _ ih i => Nat.rec (motive := fun _ => Tr α) (.node (some v) .nil .nil)
      (fun j _ => Nat.rec (motive := fun _ => Tr α) (.node none (ih (Nat.div j 2)) .nil) (fun _ _ => .node none .nil (ih (Nat.div j 2))) (Nat.mod j 2)) i) fuel
noncomputable def set (v : α) (t : Tr α) : Nat → Tr α :=
  Tr.rec (motive := fun _ => Nat → Tr α) (fun i => single v i i)
    (fun u l r sl sr i => Nat.rec (motive := fun _ => Tr α) (.node (some v) l r)
      (fun j _ => Nat.rec (motive := fun _ => Tr α) (.node u (sl (Nat.div j 2)) r) (fun _ _ => .node u l (sr (Nat.div j 2))) (Nat.mod j 2)) i) t

theorem get_nil (i : Nat) : (Tr.nil : Tr α).get i = none := rfl
theorem get_zero (v : Option α) (l r : Tr α) : (Tr.node v l r).get 0 = v := rfl
theorem get_even (v : Option α) (l r : Tr α) (i : Nat) : (Tr.node v l r).get (2 * i + 1) = l.get i := by
  have h1 : Nat.mod (2 * i) 2 = 0 := by show 2 * i % 2 = 0; omega
  have h2 : Nat.div (2 * i) 2 = i := by show 2 * i / 2 = i; omega
  show Nat.rec (motive := fun _ => Option α) (l.get (Nat.div (2 * i) 2)) (fun _ _ => r.get (Nat.div (2 * i) 2)) (Nat.mod (2 * i) 2) = _
  rw [h1, h2]; rfl
theorem get_odd (v : Option α) (l r : Tr α) (i : Nat) : (Tr.node v l r).get (2 * i + 2) = r.get i := by
  have h1 : Nat.mod (2 * i + 1) 2 = 1 := by show (2 * i + 1) % 2 = 1; omega
  have h2 : Nat.div (2 * i + 1) 2 = i := by show (2 * i + 1) / 2 = i; omega
  show Nat.rec (motive := fun _ => Option α) (l.get (Nat.div (2 * i + 1) 2)) (fun _ _ => r.get (Nat.div (2 * i + 1) 2)) (Nat.mod (2 * i + 1) 2) = _
  rw [h1, h2]; rfl
theorem split (i : Nat) : i = 0 ∨ (∃ j, i = 2 * j + 1) ∨ ∃ j, i = 2 * j + 2 := by
  rcases Nat.eq_zero_or_pos i with h | h
  · exact .inl h
  · rcases Nat.mod_two_eq_zero_or_one i with h2 | h2
    · exact .inr (.inr ⟨i / 2 - 1, by omega⟩)
    · exact .inr (.inl ⟨i / 2, by omega⟩)
theorem set_zero (x : α) (v : Option α) (l r : Tr α) : (Tr.node v l r).set x 0 = .node (some x) l r := rfl
theorem set_even (x : α) (v : Option α) (l r : Tr α) (i : Nat) : (Tr.node v l r).set x (2 * i + 1) = .node v (l.set x i) r := by
  have h1 : Nat.mod (2 * i) 2 = 0 := by show 2 * i % 2 = 0; omega
  have h2 : Nat.div (2 * i) 2 = i := by show 2 * i / 2 = i; omega
  show Nat.rec (motive := fun _ => Tr α) (.node v (l.set x (Nat.div (2 * i) 2)) r) (fun _ _ => .node v l (r.set x (Nat.div (2 * i) 2))) (Nat.mod (2 * i) 2) = _
  rw [h1, h2]; rfl
theorem set_odd (x : α) (v : Option α) (l r : Tr α) (i : Nat) : (Tr.node v l r).set x (2 * i + 2) = .node v l (r.set x i) := by
  have h1 : Nat.mod (2 * i + 1) 2 = 1 := by show (2 * i + 1) % 2 = 1; omega
  have h2 : Nat.div (2 * i + 1) 2 = i := by show (2 * i + 1) / 2 = i; omega
  show Nat.rec (motive := fun _ => Tr α) (.node v (l.set x (Nat.div (2 * i + 1) 2)) r) (fun _ _ => .node v l (r.set x (Nat.div (2 * i + 1) 2))) (Nat.mod (2 * i + 1) 2) = _
  rw [h1, h2]; rfl
theorem single_zero (x : α) (f : Nat) : single x f 0 = .node (some x) .nil .nil := by cases f <;> rfl
theorem single_even (x : α) (f i : Nat) : single x (f + 1) (2 * i + 1) = .node none (single x f i) .nil := by
  have h1 : Nat.mod (2 * i) 2 = 0 := by show 2 * i % 2 = 0; omega
  have h2 : Nat.div (2 * i) 2 = i := by show 2 * i / 2 = i; omega
  show Nat.rec (motive := fun _ => Tr α) (.node none (single x f (Nat.div (2 * i) 2)) .nil) (fun _ _ => .node none .nil (single x f (Nat.div (2 * i) 2))) (Nat.mod (2 * i) 2) = _
  rw [h1, h2]; rfl
theorem single_odd (x : α) (f i : Nat) : single x (f + 1) (2 * i + 2) = .node none .nil (single x f i) := by
  have h1 : Nat.mod (2 * i + 1) 2 = 1 := by show (2 * i + 1) % 2 = 1; omega
  have h2 : Nat.div (2 * i + 1) 2 = i := by show (2 * i + 1) / 2 = i; omega
  show Nat.rec (motive := fun _ => Tr α) (.node none (single x f (Nat.div (2 * i + 1) 2)) .nil) (fun _ _ => .node none .nil (single x f (Nat.div (2 * i + 1) 2))) (Nat.mod (2 * i + 1) 2) = _
  rw [h1, h2]; rfl
theorem get_single (x : α) : ∀ (f i : Nat), i ≤ f → ∀ j, (single x f i).get j = if j = i then some x else none := by
  intro f
  induction f with
  | zero =>
    intro i hi j
    obtain rfl : i = 0 := by omega
    rw [single_zero]
    rcases split j with rfl | ⟨k, rfl⟩ | ⟨k, rfl⟩
    · rfl
    · rw [get_even, get_nil, if_neg (by omega)]
    · rw [get_odd, get_nil, if_neg (by omega)]
  | succ f ih =>
    intro i hi j
    rcases split i with rfl | ⟨m, rfl⟩ | ⟨m, rfl⟩
    · rw [single_zero]
      rcases split j with rfl | ⟨k, rfl⟩ | ⟨k, rfl⟩
      · rfl
      · rw [get_even, get_nil, if_neg (by omega)]
      · rw [get_odd, get_nil, if_neg (by omega)]
    · rw [single_even]
      rcases split j with rfl | ⟨k, rfl⟩ | ⟨k, rfl⟩
      · rw [get_zero, if_neg (by omega)]
      · rw [get_even, ih m (by omega) k]
        by_cases h : k = m
        · subst h; rw [if_pos rfl, if_pos rfl]
        · rw [if_neg h, if_neg (by omega)]
      · rw [get_odd, get_nil, if_neg (by omega)]
    · rw [single_odd]
      rcases split j with rfl | ⟨k, rfl⟩ | ⟨k, rfl⟩
      · rw [get_zero, if_neg (by omega)]
      · rw [get_even, get_nil, if_neg (by omega)]
      · rw [get_odd, ih m (by omega) k]
        by_cases h : k = m
        · subst h; rw [if_pos rfl, if_pos rfl]
        · rw [if_neg h, if_neg (by omega)]
theorem get_set (x : α) (t : Tr α) : ∀ i j, (t.set x i).get j = if j = i then some x else t.get j := by
  induction t with
  | nil => intro i j; show (single x i i).get j = _; rw [get_single x i i (Nat.le_refl _) j, get_nil]
  | node v l r il ir =>
    intro i j
    rcases split i with rfl | ⟨m, rfl⟩ | ⟨m, rfl⟩
    · rw [set_zero]
      rcases split j with rfl | ⟨k, rfl⟩ | ⟨k, rfl⟩
      · rfl
      · rw [get_even, get_even, if_neg (by omega)]
      · rw [get_odd, get_odd, if_neg (by omega)]
    · rw [set_even]
      rcases split j with rfl | ⟨k, rfl⟩ | ⟨k, rfl⟩
      · rw [get_zero, get_zero, if_neg (by omega)]
      · rw [get_even, get_even, il]
        by_cases h : k = m
        · subst h; rw [if_pos rfl, if_pos rfl]
        · rw [if_neg h, if_neg (by omega)]
      · rw [get_odd, get_odd, if_neg (by omega)]
    · rw [set_odd]
      rcases split j with rfl | ⟨k, rfl⟩ | ⟨k, rfl⟩
      · rw [get_zero, get_zero, if_neg (by omega)]
      · rw [get_even, get_even, if_neg (by omega)]
      · rw [get_odd, get_odd, ir]
        by_cases h : k = m
        · subst h; rw [if_pos rfl, if_pos rfl]
        · rw [if_neg h, if_neg (by omega)]
theorem get_set_same (x : α) (t : Tr α) (i : Nat) : (t.set x i).get i = some x := by rw [get_set, if_pos rfl]
theorem get_set_ne (x : α) (t : Tr α) {i j : Nat} (h : j ≠ i) : (t.set x i).get j = t.get j := by rw [get_set, if_neg h]
end Tr

/-! ### Abstract values -/
inductive AV where
  | bool (b : Bool)
  | int (k : IntKind) (n : Int)
  | str (s : List Nat)
  | nilp
  /-- a place in an abstract block -/
  | ptr (id off : Nat)
  | nilSl
  /-- a slice: its block, the place of its first cell, its length, the cells of an element, its capacity if it is known -/
  | sl (id off len es : Nat) (cap : Option Nat)
  | nilMap
  | fn (f : Fn) (first captured : List AV)
  | nilFn
  | iface (t : TypeId) (v : AV)
  | nilIface
  | agg (l : List AV)
  | tup (l : List AV)
  /-- nothing is known -/
  | top
  deriving Inhabited

/-- The bytes of a string as numbers. -/
def nats (s : ByteArray) : List Nat := s.data.toList.map UInt8.toNat

/-- Where an abstract block lies: the concrete block, the cell in it at which the abstract place 'lo' lies, how many cells from there on are its own. -/
structure Reg where
  blk : Nat
  base : Nat
  lo : Nat
  ext : Nat

abbrev Inj := Nat → Option Reg

mutual
inductive VR (f : Inj) : Value → AV → Prop where
  | top (v : Value) : VR f v .top
  | bool (b : Bool) : VR f (.bool b) (.bool b)
  | int (k : IntKind) (n : Int) : VR f (.int k n) (.int k n)
  | str (s : ByteArray) (l : List Nat) (h : l = nats s) : VR f (.string s) (.str l)
  | nilp : VR f (.pointer none) .nilp
  | ptr (id off : Nat) (r : Reg) (h : f id = some r) (hlo : r.lo ≤ off) : VR f (.pointer (some ⟨r.blk, r.base + (off - r.lo), none⟩)) (.ptr id off)
  | nilSl : VR f (.slice none 0 0) .nilSl
  | sl (id off len es : Nat) (c : Option Nat) (r : Reg) (O cap : Nat) (h : f id = some r) (hlo : r.lo ≤ off) (hlen : len ≤ cap)
      (hO : cap = 0 ∨ (O = r.base + (off - r.lo) ∧ (off - r.lo) + cap * es ≤ r.ext)) (hc : ∀ k, c = some k → cap = k) (sp : Option Nat := none) (hsp : cap = 0 ∨ sp = none := by exact .inr rfl) :
      VR f (.slice (some ⟨r.blk, O, sp⟩) len cap) (.sl id off len es c)
  | nilMap : VR f (.map none) .nilMap
  | fn (g : FuncId) (first captured : Array Value) (l1 l2 : List AV) (h1 : VRs f first.toList l1) (h2 : VRs f captured.toList l2) : VR f (.func (.func g) first captured) (.fn (.func g) l1 l2)
  /-- the function that a loop over a function hands on -/
  | yld (id : Nat) (r : Reg) (h : f id = some r) : VR f (.func (.yield r.blk) #[] #[]) (.fn (.yield id) [] [])
  | nilFn : VR f .nilFunc .nilFn
  | iface (t : TypeId) (v : Value) (a : AV) (h : VR f v a) : VR f (.iface t v) (.iface t a)
  | nilIface : VR f .nilIface .nilIface
  | agg (cs : Array Value) (l : List AV) (h : VRs f cs.toList l) : VR f (.agg cs) (.agg l)
  | tup (cs : Array Value) (l : List AV) (h : VRs f cs.toList l) : VR f (.tuple cs) (.tup l)
inductive VRs (f : Inj) : List Value → List AV → Prop where
  | nil : VRs f [] []
  | cons (v : Value) (a : AV) (vs : List Value) (as : List AV) (h : VR f v a) (hs : VRs f vs as) : VRs f (v :: vs) (a :: as)
end

/-- f' says all that f says. -/
def Ext (f f' : Inj) : Prop := ∀ id r, f id = some r → f' id = some r
theorem Ext.refl (f : Inj) : Ext f f := fun _ _ h => h
theorem Ext.trans {f g h : Inj} (a : Ext f g) (b : Ext g h) : Ext f h := fun _ _ e => b _ _ (a _ _ e)

mutual
theorem VR.mono {f f' : Inj} (he : Ext f f') {v : Value} {a : AV} (h : VR f v a) : VR f' v a := by
  cases h with
  | top => exact .top _
  | bool => exact .bool _
  | int => exact .int _ _
  | str s l h => exact .str s l h
  | nilp => exact .nilp
  | ptr id off r h hlo => exact .ptr id off r (he _ _ h) hlo
  | nilSl => exact .nilSl
  | sl id off len es c r O cap h hlo hlen hO hc sp hsp => exact .sl id off len es c r O cap (he _ _ h) hlo hlen hO hc sp hsp
  | nilMap => exact .nilMap
  | fn g first captured l1 l2 h1 h2 => exact .fn g _ _ _ _ (VRs.mono he h1) (VRs.mono he h2)
  | yld id r h => exact .yld id r (he _ _ h)
  | nilFn => exact .nilFn
  | iface t v a h => exact .iface t _ _ (VR.mono he h)
  | nilIface => exact .nilIface
  | agg cs l h => exact .agg cs _ (VRs.mono he h)
  | tup cs l h => exact .tup cs _ (VRs.mono he h)
theorem VRs.mono {f f' : Inj} (he : Ext f f') {vs : List Value} {as : List AV} (h : VRs f vs as) : VRs f' vs as := by
  cases h with
  | nil => exact .nil
  | cons v a vs as h hs => exact .cons _ _ _ _ (VR.mono he h) (VRs.mono he hs)
end

theorem VRs.length {f : Inj} : ∀ {vs : List Value} {as : List AV}, VRs f vs as → vs.length = as.length
  | _, _, .nil => rfl
  | _, _, .cons _ _ _ _ _ hs => by simp [VRs.length hs]
theorem VRs.get {f : Inj} : ∀ {vs : List Value} {as : List AV}, VRs f vs as → ∀ (i : Nat) (a : AV), as[i]? = some a → ∃ v, vs[i]? = some v ∧ VR f v a
  | _, _, .nil, i, a, h => by simp at h
  | _, _, .cons v a0 vs as h0 hs, 0, a, h => by simp at h; subst h; exact ⟨v, rfl, h0⟩
  | _, _, .cons v a0 vs as h0 hs, i + 1, a, h => by simp at h; simpa using VRs.get hs i a h
theorem VRs.append {f : Inj} : ∀ {vs : List Value} {as : List AV} {us : List Value} {bs : List AV}, VRs f vs as → VRs f us bs → VRs f (vs ++ us) (as ++ bs)
  | _, _, _, _, .nil, h => h
  | _, _, _, _, .cons v a vs as h0 hs, h => .cons v a _ _ h0 (VRs.append hs h)
theorem VRs.drop {f : Inj} : ∀ {vs : List Value} {as : List AV} (n : Nat), VRs f vs as → VRs f (vs.drop n) (as.drop n)
  | _, _, 0, h => h
  | _, _, _ + 1, .nil => .nil
  | _, _, n + 1, .cons _ _ _ _ _ hs => VRs.drop n hs
theorem VRs.take {f : Inj} : ∀ {vs : List Value} {as : List AV} (n : Nat), VRs f vs as → VRs f (vs.take n) (as.take n)
  | _, _, 0, _ => .nil
  | _, _, _ + 1, .nil => .nil
  | _, _, n + 1, .cons _ _ _ _ h hs => .cons _ _ _ _ h (VRs.take n hs)
theorem VRs.of_get {f : Inj} : ∀ {vs : List Value} {as : List AV}, vs.length = as.length → (∀ (i : Nat) (v : Value) (a : AV), vs[i]? = some v → as[i]? = some a → VR f v a) → VRs f vs as
  | [], [], _, _ => .nil
  | [], _ :: _, h, _ => by simp at h
  | _ :: _, [], h, _ => by simp at h
  | v :: vs, a :: as, h, hg => .cons _ _ _ _ (hg 0 v a rfl rfl) (VRs.of_get (by simpa using h) (fun i v a h1 h2 => hg (i + 1) v a (by simpa using h1) (by simpa using h2)))
theorem VRs.single {f : Inj} {v : Value} {a : AV} (h : VR f v a) : VRs f [v] [a] := .cons _ _ _ _ h .nil

/-- The cells of a value. -/
def AV.cells : AV → List AV
  | .agg l => l
  | v => [v]
/-- A value of one cell, known not to be a struct or a tuple. -/
def AV.atom : AV → Bool
  | .agg _ | .tup _ | .top => false
  | _ => true
theorem VR.atom {f : Inj} {v : Value} {a : AV} (h : VR f v a) (ha : a.atom = true) : v.oneCell' = true ∧ v.cells = #[v] ∧ (∀ c, v ≠ .agg c) ∧ (∀ c, v ≠ .tuple c) := by
  cases h <;> simp_all [AV.atom, Value.oneCell', Value.cells]
theorem VR.cells {f : Inj} {v : Value} {a : AV} (h : VR f v a) (ha : a ≠ .top) : VRs f v.cells.toList a.cells := by
  cases h <;> first | (exact absurd rfl ha) | (exact .single (by first | assumption | constructor <;> assumption)) | (simp only [Value.cells, AV.cells]; assumption)

/-! ### Constants -/
def ofAtom : Value → AV
  | .bool b => .bool b
  | .int k n => .int k n
  | .string s => .str (nats s)
  | .pointer none => .nilp
  | .slice none 0 0 => .nilSl
  | .map none => .nilMap
  | .nilFunc => .nilFn
  | .nilIface => .nilIface
  | _ => .top
def ofConst : Value → AV
  | .agg cs => .agg (cs.toList.map ofAtom)
  | .iface t v => .iface t (ofAtom v)
  | v => ofAtom v
theorem VR.ofAtom (f : Inj) (v : Value) : VR f v (ofAtom v) := by
  unfold AI.ofAtom
  split <;> first | exact .top _ | constructor
  rfl
theorem VRs.ofAtoms (f : Inj) : ∀ l : List Value, VRs f l (l.map AI.ofAtom)
  | [] => .nil
  | v :: l => .cons _ _ _ _ (VR.ofAtom f v) (VRs.ofAtoms f l)
theorem VR.ofConst (f : Inj) (v : Value) : VR f v (ofConst v) := by
  unfold AI.ofConst
  split
  · exact .agg _ _ (VRs.ofAtoms f _)
  · exact .iface _ _ _ (VR.ofAtom f _)
  · exact VR.ofAtom f _

/-! ### The abstract heap -/
structure Blk where
  lo : Nat
  hi : Nat
  /-- came in: never written -/
  ro : Bool
  cells : Tr AV
/-- How it stands with a loop over a function: between rounds; in a round; a round has left by a jump. -/
inductive LSt where
  | ready
  | busy
  | ret
  | exit (id : Nat)
/-- A loop over a function: the function that it stands in, its frame, yield's parameters, the assignment, the body. -/
structure ALoop where
  st : LSt
  fn : FuncId
  fr : List AV
  ps : Array Tmp
  asg : Code
  body : Code
/-- What is no cells: a loop over a function; a walk through a string. -/
inductive AObj where
  | loop (L : ALoop)
  | iter (s : List Nat) (pos : Nat)
structure AH where
  m : Tr (Option Blk)
  ob : Tr (Option AObj)
  next : Nat

noncomputable def AH.blk? (h : AH) (id : Nat) : Option Blk := Option.rec (motive := fun _ => Option Blk) none (fun x => x) (h.m.get id)
noncomputable def AH.ob? (h : AH) (id : Nat) : Option AObj := Option.rec (motive := fun _ => Option AObj) none (fun x => x) (h.ob.get id)
noncomputable def AH.putOb (h : AH) (id : Nat) (b : Option AObj) : AH := { m := h.m, ob := h.ob.set b id, next := h.next }
noncomputable def AH.newOb (h : AH) (b : AObj) : AH := { m := h.m, ob := h.ob.set (some b) h.next, next := h.next + 1 }
theorem AH.ob?_putOb (h : AH) (id : Nat) (b : Option AObj) (j : Nat) : (h.putOb id b).ob? j = if j = id then b else h.ob? j := by
  unfold AH.ob? AH.putOb
  simp only [Tr.get_set]
  by_cases hj : j = id
  · rw [if_pos hj, if_pos hj]
  · rw [if_neg hj, if_neg hj]
theorem AH.ob?_newOb (h : AH) (b : AObj) (j : Nat) : (h.newOb b).ob? j = if j = h.next then some b else h.ob? j := by
  unfold AH.ob? AH.newOb
  simp only [Tr.get_set]
  by_cases hj : j = h.next
  · rw [if_pos hj, if_pos hj]
  · rw [if_neg hj, if_neg hj]
theorem AH.blk?_putOb (h : AH) (id : Nat) (b : Option AObj) (j : Nat) : (h.putOb id b).blk? j = h.blk? j := rfl
theorem AH.blk?_newOb (h : AH) (b : AObj) (j : Nat) : (h.newOb b).blk? j = h.blk? j := rfl
noncomputable def AH.put (h : AH) (id : Nat) (b : Option Blk) : AH := { m := h.m.set b id, ob := h.ob, next := h.next }
theorem AH.ob?_put (h : AH) (id : Nat) (b : Option Blk) (j : Nat) : (h.put id b).ob? j = h.ob? j := rfl
theorem AH.blk?_put (h : AH) (id : Nat) (b : Option Blk) (j : Nat) : (h.put id b).blk? j = if j = id then b else h.blk? j := by
  unfold AH.blk? AH.put
  simp only [Tr.get_set]
  by_cases hj : j = id
  · rw [if_pos hj, if_pos hj]
  · rw [if_neg hj, if_neg hj]
noncomputable def Blk.get (b : Blk) (o : Nat) : Option AV :=
  Bool.rec (motive := fun _ => Option AV) none (Bool.rec (motive := fun _ => Option AV) none (b.cells.get o) (Nat.blt o b.hi)) (Nat.ble b.lo o)
theorem Blk.get_eq (b : Blk) (o : Nat) : b.get o = if b.lo ≤ o ∧ o < b.hi then b.cells.get o else none := by
  unfold Blk.get
  by_cases h1 : b.lo ≤ o
  · have e1 : Nat.ble b.lo o = true := Nat.ble_eq.mpr h1
    by_cases h2 : o < b.hi
    · have e2 : Nat.blt o b.hi = true := Nat.blt_eq.mpr h2
      rw [e1, e2, if_pos ⟨h1, h2⟩]
    · have e2 : Nat.blt o b.hi = false := by cases e : Nat.blt o b.hi; rfl; exact absurd (Nat.blt_eq.mp e) h2
      rw [e1, e2, if_neg (fun h => h2 h.2)]
  · have e1 : Nat.ble b.lo o = false := by cases e : Nat.ble b.lo o; rfl; exact absurd (Nat.ble_eq.mp e) h1
    rw [e1, if_neg (fun h => h1 h.1)]
/-- A cell of the abstract heap. -/
noncomputable def AH.cell? (h : AH) (id off : Nat) : Option AV := Option.rec (motive := fun _ => Option AV) none (fun b => b.get off) (h.blk? id)
theorem AH.cell?_eq (h : AH) (id off : Nat) : h.cell? id off = (h.blk? id).bind fun b => b.get off := by
  unfold AH.cell?; cases h.blk? id <;> rfl
/-- Cells from a place on. -/
noncomputable def AH.cells? (h : AH) (id : Nat) (n : Nat) : Nat → Option (List AV) :=
  Nat.rec (motive := fun _ => Nat → Option (List AV)) (fun _ => some [])
    (fun _ ih off => Option.rec (motive := fun _ => Option (List AV)) none (fun v => Option.rec (motive := fun _ => Option (List AV)) none (fun l => some (v :: l)) (ih (off + 1))) (h.cell? id off)) n
theorem AH.cells?_zero (h : AH) (id off : Nat) : h.cells? id 0 off = some [] := rfl
theorem AH.cells?_succ (h : AH) (id n off : Nat) : h.cells? id (n + 1) off = (h.cell? id off).bind fun v => (h.cells? id n (off + 1)).bind fun l => some (v :: l) := by
  show Option.rec (motive := fun _ => Option (List AV)) none (fun v => Option.rec (motive := fun _ => Option (List AV)) none (fun l => some (v :: l)) (h.cells? id n (off + 1))) (h.cell? id off) = _
  cases h.cell? id off
  · rfl
  · cases h.cells? id n (off + 1) <;> rfl
theorem AH.cells?_spec (h : AH) (id : Nat) : ∀ (n off : Nat) (l : List AV), h.cells? id n off = some l → l.length = n ∧ ∀ i a, l[i]? = some a → h.cell? id (off + i) = some a
  | 0, off, l, e => by rw [cells?_zero] at e; injection e with e; subst e; simp
  | n + 1, off, l, e => by
    rw [cells?_succ] at e
    obtain ⟨v, hv, e⟩ := Option.bind_eq_some_iff.mp e
    obtain ⟨l', hl, e⟩ := Option.bind_eq_some_iff.mp e
    injection e with e
    subst e
    obtain ⟨h1, h2⟩ := AH.cells?_spec h id n (off + 1) l' hl
    refine ⟨by simp [h1], fun i a hi => ?_⟩
    cases i with
    | zero => simp at hi; subst hi; exact hv
    | succ i => have := h2 i a (by simpa using hi); rw [← this]; congr 1; omega
/-- Cells put into a trie, from a place on. -/
noncomputable def putCells (l : List AV) : Nat → Tr AV → Tr AV :=
  List.rec (motive := fun _ => Nat → Tr AV → Tr AV) (fun _ t => t) (fun v _ ih i t => ih (i + 1) (t.set v i)) l
theorem putCells_cons (v : AV) (l : List AV) (i : Nat) (t : Tr AV) : putCells (v :: l) i t = putCells l (i + 1) (t.set v i) := rfl
theorem get_putCells : ∀ (l : List AV) (i : Nat) (t : Tr AV) (j : Nat), (putCells l i t).get j = if i ≤ j ∧ j < i + l.length then l[j - i]? else t.get j
  | [], i, t, j => by rw [if_neg (by rintro ⟨a, b⟩; simp at b; omega)]; rfl
  | v :: l, i, t, j => by
    rw [putCells_cons, get_putCells l (i + 1) (t.set v i) j, Tr.get_set]
    by_cases h1 : j = i
    · subst h1; rw [if_neg (by omega), if_pos rfl, if_pos (by simp)]; simp
    · rw [if_neg h1]
      by_cases h2 : i + 1 ≤ j ∧ j < i + 1 + l.length
      · rw [if_pos h2, if_pos (by simp; omega)]
        have : j - i = (j - (i + 1)) + 1 := by omega
        rw [this]; simp
      · rw [if_neg h2, if_neg (by simp; omega)]
/-- A new block. -/
noncomputable def AH.alloc (h : AH) (l : List AV) : AH := { m := h.m.set (some { lo := 0, hi := l.length, ro := false, cells := putCells l 0 .nil }) h.next, ob := h.ob, next := h.next + 1 }
theorem AH.blk?_alloc (h : AH) (l : List AV) (j : Nat) : (h.alloc l).blk? j = if j = h.next then some { lo := 0, hi := l.length, ro := false, cells := putCells l 0 .nil } else h.blk? j := by
  unfold AH.blk? AH.alloc
  simp only [Tr.get_set]
  by_cases hj : j = h.next
  · rw [if_pos hj, if_pos hj]
  · rw [if_neg hj, if_neg hj]
theorem AH.ob?_alloc (h : AH) (l : List AV) (j : Nat) : (h.alloc l).ob? j = h.ob? j := rfl
/-- What calls come to. -/
abbrev ACall := Fn → List AV → AH → Option (AV × AH)
end Go.Proofs.Ytgnacecplaemlaa.AI
/-
  An abstract interpreter for the model's code, part 2: what an operation, a region, a piece of code, a function comes to.
-/
namespace Go.Proofs.Ytgnacecplaemlaa.AI

/-! ### Types -/
def asize (P : Program) (t : TypeId) : Option Nat := (P.info? t).map (·.size)
def aisAgg (P : Program) (t : TypeId) : Option Bool :=
  match P.underlying t with
  | some (.struct _) | some (.array _ _) => some true
  | some _ => some false
  | none => none
def azero (P : Program) (t : TypeId) : Option AV := ((P.info? t).bind (·.zero)).map ofConst

/-! ### Operands -/
def aev (fr : List AV) : Operand → AV
  | .tmp t => fr.getD t .top
  | .const v => ofConst v
  | .global _ => .top
  | .func f => .fn (.func f) [] []
def aput (fr : List AV) (dst : Option Tmp) (v : AV) : List AV :=
  match dst with
  | some d => fr.set d v
  | none => fr

/-! ### Operations that look at no memory -/
def aIntOp (op : BinOp) (k : IntKind) (a b : Int) : Option AV :=
  match op with
  | .add => some (.int k (k.wrap (a + b)))
  | .sub => some (.int k (k.wrap (a - b)))
  | .mul => some (.int k (k.wrap (a * b)))
  | .quo => if b = 0 then none else some (.int k (k.wrap (a.tdiv b)))
  | .rem => if b = 0 then none else some (.int k (a.tmod b))
  | .and => some (.int k (k.wrap (BitVec.ofInt k.bits a &&& BitVec.ofInt k.bits b).toNat))
  | .or => some (.int k (k.wrap (BitVec.ofInt k.bits a ||| BitVec.ofInt k.bits b).toNat))
  | .xor => some (.int k (k.wrap (BitVec.ofInt k.bits a ^^^ BitVec.ofInt k.bits b).toNat))
  | .andNot => some (.int k (k.wrap (BitVec.ofInt k.bits a &&& ~~~ BitVec.ofInt k.bits b).toNat))
  | .eql => some (.bool (a == b))
  | .neq => some (.bool (a != b))
  | .lss => some (.bool (a < b))
  | .leq => some (.bool (a ≤ b))
  | .gtr => some (.bool (a > b))
  | .geq => some (.bool (a ≥ b))
  | .shl | .shr => none
def natsLess : List Nat → List Nat → Bool
  | _, [] => false
  | [], _ :: _ => true
  | a :: x, b :: y => Nat.blt a b || (Nat.beq a b && natsLess x y)
def natsEq : List Nat → List Nat → Bool
  | [], [] => true
  | a :: x, b :: y => Nat.beq a b && natsEq x y
  | _, _ => false
def aStrOp (op : BinOp) (x y : List Nat) : Option AV :=
  match op with
  | .add => if x.length + y.length ≤ 9223372036854775807 then some (.str (x ++ y)) else none
  | .eql => some (.bool (natsEq x y))
  | .neq => some (.bool (!natsEq x y))
  | .lss => some (.bool (natsLess x y))
  | .leq => some (.bool (natsLess x y || natsEq x y))
  | .gtr => some (.bool (!(natsLess x y || natsEq x y)))
  | .geq => some (.bool (!natsLess x y))
  | _ => none
/-- A part of a struct's or an array's cells. -/
def apart (P : Program) (t : TypeId) (cs : List AV) (off : Nat) : Option AV :=
  match aisAgg P t, asize P t with
  | some true, some n => if off + n ≤ cs.length then some (.agg ((cs.drop off).take n)) else none
  | some false, _ => cs[off]?
  | _, _ => none
/-- '==' of structs, field by field. -/
def aeqFields (P : Program) (eq : TypeId → AV → AV → Option Bool) (xs ys : List AV) : List Field → Option Bool
  | [] => some true
  | f :: fs =>
    if f.name ≠ "_" then
      match apart P f.type xs f.offset, apart P f.type ys f.offset with
      | some a, some b =>
        match eq f.type a b with
        | some true => aeqFields P eq xs ys fs
        | some false => some false
        | none => none
      | _, _ => none
    else aeqFields P eq xs ys fs
def aeq1 (P : Program) (eq : TypeId → AV → AV → Option Bool) (t : TypeId) (x y : AV) : Option Bool :=
  match P.underlying t, x, y with
  | some .bool, .bool a, .bool b => some (a == b)
  | some (.int _), .int k a, .int k' b => if k = k' then some (a == b) else none
  | some .string, .str a, .str b => some (natsEq a b)
  | some (.pointer _), .nilp, .nilp => some true
  | some (.pointer _), .nilp, .ptr _ _ => some false
  | some (.pointer _), .ptr _ _, .nilp => some false
  | some (.slice _), .nilSl, .nilSl => some true
  | some (.slice _), .nilSl, .sl .. => some false
  | some (.slice _), .sl .., .nilSl => some false
  | some (.func ..), .nilFn, .nilFn => some true
  | some (.func ..), .nilFn, .fn .. => some false
  | some (.func ..), .fn .., .nilFn => some false
  | some (.interface _), .nilIface, .nilIface => some true
  | some (.interface _), .nilIface, .iface .. => some false
  | some (.interface _), .iface .., .nilIface => some false
  | some (.map ..), .nilMap, .nilMap => some true
  | some (.struct fields), .agg xs, .agg ys => if P.stoodInHeld t then none else aeqFields P eq xs ys fields.toList
  | _, _, _ => none
/-- '==' at a type. -/
def aeq (P : Program) : Nat → TypeId → AV → AV → Option Bool
  | 0, _, _, _ => none
  | d + 1, t, x, y => aeq1 P (aeq P d) t x y
def isCst : Operand → Bool
  | .const _ => true
  | _ => false
def aguard (P : Program) (xt : TypeId) (xo yo : Operand) (x y : AV) : Bool :=
  match x, y with
  | .nilIface, .nilIface => isCst xo || isCst yo
  | .agg _, .agg _ => !P.eqGuardType P.depth xt
  | _, _ => true
def abin (P : Program) (op : BinOp) (xt : TypeId) (xo yo : Operand) (x y : AV) : Option AV :=
  match x, y with
  | .int k a, .int k' b =>
    match op with
    | .shl => if b < 0 then none else some (.int k (k.wrap (a * 2 ^ (min b.toNat k.bits))))
    | .shr => if b < 0 then none else some (.int k (a.fdiv (2 ^ (min b.toNat k.bits))))
    | op => if k = k' then aIntOp op k a b else none
  | .str a, .str b => aStrOp op a b
  | x, y =>
    match op with
    | .eql => if aguard P xt xo yo x y then (aeq P Op.maxDepth xt x y).map .bool else none
    | .neq => if aguard P xt xo yo x y then (aeq P Op.maxDepth xt x y).map (fun b => .bool (!b)) else none
    | _ => none
def aun (op : UnOp) (x : AV) : Option AV :=
  match op, x with
  | .not, .bool b => some (.bool (!b))
  | .neg, .int k n => some (.int k (k.wrap (0 - n)))
  | .xor, .int k n => some (.int k (k.wrap (BitVec.ofInt k.bits (if k.signed then -1 else k.max) ^^^ BitVec.ofInt k.bits n).toNat))
  | _, _ => none
def aIx (x : AV) (most : Nat) : Option Nat :=
  match x with
  | .int _ i => if 0 ≤ i ∧ i ≤ (most : Int) then some i.toNat else none
  | _ => none
def abound (x : Option AV) (most dflt : Nat) : Option Nat :=
  match x with
  | none => some dflt
  | some v => aIx v most
def aslice (P : Program) (t : TypeId) (x : AV) (lo hi mx : Option AV) : Option AV :=
  match P.underlying t, x with
  | some .string, .str s =>
    if mx.isSome then none else
    match abound hi s.length s.length with
    | none => none
    | some h =>
      match abound lo h 0 with
      | none => none
      | some l => some (.str ((s.drop l).take (h - l)))
  | some (.slice e), .nilSl =>
    match asize P e, abound mx 0 0 with
    | some _, some m =>
      match abound hi m 0 with
      | none => none
      | some h =>
        match abound lo h 0 with
        | none => none
        | some _ => if mx.isSome && !hi.isSome then none else some .nilSl
    | _, _ => none
  | some (.slice e), .sl id off len es c =>
    match asize P e with
    | none => none
    | some n =>
      if n ≠ es then none else
      match mx with
      | none =>
        match abound hi (c.getD len) len with
        | none => none
        | some h =>
          match abound lo h 0 with
          | none => none
          | some l => some (.sl id (off + l * es) (h - l) es (c.map (· - l)))
      | some m =>
        if !hi.isSome then none else
        match aIx m (c.getD len) with
        | none => none
        | some m =>
          match abound hi m 0 with
          | none => none
          | some h =>
            match abound lo h 0 with
            | none => none
            | some l => some (.sl id (off + l * es) (h - l) es (some (m - l)))
  | _, _ => none
def afieldAt (P : Program) (s : TypeId) (x : AV) (f : Nat) : Option AV :=
  match P.underlying s, x with
  | some (.struct fields), .ptr id off =>
    match fields[f]? with
    | none => none
    | some fd =>
      match asize P fd.type with
      | some (_ + 1) => some (.ptr id (off + fd.offset))
      | _ => none
  | _, _ => none
def aindexAt (P : Program) (t : TypeId) (x ix : AV) : Option AV :=
  match P.underlying t, x, ix with
  | some (.slice e), .sl id off len es _, .int _ i =>
    match asize P e with
    | none => none
    | some n => if n = es ∧ 0 ≤ i ∧ i < (len : Int) then some (.ptr id (off + i.toNat * es)) else none
  | some (.array len e), .ptr id off, .int _ i =>
    match asize P e with
    | none => none
    | some n => if 0 ≤ i ∧ i < (len : Int) then some (.ptr id (off + i.toNat * n)) else none
  | _, _, _ => none
def aindex (P : Program) (t : TypeId) (x ix : AV) : Option AV :=
  match P.underlying t, x, ix with
  | some .string, .str s, .int _ i => if 0 ≤ i then (s[i.toNat]?).map (fun b => .int .u8 (b : Int)) else none
  | some (.array len e), .agg cs, .int _ i =>
    match asize P e with
    | none => none
    | some n => if 0 ≤ i ∧ i < (len : Int) then apart P e cs (i.toNat * n) else none
  | _, _, _ => none
def AV.isTop : AV → Bool
  | .top => true
  | _ => false
def afill (place : Nat → Option (Nat × Nat)) (cells : List AV) : List (Nat × AV) → Option (List AV)
  | [] => some cells
  | (i, v) :: rest =>
    match place i with
    | none => none
    | some (off, size) =>
      if v.isTop || v.cells.length != size || Nat.blt cells.length (off + size) then none
      else afill place (cells.take off ++ v.cells ++ cells.drop (off + size)) rest
def aplaces (P : Program) : List Field → Option (List (Nat × Nat))
  | [] => some []
  | f :: fs =>
    match asize P f.type, aplaces P fs with
    | some n, some l => some ((f.offset, n) :: l)
    | _, _ => none
def abuild (P : Program) (t : TypeId) (parts : List (Nat × AV)) : Option AV :=
  match azero P t, P.underlying t with
  | some z, some (.struct fields) =>
    if z.isTop then none else
    match aplaces P fields.toList with
    | none => none
    | some places => (afill (places[·]?) z.cells parts).map .agg
  | some z, some (.array _ e) =>
    if z.isTop then none else
    match asize P e with
    | none => none
    | some n => (afill (fun i => some (i * n, n)) z.cells parts).map .agg
  | _, _ => none
def alen (P : Program) (t : TypeId) (x : AV) : Option Nat :=
  match P.underlying t, x with
  | some .string, .str s => some s.length
  | some (.slice _), .sl _ _ n _ _ => some n
  | some (.slice _), .nilSl => some 0
  | some (.map ..), .nilMap => some 0
  | _, _ => none
def acap (P : Program) (t : TypeId) (x : AV) : Option Nat :=
  match P.underlying t, x with
  | some (.slice _), .sl _ _ _ _ c => c
  | some (.slice _), .nilSl => some 0
  | _, _ => none
def afold2 (g : Int → Int → Bool) : AV → List AV → Option AV
  | x, [] => some x
  | .int k a, .int _ b :: rest => afold2 g (.int k (if g a b then b else a)) rest
  | _, _ :: _ => none
def isInt : AV → Bool
  | .int .. => true
  | _ => false
def anilCheck (x : AV) : Option AV :=
  match x with
  | .ptr id off => some (.ptr id off)
  | .fn (.func f) a b => some (.fn (.func f) a b)
  | .iface t v => some (.iface t v)
  | _ => none
def aconv (P : Program) (src dst : TypeId) (x : AV) : Option AV :=
  match P.underlying src, P.underlying dst, x with
  | some _, some (.int k), .int _ n => some (.int k (k.wrap n))
  | some _, some .string, .str s => some (.str s)
  | _, _, _ => none
def apure (P : Program) (ρ : Operand → AV) (o : Oper) : Option AV :=
  match o.op with
  | .move x | .assign x => some (ρ x)
  | .pick c a b =>
    match ρ c with
    | .bool t => some (if t then ρ a else ρ b)
    | _ => none
  | .nilCheck x => anilCheck (ρ x)
  | .binOp op xt x y _ => abin P op xt x y (ρ x) (ρ y)
  | .unOp op _ x => aun op (ρ x)
  | .convert src dst x => aconv P src dst (ρ x)
  | .makeInterface xt x =>
    match P.underlying xt with
    | some (.interface _) | none => none
    | some _ => some (.iface xt (ρ x))
  | .makeFunc fn first captured =>
    match fn with
    | .func g => some (.fn (.func g) (first.toList.map ρ) (captured.toList.map ρ))
    | _ => none
  | .slice t x lo hi mx =>
    match P.underlying t with
    | some .string | some (.slice _) => aslice P t (ρ x) (lo.map ρ) (hi.map ρ) (mx.map ρ)
    | _ => none
  | .fieldAddr s x f => afieldAt P s (ρ x) f
  | .field t x f =>
    match P.underlying t, ρ x with
    | some (.struct fields), .agg cs =>
      match fields[f]? with
      | some fd => apart P fd.type cs fd.offset
      | none => none
    | _, _ => none
  | .indexAddr t x ix => aindexAt P t (ρ x) (ρ ix)
  | .index t x ix => aindex P t (ρ x) (ρ ix)
  | .extract t ix =>
    match ρ t with
    | .tup l => l[ix]?
    | _ => none
  | .build t parts => abuild P t (parts.toList.map fun p => (p.1, ρ p.2))
  | .call { callee := .builtin .len, args, argTypes } =>
    match argTypes[0]?, args[0]? with
    | some t, some x => (alen P t (ρ x)).map fun n => .int .i64 (n : Int)
    | _, _ => none
  | .call { callee := .builtin .cap, args, argTypes } =>
    match argTypes[0]?, args[0]? with
    | some t, some x => (acap P t (ρ x)).map fun n => .int .i64 (n : Int)
    | _, _ => none
  | .call { callee := .builtin .min, args, .. } =>
    match args.toList.map ρ with
    | x :: rest => if isInt x then afold2 (fun a b => b < a) x rest else none
    | [] => none
  | .call { callee := .builtin .max, args, .. } =>
    match args.toList.map ρ with
    | x :: rest => if isInt x then afold2 (fun a b => b > a) x rest else none
    | [] => none
  | _ => none

/-! ### Operations that only look at memory -/
def toBytes : List AV → Option (List Nat)
  | [] => some []
  | .int .u8 n :: l => if 0 ≤ n ∧ n < 256 then (toBytes l).map (n.toNat :: ·) else none
  | _ :: _ => none
noncomputable def aload (P : Program) (ρ : Operand → AV) (o : Oper) (h : AH) : Option AV :=
  match o.op with
  | .load t a =>
    match ρ a, aisAgg P t, asize P t with
    | .ptr id off, some true, some n => (h.cells? id n off).map .agg
    | .ptr id off, some false, _ => h.cell? id off
    | _, _, _ => none
  | .convert src dst x =>
    match P.underlying src, P.underlying dst, ρ x with
    | some (.slice e), some .string, .sl id off len es _ =>
      match P.underlying e with
      | some (.int .u8) => if es = 1 then ((h.cells? id len off).bind toBytes).map .str else none
      | _ => none
    | some (.slice e), some .string, .nilSl =>
      match P.underlying e with
      | some (.int .u8) => some (.str [])
      | _ => none
    | _, _, _ => none
  | _ => none

/-! ### Operations that turn memory -/
def atoms : List AV → Bool
  | [] => true
  | v :: l => v.atom && atoms l
/-- Cells that are there, written anew. -/
noncomputable def AH.write (h : AH) (id off : Nat) (l : List AV) : Option AH :=
  match h.blk? id with
  | some b => if !b.ro && Nat.ble b.lo off && Nat.ble (off + l.length) b.hi then some (h.put id (some { b with cells := putCells l off b.cells })) else none
  | none => none
def arep (z : List AV) : Nat → List AV
  | 0 => []
  | n + 1 => z ++ arep z n
noncomputable def afirst (h : AH) (es : Nat) (x : AV) : Option (List AV) :=
  match x with
  | .sl id off len es' _ => if es' = es then h.cells? id (len * es) off else none
  | .nilSl => some []
  | .str s => if es = 1 then some (s.map fun (b : Nat) => .int .u8 (b : Int)) else none
  | _ => none
def alenOf : AV → Option Nat
  | .sl _ _ len _ _ => some len
  | .nilSl => some 0
  | .str s => some s.length
  | _ => none
/-- A slice or a string. -/
def isSeq : TypeDesc → Bool
  | .slice _ | .string => true
  | _ => false
/-- append(nil, make([]T, k)...): cells that are zero. -/
noncomputable def azeros (P : Program) (e : TypeId) (s x : AV) (h : AH) : Option (AV × AH) :=
  match s, x with
  | .nilSl, .int _ k =>
    match P.info? e with
    | none => none
    | some i =>
      match i.zero with
      | none => none
      | some z =>
        if (ofConst z).isTop || (ofConst z).cells.length != i.size || i.size = 0 || i.bytes = 0 || decide (IntKind.i64.wrap k ≤ 0) || Nat.blt 140737488355328 ((IntKind.i64.wrap k).toNat * i.bytes) then none
        else some (.sl h.next 0 (IntKind.i64.wrap k).toNat i.size none, h.alloc (arep (ofConst z).cells (IntKind.i64.wrap k).toNat))
  | .sl _ _ 0 _ (some c), .int _ k =>
    match P.info? e with
    | none => none
    | some i =>
      match i.zero with
      | none => none
      | some z =>
        if (ofConst z).isTop || (ofConst z).cells.length != i.size || i.size = 0 || i.bytes = 0 || decide (IntKind.i64.wrap k ≤ 0) || Nat.blt 140737488355328 ((IntKind.i64.wrap k).toNat * i.bytes) || !Nat.blt c (IntKind.i64.wrap k).toNat then none
        else some (.sl h.next 0 (IntKind.i64.wrap k).toNat i.size none, h.alloc (arep (ofConst z).cells (IntKind.i64.wrap k).toNat))
  | _, _ => none
noncomputable def aappend (P : Program) (t0 t1 : TypeId) (s x : AV) (h : AH) : Option (AV × AH) :=
  match P.underlying t0, P.underlying t1 with
  | some (.slice e), some (.int _) => azeros P e s x h
  | some (.slice e), some d1 =>
    if !isSeq d1 then none else
    match P.info? e with
    | none => none
    | some i =>
      match i.zero, alenOf x with
      | some z, some n =>
        if i.size = 0 || i.bytes = 0 || z.cells.size != i.size then none else
        match s with
        | .nilSl =>
          if n = 0 then some (.nilSl, h) else
          if Nat.blt 140737488355328 (n * i.bytes) then none else
          match afirst h i.size x with
          | none => none
          | some new => some (.sl h.next 0 n i.size none, h.alloc new)
        | .sl id off len es c =>
          if es ≠ i.size then none else
          if n = 0 then some (.sl id off len es c, h) else
          if Nat.blt 140737488355328 ((len + n) * i.bytes) then none else
          match afirst h i.size x, h.cells? id (len * es) off with
          | some new, some old =>
            match c with
            | some k =>
              if Nat.blt k (len + n) then some (.sl h.next 0 (len + n) es none, h.alloc (old ++ new))
              else amove h id off len n es new
            | none => amove h id off len n es new
          | _, _ => none
        | _ => none
      | _, _ => none
  | _, _ => none
 where amove (h : AH) (id off len n es : Nat) (new : List AV) : Option (AV × AH) :=
  match h.blk? id with
  | none => none
  | some b =>
    if b.ro || !atoms new then none else
    let h1 := h.put id none
    some (.sl h.next off (len + n) es none, { m := h1.m.set (some { lo := off, hi := off + (len + n) * es, ro := false, cells := putCells new (off + len * es) b.cells }) h.next, ob := h.ob, next := h.next + 1 })
noncomputable def acopy (P : Program) (t0 : TypeId) (d x : AV) (h : AH) : Option (AV × AH) :=
  match P.underlying t0 with
  | some (.slice e) =>
    match asize P e with
    | some es =>
      match d, x with
      | .nilSl, .nilSl => some (.int .i64 0, h)
      | .nilSl, .sl .. => some (.int .i64 0, h)
      | .sl .., .nilSl => some (.int .i64 0, h)
      | .sl id off len es1 _, .sl id2 off2 n es2 _ =>
        if es1 ≠ es ∨ es2 ≠ es then none else
        if min n len = 0 then some (.int .i64 0, h) else
        match h.cells? id2 (min n len * es) off2 with
        | none => none
        | some l =>
          if !atoms l then none else
          match h.write id off l with
          | none => none
          | some h' => some (.int .i64 (min n len : Nat), h')
      | _, _ => none
    | none => none
  | _ => none
/-- A step of a walk through a string: a byte below 128 alone. -/
noncomputable def anext (h : AH) (id : Nat) : Option (AV × AH) :=
  match h.ob? id with
  | some (.iter s pos) =>
    match s[pos]? with
    | some b => if Nat.blt b 128 then some (.tup [.bool true, .int .i64 (pos : Int), .int .i32 (b : Int)], h.putOb id (some (.iter s (pos + 1)))) else none
    | none => some (.tup [.bool false], h)
  | _ => none
noncomputable def aheap (P : Program) (call : ACall) (ρ : Operand → AV) (o : Oper) (h : AH) : Option (AV × AH) :=
  match o.op with
  | .alloc e =>
    match azero P e with
    | some z => if z.isTop then none else some (.ptr h.next 0, h.alloc z.cells)
    | none => none
  | .box _ x => if (ρ x).isTop then none else some (.ptr h.next 0, h.alloc (ρ x).cells)
  | .buildSlice t len parts =>
    match P.underlying t with
    | some (.slice e) =>
      match asize P e, azero P e with
      | some n, some z =>
        if len = 0 then (if parts.toList.isEmpty then some (.sl h.next 0 0 n (some 0), h.alloc []) else none) else
        if z.isTop || z.cells.length != n || n = 0 || len = 0 || Nat.blt 16777216 (len * n) then none else
        match afill (fun i => some (i * n, n)) (arep z.cells len) (parts.toList.map fun p => (p.1, ρ p.2)) with
        | none => none
        | some l => some (.sl h.next 0 len n (some len), h.alloc l)
      | _, _ => none
    | _ => none
  | .makeSlice t l c =>
    match P.underlying t, ρ l, ρ c with
    | some (.slice e), .int _ l, .int _ c =>
      match P.info? e with
      | none => none
      | some i =>
        match i.zero.map ofConst with
        | none => none
        | some z =>
          let l := IntKind.i64.wrap l
          let c := IntKind.i64.wrap c
          if z.isTop || z.cells.length != i.size || i.size = 0 || decide (l < 0) || decide (l > c) || Nat.blt 140737488355328 (c.toNat * i.bytes) then none else
          some (.sl h.next 0 l.toNat i.size (some c.toNat), h.alloc (arep z.cells c.toNat))
    | _, _, _ => none
  | .store t a x =>
    match ρ a, asize P t with
    | .ptr id off, some n =>
      if (ρ x).isTop || (ρ x).cells.length != n || !atoms (ρ x).cells then none else
      (h.write id off (ρ x).cells).map fun h' => (.tup [], h')
    | _, _ => none
  | .call { callee := .builtin .append, args, argTypes } =>
    match argTypes[0]?, argTypes[1]?, args[0]?, args[1]? with
    | some t0, some t1, some s, some x => aappend P t0 t1 (ρ s) (ρ x) h
    | _, _, _, _ => none
  | .call { callee := .builtin .copy, args, argTypes } =>
    match argTypes[0]?, args[0]?, args[1]? with
    | some t0, some d, some x => acopy P t0 (ρ d) (ρ x) h
    | _, _, _ => none
  | .call { callee := .value f, args, .. } =>
    match ρ f with
    | .fn (.func g) first captured => call (.func g) (first ++ args.toList.map ρ ++ captured) h
    | .fn (.yield id) [] [] => call (.yield id) (args.toList.map ρ) h
    | _ => none
  | .range t x =>
    match P.underlying t, ρ x with
    | some .string, .str s => some (.ptr h.next 0, h.newOb (.iter s 0))
    | _, _ => none
  | .next it isString =>
    match isString, ρ it with
    | true, .ptr id 0 => anext h id
    | _, _ => none
  | _ => none

inductive Cls where
  | pure | load | heap
  deriving DecidableEq
def cls (P : Program) (o : Oper) : Cls :=
  match o.op with
  | .load .. => .load
  | .convert src dst _ =>
    match P.underlying src, P.underlying dst with
    | some (.slice _), some .string => .load
    | _, _ => .pure
  | .alloc _ | .box .. | .buildSlice .. | .makeSlice .. | .store .. | .range .. | .next .. => .heap
  | .call { callee := .builtin .append, .. } | .call { callee := .builtin .copy, .. } | .call { callee := .value _, .. } => .heap
  | _ => .pure
noncomputable def aop (P : Program) (call : ACall) (ρ : Operand → AV) (o : Oper) (h : AH) : Option (AV × AH) :=
  match cls P o with
  | .pure => (apure P ρ o).map fun v => (v, h)
  | .load => (aload P ρ o h).map fun v => (v, h)
  | .heap => aheap P call ρ o h

/-! ### Regions -/
def awanted (ops : Array Oper) (fr : List AV) (o : Oper) : Option Bool :=
  match o.guard with
  | none => some true
  | some (j, want) =>
    match (ops[j]?).bind (·.dst) with
    | none => some false
    | some d =>
      match fr.getD d .top with
      | .bool b => some (b == want)
      | .tup [] => some false
      | _ => none
noncomputable def astep (P : Program) (call : ACall) (ops : Array Oper) (i : Nat) (fr : List AV) (h : AH) : Option (List AV × AH) :=
  match ops[i]? with
  | none => none
  | some o =>
    match awanted ops fr o with
    | none => none
    | some false => some (aput fr o.dst (.tup []), h)
    | some true => (aop P call (aev fr) o h).map fun r => (aput fr o.dst r.1, r.2)
noncomputable def aops (P : Program) (call : ACall) (ops : Array Oper) : List Nat → List AV → AH → Option (List AV × AH)
  | [], fr, h => some (fr, h)
  | i :: rest, fr, h =>
    match astep P call ops i fr h with
    | none => none
    | some (fr', h') => aops P call ops rest fr' h'
end Go.Proofs.Ytgnacecplaemlaa.AI
/-
  An abstract interpreter for the model's code, part 3: operations that look at no memory: what they come to is what the model's run comes to.
-/
namespace Go.Proofs.Ytgnacecplaemlaa.AI

/-! ### Reading a relation backwards -/
section
variable {f : Inj} {v : Value}
theorem VR.bool_inv {b : Bool} (h : VR f v (.bool b)) : v = .bool b := by cases h; rfl
theorem VR.int_inv {k : IntKind} {n : Int} (h : VR f v (.int k n)) : v = .int k n := by cases h; rfl
theorem VR.str_inv {l : List Nat} (h : VR f v (.str l)) : ∃ s, v = .string s ∧ l = nats s := by cases h; exact ⟨_, rfl, by assumption⟩
theorem VR.nilp_inv (h : VR f v .nilp) : v = .pointer none := by cases h; rfl
theorem VR.ptr_inv {id off : Nat} (h : VR f v (.ptr id off)) : ∃ r, f id = some r ∧ r.lo ≤ off ∧ v = .pointer (some ⟨r.blk, r.base + (off - r.lo), none⟩) := by
  cases h; exact ⟨_, by assumption, by assumption, rfl⟩
theorem VR.nilSl_inv (h : VR f v .nilSl) : v = .slice none 0 0 := by cases h; rfl
theorem VR.sl_inv {id off len es : Nat} {c : Option Nat} (h : VR f v (.sl id off len es c)) : ∃ r O cap sp, f id = some r ∧ r.lo ≤ off ∧ len ≤ cap ∧
    (cap = 0 ∨ (O = r.base + (off - r.lo) ∧ (off - r.lo) + cap * es ≤ r.ext)) ∧ (∀ k, c = some k → cap = k) ∧ (cap = 0 ∨ sp = none) ∧ v = .slice (some ⟨r.blk, O, sp⟩) len cap := by
  cases h; exact ⟨_, _, _, _, by assumption, by assumption, by assumption, by assumption, by assumption, by assumption, rfl⟩
theorem VR.nilMap_inv (h : VR f v .nilMap) : v = .map none := by cases h; rfl
theorem VR.fn_inv {g : FuncId} {l1 l2 : List AV} (h : VR f v (.fn (.func g) l1 l2)) : ∃ c1 c2, v = .func (.func g) c1 c2 ∧ VRs f c1.toList l1 ∧ VRs f c2.toList l2 := by
  cases h; exact ⟨_, _, rfl, by assumption, by assumption⟩
theorem VR.yld_inv {id : Nat} {l1 l2 : List AV} (h : VR f v (.fn (.yield id) l1 l2)) : ∃ r, f id = some r ∧ v = .func (.yield r.blk) #[] #[] := by
  cases h; exact ⟨_, by assumption, rfl⟩
theorem VR.fn_any {g : Fn} {l1 l2 : List AV} (h : VR f v (.fn g l1 l2)) : ∃ g' c1 c2, v = .func g' c1 c2 := by
  cases h <;> exact ⟨_, _, _, rfl⟩
theorem VR.nilFn_inv (h : VR f v .nilFn) : v = .nilFunc := by cases h; rfl
theorem VR.iface_inv {t : TypeId} {a : AV} (h : VR f v (.iface t a)) : ∃ u, v = .iface t u ∧ VR f u a := by cases h; exact ⟨_, rfl, by assumption⟩
theorem VR.nilIface_inv (h : VR f v .nilIface) : v = .nilIface := by cases h; rfl
theorem VR.agg_inv {l : List AV} (h : VR f v (.agg l)) : ∃ cs, v = .agg cs ∧ VRs f cs.toList l := by cases h; exact ⟨_, rfl, by assumption⟩
theorem VR.tup_inv {l : List AV} (h : VR f v (.tup l)) : ∃ cs, v = .tuple cs ∧ VRs f cs.toList l := by cases h; exact ⟨_, rfl, by assumption⟩
end

/-! ### Bytes as numbers -/
theorem length_nats (s : ByteArray) : (nats s).length = s.size := by
  unfold nats; rw [List.length_map]; rfl
theorem nats_append (s t : ByteArray) : nats (s ++ t) = nats s ++ nats t := by
  unfold nats; rw [ByteArray.data_append, Array.toList_append, List.map_append]
theorem nats_extract (s : ByteArray) (a b : Nat) : nats (s.extract a b) = ((nats s).drop a).take (b - a) := by
  unfold nats
  rw [ByteArray.data_extract, Array.toList_extract, List.extract_eq_take_drop, List.map_take, List.map_drop]
theorem natsEq_eq : ∀ x y : List UInt8, natsEq (x.map UInt8.toNat) (y.map UInt8.toNat) = (x == y)
  | [], [] => rfl
  | [], _ :: _ => rfl
  | _ :: _, [] => rfl
  | a :: x, b :: y => by
    show (Nat.beq a.toNat b.toNat && natsEq (x.map UInt8.toNat) (y.map UInt8.toNat)) = (a :: x == b :: y)
    rw [natsEq_eq x y, List.cons_beq_cons]
    congr 1
    rw [Bool.eq_iff_iff, Nat.beq_eq, beq_iff_eq]
    exact ⟨fun h => UInt8.toNat_inj.mp h, fun h => h ▸ rfl⟩
theorem natsLess_eq : ∀ x y : List UInt8, natsLess (x.map UInt8.toNat) (y.map UInt8.toNat) = Op.bytesLess x y
  | [], [] => rfl
  | [], _ :: _ => rfl
  | _ :: _, [] => rfl
  | a :: x, b :: y => by
    show (Nat.blt a.toNat b.toNat || (Nat.beq a.toNat b.toNat && natsLess (x.map UInt8.toNat) (y.map UInt8.toNat))) = (decide (a < b) || (a == b && Op.bytesLess x y))
    rw [natsLess_eq x y]
    congr 1
    · rw [Bool.eq_iff_iff, Nat.blt_eq, decide_eq_true_iff]; exact Iff.rfl
    · congr 1
      rw [Bool.eq_iff_iff, Nat.beq_eq, beq_iff_eq]
      exact ⟨fun h => UInt8.toNat_inj.mp h, fun h => h ▸ rfl⟩
theorem natsEq_nats (s t : ByteArray) : natsEq (nats s) (nats t) = (s.toList == t.toList) := by
  rw [ByteArray.toList_eq, ByteArray.toList_eq]; exact natsEq_eq _ _
theorem natsLess_nats (s t : ByteArray) : natsLess (nats s) (nats t) = Op.bytesLess s.toList t.toList := by
  rw [ByteArray.toList_eq, ByteArray.toList_eq]; exact natsLess_eq _ _

/-! ### Types -/
section
variable {P : Program}
theorem run_isAgg {t : TypeId} {b : Bool} (h : aisAgg P t = some b) (w : World) : (isAgg t).run P w = .ok b w := by
  unfold aisAgg at h
  cases hd : P.underlying t with
  | none => simp [hd] at h
  | some d => cases d <;> simp [hd] at h <;> subst h <;> simp [isAgg, run_underlying hd]
theorem run_sizeOf {t : TypeId} {n : Nat} (h : asize P t = some n) (w : World) : (sizeOf t).run P w = .ok n w := by
  unfold asize at h
  cases hi : P.info? t with
  | none => simp [hi] at h
  | some i => simp [hi] at h; subst h; simp [sizeOf, typeInfo, hi]
theorem run_zeroValue {t : TypeId} {a : AV} (h : azero P t = some a) (f : Inj) : ∃ v, VR f v a ∧ ∀ w, (zeroValue t).run P w = .ok v w := by
  unfold azero at h
  cases hi : P.info? t with
  | none => simp [hi] at h
  | some i =>
    cases hz : i.zero with
    | none => simp [hi, hz] at h
    | some z => simp [hi, hz] at h; subst h; exact ⟨z, VR.ofConst f z, fun w => by simp [zeroValue, typeInfo, hi, hz]⟩
variable {f : Inj}

theorem apart_sound {t : TypeId} {cs : Array Value} {l : List AV} {off : Nat} {a : AV} (hv : VRs f cs.toList l) (h : apart P t l off = some a) :
    ∃ v, VR f v a ∧ ∀ w, (part t cs off).run P w = .ok v w := by
  unfold apart at h
  split at h
  · rename_i n h1 h2
    split at h
    · injection h with h
      subst h
      refine ⟨.agg (cs.extract off (off + n)), .agg _ _ ?_, fun w => by simp [part, run_isAgg h1, run_sizeOf h2]⟩
      have e : (cs.extract off (off + n)).toList = (cs.toList.drop off).take n := by
        rw [Array.toList_extract, List.extract_eq_take_drop]; congr 1; omega
      rw [e]
      exact (hv.drop off).take n
    · simp at h
  · rename_i h1
    obtain ⟨v, hv1, hv2⟩ := hv.get off a h
    have e : cs[off]? = some v := by simpa using hv1
    exact ⟨v, hv2, fun w => by simp [part, run_isAgg h1, e]⟩
  · simp at h

/-! ### '==' -/
theorem aeq_sound : ∀ (d : Nat) (t : TypeId) (x y : AV) (v u : Value) (b : Bool), VR f v x → VR f u y → aeq P d t x y = some b →
    ∀ w, (Op.equalIn d t v u).run P w = .ok b w := by
  intro d
  induction d with
  | zero => intro t x y v u b _ _ h; simp [aeq] at h
  | succ d ih =>
    intro t x y v u b hv hu h w
    change aeq1 P (aeq P d) t x y = some b at h
    unfold aeq1 at h
    split at h
    case h_1 ht => obtain rfl := hv.bool_inv; obtain rfl := hu.bool_inv; injection h with h; subst h; simp [Op.equalIn, run_underlying ht]
    case h_2 ht =>
      obtain rfl := hv.int_inv; obtain rfl := hu.int_inv
      split at h
      · injection h with h; subst h; rename_i hk; simp [Op.equalIn, run_underlying ht, hk]
      · simp at h
    case h_3 ht =>
      obtain ⟨s, rfl, rfl⟩ := hv.str_inv; obtain ⟨s', rfl, rfl⟩ := hu.str_inv
      injection h with h; subst h
      rw [natsEq_nats]
      exact run_equalIn_string w d t s s' ht
    case h_4 ht => obtain rfl := hv.nilp_inv; obtain rfl := hu.nilp_inv; injection h with h; subst h; simp [Op.equalIn, run_underlying ht]
    case h_5 ht => obtain rfl := hv.nilp_inv; obtain ⟨r, _, _, rfl⟩ := hu.ptr_inv; injection h with h; subst h; simp [Op.equalIn, run_underlying ht]
    case h_6 ht => obtain rfl := hu.nilp_inv; obtain ⟨r, _, _, rfl⟩ := hv.ptr_inv; injection h with h; subst h; simp [Op.equalIn, run_underlying ht]
    case h_7 ht => obtain rfl := hv.nilSl_inv; obtain rfl := hu.nilSl_inv; injection h with h; subst h; simp [Op.equalIn, run_underlying ht]
    case h_8 ht => obtain rfl := hv.nilSl_inv; obtain ⟨r, O, cap, sp, _, _, _, _, _, _, rfl⟩ := hu.sl_inv; injection h with h; subst h; simp [Op.equalIn, run_underlying ht]
    case h_9 ht => obtain rfl := hu.nilSl_inv; obtain ⟨r, O, cap, sp, _, _, _, _, _, _, rfl⟩ := hv.sl_inv; injection h with h; subst h; simp [Op.equalIn, run_underlying ht]
    case h_10 ht => obtain rfl := hv.nilFn_inv; obtain rfl := hu.nilFn_inv; injection h with h; subst h; simp [Op.equalIn, run_underlying ht]
    case h_11 ht => obtain rfl := hv.nilFn_inv; obtain ⟨_, _, _, rfl⟩ := hu.fn_any; injection h with h; subst h; simp [Op.equalIn, run_underlying ht]
    case h_12 ht => obtain rfl := hu.nilFn_inv; obtain ⟨_, _, _, rfl⟩ := hv.fn_any; injection h with h; subst h; simp [Op.equalIn, run_underlying ht]
    case h_13 ht => obtain rfl := hv.nilIface_inv; obtain rfl := hu.nilIface_inv; injection h with h; subst h; simp [Op.equalIn, run_underlying ht]
    case h_14 ht => obtain rfl := hv.nilIface_inv; obtain ⟨_, rfl, _⟩ := hu.iface_inv; injection h with h; subst h; simp [Op.equalIn, run_underlying ht]
    case h_15 ht => obtain rfl := hu.nilIface_inv; obtain ⟨_, rfl, _⟩ := hv.iface_inv; injection h with h; subst h; simp [Op.equalIn, run_underlying ht]
    case h_16 ht => obtain rfl := hv.nilMap_inv; obtain rfl := hu.nilMap_inv; injection h with h; subst h; simp [Op.equalIn, run_underlying ht]
    case h_17 fields xs ys ht =>
      split at h
      · simp at h
      · rename_i hst
        obtain ⟨cx, rfl, hx⟩ := hv.agg_inv
        obtain ⟨cy, rfl, hy⟩ := hu.agg_inv
        have hf : P.fieldsOf t = fields := by simp [Program.fieldsOf, ht]
        rw [run_equalIn_struct w d t cx cy (by rw [hf]; exact ht) (by simpa using hst), hf]
        have key : ∀ fs : List Field, aeqFields P (aeq P d) xs ys fs = some b → (Op.eqFields d cx cy fs).run P w = .ok b w := by
          intro fs
          induction fs with
          | nil => intro h; simp [aeqFields] at h; subst h; simp [Op.eqFields]
          | cons fd fs ihf =>
            intro h
            rw [aeqFields] at h
            rw [Op.eqFields]
            by_cases hn : fd.name ≠ "_"
            · rw [if_pos hn] at h ⊢
              split at h
              · rename_i a1 b1 ha hb
                obtain ⟨va, hva, hra⟩ := apart_sound hx ha
                obtain ⟨vb, hvb, hrb⟩ := apart_sound hy hb
                split at h
                · rename_i he
                  simp [hra, hrb, ih _ _ _ _ _ _ hva hvb he, ihf h]
                · rename_i he
                  injection h with h; subst h
                  simp [hra, hrb, ih _ _ _ _ _ _ hva hvb he]
                · simp at h
              · simp at h
            · rw [if_neg hn] at h ⊢
              exact ihf h
        exact key _ h
    case h_18 => simp at h
end
end Go.Proofs.Ytgnacecplaemlaa.AI
/-
  An abstract interpreter for the model's code, part 4: operations that look at no memory, each as the model runs it.
-/
namespace Go.Proofs.Ytgnacecplaemlaa.AI
section
variable {P : Program} {f : Inj}

theorem isCst_matches (x : Operand) : (x matches .const _) = isCst x := by cases x <;> rfl
theorem eqGuard_other (op : BinOp) (t : TypeId) (xo yo : Operand) (v u : Value) (w : World) (h1 : ¬ (v = .nilIface ∧ u = .nilIface)) (h2 : ¬ ((∃ c, v = .agg c) ∧ ∃ c, u = .agg c)) :
    (eqGuard op t xo yo v u).run P w = .ok () w := by
  unfold eqGuard
  cases op <;> (try (simp; done)) <;> (simp only []; split <;> first | (simp_all; done) | simp)
theorem aguard_sound (op : BinOp) (t : TypeId) (xo yo : Operand) {v u : Value} {x y : AV} (hv : VR f v x) (hu : VR f u y) (h : aguard P t xo yo x y = true) (hx : x.isTop = false) (hy : y.isTop = false) (w : World) :
    (eqGuard op t xo yo v u).run P w = .ok () w := by
  by_cases h1 : v = .nilIface ∧ u = .nilIface
  · obtain ⟨rfl, rfl⟩ := h1
    have ex : x = .nilIface := by cases hv <;> first | rfl | simp [AV.isTop] at hx
    have ey : y = .nilIface := by cases hu <;> first | rfl | simp [AV.isTop] at hy
    subst ex ey
    simp only [aguard] at h
    unfold eqGuard
    cases xo <;> cases yo <;> cases op <;> simp_all [isCst]
  · by_cases h2 : (∃ c, v = .agg c) ∧ ∃ c, u = .agg c
    · obtain ⟨⟨c, rfl⟩, ⟨c', rfl⟩⟩ := h2
      have ex : ∃ l, x = .agg l := by cases hv <;> first | exact ⟨_, rfl⟩ | simp [AV.isTop] at hx
      have ey : ∃ l, y = .agg l := by cases hu <;> first | exact ⟨_, rfl⟩ | simp [AV.isTop] at hy
      obtain ⟨l, rfl⟩ := ex
      obtain ⟨l', rfl⟩ := ey
      simp only [aguard, Bool.not_eq_true'] at h
      unfold eqGuard
      cases op <;> simp [h]
    · exact eqGuard_other op t xo yo v u w h1 h2

theorem aeq_not_top {d : Nat} {t : TypeId} {x y : AV} {b : Bool} (h : aeq P d t x y = some b) : x.isTop = false ∧ y.isTop = false := by
  cases d with
  | zero => simp [aeq] at h
  | succ d =>
    change aeq1 P (aeq P d) t x y = some b at h
    unfold aeq1 at h
    split at h <;> first | exact ⟨rfl, rfl⟩ | simp at h

theorem binOp_eql_other (t : TypeId) {v u : Value} {x y : AV} (hv : VR f v x) (hu : VR f u y) {b : Bool} (h : aeq P Op.maxDepth t x y = some b)
    (hi : ¬ ∃ k a k' b, x = .int k a ∧ y = .int k' b) (hs : ¬ ∃ a b, x = .str a ∧ y = .str b) (w : World) :
    (binOp .eql t v u).run P w = .ok (.bool b) w ∧ (binOp .neq t v u).run P w = .ok (.bool (!b)) w := by
  have he := aeq_sound _ _ _ _ _ _ _ hv hu h w
  obtain ⟨hx, hy⟩ := aeq_not_top h
  have e : (Op.equal t v u).run P w = .ok b w := he
  cases hv <;> first | (simp [AV.isTop] at hx; done) | skip
  all_goals (cases hu <;> first | (simp [AV.isTop] at hy; done) | skip)
  all_goals first
    | (exact absurd ⟨_, _, _, _, rfl, rfl⟩ hi)
    | (exact absurd ⟨_, _, rfl, rfl⟩ hs)
    | (constructor <;> simp [binOp, e])
end
end Go.Proofs.Ytgnacecplaemlaa.AI
/-
  An abstract interpreter for the model's code, part 5: the operations that look at no memory, one lemma each; together.
-/
namespace Go.Proofs.Ytgnacecplaemlaa.AI
section
variable {P : Program} {f : Inj}

/-- 's' comes, in every world, to a value related to 'a', and leaves the world alone. -/
def Gives (P : Program) (f : Inj) (s : Sem Value) (a : AV) : Prop := ∃ v, VR f v a ∧ ∀ w, s.run P w = .ok v w
theorem Gives.of {s : Sem Value} {a : AV} (v : Value) (h : VR f v a) (hr : ∀ w, s.run P w = .ok v w) : Gives P f s a := ⟨v, h, hr⟩

theorem aIntOp_sound {op : BinOp} {k : IntKind} {a b : Int} {r : AV} (h : aIntOp op k a b = some r) (t : TypeId) (xo yo : Operand) :
    Gives P f (do eqGuard op t xo yo (.int k a) (.int k b); binOp op t (.int k a) (.int k b)) r := by
  have hg : ∀ w, (eqGuard op t xo yo (.int k a) (.int k b)).run P w = .ok () w := fun w => eqGuard_other op t xo yo _ _ w (by simp) (by simp)
  unfold aIntOp at h
  cases op <;> simp only [] at h
  case quo => split at h <;> simp at h; subst h; rename_i hb; exact .of _ (.int _ _) fun w => by simp [hg, binOp, Op.intDiv, hb]
  case rem => split at h <;> simp at h; subst h; rename_i hb; exact .of _ (.int _ _) fun w => by simp [hg, binOp, Op.intDiv, hb]
  case shl => simp at h
  case shr => simp at h
  all_goals (injection h with h; subst h)
  all_goals first
    | exact .of _ (.int _ _) fun w => by simp [hg, binOp, Op.intArith, Op.intBits]
    | exact .of _ (.bool _) fun w => by simp [hg, binOp, Op.intCmp]

theorem aStrOp_sound {op : BinOp} {s s' : ByteArray} {r : AV} (h : aStrOp op (nats s) (nats s') = some r) (t : TypeId) (xo yo : Operand) :
    Gives P f (do eqGuard op t xo yo (.string s) (.string s'); binOp op t (.string s) (.string s')) r := by
  have hg : ∀ w, (eqGuard op t xo yo (.string s) (.string s')).run P w = .ok () w := fun w => eqGuard_other op t xo yo _ _ w (by simp) (by simp)
  unfold aStrOp at h
  rw [natsEq_nats, natsLess_nats] at h
  have hm : IntKind.i64.max = 9223372036854775807 := by decide
  cases op <;> simp only [] at h
  case add =>
    split at h <;> simp at h
    subst h
    rename_i hl
    rw [length_nats, length_nats] at hl
    refine .of _ (.str (s ++ s') _ (nats_append s s').symm) fun w => ?_
    have h2 : ¬ ((s.size + s'.size : Nat) : Int) > IntKind.i64.max := by rw [hm]; omega
    simp only [Sem.run_bind, hg, Result.andThen_ok, binOp, Op.stringOp, if_neg h2, Sem.run_pure]
  case lss => injection h with h; subst h; exact .of _ (.bool _) fun w => by simp [hg, binOp, Op.stringOp]
  all_goals first
    | (simp at h; done)
    | (injection h with h; subst h; exact .of _ (.bool _) fun w => by simp [hg, binOp, Op.stringOp])

theorem abin_sound {op : BinOp} {t : TypeId} {xo yo : Operand} {v u : Value} {x y r : AV} (hv : VR f v x) (hu : VR f u y) (h : abin P op t xo yo x y = some r) :
    Gives P f (do eqGuard op t xo yo v u; binOp op t v u) r := by
  unfold abin at h
  split at h
  · rename_i k a k' b
    obtain rfl := hv.int_inv
    obtain rfl := hu.int_inv
    split at h
    · split at h <;> simp at h
      subst h
      rename_i hb
      have hg : ∀ w, (eqGuard .shl t xo yo (.int k a) (.int k' b)).run P w = .ok () w := fun w => eqGuard_other _ t xo yo _ _ w (by simp) (by simp)
      exact .of _ (.int _ _) fun w => by simp [hg, binOp, Op.shift, hb]
    · split at h <;> simp at h
      subst h
      rename_i hb
      have hg : ∀ w, (eqGuard .shr t xo yo (.int k a) (.int k' b)).run P w = .ok () w := fun w => eqGuard_other _ t xo yo _ _ w (by simp) (by simp)
      exact .of _ (.int _ _) fun w => by simp [hg, binOp, Op.shift, hb]
    · split at h
      · rename_i hk; subst hk; exact aIntOp_sound h t xo yo
      · simp at h
  · obtain ⟨s, rfl, rfl⟩ := hv.str_inv
    obtain ⟨s', rfl, rfl⟩ := hu.str_inv
    exact aStrOp_sound h t xo yo
  · rename_i hn1 hn2
    have hi : ¬ ∃ k a k' b, x = .int k a ∧ y = .int k' b := by rintro ⟨k, a, k', b, rfl, rfl⟩; exact hn1 _ _ _ _ rfl rfl
    have hs : ¬ ∃ a b, x = .str a ∧ y = .str b := by rintro ⟨a, b, rfl, rfl⟩; exact hn2 _ _ rfl rfl
    split at h
    · split at h
      · rename_i hg
        cases he : aeq P Op.maxDepth t x y with
        | none => simp [he] at h
        | some b =>
          simp [he] at h
          subst h
          obtain ⟨hx, hy⟩ := aeq_not_top he
          exact .of _ (.bool _) fun w => by simp [aguard_sound .eql t xo yo hv hu hg hx hy, (binOp_eql_other t hv hu he hi hs w).1]
      · simp at h
    · split at h
      · rename_i hg
        cases he : aeq P Op.maxDepth t x y with
        | none => simp [he] at h
        | some b =>
          simp [he] at h
          subst h
          obtain ⟨hx, hy⟩ := aeq_not_top he
          exact .of _ (.bool _) fun w => by simp [aguard_sound .neq t xo yo hv hu hg hx hy, (binOp_eql_other t hv hu he hi hs w).2]
      · simp at h
    · simp at h

theorem aun_sound {op : UnOp} {v : Value} {x r : AV} (hv : VR f v x) (h : aun op x = some r) : Gives P f (Op.unary op v) r := by
  unfold aun at h
  split at h
  · obtain rfl := hv.bool_inv; injection h with h; subst h; exact .of _ (.bool _) fun w => by simp [Op.unary]
  · obtain rfl := hv.int_inv; injection h with h; subst h; exact .of _ (.int _ _) fun w => by simp [Op.unary, Op.intArith]
  · obtain rfl := hv.int_inv; injection h with h; subst h; exact .of _ (.int _ _) fun w => by simp [Op.unary, Op.intBits]
  · simp at h

theorem aIx_sound {v : Value} {x : AV} {most n : Nat} (hv : VR f v x) (h : aIx x most = some n) (code : BoundsCode) (w : World) :
    ∀ cap, most ≤ cap → (Instr.sliceBound v cap code).run P w = .ok n w ∧ n ≤ most := by
  intro cap hc
  unfold aIx at h
  split at h
  · rename_i k i
    obtain rfl := hv.int_inv
    split at h
    · rename_i hi
      injection h with h
      subst h
      have h2 : 0 ≤ i ∧ i ≤ (cap : Int) := ⟨hi.1, by omega⟩
      refine ⟨by simp [Instr.sliceBound, asIntOf, h2], by omega⟩
    · simp at h
  · simp at h


theorem sliceBounds_none {low high : Option Operand} {ρ : Operand → Value} {ρ' : Operand → AV} (hρ : ∀ x, VR f (ρ x) (ρ' x)) {isSlice : Bool} {len cap most l h : Nat}
    (hm : most ≤ cap) (hh : abound (high.map ρ') most len = some h) (hl : abound (low.map ρ') h 0 = some l) (w : World) :
    (Instr.sliceBounds isSlice len cap (low.map ρ) (high.map ρ) none).run P w = .ok (l, h, cap) w := by
  cases high with
  | none =>
    simp only [Option.map_none, abound, Option.some.injEq] at hh
    subst hh
    cases low with
    | none => simp only [Option.map_none, abound, Option.some.injEq] at hl; subst hl; simp [Instr.sliceBounds]
    | some x =>
      simp only [Option.map_some, abound] at hl
      have h1 := (aIx_sound (P := P) (hρ x) hl .sliceB w _ (Nat.le_refl _)).1
      simp [Instr.sliceBounds, h1]
  | some y =>
    simp only [Option.map_some, abound] at hh
    have h2 := fun code => (aIx_sound (P := P) (hρ y) hh code w _ hm).1
    cases low with
    | none => simp only [Option.map_none, abound, Option.some.injEq] at hl; subst hl; simp [Instr.sliceBounds, h2]
    | some x =>
      simp only [Option.map_some, abound] at hl
      have h1 := (aIx_sound (P := P) (hρ x) hl .sliceB w _ (Nat.le_refl _)).1
      simp [Instr.sliceBounds, h1, h2]

theorem sliceBounds_some {low : Option Operand} {high mx : Operand} {ρ : Operand → Value} {ρ' : Operand → AV} (hρ : ∀ x, VR f (ρ x) (ρ' x)) {isSlice : Bool} {len cap most l h m dflt : Nat}
    (hm : most ≤ cap) (hx : aIx (ρ' mx) most = some m) (hh : abound (some (ρ' high)) m dflt = some h) (hl : abound (low.map ρ') h 0 = some l) (w : World) :
    (Instr.sliceBounds isSlice len cap (low.map ρ) (some (ρ high)) (some (ρ mx))).run P w = .ok (l, h, m) w := by
  have h3 := fun code => (aIx_sound (P := P) (hρ mx) hx code w _ hm).1
  simp only [abound] at hh
  have h2 := fun code => (aIx_sound (P := P) (hρ high) hh code w _ (Nat.le_refl _)).1
  cases low with
  | none => simp only [Option.map_none, abound, Option.some.injEq] at hl; subst hl; simp [Instr.sliceBounds, h2, h3]
  | some x =>
    simp only [Option.map_some, abound] at hl
    have h1 := (aIx_sound (P := P) (hρ x) hl .slice3C w _ (Nat.le_refl _)).1
    simp [Instr.sliceBounds, h1, h2, h3]

theorem abound_le {x : Option AV} {most dflt n : Nat} (h : abound x most dflt = some n) (hd : dflt ≤ most) : n ≤ most := by
  unfold abound at h
  split at h
  · injection h with h; omega
  · unfold aIx at h
    split at h
    · split at h
      · injection h with h; omega
      · simp at h
    · simp at h
theorem aIx_le {x : AV} {most n : Nat} (h : aIx x most = some n) : n ≤ most := by
  unfold aIx at h
  split at h
  · split at h
    · injection h with h; omega
    · simp at h
  · simp at h

theorem sliceAt_eq {t : TypeId} {d : TypeDesc} (ht : P.underlying t = some d) (hn : ∀ n e, d ≠ .array n e) (x : Value) (lo hi mx : Option Value) (w : World) :
    (Instr.sliceAt t x lo hi mx).run P w = (Instr.slice t x lo hi mx).run P w := by
  unfold Instr.sliceAt
  rw [Sem.run_bind, run_underlying ht, Result.andThen_ok]
  cases d <;> first | rfl | exact absurd rfl (hn _ _)

theorem aslice_sound {t : TypeId} {v : Value} {x r : AV} {lo hi mx : Option Operand} {ρ : Operand → Value} {ρ' : Operand → AV} (hρ : ∀ x, VR f (ρ x) (ρ' x)) (hv : VR f v x)
    (h : aslice P t x (lo.map ρ') (hi.map ρ') (mx.map ρ') = some r) : Gives P f (Instr.sliceAt t v (lo.map ρ) (hi.map ρ) (mx.map ρ)) r := by
  unfold aslice at h
  split at h
  · rename_i s ht
    obtain ⟨b, rfl, rfl⟩ := hv.str_inv
    cases mx with
    | some m => simp at h
    | none =>
      simp only [Option.map_none, Option.isSome_none, Bool.false_eq_true, if_false] at h
      split at h
      · simp at h
      · rename_i hh hb
        split at h
        · simp at h
        · rename_i ll hl
          injection h with h
          subst h
          rw [length_nats] at hb
          refine .of (.string (b.extract ll hh)) (.str _ _ (nats_extract b ll hh).symm) fun w => ?_
          rw [sliceAt_eq ht (by simp)]
          have := sliceBounds_none (P := P) (isSlice := false) (low := lo) hρ (Nat.le_refl b.size) hb hl w
          simp [Instr.slice, run_underlying ht, this]
  · rename_i e ht
    obtain rfl := hv.nilSl_inv
    split at h
    · rename_i n m hn hm
      split at h
      · simp at h
      · rename_i hh hb
        split at h
        · simp at h
        · rename_i ll hl
          split at h
          · simp at h
          · rename_i hc
            injection h with h
            subst h
            refine .of (.slice none 0 0) .nilSl fun w => ?_
            rw [sliceAt_eq ht (by simp)]
            cases mx with
            | none =>
              simp only [Option.map_none, abound, Option.some.injEq] at hm
              subst hm
              have := sliceBounds_none (P := P) (isSlice := true) (low := lo) hρ (Nat.le_refl 0) hb hl w
              have h1 : hh ≤ 0 := abound_le hb (Nat.le_refl 0)
              simp [Instr.slice, run_underlying ht, this, run_sizeOf hn]
              omega
            | some mo =>
              cases hi with
              | none => simp at hc
              | some ho =>
                simp only [Option.map_some, abound] at hm
                have hm0 : m ≤ 0 := aIx_le hm
                have := sliceBounds_some (P := P) (isSlice := true) (len := 0) (low := lo) hρ (Nat.le_refl 0) hm hb hl w
                have h1 : hh ≤ m := abound_le hb (Nat.zero_le _)
                simp [Instr.slice, run_underlying ht, this, run_sizeOf hn]
                omega
    · simp at h
  · rename_i e id off len es c ht
    obtain ⟨rg, O, cap, sp, hf, hlo, hlen, hO, hc, hsp, rfl⟩ := hv.sl_inv
    split at h
    · simp at h
    · rename_i n hn
      split at h
      · simp at h
      · rename_i hne
        have hne : n = es := by simpa using hne
        subst hne
        have hcg : c.getD len ≤ cap := by
          cases c with
          | none => simpa using hlen
          | some k => simp [hc k rfl]
        split at h
        · rename_i hmx
          have hmx : mx = none := by cases mx <;> simp_all
          subst hmx
          split at h
          · simp at h
          · rename_i hh hb
            split at h
            · simp at h
            · rename_i ll hl
              injection h with h
              subst h
              have h1 : hh ≤ c.getD len := abound_le hb (by cases c with | none => simp | some k => have := hc k rfl; simp; omega)
              have h2 : ll ≤ hh := abound_le hl (Nat.zero_le _)
              refine .of (.slice (some ⟨rg.blk, if cap = ll then O else O + ll * n, sp⟩) (hh - ll) (cap - ll)) ?_ fun w => ?_
              · refine .sl id (off + ll * n) (hh - ll) n _ rg _ _ hf (by omega) (by omega) ?_ ?_ sp (hsp.imp_left fun h => by omega)
                · by_cases h3 : cap = ll
                  · left; omega
                  · right
                    rcases hO with hO | ⟨hO1, hO2⟩
                    · omega
                    · rw [if_neg h3, Nat.sub_mul]
                      have := Nat.mul_le_mul_right n (show ll ≤ cap by omega)
                      omega
                · intro k hk
                  cases c with
                  | none => simp at hk
                  | some k' => simp at hk; have := hc k' rfl; omega
              · rw [sliceAt_eq ht (by simp)]
                have := sliceBounds_none (P := P) (isSlice := true) (low := lo) hρ hcg hb hl w
                simp only [Instr.slice, Sem.run_bind, run_underlying ht, Result.andThen_ok, Option.map_none, this, run_sizeOf hn, Sem.run_pure]
                by_cases h3 : cap = ll
                · simp [h3]
                · obtain rfl : sp = none := hsp.resolve_left (by omega)
                  simp only [h3, if_false, Option.map_some, Addr.add]
                  by_cases h4 : ll * n = 0
                  · simp [h4]
                  · simp [h4]
        · rename_i mo hmx
          obtain ⟨mo, rfl, rfl⟩ : ∃ m, mx = some m ∧ ρ' m = mo := by cases mx <;> simp_all
          split at h
          · simp at h
          · rename_i hhs
            obtain ⟨ho, rfl⟩ : ∃ o, hi = some o := by cases hi <;> simp_all
            split at h
            · simp at h
            · rename_i m hm
              split at h
              · simp at h
              · rename_i hh hb
                split at h
                · simp at h
                · rename_i ll hl
                  injection h with h
                  subst h
                  have h0 : m ≤ c.getD len := aIx_le hm
                  have h1 : hh ≤ m := abound_le hb (Nat.zero_le _)
                  have h2 : ll ≤ hh := abound_le hl (Nat.zero_le _)
                  refine .of (.slice (some ⟨rg.blk, if m = ll then O else O + ll * n, sp⟩) (hh - ll) (m - ll)) ?_ fun w => ?_
                  · refine .sl id (off + ll * n) (hh - ll) n _ rg _ _ hf (by omega) (by omega) ?_ (by intro k hk; simp at hk; exact hk) sp (hsp.imp_left fun h => by omega)
                    by_cases h3 : m = ll
                    · left; omega
                    · right
                      rcases hO with hO | ⟨hO1, hO2⟩
                      · omega
                      · rw [if_neg h3, Nat.sub_mul]
                        have h5 := Nat.mul_le_mul_right n (show ll ≤ m by omega)
                        have h6 := Nat.mul_le_mul_right n (show m ≤ cap by omega)
                        omega
                  · rw [sliceAt_eq ht (by simp)]
                    have := sliceBounds_some (P := P) (isSlice := true) (len := len) (low := lo) hρ hcg hm hb hl w
                    simp only [Instr.slice, Sem.run_bind, run_underlying ht, Result.andThen_ok, Option.map_some, this, run_sizeOf hn, Sem.run_pure]
                    by_cases h3 : m = ll
                    · simp [h3]
                    · obtain rfl : sp = none := hsp.resolve_left (by omega)
                      simp only [h3, if_false, Addr.add]
                      by_cases h4 : ll * n = 0
                      · simp [h4]
                      · simp [h4]
  · simp at h
end
end Go.Proofs.Ytgnacecplaemlaa.AI
/-
  An abstract interpreter for the model's code, part 6: the rest of the operations that look at no memory, and all of them together.
-/
namespace Go.Proofs.Ytgnacecplaemlaa.AI
section
variable {P : Program} {f : Inj}

theorem Addr.add_plain (b o n : Nat) : (⟨b, o, none⟩ : Addr).add n = ⟨b, o + n, none⟩ := by
  unfold Addr.add
  by_cases h : n = 0
  · simp [h]
  · simp [h]

theorem afieldAt_sound {s : TypeId} {v : Value} {x r : AV} {i : Nat} (hv : VR f v x) (h : afieldAt P s x i = some r) : Gives P f (Instr.fieldAt s v i) r := by
  unfold afieldAt at h
  split at h
  · rename_i fields id off hs
    obtain ⟨rg, hf, hlo, rfl⟩ := hv.ptr_inv
    split at h
    · simp at h
    · rename_i fd hfd
      split at h
      · rename_i n hn
        injection h with h
        subst h
        refine .of (.pointer (some ⟨rg.blk, rg.base + (off - rg.lo) + fd.offset, none⟩)) ?_ fun w => ?_
        · have := VR.ptr (f := f) id (off + fd.offset) rg hf (by omega)
          have e : rg.base + (off + fd.offset - rg.lo) = rg.base + (off - rg.lo) + fd.offset := by omega
          rwa [e] at this
        · simp [Instr.fieldAt, run_underlying hs, hfd, Instr.sureAddr, fieldPlace, run_sizeOf hn, Addr.add_plain]
      · simp at h
  · simp at h

theorem aindexAt_sound {t : TypeId} {v u : Value} {x y r : AV} (hv : VR f v x) (hu : VR f u y) (h : aindexAt P t x y = some r) : Gives P f (Instr.indexAt t v u) r := by
  unfold aindexAt at h
  split at h
  · rename_i e id off len es c k i ht
    obtain ⟨rg, O, cap, sp, hf, hlo, hlen, hO, hc, hsp, rfl⟩ := hv.sl_inv
    obtain rfl := hu.int_inv
    split at h
    · simp at h
    · rename_i n hn
      split at h
      · rename_i hi
        obtain ⟨rfl, hi1, hi2⟩ := hi
        injection h with h
        subst h
        obtain rfl : sp = none := hsp.resolve_left (by omega)
        rcases hO with hO | ⟨rfl, hO2⟩
        · omega
        · refine .of (.pointer (some ⟨rg.blk, rg.base + (off - rg.lo) + i.toNat * n, none⟩)) ?_ fun w => ?_
          · have := VR.ptr (f := f) id (off + i.toNat * n) rg hf (by omega)
            have e : rg.base + (off + i.toNat * n - rg.lo) = rg.base + (off - rg.lo) + i.toNat * n := by omega
            rwa [e] at this
          · simp [Instr.indexAt, asIntOf, run_underlying ht, hi1, hi2, run_sizeOf hn, Addr.add_plain]
      · simp at h
  · rename_i len e id off k i ht
    obtain ⟨rg, hf, hlo, rfl⟩ := hv.ptr_inv
    obtain rfl := hu.int_inv
    split at h
    · simp at h
    · rename_i n hn
      split at h
      · rename_i hi
        obtain ⟨hi1, hi2⟩ := hi
        injection h with h
        subst h
        refine .of (.pointer (some ⟨rg.blk, rg.base + (off - rg.lo) + i.toNat * n, none⟩)) ?_ fun w => ?_
        · have := VR.ptr (f := f) id (off + i.toNat * n) rg hf (by omega)
          have e : rg.base + (off + i.toNat * n - rg.lo) = rg.base + (off - rg.lo) + i.toNat * n := by omega
          rwa [e] at this
        · simp [Instr.indexAt, asIntOf, run_underlying ht, hi1, hi2, run_sizeOf hn, Addr.add_plain, Instr.sureAddr]
      · simp at h
  · simp at h

theorem nats_get (s : ByteArray) (i : Nat) : (nats s)[i]? = (s[i]?).map UInt8.toNat := by
  unfold nats
  rw [List.getElem?_map]
  congr 1
  by_cases h : i < s.size
  · have h1 : i < s.data.toList.length := h
    rw [List.getElem?_eq_getElem h1, getElem?_pos s i h]
    rfl
  · have h1 : s.data.toList.length ≤ i := Nat.le_of_not_lt h
    rw [List.getElem?_eq_none h1, getElem?_neg s i h]

theorem aindex_sound {t : TypeId} {v u : Value} {x y r : AV} (hv : VR f v x) (hu : VR f u y) (h : aindex P t x y = some r) : Gives P f (Instr.index t v u) r := by
  unfold aindex at h
  split at h
  · rename_i s k i ht
    obtain ⟨b, rfl, rfl⟩ := hv.str_inv
    obtain rfl := hu.int_inv
    split at h
    · rename_i hi
      rw [nats_get] at h
      cases hb : b[i.toNat]? with
      | none => simp [hb] at h
      | some c =>
        simp [hb] at h
        subst h
        exact .of _ (.int _ _) fun w => by simp [Instr.index, asIntOf, run_underlying ht, hi, hb]
    · simp at h
  · rename_i len e cs k i ht
    obtain ⟨c, rfl, hc⟩ := hv.agg_inv
    obtain rfl := hu.int_inv
    split at h
    · simp at h
    · rename_i n hn
      split at h
      · rename_i hi
        obtain ⟨w0, hw, hr⟩ := apart_sound hc h
        exact .of _ hw fun w => by simp [Instr.index, asIntOf, run_underlying ht, hi, run_sizeOf hn, hr]
      · simp at h
  · simp at h

theorem take_set_succ {α : Type} (l : List α) (i : Nat) (v : α) (h : i < l.length) : (l.set i v).take (i + 1) = l.take i ++ [v] := by
  rw [List.set_eq_take_append_cons_drop, if_pos h, List.take_append, List.take_of_length_le (by simp; omega), List.length_take, Nat.min_eq_left (Nat.le_of_lt h)]
  simp
theorem foldl_set (off : Nat) : ∀ (l : List Value) (k : Nat) (cs : Array Value), off + k + l.length ≤ cs.size →
    ((l.zipIdx k).foldl (fun cs (x : Value × Nat) => cs.setIfInBounds (off + x.2) x.1) cs).toList = cs.toList.take (off + k) ++ l ++ cs.toList.drop (off + k + l.length)
  | [], k, cs, h => by simp
  | v :: l, k, cs, h => by
    rw [List.zipIdx_cons, List.foldl_cons, foldl_set off l (k + 1) _ (by simp at h ⊢; omega)]
    simp only [Array.toList_setIfInBounds, List.length_cons]
    simp at h
    have h1 : off + k < cs.toList.length := by simp; omega
    have e1 : (cs.toList.set (off + k) v).take (off + (k + 1)) = cs.toList.take (off + k) ++ [v] := take_set_succ _ _ _ h1
    have e2 : (cs.toList.set (off + k) v).drop (off + (k + 1) + l.length) = cs.toList.drop (off + k + (l.length + 1)) := by
      rw [List.drop_set_of_lt (by omega)]; congr 1; omega
    rw [e1, e2]
    simp

theorem afill_sound {place : Nat → Option (Nat × Nat)} {ps : List (Nat × Operand)} {ρ : Operand → Value} {ρ' : Operand → AV} (hρ : ∀ x, VR f (ρ x) (ρ' x)) :
    ∀ {cs : Array Value} {l r : List AV}, VRs f cs.toList l → afill place l (ps.map fun p => (p.1, ρ' p.2)) = some r →
    ∃ cs', Instr.fill place cs (ps.map fun p => (p.1, ρ p.2)) = some cs' ∧ VRs f cs'.toList r := by
  induction ps with
  | nil => intro cs l r hv h; simp [afill] at h; subst h; exact ⟨cs, rfl, hv⟩
  | cons p ps ih =>
    intro cs l r hv h
    simp only [List.map_cons, afill] at h
    split at h
    · simp at h
    · rename_i off size hp
      split at h
      · simp at h
      · rename_i hc
        simp only [Bool.or_eq_true, not_or, Bool.not_eq_true, bne_eq_false_iff_eq] at hc
        obtain ⟨⟨hc1, hc2⟩, hc3⟩ := hc
        have hnt : ρ' p.2 ≠ .top := by intro e; rw [e] at hc1; simp [AV.isTop] at hc1
        have hcells := (hρ p.2).cells hnt
        have hlen : (ρ p.2).cells.size = size := by have := hcells.length; simp at this; omega
        have hle : off + size ≤ l.length := by
          rcases Nat.lt_or_ge l.length (off + size) with h' | h'
          · rw [Nat.blt_eq.mpr h'] at hc3; simp at hc3
          · exact h'
        have hcl : cs.size = l.length := by have := hv.length; simpa using this
        have hv' : VRs f ((ρ p.2).cells.zipIdx.foldl (fun cs (x : Value × Nat) => cs.setIfInBounds (off + x.2) x.1) cs).toList (l.take off ++ (ρ' p.2).cells ++ l.drop (off + size)) := by
          rw [← Array.foldl_toList, Array.toList_zipIdx, foldl_set off _ 0 cs (by rw [Array.length_toList]; omega)]
          simp only [Nat.add_zero, Array.length_toList, hlen]
          exact ((hv.take off).append hcells).append (hv.drop (off + size))
        obtain ⟨cs', h1, h2⟩ := ih hv' h
        refine ⟨cs', ?_, h2⟩
        simp only [List.map_cons, Instr.fill, hp]
        rw [if_neg (by first | (simp [hlen]; done) | (simp [hlen]; omega))]
        exact h1

theorem aplaces_sound {g : Field → Sem (Nat × Nat)} (hg : ∀ fd n, asize P fd.type = some n → ∀ w, (g fd).run P w = .ok (fd.offset, n) w) :
    ∀ {fs : List Field} {l : List (Nat × Nat)}, aplaces P fs = some l → ∀ w, (fs.mapM g).run P w = .ok l w
  | [], l, h, w => by simp [aplaces] at h; subst h; simp
  | fd :: fs, l, h, w => by
    simp only [aplaces] at h
    split at h
    · rename_i n l' hn hl
      injection h with h
      subst h
      rw [List.mapM_cons, Sem.run_bind, hg fd n hn, Result.andThen_ok, Sem.run_bind, aplaces_sound hg hl]
      rfl
    · simp at h

theorem abuild_sound {t : TypeId} {ps : List (Nat × Operand)} {r : AV} {ρ : Operand → Value} {ρ' : Operand → AV} (hρ : ∀ x, VR f (ρ x) (ρ' x))
    (h : abuild P t (ps.map fun p => (p.1, ρ' p.2)) = some r) : Gives P f (Instr.build t (ps.map fun p => (p.1, ρ p.2)).toArray) r := by
  unfold abuild at h
  split at h
  · rename_i z fields hz ht
    split at h
    · simp at h
    · rename_i hzt
      split at h
      · simp at h
      · rename_i places hp
        cases hfl : afill (places[·]?) z.cells (ps.map fun p => (p.1, ρ' p.2)) with
        | none => simp [hfl] at h
        | some l =>
          simp [hfl] at h
          subst h
          obtain ⟨zv, hzv, hzr⟩ := run_zeroValue hz f
          have hnt : z ≠ .top := by intro e; rw [e] at hzt; simp [AV.isTop] at hzt
          obtain ⟨cs', h1, h2⟩ := afill_sound hρ (hzv.cells hnt) hfl
          refine .of (.agg cs') (.agg _ _ h2) fun w => ?_
          have hm : ∀ (g : Field → Sem (Nat × Nat)), (∀ fd n, asize P fd.type = some n → ∀ w, (g fd).run P w = .ok (fd.offset, n) w) → ∀ w, (fields.mapM g).run P w = .ok places.toArray w := fun g hg w => by
            obtain ⟨fl⟩ := fields
            rw [List.mapM_toArray, Sem.run_map, aplaces_sound hg hp]
            rfl
          unfold Instr.build
          simp only [Sem.run_bind, hzr, run_underlying ht, Result.andThen_ok]
          rw [hm _ (fun fd n hn w => by simp only [Sem.run_bind, run_sizeOf hn, Result.andThen_ok, Sem.run_pure])]
          simp only [Result.andThen_ok]
          simp [h1]
  · rename_i z n e hz ht
    split at h
    · simp at h
    · rename_i hzt
      split at h
      · simp at h
      · rename_i sz hs
        cases hfl : afill (fun i => some (i * sz, sz)) z.cells (ps.map fun p => (p.1, ρ' p.2)) with
        | none => simp [hfl] at h
        | some l =>
          simp [hfl] at h
          subst h
          obtain ⟨zv, hzv, hzr⟩ := run_zeroValue hz f
          have hnt : z ≠ .top := by intro e; rw [e] at hzt; simp [AV.isTop] at hzt
          obtain ⟨cs', h1, h2⟩ := afill_sound hρ (hzv.cells hnt) hfl
          exact .of (.agg cs') (.agg _ _ h2) fun w => by simp [Instr.build, hzr, run_underlying ht, run_sizeOf hs, h1]
  · simp at h

theorem anilCheck_sound {v : Value} {x r : AV} (hv : VR f v x) (h : anilCheck x = some r) (o : Oper) {ρ : Operand → Value} {p : Operand} (ho : o.op = .nilCheck p) (hp : ρ p = v) :
    ∃ z, VR f z r ∧ ∀ w, (execOp ρ o).run P w = .ok (.value z) w := by
  unfold anilCheck at h
  split at h
  · injection h with h; subst h; obtain ⟨rg, _, _, rfl⟩ := hv.ptr_inv; exact ⟨_, hv, fun w => by simp [execOp, ho, hp]⟩
  · injection h with h; subst h; obtain ⟨c1, c2, rfl, _, _⟩ := hv.fn_inv; exact ⟨_, hv, fun w => by simp [execOp, ho, hp]⟩
  · injection h with h; subst h; obtain ⟨u, rfl, _⟩ := hv.iface_inv; exact ⟨_, hv, fun w => by simp [execOp, ho, hp]⟩
  · simp at h

theorem aconv_sound {src dst : TypeId} {v : Value} {x r : AV} (hv : VR f v x) (h : aconv P src dst x = some r) : Gives P f (convert src dst v) r := by
  unfold aconv at h
  split at h
  · rename_i k k' n hd hs
    obtain rfl := hv.int_inv
    injection h with h; subst h
    exact .of _ (.int _ _) fun w => by simp [convert, run_underlying hs, run_underlying hd, Conv.intToInt]
  · rename_i s hd hs
    obtain ⟨b, rfl, rfl⟩ := hv.str_inv
    injection h with h; subst h
    exact .of _ (.str _ _ rfl) fun w => by simp [convert, run_underlying hs, run_underlying hd]
  · simp at h

theorem alen_sound {t : TypeId} {v : Value} {x : AV} {n : Nat} (hv : VR f v x) (h : alen P t x = some n) (ts : Array TypeId) (as : Array Value) (ht : ts[0]? = some t) (ha : as[0]? = some v) (ty : TypeId) (w : World) :
    (Builtin.len_ ts ty as).run P w = .ok (.int .i64 (n : Int)) w := by
  unfold alen at h
  split at h
  · rename_i hd
    obtain ⟨b, rfl, rfl⟩ := hv.str_inv
    injection h with h; subst h
    simp [Builtin.len_, ht, ha, run_underlying hd, goInt, length_nats]
  · rename_i hd
    obtain ⟨rg, O, cap, sp, _, _, _, _, _, _, rfl⟩ := hv.sl_inv
    injection h with h; subst h
    simp [Builtin.len_, ht, ha, run_underlying hd, goInt]
  · rename_i hd
    obtain rfl := hv.nilSl_inv
    injection h with h; subst h
    simp [Builtin.len_, ht, ha, run_underlying hd, goInt]
  · rename_i hd
    obtain rfl := hv.nilMap_inv
    injection h with h; subst h
    simp [Builtin.len_, ht, ha, run_underlying hd, goInt]
  · simp at h
theorem acap_sound {t : TypeId} {v : Value} {x : AV} {n : Nat} (hv : VR f v x) (h : acap P t x = some n) (ts : Array TypeId) (as : Array Value) (ht : ts[0]? = some t) (ha : as[0]? = some v) (ty : TypeId) (w : World) :
    (Builtin.cap_ ts ty as).run P w = .ok (.int .i64 (n : Int)) w := by
  unfold acap at h
  split at h
  · rename_i hd
    obtain ⟨rg, O, cap, sp, _, _, _, _, hc, _, rfl⟩ := hv.sl_inv
    have := hc _ h
    subst this
    simp [Builtin.cap_, ht, ha, run_underlying hd, goInt]
  · rename_i hd
    obtain rfl := hv.nilSl_inv
    injection h with h; subst h
    simp [Builtin.cap_, ht, ha, run_underlying hd, goInt]
  · simp at h
end
end Go.Proofs.Ytgnacecplaemlaa.AI
/-
  An abstract interpreter for the model's code, part 7: an operation that looks at no memory comes to what the model's run comes to.
-/
namespace Go.Proofs.Ytgnacecplaemlaa.AI
section
variable {P : Program} {f : Inj} {ρ : Operand → Value} {ρ' : Operand → AV}

theorem VRs.map (hρ : ∀ x, VR f (ρ x) (ρ' x)) : ∀ l : List Operand, VRs f (l.map ρ) (l.map ρ')
  | [] => .nil
  | x :: l => .cons _ _ _ _ (hρ x) (VRs.map hρ l)

/-- The operation comes, in every world, to a value related to 'a', and leaves the world alone. -/
def OpGives (P : Program) (f : Inj) (ρ : Operand → Value) (o : Oper) (a : AV) : Prop := ∃ v, VR f v a ∧ ∀ w, (execOp ρ o).run P w = .ok (.value v) w

theorem afold2_min : ∀ (l : List Value) (l' : List AV) (v : Value) (x r : AV), VR f v x → VRs f l l' → isInt x = true → afold2 (fun a b => b < a) x l' = some r →
    ∃ z, VR f z r ∧ ∀ w, (l.foldlM Builtin.min2 v).run P w = .ok z w
  | [], l', v, x, r, hv, hl, hi, h => by
    cases hl
    simp [afold2] at h
    subst h
    exact ⟨v, hv, fun w => by simp⟩
  | u :: l, l', v, x, r, hv, hl, hi, h => by
    cases hl with
    | cons _ y _ l' hu hl =>
      cases x <;> simp [isInt] at hi
      rename_i k a
      cases y <;> simp only [afold2] at h <;> first | (simp at h; done) | skip
      rename_i k' b
      obtain rfl := hv.int_inv
      obtain rfl := hu.int_inv
      obtain ⟨z, h1, h2⟩ := afold2_min l l' (.int k (if b < a then b else a)) (.int k (if b < a then b else a)) r (.int _ _) hl rfl (by simpa using h)
      exact ⟨z, h1, fun w => by simp [List.foldlM_cons, Builtin.min2, h2]⟩
theorem afold2_max : ∀ (l : List Value) (l' : List AV) (v : Value) (x r : AV), VR f v x → VRs f l l' → isInt x = true → afold2 (fun a b => b > a) x l' = some r →
    ∃ z, VR f z r ∧ ∀ w, (l.foldlM Builtin.max2 v).run P w = .ok z w
  | [], l', v, x, r, hv, hl, hi, h => by
    cases hl
    simp [afold2] at h
    subst h
    exact ⟨v, hv, fun w => by simp⟩
  | u :: l, l', v, x, r, hv, hl, hi, h => by
    cases hl with
    | cons _ y _ l' hu hl =>
      cases x <;> simp [isInt] at hi
      rename_i k a
      cases y <;> simp only [afold2] at h <;> first | (simp at h; done) | skip
      rename_i k' b
      obtain rfl := hv.int_inv
      obtain rfl := hu.int_inv
      obtain ⟨z, h1, h2⟩ := afold2_max l l' (.int k (if b > a then b else a)) (.int k (if b > a then b else a)) r (.int _ _) hl rfl (by simpa using h)
      exact ⟨z, h1, fun w => by simp [List.foldlM_cons, Builtin.max2, h2]⟩

theorem apure_sound (hρ : ∀ x, VR f (ρ x) (ρ' x)) {o : Oper} {r : AV} (h : apure P ρ' o = some r) : OpGives P f ρ o r := by
  obtain ⟨dst, op, type, pos, after, guard⟩ := o
  have lift : ∀ {s : Sem Value}, Gives P f s r → (∀ w, (execOp ρ ⟨dst, op, type, pos, after, guard⟩).run P w = (s.run P w).andThen fun v w' => .ok (.value v) w') → OpGives P f ρ ⟨dst, op, type, pos, after, guard⟩ r := by
    rintro s ⟨v, hv, hr⟩ he
    exact ⟨v, hv, fun w => by rw [he w, hr w]; rfl⟩
  cases op <;> simp only [apure] at h <;> try (simp at h; done)
  case move x => injection h with h; subst h; exact ⟨_, hρ x, fun w => by simp [execOp]⟩
  case assign x => injection h with h; subst h; exact ⟨_, hρ x, fun w => by simp [execOp]⟩
  case pick c a b =>
    split at h
    · rename_i t ht
      have hc := hρ c
      rw [ht] at hc
      have hc := hc.bool_inv
      injection h with h
      subst h
      cases t
      · exact ⟨_, hρ b, fun w => by simp [execOp, hc, asBool]⟩
      · exact ⟨_, hρ a, fun w => by simp [execOp, hc, asBool]⟩
    · simp at h
  case nilCheck x => exact anilCheck_sound (hρ x) h _ rfl rfl
  case binOp op xt x y yt => exact lift (abin_sound (hρ x) (hρ y) h) (fun w => by simp only [execOp, Sem.run_bind, Sem.run_pure])
  case unOp op t x => exact lift (aun_sound (hρ x) h) (fun w => by simp [execOp])
  case convert src dst x => exact lift (aconv_sound (hρ x) h) (fun w => by simp [execOp])
  case makeInterface t x =>
    split at h
    · simp at h
    · simp at h
    · rename_i d hn hd
      injection h with h
      subst h
      refine ⟨.iface t (ρ x), .iface _ _ _ (hρ x), fun w => ?_⟩
      have : P.concrete t = true := by
        unfold Program.concrete
        rw [hd]
        cases d <;> first | rfl | exact absurd rfl (hn _)
      simp [execOp, run_makeInterface w t (ρ x) this]
  case makeFunc fn first captured =>
    split at h <;> try (simp at h; done)
    rename_i g
    injection h with h
    subst h
    refine ⟨.func (.func g) (first.map ρ) (captured.map ρ), .fn _ _ _ _ _ ?_ ?_, fun w => by simp [execOp, Instr.makeFunc]⟩
    · rw [Array.toList_map]; exact VRs.map hρ _
    · rw [Array.toList_map]; exact VRs.map hρ _
  case slice t x lo hi mx =>
    have : aslice P t (ρ' x) (lo.map ρ') (hi.map ρ') (mx.map ρ') = some r := by
      split at h
      · exact h
      · exact h
      · simp at h
    exact lift (aslice_sound hρ (hρ x) this) (fun w => by simp [execOp])
  case fieldAddr s x i => exact lift (afieldAt_sound (hρ x) h) (fun w => by simp [execOp])
  case field t x i =>
    split at h
    · rename_i fields cs ht hx
      split at h
      · rename_i fd hfd
        have hc := hρ x
        rw [hx] at hc
        obtain ⟨c, e, hc⟩ := hc.agg_inv
        obtain ⟨v, hv, hr⟩ := apart_sound hc h
        exact ⟨v, hv, fun w => by simp [execOp, Instr.field, run_underlying ht, hfd, e, asAgg, hr]⟩
      · simp at h
    · simp at h
  case indexAddr t x i => exact lift (aindexAt_sound (hρ x) (hρ i) h) (fun w => by simp [execOp])
  case index t x i => exact lift (aindex_sound (hρ x) (hρ i) h) (fun w => by simp [execOp])
  case extract t i =>
    split at h
    · rename_i l hl
      have hc := hρ t
      rw [hl] at hc
      obtain ⟨c, e, hc⟩ := hc.tup_inv
      obtain ⟨v, hv, hr⟩ := hc.get i r h
      have hv' : c[i]? = some v := by simpa using hv
      exact ⟨v, hr, fun w => by simp [execOp, Instr.extract, e, hv']⟩
    · simp at h
  case build t parts =>
    obtain ⟨l⟩ := parts
    refine lift (abuild_sound (ps := l) hρ h) (fun w => ?_)
    simp [execOp]
  case call c =>
    obtain ⟨callee, args, argTypes⟩ := c
    cases callee with
    | value x => simp at h
    | invoke x m => simp at h
    | builtin b =>
      obtain ⟨args⟩ := args
      cases b <;> simp only [] at h <;> try (simp at h; done)
      case len =>
        split at h
        · rename_i t x ht hx
          cases hn : alen P t (ρ' x) with
          | none => simp [hn] at h
          | some n =>
            simp [hn] at h
            subst h
            refine ⟨_, .int _ _, fun w => ?_⟩
            have := alen_sound (hρ x) hn argTypes (args.map ρ).toArray ht (by simp; exact ⟨x, by simpa using hx, rfl⟩) type w
            simp [execOp, resolve, invoke, builtin, this]
        · simp at h
      case cap =>
        split at h
        · rename_i t x ht hx
          cases hn : acap P t (ρ' x) with
          | none => simp [hn] at h
          | some n =>
            simp [hn] at h
            subst h
            refine ⟨_, .int _ _, fun w => ?_⟩
            have := acap_sound (hρ x) hn argTypes (args.map ρ).toArray ht (by simp; exact ⟨x, by simpa using hx, rfl⟩) type w
            simp [execOp, resolve, invoke, builtin, this]
        · simp at h
      case min =>
        cases args with
        | nil => simp at h
        | cons x args =>
          simp only [List.map_cons] at h
          split at h
          · rename_i hi
            obtain ⟨z, h1, h2⟩ := afold2_min (P := P) (args.map ρ) (args.map ρ') (ρ x) (ρ' x) r (hρ x) (VRs.map hρ args) hi h
            exact ⟨z, h1, fun w => by simp [execOp, resolve, invoke, builtin, Builtin.min_, h2]⟩
          · simp at h
      case max =>
        cases args with
        | nil => simp at h
        | cons x args =>
          simp only [List.map_cons] at h
          split at h
          · rename_i hi
            obtain ⟨z, h1, h2⟩ := afold2_max (P := P) (args.map ρ) (args.map ρ') (ρ x) (ρ' x) r (hρ x) (VRs.map hρ args) hi h
            exact ⟨z, h1, fun w => by simp [execOp, resolve, invoke, builtin, Builtin.max_, h2]⟩
          · simp at h
end
end Go.Proofs.Ytgnacecplaemlaa.AI
/-
  An abstract interpreter for the model's code, part 8: how an abstract heap stands to a world.
-/
namespace Go.Proofs.Ytgnacecplaemlaa.AI
open Go.RowKit

/-- The frame 'fr' stands for the slots 'tmps'. -/
structure FR (f : Inj) (tmps : Array Value) (fr : List AV) : Prop where
  size : tmps.size = fr.length
  get : ∀ (t : Nat) (a : AV), fr[t]? = some a → ∃ v, tmps[t]? = some v ∧ VR f v a
theorem FR.mono {f f' : Inj} {tmps : Array Value} {fr : List AV} (h : FR f tmps fr) (he : Ext f f') : FR f' tmps fr :=
  ⟨h.size, fun t a ha => let ⟨v, h1, h2⟩ := h.get t a ha; ⟨v, h1, h2.mono he⟩⟩
def LSt.state : LSt → LoopState
  | .ready => .ready
  | .busy => .busy
  | .ret | .exit _ => .done
def LSt.pend : LSt → Option Code
  | .ready | .busy => none
  | .ret => some .ret
  | .exit id => some (.exit id)
/-- An abstract object stands for a row that is no cells. -/
def ObR (f : Inj) (o : AObj) (r : Reg) (x : Obj) : Prop :=
  match o with
  | .loop L => ∃ R, x = .loop R ∧ R.state = L.st.state ∧ R.pending = L.st.pend ∧ FR f R.tmps L.fr ∧ R.params = L.ps ∧ R.assign = L.asg ∧ R.body = L.body
  | .iter s pos => ∃ b, x = .stringIter b pos ∧ s = nats b ∧ r.base = 0 ∧ r.lo = 0
theorem ObR.mono {f f' : Inj} {o : AObj} {r : Reg} {x : Obj} (h : ObR f o r x) (he : Ext f f') : ObR f' o r x := by
  cases o with
  | loop L => obtain ⟨R, h1, h2, h3, h4, h5⟩ := h; exact ⟨R, h1, h2, h3, h4.mono he, h5⟩
  | iter s pos => exact h
/-- A row of cells, or a block for deferred calls: no abstract object stands for it. -/
def Obj.other : Obj → Bool
  | .loop _ | .stringIter _ _ => true
  | _ => false
theorem ObR.other {f : Inj} {o : AObj} {r : Reg} {x : Obj} (h : ObR f o r x) : Obj.other x = true := by
  cases o with
  | loop L => obtain ⟨R, rfl, _⟩ := h; rfl
  | iter s pos => obtain ⟨b, rfl, _⟩ := h; rfl
/-- The objects that are no cells. -/
structure OR (B : Nat) (f : Inj) (h : AH) (w : World) : Prop where
  obj : ∀ id o, h.ob? id = some o → ∃ r x, f id = some r ∧ B ≤ r.blk ∧ w.heap[r.blk]? = some x ∧ ObR f o r x
  oapart : ∀ id id' o o' r r', id ≠ id' → h.ob? id = some o → h.ob? id' = some o' → f id = some r → f id' = some r' → r.blk ≠ r'.blk
  ofresh : ∀ id, h.next ≤ id → h.ob? id = none
/-- They stand where no row of theirs has turned. -/
theorem OR.keep {B : Nat} {f f' : Inj} {h h' : AH} {w w' : World} (H : OR B f h w) (he : Ext f f') (hob : ∀ j, h'.ob? j = h.ob? j) (hn : h.next ≤ h'.next)
    (hw : ∀ (k : Nat) (x : Obj), B ≤ k → w.heap[k]? = some x → Obj.other x = true → w'.heap[k]? = some x) : OR B f' h' w' := by
  refine ⟨fun id o ho => ?_, fun id id' o o' r r' hne ho ho' hr hr' => ?_, fun id hid => by rw [hob]; exact H.ofresh id (by omega)⟩
  · rw [hob] at ho
    obtain ⟨r, x, h1, h2, h3, h4⟩ := H.obj id o ho
    exact ⟨r, x, he _ _ h1, h2, hw _ _ h2 h3 h4.other, h4.mono he⟩
  · rw [hob] at ho ho'
    obtain ⟨r1, _, h1, _⟩ := H.obj id o ho
    obtain ⟨r2, _, h2, _⟩ := H.obj id' o' ho'
    have e1 := he _ _ h1
    have e2 := he _ _ h2
    rw [hr] at e1
    rw [hr'] at e2
    injection e1 with e1
    injection e2 with e2
    subst e1 e2
    exact H.oapart id id' o o' r r' hne ho ho' h1 h2

/-- What lies below B stands, and every block for deferred calls. -/
structure Kept (B : Nat) (w w' : World) : Prop where
  bel : Below B w w'
  dfr : ∀ (k : Nat) ds, w.heap[k]? = some (.deferred ds) → w'.heap[k]? = some (.deferred ds)
theorem Kept.refl (B : Nat) (w : World) : Kept B w w := ⟨Below.refl B w, fun _ _ h => h⟩
theorem Kept.trans {B : Nat} {a b c : World} (x : Kept B a b) (y : Kept B b c) : Kept B a c := ⟨x.bel.trans y.bel, fun k ds h => y.dfr k ds (x.dfr k ds h)⟩
theorem Kept.mono {B B' : Nat} {w w' : World} (x : Kept B w w') (hB : B' ≤ B) : Kept B' w w' := ⟨x.bel.mono hB, x.dfr⟩
theorem Kept.drew {B : Nat} {a w : World} (x : Kept B a w) : Kept B a w.drew := ⟨x.bel.drew, x.dfr⟩
theorem Kept.alloc {B : Nat} {a w : World} (x : Kept B a w) (hB : B ≤ w.heap.size) (o : Obj) : Kept B a (w.alloc o) :=
  ⟨x.bel.alloc hB o, fun k ds h => by rw [Below.heap_alloc _ _ _ (Array.getElem?_eq_some_iff.1 (x.dfr k ds h)).1]; exact x.dfr k ds h⟩
theorem Kept.of_heap {B : Nat} {w w' w2 : World} (hb : Kept B w w') (e1 : w2.heap = w'.heap) (e2 : w2.os = w'.os) (e3 : w2.tape = w'.tape) (e4 : w2.output = w'.output) : Kept B w w2 :=
  ⟨⟨e2.trans hb.bel.os, e3.trans hb.bel.tape, e4.trans hb.bel.output, by rw [e1]; exact hb.bel.size, fun k hk => by rw [e1]; exact hb.bel.block k hk⟩, fun k ds h => by rw [e1]; exact hb.dfr k ds h⟩

/-- The abstract heap 'h' stands for what the world 'w' holds; blocks from number B on are the call's own. -/
structure HR (B : Nat) (f : Inj) (h : AH) (w : World) : Prop where
  blk : ∀ id b, h.blk? id = some b → ∃ r c e fz, f id = some r ∧ w.heap[r.blk]? = some (.cells c e fz) ∧ r.base + r.ext ≤ c.size ∧ r.lo = b.lo ∧ b.hi - b.lo ≤ r.ext ∧
    (b.ro = false → B ≤ r.blk ∧ fz = (0, 0)) ∧ (b.ro = true → r.blk < B) ∧ ∀ o a, b.get o = some a → ∃ v, c[r.base + (o - b.lo)]? = some v ∧ VR f v a
  apart : ∀ id id' b b' r r', id ≠ id' → h.blk? id = some b → h.blk? id' = some b' → b.ro = false → b'.ro = false → f id = some r → f id' = some r' →
    r.blk ≠ r'.blk ∨ r.base + r.ext ≤ r'.base ∨ r'.base + r'.ext ≤ r.base
  fresh : ∀ id, h.next ≤ id → h.blk? id = none
  ffresh : ∀ id, h.next ≤ id → f id = none
  le : B ≤ w.heap.size
  objs : OR B f h w

section
variable {B : Nat} {f : Inj} {h : AH} {w : World}

theorem HR.of_heap (H : HR B f h w) {w' : World} (e : w'.heap = w.heap) : HR B f h w' :=
  ⟨fun id b hb => by rw [e]; exact H.blk id b hb, H.apart, H.fresh, H.ffresh, by rw [e]; exact H.le, H.objs.keep (Ext.refl f) (fun _ => rfl) (Nat.le_refl _) (fun k x _ hx _ => by rw [e]; exact hx)⟩

theorem Blk.get_lo {b : Blk} {o : Nat} {a : AV} (hg : b.get o = some a) : b.lo ≤ o ∧ o < b.hi := by
  rw [Blk.get_eq] at hg
  split at hg
  · assumption
  · simp at hg

/-- A cell that the abstract heap has. -/
theorem HR.cell (H : HR B f h w) {id off : Nat} {a : AV} {r : Reg} (hc : h.cell? id off = some a) (hf : f id = some r) :
    ∃ v, w.cell? ⟨r.blk, r.base + (off - r.lo), none⟩ = some v ∧ VR f v a := by
  rw [AH.cell?_eq] at hc
  obtain ⟨b, hb, hg⟩ := Option.bind_eq_some_iff.mp hc
  obtain ⟨r', c, e, fz, hf', hw, _, hlo, _, _, _, hv⟩ := H.blk id b hb
  obtain rfl : r' = r := by rw [hf] at hf'; injection hf' with e; exact e.symm
  obtain ⟨v, h1, h2⟩ := hv off a hg
  exact ⟨v, by simp only [World.cell?, hw]; rw [hlo]; simpa using h1, h2⟩

theorem HR.cells (H : HR B f h w) {id n off : Nat} {l : List AV} {r : Reg} (hc : h.cells? id n off = some l) (hf : f id = some r) (hlo : r.lo ≤ off) :
    ∃ vs : List Value, vs.length = n ∧ VRs f vs l ∧ ∀ j v, vs[j]? = some v → w.cell? ((⟨r.blk, r.base + (off - r.lo), none⟩ : Addr).add j) = some v := by
  obtain ⟨hl, hg⟩ := AH.cells?_spec h id n off l hc
  have key : ∀ i, i < l.length → ∃ v, w.cell? ⟨r.blk, r.base + (off - r.lo) + i, none⟩ = some v ∧ ∀ a, l[i]? = some a → VR f v a := by
    intro i hi
    obtain ⟨v, h1, h2⟩ := H.cell (hg i l[i] (by simp [hi])) hf
    refine ⟨v, by rw [← h1]; congr 2; omega, fun a ha => ?_⟩
    rw [List.getElem?_eq_getElem hi] at ha
    injection ha with ha
    subst ha
    exact h2
  refine ⟨(List.range l.length).map (fun i => ((w.cell? ⟨r.blk, r.base + (off - r.lo) + i, none⟩).getD undef)), by simp [hl], ?_, ?_⟩
  · refine VRs.of_get (by simp) (fun i v a h1 h2 => ?_)
    have hi : i < l.length := by
      rcases Nat.lt_or_ge i l.length with h' | h'
      · exact h'
      · rw [List.getElem?_eq_none h'] at h2; simp at h2
    obtain ⟨u, hu1, hu2⟩ := key i hi
    simp [hi, hu1] at h1
    subst h1
    exact hu2 a h2
  · intro j v hj
    have hi : j < l.length := by
      rcases Nat.lt_or_ge j l.length with h' | h'
      · exact h'
      · rw [List.getElem?_eq_none (by simpa using h')] at hj; simp at hj
    obtain ⟨u, hu1, _⟩ := key j hi
    simp [hi, hu1] at hj
    subst hj
    rw [Addr.add_plain]; exact hu1

/-- f, and one more. -/
def upd (f : Inj) (id : Nat) (r : Reg) : Inj := fun j => if j = id then some r else f j
theorem upd_same (f : Inj) (id : Nat) (r : Reg) : upd f id r id = some r := by simp [upd]
theorem Ext.upd {f : Inj} {id : Nat} (hn : f id = none) (r : Reg) : Ext f (upd f id r) := by
  intro j r' hj
  unfold AI.upd
  by_cases h : j = id
  · subst h; rw [hn] at hj; simp at hj
  · rw [if_neg h]; exact hj

/-- A block is forgotten. -/
theorem HR.forget (H : HR B f h w) (id : Nat) : HR B f (h.put id none) w := by
  have old : ∀ j bj, (h.put id none).blk? j = some bj → h.blk? j = some bj := by
    intro j bj hj
    rw [AH.blk?_put] at hj
    split at hj
    · simp at hj
    · exact hj
  refine ⟨fun j bj hj => H.blk j bj (old j bj hj), fun j k bj bk rj rk hne hj hk => H.apart j k bj bk rj rk hne (old j bj hj) (old k bk hk), fun j hj => ?_, H.ffresh, H.le, H.objs.keep (Ext.refl f) (fun _ => rfl) (Nat.le_refl _) (fun _ _ _ hx _ => hx)⟩
  rw [AH.blk?_put]
  split
  · rfl
  · exact H.fresh j hj
/-- A new block, whatever the abstract heap calls its places. -/
theorem HR.allocG (H : HR B f h w) {cs : Array Value} {b' : Blk} {h' : AH} (hro' : b'.ro = false) (hl : b'.hi - b'.lo ≤ cs.size)
    (hh : ∀ j, h'.blk? j = if j = h.next then some b' else h.blk? j) (hob : ∀ j, h'.ob? j = h.ob? j) (hnx : h'.next = h.next + 1)
    (hv : ∀ (o : Nat) (a : AV), b'.get o = some a → ∃ v, cs[o - b'.lo]? = some v ∧ VR f v a) (e : TypeId) :
    HR B (upd f h.next ⟨w.heap.size, 0, b'.lo, cs.size⟩) h' (w.alloc (.cells cs e)) ∧ Ext f (upd f h.next ⟨w.heap.size, 0, b'.lo, cs.size⟩) ∧ Kept B w (w.alloc (.cells cs e)) := by
  have hx : Ext f (upd f h.next ⟨w.heap.size, 0, b'.lo, cs.size⟩) := Ext.upd (H.ffresh _ (Nat.le_refl _)) _
  have hblt : ∀ id b r, h.blk? id = some b → f id = some r → r.blk < w.heap.size := by
    intro id b r hb hf
    obtain ⟨r', c, e, fz, hf', hw, _⟩ := H.blk id b hb
    rw [hf] at hf'
    injection hf' with e'
    subst e'
    exact (Array.getElem?_eq_some_iff.1 hw).1
  refine ⟨⟨fun id b hb => ?_, fun id id' b b2 r r' hne hb hb' hro hro2 hf hf' => ?_, fun id hid => ?_, fun id hid => ?_, ?_, H.objs.keep hx hob (by omega) (fun k x _ h1 _ => (Below.heap_alloc _ _ _ (Array.getElem?_eq_some_iff.1 h1).1).trans h1)⟩, hx, (Kept.refl B w).alloc H.le _⟩
  · rw [hh] at hb
    split at hb
    · rename_i hid
      subst hid
      injection hb with hb
      subst hb
      refine ⟨_, cs, e, (0, 0), upd_same _ _ _, ?_, by simp, rfl, hl, fun _ => ⟨H.le, rfl⟩, by simp [hro'], fun o a ha => ?_⟩
      · exact heap_alloc_new w _
      · obtain ⟨v, hv1, hv2⟩ := hv o a ha
        exact ⟨v, by simpa using hv1, hv2.mono hx⟩
    · rename_i hid
      obtain ⟨r, c, e', fz, hf, hw, h1, h2, h3, h4, h5, h6⟩ := H.blk id b hb
      refine ⟨r, c, e', fz, hx _ _ hf, ?_, h1, h2, h3, h4, h5, fun o a ha => ?_⟩
      · rw [← hw]
        exact Below.heap_alloc _ _ _ (hblt id b r hb hf)
      · obtain ⟨v, hv1, hv2⟩ := h6 o a ha
        exact ⟨v, hv1, hv2.mono hx⟩
  · rw [hh] at hb hb'
    unfold upd at hf hf'
    split at hb
    · rename_i hid
      subst hid
      rw [if_neg (Ne.symm hne)] at hb' hf'
      rw [if_pos rfl] at hf
      injection hf with hf
      subst hf
      left
      exact Nat.ne_of_gt (hblt id' b2 r' hb' hf')
    · rename_i hid
      rw [if_neg hid] at hf
      split at hb'
      · rename_i hid'
        subst hid'
        rw [if_pos rfl] at hf'
        injection hf' with hf'
        subst hf'
        left
        exact Nat.ne_of_lt (hblt id b r hb hf)
      · rename_i hid'
        rw [if_neg hid'] at hf'
        exact H.apart id id' b b2 r r' hne hb hb' hro hro2 hf hf'
  · rw [hnx] at hid
    rw [hh, if_neg (by omega)]
    exact H.fresh id (by omega)
  · rw [hnx] at hid
    unfold upd
    rw [if_neg (by omega)]
    exact H.ffresh id (by omega)
  · have := H.le
    simp
    omega
/-- A new block, of which the abstract heap knows the first cells. -/
theorem HR.alloc (H : HR B f h w) {cs : Array Value} {l : List AV} (hl : l.length ≤ cs.size) (hv : ∀ (i : Nat) (a : AV), l[i]? = some a → ∃ v, cs[i]? = some v ∧ VR f v a) (e : TypeId) :
    HR B (upd f h.next ⟨w.heap.size, 0, 0, cs.size⟩) (h.alloc l) (w.alloc (.cells cs e)) ∧ Ext f (upd f h.next ⟨w.heap.size, 0, 0, cs.size⟩) ∧ Kept B w (w.alloc (.cells cs e)) :=
  H.allocG (b' := { lo := 0, hi := l.length, ro := false, cells := putCells l 0 .nil }) rfl (by simpa using hl) (fun j => AH.blk?_alloc h l j) (fun _ => rfl) rfl
    (fun o a ha => by
      obtain ⟨h1, h2⟩ := Blk.get_lo ha
      rw [Blk.get_eq, if_pos ⟨h1, h2⟩] at ha
      simp only [get_putCells, Tr.get_nil] at ha
      simp only at h1 h2
      rw [if_pos ⟨h1, by omega⟩] at ha
      obtain ⟨v, hv1, hv2⟩ := hv o a (by simpa using ha)
      exact ⟨v, by simpa using hv1, hv2⟩) e

/-- One block's cells are turned; it may get another name, and a smaller place. -/
theorem HR.replace (H : HR B f h w) {id : Nat} {b : Blk} {r : Reg} {c c' : Array Value} {e : TypeId} (hb : h.blk? id = some b) (hro : b.ro = false) (hf : f id = some r)
    (hc : w.heap[r.blk]? = some (.cells c e (0, 0))) (hs : c'.size = c.size) (hout : ∀ j, j < r.base ∨ r.base + r.ext ≤ j → c'[j]? = c[j]?)
    {f' : Inj} {h' : AH} {id' : Nat} {b' : Blk} {r' : Reg} (hh : ∀ j, h'.blk? j = if j = id' then some b' else if j = id then none else h.blk? j) (hob : ∀ j, h'.ob? j = h.ob? j)
    (hid : id' = id ∨ h.next ≤ id') (hid2 : id' < h'.next) (hn : h.next ≤ h'.next) (hext : Ext f f') (hff : ∀ j, h'.next ≤ j → f' j = none) (hf' : f' id' = some r')
    (hrb : r'.blk = r.blk) (hr1 : r.base ≤ r'.base) (hr2 : r'.base + r'.ext ≤ r.base + r.ext) (hlo : r'.lo = b'.lo) (hhi : b'.hi - b'.lo ≤ r'.ext) (hro' : b'.ro = false)
    (hlive : ∀ o a, b'.get o = some a → ∃ v, c'[r'.base + (o - b'.lo)]? = some v ∧ VR f' v a) :
    HR B f' h' (w.setRow r.blk c') ∧ Kept B w (w.setRow r.blk c') := by
  have hb0 := H.blk id b hb
  obtain ⟨r0, c0, e0, fz0, hf0, hw0, hin0, _, _, hown0, _, _⟩ := hb0
  obtain rfl : r0 = r := by rw [hf] at hf0; injection hf0 with e; exact e.symm
  have hB := (hown0 hro).1
  have hrow : (w.setRow r0.blk c').heap[r0.blk]? = some (.cells c' e (0, 0)) := setRow_heap w r0.blk c c' e (0, 0) hc
  have hother : ∀ k, k ≠ r0.blk → (w.setRow r0.blk c').heap[k]? = w.heap[k]? := fun k hk => setRow_other w r0.blk k c' hk
  have hsz : (w.setRow r0.blk c').heap.size = w.heap.size := by simp [World.setRow]
  have hc0 : c0 = c := by rw [hc] at hw0; injection hw0 with e; injection e with e1 _ _; exact e1.symm
  subst hc0
  refine ⟨⟨fun j bj hj => ?_, fun j k bj bk rj rk hne hj hk roj rok hfj hfk => ?_, fun j hj => ?_, hff, by rw [hsz]; exact H.le, H.objs.keep hext hob hn (fun k x _ h1 h2 => ?_)⟩,
    ⟨⟨rfl, rfl, rfl, by rw [hsz]; exact Nat.le_refl _, fun k hk => hother k (by omega)⟩, fun k ds hk => ?_⟩⟩
  rotate_left 3
  · rw [hother k ?_]
    · exact h1
    · rintro rfl; rw [hc] at h1; injection h1 with h1; subst h1; simp [Obj.other] at h2
  · rw [hother k ?_]
    · exact hk
    · rintro rfl; rw [hc] at hk; injection hk with hk; cases hk
  · rw [hh] at hj
    split at hj
    · rename_i e1
      subst e1
      injection hj with hj
      subst hj
      exact ⟨r', c', e, (0, 0), hf', by rw [hrb]; exact hrow, by omega, hlo, hhi, fun _ => ⟨by omega, rfl⟩, by simp [hro'], hlive⟩
    · split at hj
      · simp at hj
      · rename_i e1 e2
        obtain ⟨rj, cj, ej, fzj, h1, h2, h3, h4, h5, h6, h7, h8⟩ := H.blk j bj hj
        by_cases hblk : rj.blk = r0.blk
        · have hcj : cj = c0 ∧ ej = e ∧ fzj = (0, 0) := by rw [hblk, hc] at h2; injection h2 with e; injection e with e1 e2 e3; exact ⟨e1.symm, e2.symm, e3.symm⟩
          obtain ⟨rfl, rfl, rfl⟩ := hcj
          refine ⟨rj, c', ej, (0, 0), hext _ _ h1, by rw [hblk]; exact hrow, by omega, h4, h5, h6, h7, fun o a ha => ?_⟩
          obtain ⟨v, hv1, hv2⟩ := h8 o a ha
          refine ⟨v, ?_, hv2.mono hext⟩
          rw [hout _ ?_]
          · exact hv1
          · obtain ⟨g1, g2⟩ := Blk.get_lo ha
            cases hroj : bj.ro with
            | true => have := h7 hroj; omega
            | false =>
              rcases H.apart j id bj b rj r0 e2 hj hb hroj hro h1 hf with h9 | h9 | h9
              · exact absurd hblk h9
              · left; omega
              · right; omega
        · refine ⟨rj, cj, ej, fzj, hext _ _ h1, by rw [hother _ hblk]; exact h2, h3, h4, h5, h6, h7, fun o a ha => ?_⟩
          obtain ⟨v, hv1, hv2⟩ := h8 o a ha
          exact ⟨v, hv1, hv2.mono hext⟩
  · have old : ∀ j bj rj, j ≠ id' → (if j = id' then some b' else if j = id then none else h.blk? j) = some bj → f' j = some rj → j ≠ id ∧ h.blk? j = some bj ∧ f j = some rj := by
      intro j bj rj hj1 hj2 hj3
      rw [if_neg hj1] at hj2
      split at hj2
      · simp at hj2
      · rename_i hj4
        obtain ⟨r1, _, _, _, h1, _⟩ := H.blk j bj hj2
        have := hext _ _ h1
        rw [hj3] at this
        injection this with this
        subst this
        exact ⟨hj4, hj2, h1⟩
    rw [hh] at hj hk
    by_cases e1 : j = id'
    · subst e1
      have e2 : k ≠ j := Ne.symm hne
      obtain ⟨k1, k2, k3⟩ := old k bk rk e2 hk hfk
      rw [hf'] at hfj
      injection hfj with hfj
      subst hfj
      rw [if_pos rfl] at hj
      rcases H.apart id k b bk r0 rk (Ne.symm k1) hb k2 hro rok hf k3 with h9 | h9 | h9
      · left; rw [hrb]; exact h9
      · right; left; omega
      · right; right; omega
    · obtain ⟨j1, j2, j3⟩ := old j bj rj e1 hj hfj
      by_cases e2 : k = id'
      · subst e2
        rw [hf'] at hfk
        injection hfk with hfk
        subst hfk
        rcases H.apart j id bj b rj r0 j1 j2 hb roj hro j3 hf with h9 | h9 | h9
        · left; rw [hrb]; exact h9
        · right; left; omega
        · right; right; omega
      · obtain ⟨k1, k2, k3⟩ := old k bk rk e2 hk hfk
        exact H.apart j k bj bk rj rk hne j2 k2 roj rok j3 k3
  · rw [hh]
    have h1 : j ≠ id' := by omega
    rw [if_neg h1]
    split
    · rfl
    · exact H.fresh j (by omega)
end
end Go.Proofs.Ytgnacecplaemlaa.AI
/-
  An abstract interpreter for the model's code, part 9: the operations that look at memory, and those that make or write it.
-/
namespace Go.Proofs.Ytgnacecplaemlaa.AI
open Go.RowKit
section
variable {P : Program} {B : Nat} {f : Inj} {h : AH} {w : World} {ρ : Operand → Value} {ρ' : Operand → AV}

theorem nats_push (s : ByteArray) (b : UInt8) : nats (s.push b) = nats s ++ [b.toNat] := by
  unfold nats; rw [ByteArray.data_push, Array.toList_push, List.map_append]; rfl
theorem nats_empty : nats ByteArray.empty = [] := rfl
theorem nats_foldl : ∀ (ns : List Nat) (s : ByteArray), (∀ n ∈ ns, n < 256) →
    nats ((ns.map fun (n : Nat) => (n : Int)).foldl (fun r n => r.push (UInt8.ofNat n.toNat)) s) = nats s ++ ns
  | [], s, _ => by simp
  | n :: ns, s, hn => by
    rw [List.map_cons, List.foldl_cons, nats_foldl ns _ (fun m hm => hn m (by simp [hm])), nats_push]
    have : (UInt8.ofNat ((n : Int).toNat)).toNat = n := by simp; exact hn n (by simp)
    rw [this]
    simp
theorem toBytes_sound : ∀ {vs : List Value} {l : List AV} {ns : List Nat}, VRs f vs l → toBytes l = some ns →
    vs = (ns.map fun (n : Nat) => (n : Int)).map (Value.int .u8) ∧ ∀ n ∈ ns, n < 256
  | vs, [], ns, hv, ht => by cases hv; simp [toBytes] at ht; subst ht; simp
  | vs, a :: l, ns, hv, ht => by
    cases hv with
    | cons v _ vs _ h1 h2 =>
      unfold toBytes at ht
      split at ht
      · simp_all
      · rename_i n l' heq
        injection heq with e1 e2
        subst e1 e2
        split at ht
        · rename_i hn
          cases hb : toBytes l with
          | none => simp [hb] at ht
          | some ns' =>
            simp [hb] at ht
            subst ht
            obtain ⟨e, hlt⟩ := toBytes_sound h2 hb
            obtain rfl := h1.int_inv
            constructor
            · rw [List.map_cons, List.map_cons, ← e, Int.toNat_of_nonneg hn.1]
            · intro m hm
              simp at hm
              rcases hm with rfl | hm
              · omega
              · exact hlt m hm
        · simp at ht
      · simp at ht

theorem aload_sound (H : HR B f h w) (hρ : ∀ x, VR f (ρ x) (ρ' x)) {o : Oper} {a : AV} (h0 : aload P ρ' o h = some a) :
    ∃ v, VR f v a ∧ (execOp ρ o).run P w = .ok (.value v) w := by
  obtain ⟨dst, op, type, pos, after, guard⟩ := o
  cases op <;> simp only [aload] at h0 <;> try (simp at h0; done)
  case load t x =>
    split at h0
    · rename_i id off n hx ht hn
      have hp := hρ x
      rw [hx] at hp
      obtain ⟨r, hf, hlo, hv⟩ := hp.ptr_inv
      cases hc : h.cells? id n off with
      | none => simp [hc] at h0
      | some l =>
        simp [hc] at h0
        subst h0
        obtain ⟨vs, hl, hvs, hcell⟩ := H.cells hc hf hlo
        have := run_loadCells_list (P := P) w _ vs hcell
        rw [hl] at this
        exact ⟨.agg vs.toArray, .agg _ _ (by simpa using hvs), by simp [execOp, hv, Instr.loadAt, Instr.sureAddr, loadVar, run_isAgg ht, run_sizeOf hn, this]⟩
    · rename_i id off _ hx ht
      have hp := hρ x
      rw [hx] at hp
      obtain ⟨r, hf, hlo, hv⟩ := hp.ptr_inv
      obtain ⟨v, h1, h2⟩ := H.cell h0 hf
      exact ⟨v, h2, by simp [execOp, hv, Instr.loadAt, Instr.sureAddr, loadVar, run_isAgg ht, h1]⟩
    · simp at h0
  case convert src dst x =>
    split at h0
    · rename_i e id off len es c hs hd hx
      have hp := hρ x
      rw [hx] at hp
      obtain ⟨r, O, cap, sp, hf, hlo, hlen, hO, hcap, hsp, hv⟩ := hp.sl_inv
      split at h0
      · rename_i he
        split at h0
        · rename_i hes
          subst hes
          cases hc : h.cells? id len off with
          | none => simp [hc] at h0
          | some l =>
            simp [hc] at h0
            obtain ⟨ns, hb, h0⟩ := h0
            subst h0
            obtain ⟨vs, hl, hvs, hcell⟩ := H.cells hc hf hlo
            obtain ⟨e1, e2⟩ := toBytes_sound hvs hb
            have hload := run_loadCells_list (P := P) w _ vs hcell
            rw [hl] at hload
            refine ⟨.string ((ns.map fun (n : Nat) => (n : Int)).foldl (fun r n => r.push (UInt8.ofNat n.toNat)) ByteArray.empty), .str _ _ (by rw [nats_foldl ns _ e2, nats_empty]; rfl), ?_⟩
            by_cases h0c : len = 0
            · subst h0c
              have e3 : vs = [] := List.eq_nil_of_length_eq_zero hl
              have e4 : ns = [] := by rw [e3] at e1; exact List.map_eq_nil_iff.mp (List.map_eq_nil_iff.mp e1.symm)
              subst e4
              have h1 : (loadCells ⟨r.blk, O, sp⟩ 0).run P w = .ok ((([] : List Int).map (Value.int .u8)).toArray) w := rfl
              have h2 := run_bytesToString (P := P) w ⟨r.blk, O, sp⟩ 0 cap [] h1
              simp only [execOp, hv, Sem.run_bind, run_convert_bytes_string w src dst e _ _ _ hs he hd, h2]
              rfl
            · obtain rfl : sp = none := hsp.resolve_left (by omega)
              have hO' : O = r.base + (off - r.lo) := by rcases hO with h | h <;> omega
              subst hO'
              rw [e1] at hload
              have h2 := run_bytesToString (P := P) w _ len cap _ hload
              simp only [execOp, hv, Sem.run_bind, run_convert_bytes_string w src dst e _ _ _ hs he hd, h2]
              rfl
        · simp at h0
      · simp at h0
    · rename_i e hs hd hx
      have hp := hρ x
      rw [hx] at hp
      have hv := hp.nilSl_inv
      split at h0
      · rename_i he
        injection h0 with h0
        subst h0
        refine ⟨.string .empty, .str _ _ nats_empty.symm, ?_⟩
        simp only [execOp, hv, Sem.run_bind, run_convert_bytes_string w src dst e _ _ _ hs he hd]
        simp [Conv.bytesToString]
      · simp at h0
    · simp at h0

/-! ### Making and writing -/
/-- What is known behind an operation or a call that left the value 'v' in the world w'. -/
def HPost (B : Nat) (f : Inj) (w : World) (h' : AH) (a : AV) (v : Value) (w' : World) : Prop :=
  ∃ f', Ext f f' ∧ HR B f' h' w' ∧ Kept B w w' ∧ VR f' v a

/-- The run of the operation ends with the value v (or with none, v then being undef) in the world w'. -/
def Comes1 (P : Program) (ρ : Operand → Value) (o : Oper) (w : World) (v : Value) (w' : World) : Prop :=
  (execOp ρ o).run P w = .ok (.value v) w' ∨ ((execOp ρ o).run P w = .ok .skip w' ∧ v = undef)

/-- A new block of known cells. -/
theorem HR.new (H : HR B f h w) {cs : Array Value} {l : List AV} (hv : VRs f cs.toList l) (e : TypeId) :
    HPost B f w (h.alloc l) (.ptr h.next 0) (.pointer (some ⟨w.heap.size, 0, none⟩)) (w.alloc (.cells cs e)) := by
  have hlen : l.length = cs.size := by have := hv.length; simpa using this.symm
  obtain ⟨h1, h2, h3⟩ := H.alloc (cs := cs) (l := l) (by omega) (fun i a ha => by obtain ⟨v, e1, e2⟩ := hv.get i a ha; exact ⟨v, by simpa using e1, e2⟩) e
  exact ⟨_, h2, h1, h3, VR.ptr h.next 0 ⟨w.heap.size, 0, 0, cs.size⟩ (upd_same _ _ _) (Nat.le_refl _)⟩
theorem HR.newSl (H : HR B f h w) {cs : Array Value} {l : List AV} (hl : l.length ≤ cs.size) (hv : ∀ (i : Nat) (a : AV), l[i]? = some a → ∃ v, cs[i]? = some v ∧ VR f v a) (e : TypeId)
    {len cap es : Nat} {c : Option Nat} (hcap : cap * es ≤ cs.size) (hlen : len ≤ cap) (hc : ∀ k, c = some k → cap = k) :
    HPost B f w (h.alloc l) (.sl h.next 0 len es c) (.slice (some ⟨w.heap.size, 0, none⟩) len cap) (w.alloc (.cells cs e)) := by
  obtain ⟨h1, h2, h3⟩ := H.alloc hl hv e
  exact ⟨_, h2, h1, h3, VR.sl h.next 0 len es c ⟨w.heap.size, 0, 0, cs.size⟩ 0 cap (upd_same _ _ _) (Nat.le_refl _) hlen (.inr ⟨rfl, by simpa using hcap⟩) hc⟩

theorem length_arep (z : List AV) : ∀ n, (arep z n).length = n * z.length
  | 0 => by simp [arep]
  | n + 1 => by rw [arep, List.length_append, length_arep z n, Nat.succ_mul]; omega
theorem get_arep (z : List AV) (hz : 0 < z.length) : ∀ n i, i < n * z.length → (arep z n)[i]? = z[i % z.length]?
  | 0, i, hi => by simp at hi
  | n + 1, i, hi => by
    rw [arep]
    by_cases h1 : i < z.length
    · rw [List.getElem?_append_left h1, Nat.mod_eq_of_lt h1]
    · rw [List.getElem?_append_right (by omega), get_arep z hz n (i - z.length) (by rw [Nat.succ_mul] at hi; omega)]
      congr 1
      rw [Nat.mod_eq_sub_mod (by omega : i ≥ z.length)]
theorem VRs.arep {z : Array Value} {l : List AV} (hv : VRs f z.toList l) (hz : 0 < l.length) (n : Nat) :
    VRs f ((Array.range (n * z.size)).map fun i => z[i % z.size]!).toList (AI.arep l n) := by
  have hl : z.size = l.length := by have := hv.length; simpa using this
  refine VRs.of_get (by simp [length_arep, hl]) (fun i v a h1 h2 => ?_)
  have hi : i < n * l.length := by
    rcases Nat.lt_or_ge i (n * l.length) with h' | h'
    · exact h'
    · rw [List.getElem?_eq_none (by rw [length_arep]; exact h')] at h2; simp at h2
  rw [get_arep l hz n i hi] at h2
  obtain ⟨u, hu1, hu2⟩ := hv.get _ a h2
  have hi' : i < n * z.size := by rw [hl]; exact hi
  have hm : i % z.size < z.size := Nat.mod_lt _ (by omega)
  simp [hi'] at h1
  rw [← hl] at hu1
  simp [hm] at hu1
  rw [getElem!_pos z _ hm, hu1] at h1
  subst h1
  exact hu2
end
end Go.Proofs.Ytgnacecplaemlaa.AI
/-
  An abstract interpreter for the model's code, part 10: the operations that make or write memory.
-/
namespace Go.Proofs.Ytgnacecplaemlaa.AI
open Go.RowKit
section
variable {P : Program} {B : Nat} {f : Inj} {h : AH} {w : World} {ρ : Operand → Value} {ρ' : Operand → AV}

theorem seg_get {α : Type} (c vs : List α) (k p : Nat) (hk : k + vs.length ≤ c.length) :
    (c.take k ++ vs ++ c.drop (k + vs.length))[p]? = if p < k then c[p]? else if p < k + vs.length then vs[p - k]? else c[p]? := by
  have h1 : (c.take k).length = k := by rw [List.length_take]; omega
  by_cases a : p < k
  · rw [if_pos a, List.append_assoc, List.getElem?_append_left (by rw [h1]; exact a), List.getElem?_take, if_pos a]
  · rw [if_neg a, List.append_assoc, List.getElem?_append_right (by rw [h1]; omega), h1]
    by_cases b : p < k + vs.length
    · rw [if_pos b, List.getElem?_append_left (by omega)]
    · rw [if_neg b, List.getElem?_append_right (by omega), List.getElem?_drop]
      congr 1; omega

theorem write_inv {id off : Nat} {l : List AV} {h' : AH} (hw : h.write id off l = some h') :
    ∃ b, h.blk? id = some b ∧ b.ro = false ∧ b.lo ≤ off ∧ off + l.length ≤ b.hi ∧ h' = h.put id (some { b with cells := putCells l off b.cells }) := by
  unfold AH.write at hw
  split at hw
  · rename_i b hb
    split at hw
    · rename_i hc
      injection hw with hw
      simp only [Bool.and_eq_true, Bool.not_eq_true'] at hc
      exact ⟨b, hb, hc.1.1, Nat.ble_eq.mp hc.1.2, Nat.ble_eq.mp hc.2, hw.symm⟩
    · simp at hw
  · simp at hw

theorem HR.write (H : HR B f h w) {id off : Nat} {l : List AV} {h' : AH} {r : Reg} {vs : List Value} (hw : h.write id off l = some h') (hf : f id = some r) (hv : VRs f vs l) :
    ∃ c e, w.heap[r.blk]? = some (.cells c e (0, 0)) ∧ r.base + (off - r.lo) + vs.length ≤ c.size ∧
      HR B f h' (w.setRow r.blk (c.toList.take (r.base + (off - r.lo)) ++ vs ++ c.toList.drop (r.base + (off - r.lo) + vs.length)).toArray) ∧
      Kept B w (w.setRow r.blk (c.toList.take (r.base + (off - r.lo)) ++ vs ++ c.toList.drop (r.base + (off - r.lo) + vs.length)).toArray) := by
  obtain ⟨b, hb, hro, h1, h2, rfl⟩ := write_inv hw
  obtain ⟨r', c, e, fz, hf', hc, hin, hlo, hhi, hown, _, hlive⟩ := H.blk id b hb
  obtain rfl : r' = r := by rw [hf] at hf'; injection hf' with e; exact e.symm
  obtain ⟨hB, rfl⟩ := hown hro
  have hlen := hv.length
  have hk : r'.base + (off - r'.lo) + vs.length ≤ c.toList.length := by rw [show c.toList.length = c.size from Array.length_toList]; omega
  have hidn : id < h.next := by
    rcases Nat.lt_or_ge id h.next with h3 | h3
    · exact h3
    · rw [H.fresh id h3] at hb; simp at hb
  refine ⟨c, e, hc, by simpa using hk, ?_⟩
  refine H.replace hb hro hf hc (c' := (c.toList.take (r'.base + (off - r'.lo)) ++ vs ++ c.toList.drop (r'.base + (off - r'.lo) + vs.length)).toArray) (by rw [List.size_toArray]; simp only [List.length_append, List.length_take, List.length_drop, Array.length_toList] at hk ⊢; omega) (fun j hj => ?_)
    (id' := id) (b' := { b with cells := putCells l off b.cells }) (r' := r') (h' := h.put id (some { b with cells := putCells l off b.cells })) (fun j => ?_) (fun _ => rfl)
    (.inl rfl) hidn (Nat.le_refl _) (Ext.refl f) H.ffresh hf rfl (Nat.le_refl _) (Nat.le_refl _) hlo hhi hro (fun o a ha => ?_)
  · rw [List.getElem?_toArray, seg_get _ _ _ _ hk]
    have : c.toList[j]? = c[j]? := by simp
    rw [this]
    rcases hj with hj | hj
    · rw [if_pos (by omega)]
    · rw [if_neg (by omega), if_neg (by omega)]
  · rw [AH.blk?_put]
    by_cases hj : j = id
    · rw [if_pos hj, if_pos hj]
    · rw [if_neg hj, if_neg hj, if_neg hj]
  · obtain ⟨g1, g2⟩ := Blk.get_lo ha
    simp only at g1 g2
    rw [Blk.get_eq, if_pos ⟨g1, g2⟩] at ha
    simp only [get_putCells] at ha
    dsimp only
    rw [List.getElem?_toArray, seg_get _ _ _ _ hk]
    by_cases hin2 : off ≤ o ∧ o < off + l.length
    · rw [if_pos hin2] at ha
      obtain ⟨v, hv1, hv2⟩ := hv.get _ a ha
      refine ⟨v, ?_, hv2⟩
      rw [if_neg (by omega), if_pos (by omega), ← hv1]
      congr 1; omega
    · rw [if_neg hin2] at ha
      obtain ⟨v, hv1, hv2⟩ := hlive o a (by rw [Blk.get_eq, if_pos ⟨g1, g2⟩]; exact ha)
      refine ⟨v, ?_, hv2⟩
      have e2 : c.toList[r'.base + (o - b.lo)]? = some v := by simpa using hv1
      by_cases hlt : r'.base + (o - b.lo) < r'.base + (off - r'.lo)
      · rw [if_pos hlt]; exact e2
      · rw [if_neg hlt, if_neg (by omega)]; exact e2

theorem atoms_one {l : List AV} {vs : List Value} (hv : VRs f vs l) (ha : atoms l = true) : ∀ v ∈ vs, v.oneCell' = true := by
  induction l generalizing vs with
  | nil => cases hv; simp
  | cons a l ih =>
    cases hv with
    | cons v _ vs _ h1 h2 =>
      simp only [atoms, Bool.and_eq_true] at ha
      intro u hu
      simp at hu
      rcases hu with rfl | hu
      · exact (h1.atom ha.1).1
      · exact ih h2 ha.2 u hu

theorem store_sound (H : HR B f h w) {t : TypeId} {v u : Value} {id off n : Nat} {y : AV} {h' : AH} (hp : VR f v (.ptr id off)) (hu : VR f u y) (hn : asize P t = some n)
    (hy : y.isTop = false) (hl : y.cells.length = n) (ha : atoms y.cells = true) (hw : h.write id off y.cells = some h') :
    ∃ w', (Instr.storeAt t v u).run P w = .ok () w' ∧ HR B f h' w' ∧ Kept B w w' := by
  obtain ⟨r, hf, hlo, rfl⟩ := hp.ptr_inv
  have hnt : y ≠ .top := by rintro rfl; simp [AV.isTop] at hy
  have hc := hu.cells hnt
  obtain ⟨c, e, hg, hin, h1, h2⟩ := H.write hw hf hc
  have hst := run_storeCells_at P r.blk (r.base + (off - r.lo)) e u.cells.toList 0 c w hg (by simpa using hin) (atoms_one hc ha)
  have hsz : u.cells.size = n := by have := hc.length; simp at this; omega
  refine ⟨_, ?_, h1, h2⟩
  simp only [Nat.add_zero] at hst
  simp [Instr.storeAt, Instr.sureAddr, storeVar, run_sizeOf hn, hsz, hst]

theorem afirst_sound (H : HR B f h w) {es n : Nat} {v : Value} {x : AV} {l : List AV} (hv : VR f v x) (hn : alenOf x = some n) (h0 : afirst h es x = some l) :
    (Builtin.lenOf v).run P w = .ok n w ∧ l.length = n * es ∧ ∃ vs : List Value, VRs f vs l ∧ (Builtin.firstCells es n v).run P w = .ok vs.toArray w := by
  unfold afirst at h0
  split at h0
  · rename_i id off len es' c
    split at h0
    · rename_i he
      subst he
      simp only [alenOf, Option.some.injEq] at hn
      subst hn
      obtain ⟨r, O, cap, sp, hf, hlo, hlen, hO, hc, hsp, rfl⟩ := hv.sl_inv
      obtain ⟨vs, hl, hvs, hcell⟩ := H.cells h0 hf hlo
      have hload := run_loadCells_list (P := P) w _ vs hcell
      rw [hl] at hload
      refine ⟨by simp [Builtin.lenOf], by rw [← hvs.length, hl], vs, hvs, ?_⟩
      by_cases hz : cap = 0
      · have h0 : len = 0 := by omega
        subst h0
        have e3 : vs = [] := List.eq_nil_of_length_eq_zero (by simpa using hl)
        subst e3
        simp [Builtin.firstCells, loadCells, loadCellsFrom]
      · obtain rfl : sp = none := hsp.resolve_left hz
        have hO' : O = r.base + (off - r.lo) := by rcases hO with h | h <;> omega
        subst hO'
        simpa [Builtin.firstCells] using hload
    · simp at h0
  · injection h0 with h0
    subst h0
    simp only [alenOf, Option.some.injEq] at hn
    subst hn
    obtain rfl := hv.nilSl_inv
    exact ⟨by simp [Builtin.lenOf], by simp, [], .nil, by simp [Builtin.firstCells]⟩
  · rename_i s
    split at h0
    · rename_i he
      subst he
      injection h0 with h0
      subst h0
      simp only [alenOf, Option.some.injEq] at hn
      subst hn
      obtain ⟨b, rfl, rfl⟩ := hv.str_inv
      refine ⟨by simp [Builtin.lenOf, length_nats], by simp, b.data.toList.map (fun c : UInt8 => Value.int .u8 (c.toNat : Int)), ?_, ?_⟩
      · unfold nats
        rw [List.map_map]
        generalize b.data.toList = bl
        induction bl with
        | nil => exact .nil
        | cons c bl ih => exact .cons _ _ _ _ (.int _ _) ih
      · have hx : b.extract 0 (nats b).length = b := by rw [length_nats]; exact ByteArray.extract_zero_size
        simp only [Builtin.firstCells, hx, Sem.run_pure]
        congr 1
        rw [← List.map_toArray, Array.toArray_toList]
    · simp at h0
  · simp at h0
end
end Go.Proofs.Ytgnacecplaemlaa.AI
/-
  An abstract interpreter for the model's code, part 11: append and copy.
-/
namespace Go.Proofs.Ytgnacecplaemlaa.AI
open Go.RowKit
section
variable {P : Program} {B : Nat} {f : Inj} {h : AH} {w : World}

structure AppArgs (P : Program) (ts : Array TypeId) (as : Array Value) (t0 t1 e : TypeId) (d1 : TypeDesc) (i : TypeInfo) (z v u : Value) : Prop where
  h0 : ts[0]? = some t0
  h1 : ts[1]? = some t1
  a0 : as[0]? = some v
  a1 : as[1]? = some u
  ht0 : P.underlying t0 = some (.slice e)
  ht1 : P.underlying t1 = some d1
  hd : isSeq d1 = true
  hi : P.info? e = some i
  hz : i.zero = some z

variable {ts : Array TypeId} {as : Array Value} {t0 t1 e ty : TypeId} {d1 : TypeDesc} {i : TypeInfo} {z v u : Value}

theorem run_app_none (A : AppArgs P ts as t0 t1 e d1 i z (.slice none 0 0) u) (hn : (Builtin.lenOf u).run P w = .ok 0 w) (hf : (Builtin.firstCells i.size 0 u).run P w = .ok #[] w) :
    (Builtin.append_ ts ty as).run P w = .ok (.slice none 0 0) w := by
  have hd := A.hd
  have h1t := A.ht1
  cases d1 <;> first | (simp [isSeq] at hd; done) | simp [Builtin.append_, A.h0, A.h1, A.a0, A.a1, run_underlying A.ht0, run_underlying h1t, sizeOf, typeInfo, A.hi, hn, hf]
theorem run_app_zero {a : Addr} {len cap : Nat} (hle : len ≤ cap) (A : AppArgs P ts as t0 t1 e d1 i z (.slice (some a) len cap) u) (hn : (Builtin.lenOf u).run P w = .ok 0 w) (hf : (Builtin.firstCells i.size 0 u).run P w = .ok #[] w) :
    (Builtin.append_ ts ty as).run P w = .ok (.slice (some a) len cap) w := by
  have hd := A.hd
  have h1t := A.ht1
  cases d1 <;> first | (simp [isSeq] at hd; done) | simp [Builtin.append_, A.h0, A.h1, A.a0, A.a1, run_underlying A.ht0, run_underlying h1t, sizeOf, typeInfo, A.hi, hn, hf, hle, storeCells]
theorem run_app_room {g o len cap n : Nat} (A : AppArgs P ts as t0 t1 e d1 i z (.slice (some ⟨g, o, none⟩) len cap) u) {c : Array Value} {et : TypeId} {new : List Value} (hroom : len + n ≤ cap)
    (hn : (Builtin.lenOf u).run P w = .ok n w) (hf : (Builtin.firstCells i.size n u).run P w = .ok new.toArray w) (hg : w.heap[g]? = some (.cells c et (0, 0)))
    (hfit : o + len * i.size + new.length ≤ c.size) (h1 : ∀ v ∈ new, v.oneCell' = true) :
    (Builtin.append_ ts ty as).run P w = .ok (.slice (some ⟨g, o, none⟩) (len + n) cap) (w.setRow g (c.toList.take (o + len * i.size) ++ new ++ c.toList.drop (o + len * i.size + new.length)).toArray) := by
  have hst := run_storeCells_at P g (o + len * i.size) et new 0 c w hg (by simpa using hfit) h1
  simp only [Nat.add_zero] at hst
  have hd := A.hd
  have h1t := A.ht1
  cases d1 <;> first | (simp [isSeq] at hd; done) | simp [Builtin.append_, A.h0, A.h1, A.a0, A.a1, run_underlying A.ht0, run_underlying h1t, sizeOf, typeInfo, A.hi, hn, hf, hroom, Addr.add_plain, hst]
theorem run_app_grow {base : Option Addr} {len cap n : Nat} (A : AppArgs P ts as t0 t1 e d1 i z (.slice base len cap) u) {new old : List Value} (hcap : cap < len + n)
    (hb : (len + n) * i.bytes ≤ 140737488355328) (hb0 : i.bytes ≠ 0)
    (hn : (Builtin.lenOf u).run P w = .ok n w) (hf : (Builtin.firstCells i.size n u).run P w.drew = .ok new.toArray w.drew)
    (ho : (Builtin.firstCells i.size len (.slice base len cap)).run P w.drew = .ok old.toArray w.drew) :
    (Builtin.append_ ts ty as).run P w = .ok (.slice (some ⟨w.heap.size, 0, none⟩) (len + n) (grownCap w (len + n) cap e))
      (w.drew.alloc (.cells (old.toArray ++ new.toArray ++ Builtin.zeroCells z.cells (grownCap w (len + n) cap e - (len + n))) e)) := by
  have h1 : ¬ (len + n ≤ cap) := by omega
  have h2 : ¬ (281474976710656 < Builtin.nextslicecap (len + n) cap * i.bytes) := by have := growslice_fits hcap hb; omega
  have hd := A.hd
  have h1t := A.ht1
  cases d1 <;> first | (simp [isSeq] at hd; done) | (simp [Builtin.append_, A.h0, A.h1, A.a0, A.a1, run_underlying A.ht0, run_underlying h1t, sizeOf, typeInfo, zeroValue, A.hi, A.hz, hn, hf, ho, h1, h2, hb0, Question.forced, newRow, grownCap]; congr 2; apply Array.ext'; simp [List.append_assoc])

theorem size_zeroCells' (z : Array Value) (n : Nat) : (Builtin.zeroCells z n).size = n * z.size := by simp [Builtin.zeroCells]

theorem run_app_zeros {k : IntKind} {q : Int} {kk : IntKind} (h0 : ts[0]? = some t0) (h1 : ts[1]? = some t1) (a0 : as[0]? = some (.slice none 0 0)) (a1 : as[1]? = some (.int kk q)) (ht0 : P.underlying t0 = some (.slice e)) (ht1 : P.underlying t1 = some (.int k))
    (hi : P.info? e = some i) (hz : i.zero = some z) (hs : i.size ≠ 0) (hb0 : i.bytes ≠ 0) (hq : 0 < IntKind.i64.wrap q) (hb : (IntKind.i64.wrap q).toNat * i.bytes ≤ 140737488355328) :
    (Builtin.append_ ts ty as).run P w = .ok (.slice (some ⟨w.heap.size, 0, none⟩) (IntKind.i64.wrap q).toNat (grownCap w (IntKind.i64.wrap q).toNat 0 e))
      (w.drew.alloc (.cells (Builtin.zeroCells z.cells (IntKind.i64.wrap q).toNat ++ Builtin.zeroCells z.cells (grownCap w (IntKind.i64.wrap q).toNat 0 e - (IntKind.i64.wrap q).toNat)) e)) := by
  obtain ⟨n, hn⟩ : ∃ n : Nat, n = (IntKind.i64.wrap q).toNat := ⟨_, rfl⟩
  have hn2 : IntKind.i64.wrap q = (n : Int) := by omega
  rw [← hn] at hb ⊢
  have hpos : 0 < n := by omega
  have t1' : ¬ ((n : Int) < 0) := by omega
  have t2 : ¬ (281474976710656 < (n : Int) * (i.bytes : Int)) := by
    have := Int.ofNat_le.mpr hb
    rw [Int.natCast_mul] at this
    omega
  have t3 : ¬ (n * i.size = 0) := by simp [Nat.mul_eq_zero]; omega
  have hle : n ≤ 140737488355328 := Nat.le_trans (Nat.le_mul_of_pos_right n (Nat.pos_of_ne_zero hb0)) hb
  have t5 : ¬ (9223372036854775807 < (n : Int)) := by omega
  have t6 : Builtin.nextslicecap n 0 = n := by simp [Builtin.nextslicecap, hpos]
  have t7 : ¬ (n * i.bytes > 2 ^ 48) := by omega
  simp [Builtin.append_, h0, h1, a0, a1, run_underlying ht0, run_underlying ht1, sizeOf, typeInfo, zeroValue, hi, hz, asInt, asIntOf, hn2, t1', t2, t3, t5, t6, t7, hb0, Builtin.firstCells, Question.forced, newRow, grownCap, Nat.ne_of_gt hpos]

theorem run_app_zeros' {base : Option Addr} {cap : Nat} {k : IntKind} {q : Int} {kk : IntKind} (h0 : ts[0]? = some t0) (h1 : ts[1]? = some t1) (a0 : as[0]? = some (.slice base 0 cap)) (a1 : as[1]? = some (.int kk q)) (ht0 : P.underlying t0 = some (.slice e)) (ht1 : P.underlying t1 = some (.int k))
    (hi : P.info? e = some i) (hz : i.zero = some z) (hs : i.size ≠ 0) (hb0 : i.bytes ≠ 0) (hq : 0 < IntKind.i64.wrap q) (hb : (IntKind.i64.wrap q).toNat * i.bytes ≤ 140737488355328) (hcap : cap < (IntKind.i64.wrap q).toNat) (ho : (Builtin.firstCells i.size 0 (.slice base 0 cap)).run P w.drew = .ok #[] w.drew) :
    (Builtin.append_ ts ty as).run P w = .ok (.slice (some ⟨w.heap.size, 0, none⟩) (IntKind.i64.wrap q).toNat (grownCap w (IntKind.i64.wrap q).toNat cap e))
      (w.drew.alloc (.cells (Builtin.zeroCells z.cells (IntKind.i64.wrap q).toNat ++ Builtin.zeroCells z.cells (grownCap w (IntKind.i64.wrap q).toNat cap e - (IntKind.i64.wrap q).toNat)) e)) := by
  obtain ⟨n, hn⟩ : ∃ n : Nat, n = (IntKind.i64.wrap q).toNat := ⟨_, rfl⟩
  have hn2 : IntKind.i64.wrap q = (n : Int) := by omega
  rw [← hn] at hb hcap ⊢
  have hpos : 0 < n := by omega
  have t1' : ¬ ((n : Int) < 0) := by omega
  have t2 : ¬ (281474976710656 < (n : Int) * (i.bytes : Int)) := by
    have := Int.ofNat_le.mpr hb
    rw [Int.natCast_mul] at this
    omega
  have t3 : ¬ (n * i.size = 0) := by simp [Nat.mul_eq_zero]; omega
  have hle : n ≤ 140737488355328 := Nat.le_trans (Nat.le_mul_of_pos_right n (Nat.pos_of_ne_zero hb0)) hb
  have t5 : ¬ (9223372036854775807 < (n : Int)) := by omega
  have t6 : ¬ (n ≤ cap) := by omega
  have t7 : ¬ (281474976710656 < Builtin.nextslicecap n cap * i.bytes) := by have := growslice_fits hcap hb; omega
  simp [Builtin.append_, h0, h1, a0, a1, run_underlying ht0, run_underlying ht1, sizeOf, typeInfo, zeroValue, hi, hz, asInt, asIntOf, hn2, t1', t2, t3, t5, t6, t7, hb0, ho, Question.forced, newRow, grownCap]

/-- The slice has grown into a new block. -/
theorem grow_sound (H : HR B f h w) {base : Option Addr} {len cap n : Nat} (A : AppArgs P ts as t0 t1 e d1 i z (.slice base len cap) u) {new old : List Value} {lnew lold : List AV}
    (hcap : cap < len + n) (hb : (len + n) * i.bytes ≤ 140737488355328) (hb0 : i.bytes ≠ 0) (hz : z.cells.size = i.size)
    (hn : (Builtin.lenOf u).run P w = .ok n w) (hf : (Builtin.firstCells i.size n u).run P w.drew = .ok new.toArray w.drew)
    (ho : (Builtin.firstCells i.size len (.slice base len cap)).run P w.drew = .ok old.toArray w.drew)
    (hvn : VRs f new lnew) (hvo : VRs f old lold) (hln : lnew.length = n * i.size) (hlo : lold.length = len * i.size) :
    ∃ v w', (Builtin.append_ ts ty as).run P w = .ok v w' ∧ HPost B f w (h.alloc (lold ++ lnew)) (.sl h.next 0 (len + n) i.size none) v w' := by
  refine ⟨_, _, run_app_grow A hcap hb hb0 hn hf ho, ?_⟩
  have H' : HR B f h w.drew := H.of_heap rfl
  have hge := grownCap_ge w (len + n) cap e
  have hv := hvo.append hvn
  have hl := hv.length
  have hsz : (old.toArray ++ new.toArray ++ Builtin.zeroCells z.cells (grownCap w (len + n) cap e - (len + n))).size = grownCap w (len + n) cap e * i.size := by
    simp only [Array.size_append, List.size_toArray, size_zeroCells', hz]
    have h1 := hvo.length
    have h2 := hvn.length
    rw [h1, h2, hlo, hln, ← Nat.add_mul, ← Nat.add_mul]
    congr 1; omega
  have := H'.newSl (cs := old.toArray ++ new.toArray ++ Builtin.zeroCells z.cells (grownCap w (len + n) cap e - (len + n))) (l := lold ++ lnew) (e := e) (len := len + n) (cap := grownCap w (len + n) cap e) (es := i.size) (c := none)
    (by rw [hsz, List.length_append, hlo, hln, ← Nat.add_mul]; exact Nat.mul_le_mul_right _ hge)
    (fun j a ha => by
      obtain ⟨x, hx1, hx2⟩ := hv.get j a ha
      refine ⟨x, ?_, hx2⟩
      have hj : j < (old ++ new).length := (List.getElem?_eq_some_iff.mp hx1).1
      rw [Array.getElem?_append_left (by simpa using hj), ← hx1]
      simp)
    (by rw [hsz]; exact Nat.le_refl _) hge (by simp)
  obtain ⟨f', h1, h2, h3, h4⟩ := this
  exact ⟨f', h1, h2, Kept.trans ((Kept.refl B w).drew) h3, h4⟩

/-- The same, where the abstract heap gives the old block's cells on to the new one. -/
theorem growM_sound (H : HR B f h w) {base : Option Addr} {len cap n id off : Nat} {b : Blk} (A : AppArgs P ts as t0 t1 e d1 i z (.slice base len cap) u) {new old : List Value} {lnew lold : List AV}
    (hcap : cap < len + n) (hb : (len + n) * i.bytes ≤ 140737488355328) (hb0 : i.bytes ≠ 0) (hz : z.cells.size = i.size)
    (hn : (Builtin.lenOf u).run P w = .ok n w) (hf : (Builtin.firstCells i.size n u).run P w.drew = .ok new.toArray w.drew)
    (ho : (Builtin.firstCells i.size len (.slice base len cap)).run P w.drew = .ok old.toArray w.drew)
    (hvn : VRs f new lnew) (hvo : VRs f old lold) (hln : lnew.length = n * i.size) (hlo : lold.length = len * i.size)
    (hblk : h.blk? id = some b) (hold : h.cells? id (len * i.size) off = some lold) :
    ∃ v w', (Builtin.append_ ts ty as).run P w = .ok v w' ∧ HPost B f w { m := (h.put id none).m.set (some { lo := off, hi := off + (len + n) * i.size, ro := false, cells := putCells lnew (off + len * i.size) b.cells }) h.next, ob := h.ob, next := h.next + 1 }
      (.sl h.next off (len + n) i.size none) v w' := by
  refine ⟨_, _, run_app_grow A hcap hb hb0 hn hf ho, ?_⟩
  have H0 : HR B f h w.drew := H.of_heap rfl
  have H' : HR B f (h.put id none) w.drew := H0.forget id
  have hge := grownCap_ge w (len + n) cap e
  have hv := hvo.append hvn
  have hsz : (old.toArray ++ new.toArray ++ Builtin.zeroCells z.cells (grownCap w (len + n) cap e - (len + n))).size = grownCap w (len + n) cap e * i.size := by
    simp only [Array.size_append, List.size_toArray, size_zeroCells', hz]
    have h1 := hvo.length
    have h2 := hvn.length
    rw [h1, h2, hlo, hln, ← Nat.add_mul, ← Nat.add_mul]
    congr 1; omega
  have hol := hvo.length
  have hnl := hvn.length
  obtain ⟨hcl, hcg⟩ := AH.cells?_spec h id _ off lold hold
  have hm := Nat.mul_le_mul_right i.size hge
  obtain ⟨h1, h2, h3⟩ := H'.allocG (cs := old.toArray ++ new.toArray ++ Builtin.zeroCells z.cells (grownCap w (len + n) cap e - (len + n)))
    (b' := { lo := off, hi := off + (len + n) * i.size, ro := false, cells := putCells lnew (off + len * i.size) b.cells })
    (h' := { m := (h.put id none).m.set (some { lo := off, hi := off + (len + n) * i.size, ro := false, cells := putCells lnew (off + len * i.size) b.cells }) h.next, ob := h.ob, next := h.next + 1 })
    rfl (by rw [hsz]; dsimp only; omega)
    (fun j => by
      show AH.blk? { m := (h.put id none).m.set (some { lo := off, hi := off + (len + n) * i.size, ro := false, cells := putCells lnew (off + len * i.size) b.cells }) h.next, ob := h.ob, next := h.next + 1 } j =
          if j = h.next then some { lo := off, hi := off + (len + n) * i.size, ro := false, cells := putCells lnew (off + len * i.size) b.cells } else (h.put id none).blk? j
      unfold AH.blk?
      simp only [Tr.get_set]
      by_cases hj : j = h.next
      · rw [if_pos hj, if_pos hj]
      · rw [if_neg hj, if_neg hj])
    (fun _ => rfl) rfl
    (fun o a ha => by
      obtain ⟨g1, g2⟩ := Blk.get_lo ha
      dsimp only at g1 g2
      rw [Blk.get_eq, if_pos ⟨g1, g2⟩] at ha
      simp only [get_putCells] at ha
      rw [Nat.add_mul] at g2
      dsimp only
      have hidx : o - off < (old ++ new).length := by rw [List.length_append, hol, hnl]; omega
      have hget : (lold ++ lnew)[o - off]? = some a := by
        by_cases hin : off + len * i.size ≤ o ∧ o < off + len * i.size + lnew.length
        · rw [if_pos hin] at ha
          rw [List.getElem?_append_right (by omega), ← ha]
          congr 1; omega
        · rw [if_neg hin] at ha
          have h2 : o - off < lold.length := by omega
          rw [List.getElem?_append_left h2]
          have h3 := hcg _ _ (List.getElem?_eq_getElem h2)
          rw [show off + (o - off) = o by omega, AH.cell?_eq, hblk] at h3
          simp only [Option.bind_some] at h3
          obtain ⟨q1, q2⟩ := Blk.get_lo h3
          rw [Blk.get_eq, if_pos ⟨q1, q2⟩, ha] at h3
          rw [List.getElem?_eq_getElem h2]
          exact h3.symm
      obtain ⟨x, hx1, hx2⟩ := hv.get _ a hget
      refine ⟨x, ?_, hx2⟩
      rw [Array.getElem?_append_left (by simpa using hidx), ← hx1]
      simp) e
  refine ⟨_, h2, h1, Kept.trans ((Kept.refl B w).drew) h3, ?_⟩
  exact VR.sl h.next off (len + n) i.size none ⟨w.heap.size, 0, off, _⟩ 0 _ (upd_same _ _ _) (Nat.le_refl _) hge (.inr ⟨by simp, by dsimp only; rw [hsz]; omega⟩) (by simp)

/-- The slice has grown in place: its block has another name. -/
theorem move_sound (H : HR B f h w) {r : Reg} {b : Blk} {id off len cap n es O : Nat} {new : List Value} {lnew : List AV} (hf : f id = some r) (hb : h.blk? id = some b) (hro : b.ro = false)
    (hlo : r.lo ≤ off) (hO : O = r.base + (off - r.lo)) (hcap : (off - r.lo) + cap * es ≤ r.ext) (hroom : len + n ≤ cap) (hv : VRs f new lnew) (hln : lnew.length = n * es)
    {lold : List AV} (hold : h.cells? id (len * es) off = some lold) :
    ∃ c et, w.heap[r.blk]? = some (.cells c et (0, 0)) ∧ O + len * es + new.length ≤ c.size ∧
      HPost B f w { m := (h.put id none).m.set (some { lo := off, hi := off + (len + n) * es, ro := false, cells := putCells lnew (off + len * es) b.cells }) h.next, ob := h.ob, next := h.next + 1 }
        (.sl h.next off (len + n) es none) (.slice (some ⟨r.blk, O, none⟩) (len + n) cap)
        (w.setRow r.blk (c.toList.take (O + len * es) ++ new ++ c.toList.drop (O + len * es + new.length)).toArray) := by
  subst hO
  obtain ⟨r', c, e, fz, hf', hc, hin, hlo', hhi, hown, _, hlive⟩ := H.blk id b hb
  obtain rfl : r' = r := by rw [hf] at hf'; injection hf' with e; exact e.symm
  obtain ⟨hB, rfl⟩ := hown hro
  have hnl := hv.length
  have hm1 : (len + n) * es ≤ cap * es := Nat.mul_le_mul_right _ hroom
  rw [Nat.add_mul] at hm1
  have hk : r'.base + (off - r'.lo) + len * es + new.length ≤ c.toList.length := by rw [show c.toList.length = c.size from Array.length_toList]; omega
  have hidn : id < h.next := by
    rcases Nat.lt_or_ge id h.next with h3 | h3
    · exact h3
    · rw [H.fresh id h3] at hb; simp at hb
  obtain ⟨hol, hog⟩ := AH.cells?_spec h id (len * es) off lold hold
  have hx : Ext f (upd f h.next ⟨r'.blk, r'.base + (off - r'.lo), off, r'.ext - (off - r'.lo)⟩) := Ext.upd (H.ffresh _ (Nat.le_refl _)) _
  obtain ⟨g1, g2⟩ := H.replace hb hro hf hc (c' := (c.toList.take (r'.base + (off - r'.lo) + len * es) ++ new ++ c.toList.drop (r'.base + (off - r'.lo) + len * es + new.length)).toArray)
    (by rw [List.size_toArray]; simp only [List.length_append, List.length_take, List.length_drop] at hk ⊢; have : c.toList.length = c.size := Array.length_toList; omega)
    (fun j hj => by
      rw [List.getElem?_toArray, seg_get _ _ _ _ hk]
      have : c.toList[j]? = c[j]? := by simp
      rw [this]
      rcases hj with hj | hj
      · rw [if_pos (by omega)]
      · rw [if_neg (by omega), if_neg (by omega)])
    (f' := upd f h.next ⟨r'.blk, r'.base + (off - r'.lo), off, r'.ext - (off - r'.lo)⟩) (id' := h.next) (b' := { lo := off, hi := off + (len + n) * es, ro := false, cells := putCells lnew (off + len * es) b.cells })
    (r' := ⟨r'.blk, r'.base + (off - r'.lo), off, r'.ext - (off - r'.lo)⟩)
    (h' := { m := (h.put id none).m.set (some { lo := off, hi := off + (len + n) * es, ro := false, cells := putCells lnew (off + len * es) b.cells }) h.next, ob := h.ob, next := h.next + 1 })
    (fun j => by
      have e1 : AH.blk? { m := (h.put id none).m.set (some { lo := off, hi := off + (len + n) * es, ro := false, cells := putCells lnew (off + len * es) b.cells }) h.next, ob := h.ob, next := h.next + 1 } j =
          if j = h.next then some { lo := off, hi := off + (len + n) * es, ro := false, cells := putCells lnew (off + len * es) b.cells } else (h.put id none).blk? j := by
        unfold AH.blk?
        simp only [Tr.get_set]
        by_cases hj : j = h.next
        · rw [if_pos hj, if_pos hj]
        · rw [if_neg hj, if_neg hj]
      rw [e1, AH.blk?_put])
    (fun _ => rfl)
    (.inr (Nat.le_refl _)) (Nat.lt_succ_self _) (Nat.le_succ _) hx
    (fun j hj => by have hj : h.next + 1 ≤ j := hj; unfold upd; rw [if_neg (by omega)]; exact H.ffresh j (by omega))
    (upd_same _ _ _) rfl (Nat.le_add_right _ _) (by dsimp only; omega) rfl (by dsimp only; rw [Nat.add_mul]; omega) rfl
    (fun o a ha => by
      obtain ⟨g1, g2⟩ := Blk.get_lo ha
      dsimp only at g1 g2
      rw [Blk.get_eq, if_pos ⟨g1, g2⟩] at ha
      simp only [get_putCells] at ha
      dsimp only
      rw [List.getElem?_toArray, seg_get _ _ _ _ hk]
      rw [Nat.add_mul] at g2
      by_cases hin2 : off + len * es ≤ o ∧ o < off + len * es + lnew.length
      · rw [if_pos hin2] at ha
        obtain ⟨v, hv1, hv2⟩ := hv.get _ a ha
        refine ⟨v, ?_, hv2.mono hx⟩
        rw [if_neg (by omega), if_pos (by omega), ← hv1]
        congr 1; omega
      · rw [if_neg hin2] at ha
        have hlt : o < off + len * es := by omega
        have hcell : h.cell? id o = some a := by
          have h1 := hog (o - off)
          have h2 : o - off < lold.length := by omega
          have h3 := h1 _ (List.getElem?_eq_getElem h2)
          rw [show off + (o - off) = o by omega] at h3
          rw [h3]
          rw [AH.cell?_eq, hb] at h3
          simp only [Option.bind_some] at h3
          obtain ⟨q1, q2⟩ := Blk.get_lo h3
          rw [Blk.get_eq, if_pos ⟨q1, q2⟩, ha] at h3
          exact h3.symm
        rw [AH.cell?_eq, hb] at hcell
        simp only [Option.bind_some] at hcell
        obtain ⟨v, hv1, hv2⟩ := hlive o a hcell
        refine ⟨v, ?_, hv2.mono hx⟩
        have e2 : c.toList[r'.base + (o - b.lo)]? = some v := by simpa using hv1
        rw [if_pos (by omega), ← e2]
        congr 1; omega)
  refine ⟨c, e, hc, by simpa using hk, _, hx, g1, g2, ?_⟩
  exact VR.sl h.next off (len + n) es none ⟨r'.blk, r'.base + (off - r'.lo), off, r'.ext - (off - r'.lo)⟩ _ cap (upd_same _ _ _) (Nat.le_refl _) hroom
    (.inr ⟨by simp, by dsimp only; omega⟩) (by simp)
end
end Go.Proofs.Ytgnacecplaemlaa.AI
/-
  An abstract interpreter for the model's code, part 12: an operation that makes or writes memory comes to what the model's run comes to.
-/
namespace Go.Proofs.Ytgnacecplaemlaa.AI
open Go.RowKit
section
variable {P : Program} {B : Nat} {f : Inj} {h : AH} {w : World} {ρ : Operand → Value} {ρ' : Operand → AV}

theorem not_blt {a b : Nat} (h : ¬ Nat.blt a b = true) : b ≤ a := by
  rcases Nat.lt_or_ge a b with h1 | h1
  · exact absurd (Nat.blt_eq.mpr h1) h
  · exact h1

theorem aappend_sound (H : HR B f h w) {ts : Array TypeId} {as : Array Value} {t0 t1 ty : TypeId} {v u : Value} {x y : AV} {a : AV} {h' : AH}
    (ht0 : ts[0]? = some t0) (ht1 : ts[1]? = some t1) (ha0 : as[0]? = some v) (ha1 : as[1]? = some u) (hv : VR f v x) (hu : VR f u y) (h0 : aappend P t0 t1 x y h = some (a, h')) :
    ∃ v' w', (Builtin.append_ ts ty as).run P w = .ok v' w' ∧ HPost B f w h' a v' w' := by
  have same : ∀ {v' : Value}, VR f v' a → h' = h → (Builtin.append_ ts ty as).run P w = .ok v' w → ∃ v' w', (Builtin.append_ ts ty as).run P w = .ok v' w' ∧ HPost B f w h' a v' w' :=
    fun hv' e hr => ⟨_, w, hr, f, Ext.refl f, by rw [e]; exact H, Kept.refl B w, hv'⟩
  unfold aappend at h0
  split at h0
  · rename_i e ki hu0 hu1
    unfold azeros at h0
    split at h0
    · rename_i kk q
      split at h0
      · simp at h0
      · rename_i i hi
        split at h0
        · simp at h0
        · rename_i z hz
          split at h0
          · simp at h0
          · rename_i hc
            simp only [Bool.or_eq_true, decide_eq_true_eq, bne_iff_ne, ne_eq, not_or, Decidable.not_not, Bool.not_eq_true] at hc
            obtain ⟨⟨⟨⟨⟨c1, c2⟩, c3⟩, c4⟩, c5⟩, c6⟩ := hc
            have c6 : (IntKind.i64.wrap q).toNat * i.bytes ≤ 140737488355328 := not_blt (by simp [c6])
            injection h0 with h0
            injection h0 with e1 e2
            subst e1 e2
            obtain rfl := hv.nilSl_inv
            obtain rfl := hu.int_inv
            have hnt : ofConst z ≠ .top := by intro h; rw [h] at c1; simp [AV.isTop] at c1
            have hzc := (VR.ofConst f z).cells hnt
            have hzl : z.cells.size = i.size := by have := hzc.length; simp at this; omega
            have hrun := run_app_zeros (w := w) (ty := ty) ht0 ht1 ha0 ha1 hu0 hu1 hi hz c3 c4 (by omega) c6
            have hge := grownCap_ge w (IntKind.i64.wrap q).toNat 0 e
            have hrep := hzc.arep (by omega) (IntKind.i64.wrap q).toNat
            have H' : HR B f h w.drew := H.of_heap rfl
            have hsz : (Builtin.zeroCells z.cells (IntKind.i64.wrap q).toNat ++ Builtin.zeroCells z.cells (grownCap w (IntKind.i64.wrap q).toNat 0 e - (IntKind.i64.wrap q).toNat)).size = grownCap w (IntKind.i64.wrap q).toNat 0 e * i.size := by
              simp only [Array.size_append, size_zeroCells', hzl]
              rw [← Nat.add_mul]
              congr 1; omega
            have := H'.newSl (cs := Builtin.zeroCells z.cells (IntKind.i64.wrap q).toNat ++ Builtin.zeroCells z.cells (grownCap w (IntKind.i64.wrap q).toNat 0 e - (IntKind.i64.wrap q).toNat)) (l := arep (ofConst z).cells (IntKind.i64.wrap q).toNat) (e := e)
              (len := (IntKind.i64.wrap q).toNat) (cap := grownCap w (IntKind.i64.wrap q).toNat 0 e) (es := i.size) (c := none)
              (by rw [hsz, length_arep, c2]; exact Nat.mul_le_mul_right _ hge)
              (fun j a ha => by
                obtain ⟨x, hx1, hx2⟩ := hrep.get j a ha
                refine ⟨x, ?_, hx2⟩
                have hj : j < (Builtin.zeroCells z.cells (IntKind.i64.wrap q).toNat).size := by
                  have := (List.getElem?_eq_some_iff.mp ha).1
                  rw [length_arep, c2] at this
                  rw [size_zeroCells', hzl]; exact this
                rw [Array.getElem?_append_left hj, ← hx1, Array.getElem?_toList]
                rfl)
              (by rw [hsz]; exact Nat.le_refl _) hge (by simp)
            obtain ⟨f', g1, g2, g3, g4⟩ := this
            exact ⟨_, _, hrun, f', g1, g2, Kept.trans ((Kept.refl B w).drew) g3, g4⟩
    · rename_i sid soff ses sc kk q
      split at h0
      · simp at h0
      · rename_i i hi
        split at h0
        · simp at h0
        · rename_i z hz
          split at h0
          · simp at h0
          · rename_i hc
            simp only [Bool.or_eq_true, decide_eq_true_eq, bne_iff_ne, ne_eq, not_or, Decidable.not_not, Bool.not_eq_true] at hc
            obtain ⟨⟨⟨⟨⟨⟨c1, c2⟩, c3⟩, c4⟩, c5⟩, c6⟩, c7⟩ := hc
            have c6 : (IntKind.i64.wrap q).toNat * i.bytes ≤ 140737488355328 := not_blt (by simp [c6])
            have c7 : sc < (IntKind.i64.wrap q).toNat := Nat.blt_eq.mp (by simpa using c7)
            injection h0 with h0
            injection h0 with e1 e2
            subst e1 e2
            obtain ⟨r, O, cap, sp, hf, _, _, _, hk, _, rfl⟩ := hv.sl_inv
            obtain rfl := hk sc rfl
            obtain rfl := hu.int_inv
            have hnt : ofConst z ≠ .top := by intro h; rw [h] at c1; simp [AV.isTop] at c1
            have hzc := (VR.ofConst f z).cells hnt
            have hzl : z.cells.size = i.size := by have := hzc.length; simp at this; omega
            have hrun := run_app_zeros' (w := w) (ty := ty) ht0 ht1 ha0 ha1 hu0 hu1 hi hz c3 c4 (by omega) c6 c7 (by simp [Builtin.firstCells, loadCells, loadCellsFrom])
            have hge := grownCap_ge w (IntKind.i64.wrap q).toNat cap e
            have hrep := hzc.arep (by omega) (IntKind.i64.wrap q).toNat
            have H' : HR B f h w.drew := H.of_heap rfl
            have hsz : (Builtin.zeroCells z.cells (IntKind.i64.wrap q).toNat ++ Builtin.zeroCells z.cells (grownCap w (IntKind.i64.wrap q).toNat cap e - (IntKind.i64.wrap q).toNat)).size = grownCap w (IntKind.i64.wrap q).toNat cap e * i.size := by
              simp only [Array.size_append, size_zeroCells', hzl]
              rw [← Nat.add_mul]
              congr 1; omega
            have := H'.newSl (cs := Builtin.zeroCells z.cells (IntKind.i64.wrap q).toNat ++ Builtin.zeroCells z.cells (grownCap w (IntKind.i64.wrap q).toNat cap e - (IntKind.i64.wrap q).toNat)) (l := arep (ofConst z).cells (IntKind.i64.wrap q).toNat) (e := e)
              (len := (IntKind.i64.wrap q).toNat) (cap := grownCap w (IntKind.i64.wrap q).toNat cap e) (es := i.size) (c := none)
              (by rw [hsz, length_arep, c2]; exact Nat.mul_le_mul_right _ hge)
              (fun j a ha => by
                obtain ⟨x, hx1, hx2⟩ := hrep.get j a ha
                refine ⟨x, ?_, hx2⟩
                have hj : j < (Builtin.zeroCells z.cells (IntKind.i64.wrap q).toNat).size := by
                  have := (List.getElem?_eq_some_iff.mp ha).1
                  rw [length_arep, c2] at this
                  rw [size_zeroCells', hzl]; exact this
                rw [Array.getElem?_append_left hj, ← hx1, Array.getElem?_toList]
                rfl)
              (by rw [hsz]; exact Nat.le_refl _) hge (by simp)
            obtain ⟨f', g1, g2, g3, g4⟩ := this
            exact ⟨_, _, hrun, f', g1, g2, Kept.trans ((Kept.refl B w).drew) g3, g4⟩
    · simp at h0
  · rename_i e d1 _ hu0 hu1
    split at h0
    · simp at h0
    · rename_i hseq
      have hseq : isSeq d1 = true := by simpa using hseq
      split at h0
      · simp at h0
      · rename_i i hi
        split at h0
        · rename_i z n hz hn
          split at h0
          · simp at h0
          · rename_i hc
            simp only [Bool.or_eq_true, decide_eq_true_eq, bne_iff_ne, ne_eq, not_or, Decidable.not_not] at hc
            obtain ⟨⟨hc1, hc2⟩, hc3⟩ := hc
            have A := AppArgs.mk (v := v) (u := u) ht0 ht1 ha0 ha1 hu0 hu1 hseq hi hz
            have H' : HR B f h w.drew := H.of_heap rfl
            split at h0
            · obtain rfl := hv.nilSl_inv
              split at h0
              · rename_i hn0
                subst hn0
                injection h0 with h0
                injection h0 with e1 e2
                subst e1 e2
                refine same .nilSl rfl ?_
                have hl : (Builtin.lenOf u).run P w = .ok 0 w := by
                  cases y <;> simp only [alenOf, Option.some.injEq] at hn <;> first | (simp at hn; done) | skip
                  · obtain ⟨b, rfl, hb⟩ := hu.str_inv; rw [hb, length_nats] at hn; simp [Builtin.lenOf, hn]
                  · obtain rfl := hu.nilSl_inv; simp [Builtin.lenOf]
                  · obtain ⟨r, O, cap, sp, _, _, _, _, _, _, rfl⟩ := hu.sl_inv; subst hn; simp [Builtin.lenOf]
                have hfc : (Builtin.firstCells i.size 0 u).run P w = .ok #[] w := by
                  cases y <;> simp only [alenOf, Option.some.injEq] at hn <;> first | (simp at hn; done) | skip
                  · obtain ⟨b, rfl, hb⟩ := hu.str_inv; simp [Builtin.firstCells]
                  · obtain rfl := hu.nilSl_inv; simp [Builtin.firstCells]
                  · obtain ⟨r, O, cap, sp, _, _, _, _, _, _, rfl⟩ := hu.sl_inv; simp [Builtin.firstCells, loadCells, loadCellsFrom]
                exact run_app_none A hl hfc
              · rename_i hn0
                split at h0
                · simp at h0
                · rename_i hbl
                  split at h0
                  · simp at h0
                  · rename_i new hnew
                    injection h0 with h0
                    injection h0 with e1 e2
                    subst e1 e2
                    obtain ⟨q1, q2, _, _, _⟩ := afirst_sound H hu hn hnew
                    obtain ⟨_, _, vs, q3, q4⟩ := afirst_sound (P := P) H' hu hn hnew
                    have := grow_sound (ty := ty) H A (n := n) (new := vs) (old := []) (lnew := new) (lold := []) (by omega) (by simpa using not_blt hbl) hc2 hc3 q1 q4 (by simp [Builtin.firstCells]) q3 .nil q2 (by simp)
                    simpa using this
            · rename_i id off len es c
              obtain ⟨r, O, cap, sp, hf, hlo, hlen, hO, hcp, hsp, rfl⟩ := hv.sl_inv
              split at h0
              · simp at h0
              · rename_i hes
                have hes : es = i.size := by simpa using hes
                subst hes
                split at h0
                · rename_i hn0
                  subst hn0
                  injection h0 with h0
                  injection h0 with e1 e2
                  subst e1 e2
                  refine same hv rfl ?_
                  have hl : (Builtin.lenOf u).run P w = .ok 0 w := by
                    cases y <;> simp only [alenOf, Option.some.injEq] at hn <;> first | (simp at hn; done) | skip
                    · obtain ⟨b, rfl, hb⟩ := hu.str_inv; rw [hb, length_nats] at hn; simp [Builtin.lenOf, hn]
                    · obtain rfl := hu.nilSl_inv; simp [Builtin.lenOf]
                    · obtain ⟨r, O, cap, sp, _, _, _, _, _, _, rfl⟩ := hu.sl_inv; subst hn; simp [Builtin.lenOf]
                  have hfc : (Builtin.firstCells i.size 0 u).run P w = .ok #[] w := by
                    cases y <;> simp only [alenOf, Option.some.injEq] at hn <;> first | (simp at hn; done) | skip
                    · obtain ⟨b, rfl, hb⟩ := hu.str_inv; simp [Builtin.firstCells]
                    · obtain rfl := hu.nilSl_inv; simp [Builtin.firstCells]
                    · obtain ⟨r, O, cap, sp, _, _, _, _, _, _, rfl⟩ := hu.sl_inv; simp [Builtin.firstCells, loadCells, loadCellsFrom]
                  exact run_app_zero hlen A hl hfc
                · rename_i hn0
                  split at h0
                  · simp at h0
                  · rename_i hbl
                    have hbl := not_blt hbl
                    split at h0
                    · rename_i new old hnew hold
                      obtain ⟨q1, q2, vs1, q5, q6⟩ := afirst_sound (P := P) H hu hn hnew
                      obtain ⟨_, _, vs, q3, q4⟩ := afirst_sound (P := P) H' hu hn hnew
                      have hold' : afirst h i.size (.sl id off len i.size c) = some old := by simp [afirst, hold]
                      obtain ⟨_, p2, vo, p3, p4⟩ := afirst_sound (P := P) H' hv rfl hold'
                      have grow : cap < len + n → ∃ v' w', (Builtin.append_ ts ty as).run P w = .ok v' w' ∧ HPost B f w (h.alloc (old ++ new)) (.sl h.next 0 (len + n) i.size none) v' w' := fun hlt =>
                        grow_sound (ty := ty) H A (n := n) (new := vs) (old := vo) (lnew := new) (lold := old) hlt hbl hc2 hc3 q1 q4 p4 q3 p3 q2 p2
                      have growM : ∀ h'' : AH, aappend.amove h id off len n i.size new = some (a, h'') → cap < len + n → ∃ v' w', (Builtin.append_ ts ty as).run P w = .ok v' w' ∧ HPost B f w h'' a v' w' := by
                        intro h'' hm hlt
                        unfold aappend.amove at hm
                        split at hm
                        · simp at hm
                        · rename_i b hb
                          split at hm
                          · simp at hm
                          · rename_i hro
                            simp only [Bool.or_eq_true, Bool.not_eq_true', not_or, Bool.not_eq_true, Bool.not_eq_false] at hro
                            injection hm with hm
                            injection hm with e1 e2
                            subst e1 e2
                            exact growM_sound (ty := ty) H A (n := n) (new := vs) (old := vo) (lnew := new) (lold := old) hlt hbl hc2 hc3 q1 q4 p4 q3 p3 q2 p2 hb hold
                      have moveM : ∀ h'' : AH, aappend.amove h id off len n i.size new = some (a, h'') → len + n ≤ cap → ∃ v' w', (Builtin.append_ ts ty as).run P w = .ok v' w' ∧ HPost B f w h'' a v' w' := by
                        intro h'' hm hle
                        unfold aappend.amove at hm
                        split at hm
                        · simp at hm
                        · rename_i b hb
                          split at hm
                          · simp at hm
                          · rename_i hro
                            simp only [Bool.or_eq_true, Bool.not_eq_true', not_or, Bool.not_eq_true, Bool.not_eq_false] at hro
                            injection hm with hm
                            injection hm with e1 e2
                            subst e1 e2
                            obtain rfl : sp = none := hsp.resolve_left (by omega)
                            rcases hO with hO | ⟨hO, hext⟩
                            · omega
                            · obtain ⟨c0, et, m1, m2, m3⟩ := move_sound H hf hb hro.1 hlo hO hext hle q5 q2 hold
                              exact ⟨_, _, run_app_room A hle q1 q6 m1 m2 (atoms_one q5 hro.2), m3⟩
                      have anyM : ∀ h'' : AH, aappend.amove h id off len n i.size new = some (a, h'') → ∃ v' w', (Builtin.append_ ts ty as).run P w = .ok v' w' ∧ HPost B f w h'' a v' w' := by
                        intro h'' hm
                        rcases Nat.lt_or_ge cap (len + n) with hlt | hle
                        · exact growM h'' hm hlt
                        · exact moveM h'' hm hle
                      split at h0
                      · rename_i k
                        split at h0
                        · rename_i hk
                          injection h0 with h0
                          injection h0 with e1 e2
                          subst e1 e2
                          have := hcp k rfl
                          exact grow (by rw [this]; exact Nat.blt_eq.mp hk)
                        · exact anyM _ h0
                      · exact anyM _ h0
                    · simp at h0
            · simp at h0
        · simp at h0
  · simp at h0
end
end Go.Proofs.Ytgnacecplaemlaa.AI
/-
  An abstract interpreter for the model's code, part 13: an operation that makes or writes memory and is no call, together; any operation.
-/
namespace Go.Proofs.Ytgnacecplaemlaa.AI
open Go.RowKit
section
variable {P : Program} {B : Nat} {f : Inj} {h : AH} {w : World} {ρ : Operand → Value} {ρ' : Operand → AV}

theorem acopy_sound (H : HR B f h w) {ts : Array TypeId} {as : Array Value} {t0 ty : TypeId} {v u : Value} {x y : AV} {a : AV} {h' : AH}
    (ht0 : ts[0]? = some t0) (ha0 : as[0]? = some v) (ha1 : as[1]? = some u) (hv : VR f v x) (hu : VR f u y) (h0 : acopy P t0 x y h = some (a, h')) :
    ∃ v' w', (Builtin.copy_ ts ty as).run P w = .ok v' w' ∧ HPost B f w h' a v' w' := by
  have same : ∀ {v' : Value}, VR f v' a → h' = h → (Builtin.copy_ ts ty as).run P w = .ok v' w → ∃ v' w', (Builtin.copy_ ts ty as).run P w = .ok v' w' ∧ HPost B f w h' a v' w' :=
    fun hv' e hr => ⟨_, w, hr, f, Ext.refl f, by rw [e]; exact H, Kept.refl B w, hv'⟩
  unfold acopy at h0
  split at h0
  · rename_i e hu0
    split at h0
    · rename_i es hes
      have hes' := run_sizeOf hes
      split at h0
      · obtain rfl := hv.nilSl_inv
        obtain rfl := hu.nilSl_inv
        injection h0 with h0; injection h0 with e1 e2; subst e1 e2
        exact same (.int .i64 0) rfl (by simp [Builtin.copy_, ht0, ha0, ha1, run_underlying hu0, Builtin.lenOf, hes', Builtin.firstCells, goInt])
      · obtain rfl := hv.nilSl_inv
        obtain ⟨r, O, cap, sp, _, _, _, _, _, _, rfl⟩ := hu.sl_inv
        injection h0 with h0; injection h0 with e1 e2; subst e1 e2
        exact same (.int .i64 0) rfl (by simp [Builtin.copy_, ht0, ha0, ha1, run_underlying hu0, Builtin.lenOf, hes', Builtin.firstCells, goInt, loadCells, loadCellsFrom])
      · obtain ⟨r, O, cap, sp, _, _, _, _, _, _, rfl⟩ := hv.sl_inv
        obtain rfl := hu.nilSl_inv
        injection h0 with h0; injection h0 with e1 e2; subst e1 e2
        exact same (.int .i64 0) rfl (by simp [Builtin.copy_, ht0, ha0, ha1, run_underlying hu0, Builtin.lenOf, hes', Builtin.firstCells, goInt, storeCells])
      · rename_i id off len es1 c id2 off2 n es2 c2
        obtain ⟨r, O, cap, sp, hf, hlo, hlen, hO, hcp, hsp, rfl⟩ := hv.sl_inv
        obtain ⟨r2, O2, cap2, sp2, hf2, hlo2, hlen2, hO2, hcp2, hsp2, rfl⟩ := hu.sl_inv
        split at h0
        · simp at h0
        · rename_i hne
          simp only [ne_eq, not_or, Decidable.not_not] at hne
          obtain ⟨rfl, hne2⟩ := hne
          subst hne2
          split at h0
          · rename_i hk
            injection h0 with h0; injection h0 with e1 e2; subst e1 e2
            have hk' : Nat.min n len = 0 := hk
            exact same (.int .i64 0) rfl (by simp [Builtin.copy_, ht0, ha0, ha1, run_underlying hu0, Builtin.lenOf, hes', Builtin.firstCells, goInt, hk', loadCells, loadCellsFrom, storeCells])
          · rename_i hk
            split at h0
            · simp at h0
            · rename_i l hl
              split at h0
              · simp at h0
              · rename_i hat
                have hat : atoms l = true := by simpa using hat
                split at h0
                · simp at h0
                · rename_i h2 hw
                  injection h0 with h0; injection h0 with e1 e2; subst e1 e2
                  obtain ⟨vs, q1, q2, q3⟩ := H.cells hl hf2 hlo2
                  obtain ⟨cc, et, m1, m2, m3, m4⟩ := H.write hw hf q2
                  have hk0 : min n len ≠ 0 := hk
                  obtain rfl : sp = none := hsp.resolve_left (by omega)
                  obtain rfl : sp2 = none := hsp2.resolve_left (by omega)
                  have hO' : O = r.base + (off - r.lo) := by rcases hO with h | h <;> omega
                  have hO2' : O2 = r2.base + (off2 - r2.lo) := by rcases hO2 with h | h <;> omega
                  subst hO' hO2'
                  have hload := run_loadCells_list (P := P) w _ vs q3
                  rw [q1] at hload
                  have hst := run_storeCells_at P r.blk (r.base + (off - r.lo)) et vs 0 cc w m1 (by simpa using m2) (atoms_one q2 hat)
                  simp only [Nat.add_zero] at hst
                  refine ⟨.int .i64 (min n len : Nat), _, ?_, f, Ext.refl f, m3, m4, .int _ _⟩
                  have e3 : Nat.min n len = min n len := rfl
                  simp [Builtin.copy_, ht0, ha0, ha1, run_underlying hu0, Builtin.lenOf, hes', Builtin.firstCells, goInt, hload, hst, e3]
      · simp at h0
    · simp at h0
  · simp at h0

/-! ### Objects that are no cells -/
/-- A row more, which no abstract block or object stands for. -/
theorem HR.allocOther (H : HR B f h w) (x : Obj) : HR B f h (w.alloc x) ∧ Kept B w (w.alloc x) :=
  ⟨⟨fun id b hb => by
      obtain ⟨r, c, e, fz, h1, h2, h3⟩ := H.blk id b hb
      exact ⟨r, c, e, fz, h1, (Below.heap_alloc _ _ _ (Array.getElem?_eq_some_iff.1 h2).1).trans h2, h3⟩,
    H.apart, H.fresh, H.ffresh, by have := H.le; simp; omega, H.objs.keep (Ext.refl f) (fun _ => rfl) (Nat.le_refl _) (fun k y _ h1 _ => (Below.heap_alloc _ _ _ (Array.getElem?_eq_some_iff.1 h1).1).trans h1)⟩,
   (Kept.refl B w).alloc H.le x⟩
/-- A new object. -/
theorem HR.newOb (H : HR B f h w) {o : AObj} {x : Obj} (ho : ObR f o ⟨w.heap.size, 0, 0, 0⟩ x) :
    HR B (upd f h.next ⟨w.heap.size, 0, 0, 0⟩) (h.newOb o) (w.alloc x) ∧ Ext f (upd f h.next ⟨w.heap.size, 0, 0, 0⟩) ∧ Kept B w (w.alloc x) := by
  have hx : Ext f (upd f h.next ⟨w.heap.size, 0, 0, 0⟩) := Ext.upd (H.ffresh _ (Nat.le_refl _)) _
  have hold : ∀ (k : Nat) (y : Obj), w.heap[k]? = some y → (w.alloc x).heap[k]? = some y := fun k y hy => (Below.heap_alloc _ _ _ (Array.getElem?_eq_some_iff.1 hy).1).trans hy
  have hne : ∀ id b, h.blk? id = some b → id ≠ h.next := fun id b hb e => by rw [e, H.fresh _ (Nat.le_refl _)] at hb; simp at hb
  have hno : ∀ id b, h.ob? id = some b → id ≠ h.next := fun id b hb e => by rw [e, H.objs.ofresh _ (Nat.le_refl _)] at hb; simp at hb
  refine ⟨⟨fun id b hb => ?_, fun id id' b b' r r' hne' hb hb' hro hro' hr hr' => ?_, fun id hid => ?_, fun id hid => ?_, ?_, ⟨fun id o' ho' => ?_, fun id id' o1 o2 r r' hne' h1 h2 hr hr' => ?_, fun id hid => ?_⟩⟩, hx, (Kept.refl B w).alloc H.le x⟩
  · rw [AH.blk?_newOb] at hb
    obtain ⟨r, c, e, fz, h1, h2, h3, h4, h5, h6, h7, h8⟩ := H.blk id b hb
    exact ⟨r, c, e, fz, hx _ _ h1, hold _ _ h2, h3, h4, h5, h6, h7, fun o a ha => let ⟨v, q1, q2⟩ := h8 o a ha; ⟨v, q1, q2.mono hx⟩⟩
  · rw [AH.blk?_newOb] at hb hb'
    unfold upd at hr hr'
    rw [if_neg (hne _ _ hb)] at hr
    rw [if_neg (hne _ _ hb')] at hr'
    exact H.apart id id' b b' r r' hne' hb hb' hro hro' hr hr'
  · have hid : h.next + 1 ≤ id := hid
    rw [AH.blk?_newOb]
    exact H.fresh id (by omega)
  · have hid : h.next + 1 ≤ id := hid
    unfold upd
    rw [if_neg (by omega)]
    exact H.ffresh id (by omega)
  · have := H.le; simp; omega
  · rw [AH.ob?_newOb] at ho'
    split at ho'
    · rename_i hid
      injection ho' with ho'
      subst hid ho'
      exact ⟨_, x, upd_same _ _ _, H.le, World.alloc_heap_new w x, ho.mono hx⟩
    · obtain ⟨r, y, h1, h2, h3, h4⟩ := H.objs.obj id o' ho'
      exact ⟨r, y, hx _ _ h1, h2, hold _ _ h3, h4.mono hx⟩
  · have hlt : ∀ id o r, h.ob? id = some o → f id = some r → r.blk < w.heap.size := fun id o r h1 h2 => by
      obtain ⟨r', y, q1, _, q3, _⟩ := H.objs.obj id o h1
      rw [h2] at q1
      injection q1 with q1
      subst q1
      exact (Array.getElem?_eq_some_iff.1 q3).1
    rw [AH.ob?_newOb] at h1 h2
    unfold upd at hr hr'
    split at h1
    · rename_i hid
      subst hid
      rw [if_neg (Ne.symm hne')] at h2 hr'
      rw [if_pos rfl] at hr
      injection hr with hr
      subst hr
      exact Nat.ne_of_gt (hlt _ _ _ h2 hr')
    · rename_i hid
      rw [if_neg hid] at hr
      split at h2
      · rename_i hid'
        subst hid'
        rw [if_pos rfl] at hr'
        injection hr' with hr'
        subst hr'
        exact Nat.ne_of_lt (hlt _ _ _ h1 hr)
      · rename_i hid'
        rw [if_neg hid'] at hr'
        exact H.objs.oapart id id' o1 o2 r r' hne' h1 h2 hr hr'
  · have hid : h.next + 1 ≤ id := hid
    rw [AH.ob?_newOb, if_neg (by omega)]
    exact H.objs.ofresh id (by omega)
/-- An object is turned, or forgotten. -/
theorem HR.setOb (H : HR B f h w) {id : Nat} {r : Reg} {o0 : AObj} {o : Option AObj} {x0 x : Obj} (h0 : h.ob? id = some o0) (hf : f id = some r) (hx0 : w.heap[r.blk]? = some x0) (ho0 : Obj.other x0 = true)
    (ho : ∀ o', o = some o' → ObR f o' r x) : HR B f (h.putOb id o) (w.putObj r.blk x) ∧ Kept B w (w.putObj r.blk x) := by
  have hlt : r.blk < w.heap.size := (Array.getElem?_eq_some_iff.1 hx0).1
  have hB : B ≤ r.blk := by
    obtain ⟨r', y, q1, q2, _⟩ := H.objs.obj id o0 h0
    rw [hf] at q1
    injection q1 with q1
    subst q1
    exact q2
  have hcells : ∀ (k : Nat) (y : Obj), w.heap[k]? = some y → Obj.other y = false → (w.putObj r.blk x).heap[k]? = some y := fun k y hy hn => by
    rw [World.putObj_heap_other]
    · exact hy
    · rintro rfl; rw [hx0] at hy; injection hy with hy; subst hy; rw [ho0] at hn; simp at hn
  refine ⟨⟨fun j b hb => ?_, H.apart, H.fresh, H.ffresh, by rw [World.putObj_size]; exact H.le, ⟨fun j o' ho' => ?_, fun j j' o1 o2 r1 r2 hne h1 h2 hr1 hr2 => ?_, fun j hj => ?_⟩⟩,
    ⟨⟨rfl, rfl, rfl, by rw [World.putObj_size]; exact Nat.le_refl _, fun k hk => World.putObj_heap_other (by omega)⟩, fun k ds hk => hcells k _ hk rfl⟩⟩
  · obtain ⟨r', c, e, fz, h1, h2, h3⟩ := H.blk j b hb
    exact ⟨r', c, e, fz, h1, hcells _ _ h2 rfl, h3⟩
  · rw [AH.ob?_putOb] at ho'
    split at ho'
    · rename_i hj
      subst hj
      exact ⟨r, x, hf, hB, World.putObj_heap_same hlt, ho o' ho'⟩
    · rename_i hj
      obtain ⟨r', y, q1, q2, q3, q4⟩ := H.objs.obj j o' ho'
      exact ⟨r', y, q1, q2, by rw [World.putObj_heap_other (H.objs.oapart j id o' o0 r' r hj ho' h0 q1 hf)]; exact q3, q4⟩
  · rw [AH.ob?_putOb] at h1 h2
    have key : ∀ k o', (if k = id then o else h.ob? k) = some o' → ∃ o'', h.ob? k = some o'' := fun k o' hk => by
      split at hk
      · rename_i e; subst e; exact ⟨o0, h0⟩
      · exact ⟨o', hk⟩
    obtain ⟨p1, hp1⟩ := key j o1 h1
    obtain ⟨p2, hp2⟩ := key j' o2 h2
    exact H.objs.oapart j j' p1 p2 r1 r2 hne hp1 hp2 hr1 hr2
  · rw [AH.ob?_putOb]
    split
    · rename_i e
      subst e
      rw [H.objs.ofresh _ hj] at h0
      simp at h0
    · exact H.objs.ofresh j hj
/-- A block for deferred calls is shut. -/
theorem HR.shut (H : HR B f h w) {k : Nat} {ds : Option (List Deferred)} (hk : w.heap[k]? = some (.deferred ds)) (hB : B ≤ k) (x : Option (List Deferred)) :
    HR B f h (w.putObj k (.deferred x)) ∧ Below B w (w.putObj k (.deferred x)) := by
  have hoth : ∀ (j : Nat) (y : Obj), w.heap[j]? = some y → (∀ ds, y ≠ .deferred ds) → (w.putObj k (.deferred x)).heap[j]? = some y := fun j y hy hn => by
    rw [World.putObj_heap_other]
    · exact hy
    · rintro rfl; rw [hk] at hy; injection hy with hy; exact hn _ hy.symm
  refine ⟨⟨fun j b hb => ?_, H.apart, H.fresh, H.ffresh, by rw [World.putObj_size]; exact H.le, H.objs.keep (Ext.refl f) (fun _ => rfl) (Nat.le_refl _) (fun j y _ h1 h2 => hoth j y h1 (fun ds e => by rw [e] at h2; simp [Obj.other] at h2))⟩,
    ⟨rfl, rfl, rfl, by rw [World.putObj_size]; exact Nat.le_refl _, fun j hj => World.putObj_heap_other (by omega)⟩⟩
  obtain ⟨r', c, e, fz, h1, h2, h3⟩ := H.blk j b hb
  exact ⟨r', c, e, fz, h1, hoth _ _ h2 (fun _ h => by cases h), h3⟩

/-- Not a call of a function of the program. -/
def notCall (o : Oper) : Prop := ∀ f as ts, o.op ≠ .call { callee := .value f, args := as, argTypes := ts }

theorem decode_low (b : ByteArray) (pos : Nat) {u : UInt8} (hu : b[pos]? = some u) (hl : u.toNat < 128) : Utf8.decode b pos = (u.toNat, 1) := by
  have hlt : pos < b.size := by
    rcases Nat.lt_or_ge pos b.size with q | q
    · exact q
    · rw [getElem?_neg b pos (by omega)] at hu; simp at hu
  have hg : b.get! pos = u := by
    rw [getElem?_pos b pos hlt] at hu
    injection hu with hu
    rw [← hu]
    show b.data[pos]! = b.data[pos]
    rw [getElem!_pos b.data pos hlt]
  unfold Utf8.decode
  simp only [Nat.add_zero, hg]
  rw [if_pos hl]
theorem aheap_sound (H : HR B f h w) (hρ : ∀ x, VR f (ρ x) (ρ' x)) {call : ACall} {o : Oper} {a : AV} {h' : AH} (hnc : notCall o)
    (h0 : aheap P call ρ' o h = some (a, h')) : ∃ v w', Comes1 P ρ o w v w' ∧ HPost B f w h' a v w' := by
  obtain ⟨dst, op, type, pos, after, guard⟩ := o
  cases op <;> simp only [aheap] at h0 <;> try (simp at h0; done)
  case alloc e =>
    split at h0
    · rename_i z hz
      split at h0
      · simp at h0
      · rename_i hzt
        injection h0 with h0; injection h0 with e1 e2; subst e1 e2
        obtain ⟨zv, hzv, hzr⟩ := run_zeroValue hz f
        have hnt : z ≠ .top := by rintro rfl; simp [AV.isTop] at hzt
        exact ⟨_, _, .inl (by simp [execOp, Instr.alloc, hzr, newVar, newRow]), H.new (hzv.cells hnt) e⟩
    · simp at h0
  case box e x =>
    split at h0
    · simp at h0
    · rename_i hxt
      injection h0 with h0; injection h0 with e1 e2; subst e1 e2
      have hnt : ρ' x ≠ .top := by intro e; rw [e] at hxt; simp [AV.isTop] at hxt
      exact ⟨_, _, .inl (by simp [execOp, Instr.box, newVar, newRow]), H.new ((hρ x).cells hnt) e⟩
  case buildSlice t len parts =>
    obtain ⟨parts⟩ := parts
    split at h0
    · rename_i e ht
      split at h0
      · rename_i n z hn hz
        by_cases hl0 : len = 0
        · subst hl0
          rw [if_pos rfl] at h0
          split at h0
          · rename_i hpe
            injection h0 with h0; injection h0 with e1 e2; subst e1 e2
            have hp0 : parts = [] := by simpa using hpe
            subst hp0
            refine ⟨_, _, .inl ?_, H.newSl (cs := #[]) (l := []) (e := e) (len := 0) (cap := 0) (es := n) (c := some 0) (by simp) (fun i a ha => by simp at ha) (by omega) (Nat.le_refl _) (by simp)⟩
            simp [execOp, Instr.buildSlice, run_underlying ht, run_sizeOf hn, Instr.fill, newRow]
            rw [show Array.range 0 = #[] from rfl, Array.map_empty]
          · simp at h0
        rw [if_neg hl0] at h0
        split at h0
        · simp at h0
        · rename_i hc
          simp only [Bool.or_eq_true, decide_eq_true_eq, bne_iff_ne, ne_eq, not_or, Decidable.not_not] at hc
          obtain ⟨⟨⟨⟨hc1, hc2⟩, hc3⟩, hc4⟩, hc5⟩ := hc
          split at h0
          · simp at h0
          · rename_i l hl
            injection h0 with h0; injection h0 with e1 e2; subst e1 e2
            obtain ⟨zv, hzv, hzr⟩ := run_zeroValue hz f
            have hnt : z ≠ .top := by rintro rfl; simp [AV.isTop] at hc1
            have hzc := hzv.cells hnt
            have hzl : zv.cells.size = n := by have := hzc.length; simp at this; omega
            have hrep := hzc.arep (by omega) len
            rw [hzl] at hrep
            obtain ⟨cs', h1, h2⟩ := afill_sound hρ hrep hl
            have h5 : len * n ≤ 16777216 := not_blt hc5
            have hlen : l.length = cs'.size := by have := h2.length; simpa using this.symm
            have hfl : l.length = len * n := by
              have : ∀ (place : Nat → Option (Nat × Nat)) (ps : List (Nat × AV)) (c r : List AV), afill place c ps = some r → r.length = c.length := by
                intro place ps
                induction ps with
                | nil => intro c r hh; simp [afill] at hh; subst hh; rfl
                | cons p ps ih =>
                  intro c r hh
                  simp only [afill] at hh
                  split at hh
                  · simp at hh
                  · rename_i off size hp
                    split at hh
                    · simp at hh
                    · rename_i hcc
                      simp only [Bool.or_eq_true, not_or, Bool.not_eq_true, bne_eq_false_iff_eq] at hcc
                      have h9 : off + size ≤ c.length := not_blt (by simp [hcc.2])
                      rw [ih _ _ hh]
                      simp only [List.length_append, List.length_take, List.length_drop]
                      omega
              rw [this _ _ _ _ hl, length_arep]
              congr 1
            refine ⟨_, _, .inl ?_, H.newSl (cs := cs') (l := l) (e := e) (len := len) (cap := len) (es := n) (c := some len) (by omega) (fun i a ha => ?_) (by omega) (Nat.le_refl _) (by simp)⟩
            · have h6 : ¬ 2 ^ 24 < len * n := by omega
              have h7 : ¬ 16777216 < len * n := by omega
              have h8 : ¬ len * n = 0 := fun e => by rcases Nat.mul_eq_zero.mp e with e | e <;> omega
              simp only at h1 ⊢
              simp [execOp, Instr.buildSlice, run_underlying ht, run_sizeOf hn, hzr, h8, h1, newRow, hzl, h7]
            · obtain ⟨v, e1, e2⟩ := h2.get i a ha
              exact ⟨v, by simpa using e1, e2⟩
      · simp at h0
    · simp at h0
  case makeSlice t lo co =>
    split at h0
    · rename_i e k l k' c ht hl hc
      split at h0
      · simp at h0
      · rename_i i hi
        split at h0
        · simp at h0
        · rename_i z hz
          split at h0
          · simp at h0
          · rename_i hcc
            simp only [Bool.or_eq_true, decide_eq_true_eq, bne_iff_ne, ne_eq, not_or, Decidable.not_not] at hcc
            obtain ⟨⟨⟨⟨⟨hc1, hc2⟩, hc3⟩, hc4⟩, hc5⟩, hc6⟩ := hcc
            have hc6 := not_blt hc6
            injection h0 with h0; injection h0 with e1 e2; subst e1 e2
            have hlo := hρ lo
            rw [hl] at hlo
            have hlo := hlo.int_inv
            have hco := hρ co
            rw [hc] at hco
            have hco := hco.int_inv
            cases hzz : i.zero with
            | none => simp [hzz] at hz
            | some zv =>
              simp [hzz] at hz
              have hzv : VR f zv z := by rw [← hz]; exact VR.ofConst f zv
              have hnt : z ≠ .top := by rintro rfl; simp [AV.isTop] at hc1
              have hzc := hzv.cells hnt
              have hzl : zv.cells.size = i.size := by have := hzc.length; simp at this; omega
              have hrep := hzc.arep (by omega) (IntKind.i64.wrap c).toNat
              have hrl := hrep.length
              have hcs : ((Array.range ((IntKind.i64.wrap c).toNat * zv.cells.size)).map fun j => zv.cells[j % zv.cells.size]!).size = (IntKind.i64.wrap c).toNat * i.size := by rw [Array.size_map, Array.size_range, hzl]
              refine ⟨_, _, .inl ?_, H.newSl (e := e) (cs := (Array.range ((IntKind.i64.wrap c).toNat * zv.cells.size)).map fun j => zv.cells[j % zv.cells.size]!) (l := arep z.cells (IntKind.i64.wrap c).toNat) (len := (IntKind.i64.wrap l).toNat) (cap := (IntKind.i64.wrap c).toNat) (es := i.size) (c := some (IntKind.i64.wrap c).toNat)
                (by rw [← hrl, Array.length_toList]; exact Nat.le_refl _) (fun j a ha => ?_) (by omega) (by omega) (by simp)⟩
              · have t1 : ¬ (IntKind.i64.wrap c < 0) := by omega
                have t2 : ¬ ((i.bytes : Int) * IntKind.i64.wrap c > 281474976710656) := by
                  have t4 : (IntKind.i64.wrap c).toNat * i.bytes ≤ 140737488355328 := hc6
                  have t5 : ((IntKind.i64.wrap c).toNat : Int) = IntKind.i64.wrap c := Int.toNat_of_nonneg (by omega)
                  have t6 := Int.ofNat_le.mpr t4
                  rw [Int.natCast_mul, t5] at t6
                  rw [Int.mul_comm]
                  omega
                have t3 : (decide (IntKind.i64.wrap c < 0) || decide ((i.bytes : Int) * IntKind.i64.wrap c > 2 ^ 48)) = false := by simp; omega
                have t7 : ((decide (IntKind.i64.wrap c < 0) || decide ((i.bytes : Int) * IntKind.i64.wrap c > 2 ^ 48)) || decide (IntKind.i64.wrap l < 0) || decide (IntKind.i64.wrap l > IntKind.i64.wrap c)) = false := by
                  rw [t3]; simp; omega
                have hcn : (zeroValue e).run P w = .ok zv w := by simp [zeroValue, typeInfo, hi, hzz]
                simp only [execOp, Instr.makeSlice, hlo, hco, Sem.run_bind, run_underlying ht, Result.andThen_ok, asInt, asIntOf, Sem.run_pure, typeInfo, run_program, hi, sizeOf]
                rw [if_neg (by simpa using t7)]
                simp only [Sem.run_bind, run_askRoom, Result.andThen_ok, Sem.run_pure, run_program, hi]
                by_cases hz0 : (IntKind.i64.wrap c).toNat * i.size = 0
                · have hr0 : Array.range ((IntKind.i64.wrap c).toNat * i.size) = #[] := by rw [hz0]; rfl
                  simp only [hzl, hr0]
                  simp [hz0, newRow]
                · simp [hz0, hcn, newRow, hzl]
              · obtain ⟨v, e1, e2⟩ := hrep.get j a ha
                exact ⟨v, by rw [← e1, Array.getElem?_toList], e2⟩
    · simp at h0
  case store t x y =>
    split at h0
    · rename_i id off n hx hn
      split at h0
      · simp at h0
      · rename_i hc
        simp only [Bool.or_eq_true, bne_iff_ne, ne_eq, not_or, Decidable.not_not, Bool.not_eq_true', Bool.not_eq_false, Bool.not_eq_true] at hc
        obtain ⟨⟨hc1, hc2⟩, hc3⟩ := hc
        cases hw : h.write id off (ρ' y).cells with
        | none => simp [hw] at h0
        | some h2 =>
          simp [hw] at h0
          obtain ⟨rfl, rfl⟩ := h0
          have hp := hρ x
          rw [hx] at hp
          obtain ⟨w', h1, h2, h3⟩ := store_sound (P := P) H hp (hρ y) hn hc1 hc2 hc3 hw
          exact ⟨undef, w', .inr ⟨by simp [execOp, h1], rfl⟩, f, Ext.refl f, h2, h3, .tup _ _ (by exact .nil)⟩
    · simp at h0
  case range t x =>
    split at h0
    · rename_i s ht hx
      injection h0 with h0; injection h0 with e1 e2; subst e1 e2
      have hp := hρ x
      rw [hx] at hp
      obtain ⟨b, hb, rfl⟩ := hp.str_inv
      obtain ⟨g1, g2, g3⟩ := H.newOb (o := .iter (nats b) 0) (x := .stringIter b 0) ⟨b, rfl, rfl, rfl, rfl⟩
      refine ⟨_, _, .inl ?_, _, g2, g1, g3, VR.ptr h.next 0 ⟨w.heap.size, 0, 0, 0⟩ (upd_same _ _ _) (Nat.le_refl _)⟩
      simp [execOp, Instr.range, hb, run_underlying ht]
    · simp at h0
  case next it isS =>
    split at h0
    · rename_i id hi
      have hp := hρ it
      rw [hi] at hp
      unfold anext at h0
      split at h0
      · rename_i s pos hob
        obtain ⟨r, x, hf, hB, hx, b, rfl, rfl, hb0, hl0⟩ := H.objs.obj _ _ hob
        obtain ⟨r', hf', _, hv⟩ := hp.ptr_inv
        rw [hf] at hf'
        injection hf' with hf'
        subst hf'
        rw [hb0, hl0] at hv
        split at h0
        · rename_i c hc
          rw [nats_get] at hc
          cases hbc : b[pos]? with
          | none => simp [hbc] at hc
          | some u =>
            simp [hbc] at hc
            subst hc
            have hlt : pos < b.size := by
              rcases Nat.lt_or_ge pos b.size with q | q
              · exact q
              · rw [getElem?_neg b pos (by omega)] at hbc; simp at hbc
            split at h0
            · rename_i hu
              injection h0 with h0; injection h0 with e1 e2; subst e1 e2
              obtain ⟨g1, g2⟩ := H.setOb (o := some (.iter (nats b) (pos + 1))) (x := .stringIter b (pos + 1)) hob hf hx rfl (fun o' e => by injection e with e; subst e; exact ⟨b, rfl, rfl, hb0, hl0⟩)
              refine ⟨_, _, .inl ?_, f, Ext.refl f, g1, g2, .tup #[.bool true, .int .i64 (pos : Int), .int .i32 (u.toNat : Int)] _ (.cons _ _ _ _ (.bool _) (.cons _ _ _ _ (.int _ _) (.cons _ _ _ _ (.int _ _) .nil)))⟩
              have hdec := decode_low b pos hbc (Nat.blt_eq.mp hu)
              simp [execOp, Instr.next, hv, getObj, setObj, Sem.run, hx, hlt, hdec, Result.andThen, goInt, World.putObj]
            · simp at h0
        · rename_i hc
          injection h0 with h0; injection h0 with e1 e2; subst e1 e2
          rw [nats_get] at hc
          have hge : ¬ pos < b.size := fun hlt => by rw [getElem?_pos b pos hlt] at hc; simp at hc
          refine ⟨_, w, .inl ?_, f, Ext.refl f, H, Kept.refl B w, .tup #[.bool false] _ (.cons _ _ _ _ (.bool _) .nil)⟩
          simp [execOp, Instr.next, hv, getObj, Sem.run, hx, hge, Result.andThen]
      · simp at h0
    · simp at h0
  case call c =>
    obtain ⟨callee, args, argTypes⟩ := c
    cases callee with
    | value x => exact absurd rfl (hnc x args argTypes)
    | invoke x m => simp at h0
    | builtin b =>
      obtain ⟨args⟩ := args
      cases b <;> simp only [] at h0 <;> try (simp at h0; done)
      case append =>
        split at h0
        · rename_i t0 t1 s x g0 g1 g2 g3
          obtain ⟨v, w', h1, h2⟩ := aappend_sound (P := P) (ty := type) (as := (args.map ρ).toArray) H g0 g1 (v := ρ s) (u := ρ x) (by simp at g2; simp [g2]) (by simp at g3; simp [g3]) (hρ s) (hρ x) h0
          exact ⟨v, w', .inl (by simp [execOp, resolve, invoke, builtin, h1]), h2⟩
        · simp at h0
      case copy =>
        split at h0
        · rename_i t0 s x g0 g2 g3
          obtain ⟨v, w', h1, h2⟩ := acopy_sound (P := P) (ty := type) (as := (args.map ρ).toArray) H g0 (v := ρ s) (u := ρ x) (by simp at g2; simp [g2]) (by simp at g3; simp [g3]) (hρ s) (hρ x) h0
          exact ⟨v, w', .inl (by simp [execOp, resolve, invoke, builtin, h1]), h2⟩
        · simp at h0
end
end Go.Proofs.Ytgnacecplaemlaa.AI
/-
  An abstract interpreter for the model's code, part 14: frames; one operation of a region; a region in the text's order.
-/
namespace Go.Proofs.Ytgnacecplaemlaa.AI
open Go.RowKit

theorem FR.ev {f : Inj} {a : Act} {fr : List AV} (h : FR f a.tmps fr) (x : Operand) : VR f (a.eval x) (aev fr x) := by
  cases x with
  | tmp t =>
    show VR f (a.tmps.getD t undef) (fr.getD t .top)
    cases ha : fr[t]? with
    | none => rw [List.getD_eq_getElem?_getD, ha]; exact .top _
    | some b =>
      obtain ⟨v, h1, h2⟩ := h.get t b ha
      rw [List.getD_eq_getElem?_getD, ha, Array.getD_eq_getD_getElem?, h1]
      exact h2
  | const v => exact VR.ofConst f v
  | global g => exact .top _
  | func g => exact .fn _ _ _ _ _ .nil .nil
theorem FR.put {f : Inj} {a : Act} {fr : List AV} (h : FR f a.tmps fr) (dst : Option Tmp) {v : Value} {b : AV} (hv : VR f v b) : FR f (a.put dst v).tmps (aput fr dst b) := by
  cases dst with
  | none => exact h
  | some d =>
    refine ⟨by simp [Act.put, aput, h.size], fun t c hc => ?_⟩
    simp only [Act.put, aput] at hc ⊢
    by_cases hd : d = t
    · subst hd
      have hlt : d < fr.length := by
        rcases Nat.lt_or_ge d fr.length with h' | h'
        · exact h'
        · rw [List.getElem?_eq_none (by simpa using h')] at hc; simp at hc
      rw [List.getElem?_set_self hlt] at hc
      injection hc with hc
      subst hc
      exact ⟨v, by rw [Array.getElem?_setIfInBounds_self, if_pos (by rw [h.size]; exact hlt)], hv⟩
    · rw [List.getElem?_set_ne hd] at hc
      obtain ⟨u, h1, h2⟩ := h.get t c hc
      exact ⟨u, by rw [Array.getElem?_setIfInBounds_ne hd]; exact h1, h2⟩
theorem wanted_of {f : Inj} {a : Act} {fr : List AV} {ops : Array Oper} {o : Oper} {b : Bool}
    (hslot : ∀ j want d, o.guard = some (j, want) → (ops[j]?).bind (·.dst) = some d → VR f (a.tmps.getD d undef) (fr.getD d .top))
    (hw : awanted ops fr o = some b) : Region.wanted o (yielded ops a.tmps) = b := by
  unfold awanted at hw
  unfold Region.wanted
  split at hw
  · rename_i hg; injection hw with hw; simp [hg, hw]
  · rename_i j want hg
    simp only [hg]
    split at hw
    · rename_i hd
      injection hw with hw
      subst hw
      have : yielded ops a.tmps j = none := by unfold yielded; rw [hd]; rfl
      rw [this]; rfl
    · rename_i d hd
      have hy : yielded ops a.tmps j = match a.tmps[d]? with | some (.bool b) => some b | _ => none := by unfold yielded; rw [hd]; rfl
      rw [hy]
      have hev' : VR f (a.tmps.getD d undef) (fr.getD d .top) := hslot j want d hg hd
      split at hw
      · rename_i c hc
        rw [hc] at hev'
        have := hev'.bool_inv
        injection hw with hw
        subst hw
        cases ht : a.tmps[d]? with
        | none => rw [Array.getD_eq_getD_getElem?, ht] at this; simp [undef] at this
        | some u =>
          rw [Array.getD_eq_getD_getElem?, ht] at this
          simp at this
          subst this
          rfl
      · rename_i hc
        rw [hc] at hev'
        obtain ⟨cs, e, _⟩ := hev'.tup_inv
        injection hw with hw
        subst hw
        cases ht : a.tmps[d]? with
        | none => rfl
        | some u =>
          rw [Array.getD_eq_getD_getElem?, ht] at e
          simp at e
          subst e
          rfl
      · simp at hw
theorem FR.wanted {f : Inj} {a : Act} {fr : List AV} (h : FR f a.tmps fr) {ops : Array Oper} {o : Oper} {b : Bool} (hw : awanted ops fr o = some b) : Region.wanted o (yielded ops a.tmps) = b :=
  wanted_of (fun _ _ d _ _ => h.ev (.tmp d)) hw

/-- The marks of the loops over functions that a function has been through. -/
def Marks (D : Nat) (ds : List Deferred) (w : World) : Prop :=
  D ≤ w.heap.size ∧ ∃ bs : List Nat, ds = bs.map (fun r => { target := .collected r, args := #[] }) ∧ bs.Nodup ∧ ∀ r ∈ bs, D ≤ r ∧ w.heap[r]? = some (.deferred (some []))
theorem Marks.nil {D : Nat} {w : World} (h : D ≤ w.heap.size) : Marks D [] w := ⟨h, [], rfl, List.nodup_nil, by simp⟩
theorem Marks.kept {D B : Nat} {ds : List Deferred} {w w' : World} (m : Marks D ds w) (k : Kept B w w') : Marks D ds w' := by
  obtain ⟨h0, bs, h1, h2, h3⟩ := m
  exact ⟨Nat.le_trans h0 k.bel.size, bs, h1, h2, fun r hr => ⟨(h3 r hr).1, k.dfr r _ (h3 r hr).2⟩⟩
/-- One mark more. -/
theorem Marks.cons {D k : Nat} {ds : List Deferred} {w w' : World} (m : Marks D ds w) (hk : w.heap.size ≤ k) (hw : w.heap.size ≤ w'.heap.size) (hrow : w'.heap[k]? = some (.deferred (some [])))
    (hkeep : ∀ (j : Nat) x, w.heap[j]? = some (.deferred x) → w'.heap[j]? = some (.deferred x)) : Marks D ({ target := .collected k, args := #[] } :: ds) w' := by
  obtain ⟨h0, bs, h1, h2, h3⟩ := m
  refine ⟨Nat.le_trans h0 hw, k :: bs, by rw [h1]; rfl, List.nodup_cons.mpr ⟨fun hm => ?_, h2⟩, fun r hr => ?_⟩
  · have := (Array.getElem?_eq_some_iff.1 (h3 k hm).2).1
    omega
  · simp only [List.mem_cons] at hr
    rcases hr with rfl | hr
    · exact ⟨by omega, hrow⟩
    · exact ⟨(h3 r hr).1, hkeep r _ (h3 r hr).2⟩
/-- What is known between two operations. -/
structure SR (B D : Nat) (f : Inj) (fr : List AV) (h : AH) (a : Act) (w : World) : Prop where
  fr : FR f a.tmps fr
  hr : HR B f h w
  dm : Marks D a.defers w

/-- A call of a function: its value at once, or what its body comes to. -/
def FnRuns (P : Program) (g : FuncId) (vs : Array Value) (w : World) (Φ : Value → World → Prop) : Prop :=
  (∃ v w', (callFunc g vs).run P w = .ok (.value v) w' ∧ Φ v w') ∨
  ((callFunc g vs).run P w = .ok (.enter g vs) w ∧ Calls P g vs w (fun e w' => ∃ v, e = .returned v ∧ Φ v w'))
/-- A call of the function that a loop hands on. -/
def YRuns (P : Program) (l : Nat) (vs : Array Value) (w : World) (Φ : Value → World → Prop) : Prop :=
  ∃ fn tmps asg body, (Instr.yield l vs).run P w = .ok (.round l fn tmps asg body) w ∧ ∀ n, RoundIn Fence.wide n P l fn tmps asg body w (fun e w' => ∃ v, e = .returned v ∧ Φ v w')
/-- The abstract calls stand for calls. -/
structure CallOK (P : Program) (call : ACall) : Prop where
  fn : ∀ g args h a h', call (.func g) args h = some (a, h') → ∀ B f w (vs : Array Value), HR B f h w → VRs f vs.toList args → FnRuns P g vs w (HPost B f w h' a)
  yl : ∀ id args h a h', call (.yield id) args h = some (a, h') → ∀ B f w (vs : Array Value) r, HR B f h w → VRs f vs.toList args → f id = some r → YRuns P r.blk vs w (HPost B f w h' a)
/-- The fence: all functions; whose round it is. -/
abbrev FW (ro : Option Nat) : Fence := { fn := fun _ => True, depth := none, alive := false, round := ro }

section
variable {P : Program} {B D : Nat} {f : Inj} {fr : List AV} {h : AH} {a : Act} {w : World} {call : ACall} {ops : Array Oper} {ro : Option Nat} {n : Nat}

theorem Act.put_tmps_defers (a : Act) (dst : Option Tmp) (v : Value) : (a.put dst v).defers = a.defers := by cases dst <;> rfl

/-- What an operation's run comes to. -/
def OpRuns (P : Program) (ρ : Operand → Value) (o : Oper) (w : World) (Φ : Value → World → Prop) : Prop :=
  (∃ v w', Comes1 P ρ o w v w' ∧ Φ v w') ∨
  (∃ g vs, (execOp ρ o).run P w = .ok (.enter g vs) w ∧ Calls P g vs w (fun e w' => ∃ v, e = .returned v ∧ Φ v w')) ∨
  ∃ l fn tmps asg body, (execOp ρ o).run P w = .ok (.round l fn tmps asg body) w ∧ ∀ n, RoundIn Fence.wide n P l fn tmps asg body w (fun e w' => ∃ v, e = .returned v ∧ Φ v w')
theorem OpRuns.wp {o : Oper} {Φ : Value → World → Prop} {ρ : Operand → Value} (hr : OpRuns P ρ o w Φ) (he : execOp a.eval o = execOp ρ o) (hd : ∀ c, o.op ≠ .defer c) {K : Act → World → Prop} {Q : Exit → Act → World → Prop}
    (hK : ∀ v w', Φ v w' → K (a.put o.dst v) w') : o.wpIn (FW ro) n P a w K Q := by
  unfold Oper.wpIn
  refine ⟨fun _ _ => trivial, ?_⟩
  rw [Oper.semAt_eq _ _ _ hd, he]
  rcases hr with ⟨v, w', h1, h2⟩ | ⟨g, vs, h1, h2⟩ | ⟨l, fn, tmps, asg, body, h1, h2⟩
  · rcases h1 with h1 | ⟨h1, rfl⟩
    · rw [h1]; exact hK v w' h2
    · rw [h1]; exact hK undef w' h2
  · rw [h1]
    refine ⟨fun h => by simp at h, ?_⟩
    have h3 : CallsIn (FW none) (n - 1) P g vs w (fun e w' => ∃ v, e = .returned v ∧ Φ v w') := callsIn_wide.2 h2
    have h4 : CallsIn (FW ro) (n - 1) P g vs w (fun e w' => ∃ v, e = .returned v ∧ Φ v w') := h3
    refine h4.mono ?_
    rintro e w' ⟨v, rfl, hp⟩
    exact hK v w' hp
  · rw [h1]
    refine ⟨fun h => by simp at h, ?_⟩
    have h4 : RoundIn (FW ro) (n - 1) P l fn tmps asg body w (fun e w' => ∃ v, e = .returned v ∧ Φ v w') := h2 (n - 1)
    refine h4.mono ?_
    rintro e w' ⟨v, rfl, hp⟩
    exact hK v w' hp
theorem aop_nodefer {ρ' : Operand → AV} {o : Oper} {r : AV × AH} (h0 : aop P call ρ' o h = some r) : ∀ c, o.op ≠ .defer c := by
  intro c hc
  unfold aop cls apure at h0
  simp [hc] at h0
/-- One operation. -/
theorem aop_run (hc : CallOK P call) (H : HR B f h w) {ρ : Operand → Value} {ρ' : Operand → AV} (hρ : ∀ x, VR f (ρ x) (ρ' x)) {o : Oper} {r : AV} {h' : AH} (h0 : aop P call ρ' o h = some (r, h')) :
    OpRuns P ρ o w (HPost B f w h' r) := by
  unfold aop at h0
  split at h0
  · cases hp : apure P ρ' o with
    | none => simp [hp] at h0
    | some v =>
      simp [hp] at h0
      obtain ⟨rfl, rfl⟩ := h0
      obtain ⟨v', h1, h2⟩ := apure_sound hρ hp
      exact .inl ⟨v', w, .inl (h2 w), f, Ext.refl f, H, Kept.refl B w, h1⟩
  · cases hp : aload P ρ' o h with
    | none => simp [hp] at h0
    | some v =>
      simp [hp] at h0
      obtain ⟨rfl, rfl⟩ := h0
      obtain ⟨v', h1, h2⟩ := aload_sound H hρ hp
      exact .inl ⟨v', w, .inl h2, f, Ext.refl f, H, Kept.refl B w, h1⟩
  · by_cases hn : notCall o
    · exact .inl (aheap_sound H hρ hn h0)
    · obtain ⟨dst, op, type, pos, after, guard⟩ := o
      have hn' : ∃ g as ts, op = .call { callee := .value g, args := as, argTypes := ts } := by
        apply Classical.byContradiction
        intro hx
        exact hn fun g as ts e => hx ⟨g, as, ts, e⟩
      obtain ⟨g, as, ts, rfl⟩ := hn'
      simp only [aheap] at h0
      split at h0
      · rename_i k first captured hg
        have hv := hρ g
        rw [hg] at hv
        obtain ⟨c1, c2, e, h1, h2⟩ := hv.fn_inv
        have hall : VRs f (c1 ++ as.map ρ ++ c2).toList (first ++ as.toList.map ρ' ++ captured) := by
          simp only [Array.toList_append, Array.toList_map]
          exact (h1.append (VRs.map hρ _)).append h2
        have hrun : (execOp ρ ⟨dst, .call { callee := .value g, args := as, argTypes := ts }, type, pos, after, guard⟩).run P w = (callFunc k (c1 ++ as.map ρ ++ c2)).run P w := by
          simp [execOp, resolve, e, Deferred.ofValue, invoke]
        rcases hc.fn _ _ _ _ _ h0 B f w _ H hall with ⟨v, w', q1, q2⟩ | ⟨q1, q2⟩
        · exact .inl ⟨v, w', .inl (hrun.trans q1), q2⟩
        · exact .inr (.inl ⟨_, _, hrun.trans q1, q2⟩)
      · rename_i id hg
        have hv := hρ g
        rw [hg] at hv
        obtain ⟨rg, hf, e⟩ := hv.yld_inv
        have hall : VRs f (as.map ρ).toList (as.toList.map ρ') := by
          simp only [Array.toList_map]
          exact VRs.map hρ _
        have hrun : (execOp ρ ⟨dst, .call { callee := .value g, args := as, argTypes := ts }, type, pos, after, guard⟩).run P w = (Instr.yield rg.blk (as.map ρ)).run P w := by
          simp [execOp, resolve, e, Deferred.ofValue, invoke]
        obtain ⟨fn, tmps, asg, body, q1, q2⟩ := hc.yl _ _ _ _ _ h0 B f w _ rg H hall hf
        exact .inr (.inr ⟨_, _, _, _, _, hrun.trans q1, q2⟩)
      · simp at h0
theorem aop_sound (hc : CallOK P call) (H : HR B f h w) (hρ : ∀ x, VR f (a.eval x) (aev fr x)) {o : Oper} {r : AV} {h' : AH} (h0 : aop P call (aev fr) o h = some (r, h'))
    {K : Act → World → Prop} {Q : Exit → Act → World → Prop} (hK : ∀ v w', HPost B f w h' r v w' → K (a.put o.dst v) w') : o.wpIn (FW ro) n P a w K Q :=
  (aop_run hc H hρ h0).wp rfl (aop_nodefer h0) hK

theorem astep_sound (hc : CallOK P call) (S : SR B D f fr h a w) {i : Nat} {fr' : List AV} {h' : AH} (h0 : astep P call ops i fr h = some (fr', h')) {K : Act → World → Prop} {Q : Exit → Act → World → Prop}
    (hK : ∀ f' a' w', Ext f f' → SR B D f' fr' h' a' w' → Kept B w w' → K a' w') : wpOpIn (FW ro) n P ops Q i K a w := by
  unfold astep at h0
  unfold wpOpIn
  split at h0
  · simp at h0
  · rename_i o ho
    simp only [ho]
    split at h0
    · simp at h0
    · rename_i hw
      injection h0 with h0
      injection h0 with e1 e2
      subst e1 e2
      rw [S.fr.wanted hw]
      exact ⟨fun _ _ => trivial, hK f _ w (Ext.refl f) ⟨S.fr.put o.dst (.tup _ _ (by exact .nil)), S.hr, by rw [Act.put_tmps_defers]; exact S.dm⟩ (Kept.refl B w)⟩
    · rename_i hw
      rw [S.fr.wanted hw]
      cases hp : aop P call (aev fr) o h with
      | none => simp [hp] at h0
      | some r =>
        obtain ⟨r, h2⟩ := r
        simp [hp] at h0
        obtain ⟨rfl, rfl⟩ := h0
        refine aop_sound hc S.hr S.fr.ev hp fun v w' ⟨f', g1, g2, g3, g4⟩ => ?_
        exact hK f' _ w' g1 ⟨(S.fr.mono g1).put o.dst g4, g2, by rw [Act.put_tmps_defers]; exact S.dm.kept g3⟩ g3

theorem aops_sound (hc : CallOK P call) {Q : Exit → Act → World → Prop} : ∀ (l : List Nat) {f : Inj} {fr : List AV} {h : AH} {a : Act} {w : World}, SR B D f fr h a w → ∀ {fr' : List AV} {h' : AH}, aops P call ops l fr h = some (fr', h') →
    (∀ f' a' w', Ext f f' → SR B D f' fr' h' a' w' → Kept B w w' → Q .normal a' w') → wpOpsIn (FW ro) n P ops Q l a w
  | [], f, fr, h, a, w, S, fr', h', h0, hQ => by
    simp only [aops, Option.some.injEq, Prod.mk.injEq] at h0
    obtain ⟨rfl, rfl⟩ := h0
    exact hQ f a w (Ext.refl f) S (Kept.refl B w)
  | i :: l, f, fr, h, a, w, S, fr', h', h0, hQ => by
    unfold aops at h0
    split at h0
    · simp at h0
    · rename_i fr1 h1 hs
      rw [wpOpsIn_cons]
      refine astep_sound hc S hs fun f1 a1 w1 e1 S1 b1 => ?_
      exact aops_sound hc l S1 h0 fun f2 a2 w2 e2 S2 b2 => hQ f2 a2 w2 (e1.trans e2) S2 (b1.trans b2)
end
end Go.Proofs.Ytgnacecplaemlaa.AI
/-
  An abstract interpreter for the model's code, part 15: a region that draws its order: walked once in the text's order, with checks that make every order come to the same.
-/
namespace Go.Proofs.Ytgnacecplaemlaa.AI
open Go.RowKit

/-! ### When two abstract values are surely one -/
mutual
def AV.beq : AV → AV → Bool
  | .bool a, .bool b => a == b
  | .int k a, .int k' b => decide (k = k') && a == b
  | .str a, .str b => natsEq a b
  | .nilp, .nilp => true
  | .ptr a b, .ptr c d => Nat.beq a c && Nat.beq b d
  | .nilSl, .nilSl => true
  | .sl a b c d e, .sl a' b' c' d' e' => Nat.beq a a' && Nat.beq b b' && Nat.beq c c' && Nat.beq d d' && decide (e = e')
  | .nilMap, .nilMap => true
  | .fn g a b, .fn g' a' b' => decide (g = g') && AV.beqs a a' && AV.beqs b b'
  | .nilFn, .nilFn => true
  | .iface t v, .iface t' v' => Nat.beq t t' && AV.beq v v'
  | .nilIface, .nilIface => true
  | .agg a, .agg b => AV.beqs a b
  | .tup a, .tup b => AV.beqs a b
  | .top, .top => true
  | _, _ => false
def AV.beqs : List AV → List AV → Bool
  | [], [] => true
  | a :: x, b :: y => AV.beq a b && AV.beqs x y
  | _, _ => false
end
theorem natsEq_sound : ∀ {x y : List Nat}, natsEq x y = true → x = y
  | [], [], _ => rfl
  | [], _ :: _, h => by simp [natsEq] at h
  | _ :: _, [], h => by simp [natsEq] at h
  | a :: x, b :: y, h => by
    simp only [natsEq, Bool.and_eq_true] at h
    rw [Nat.beq_eq.mp h.1, natsEq_sound h.2]
mutual
theorem AV.beq_sound : ∀ {a b : AV}, AV.beq a b = true → a = b := by
  intro a b h
  cases a <;> cases b <;> simp only [AV.beq, Bool.and_eq_true, decide_eq_true_eq, beq_iff_eq, Nat.beq_eq, Bool.false_eq_true] at h
  case bool.bool => rw [h]
  case int.int => rw [h.1, h.2]
  case str.str => rw [natsEq_sound h]
  case nilp.nilp => rfl
  case ptr.ptr => rw [h.1, h.2]
  case nilSl.nilSl => rfl
  case sl.sl => obtain ⟨⟨⟨⟨rfl, rfl⟩, rfl⟩, rfl⟩, rfl⟩ := h; rfl
  case nilMap.nilMap => rfl
  case fn.fn => rw [h.1.1, AV.beqs_sound h.1.2, AV.beqs_sound h.2]
  case nilFn.nilFn => rfl
  case iface.iface => rw [h.1, AV.beq_sound h.2]
  case nilIface.nilIface => rfl
  case agg.agg => rw [AV.beqs_sound h]
  case tup.tup => rw [AV.beqs_sound h]
  case top.top => rfl
theorem AV.beqs_sound : ∀ {a b : List AV}, AV.beqs a b = true → a = b := by
  intro a b h
  cases a with
  | nil => cases b with
    | nil => rfl
    | cons y b => simp [AV.beqs] at h
  | cons x a => cases b with
    | nil => simp [AV.beqs] at h
    | cons y b =>
      simp only [AV.beqs, Bool.and_eq_true] at h
      rw [AV.beq_sound h.1, AV.beqs_sound h.2]
end

/-! ### The static part -/
def direct (o : Oper) : List Nat := o.after.toList.filterMap fun e => if Region.binds .any e then some e.on else none
/-- The set of the operations that are listed, and of those that these wait for. -/
def maskOf (T : List Nat) : List Nat → Nat
  | [] => 0
  | k :: l => (2 ^ k ||| T.getD k 0) ||| maskOf T l
def befs : List Oper → List Nat → List Nat
  | [], acc => acc
  | o :: l, acc => (fun m => befs l (acc ++ [m])) (maskOf acc (direct o))
def bef (T : List Nat) (j i : Nat) : Bool := (T.getD i 0).testBit j
theorem maskOf_bit (T : List Nat) (j : Nat) : ∀ l, (maskOf T l).testBit j = true ↔ j ∈ l ∨ ∃ k ∈ l, bef T j k = true
  | [] => by simp [maskOf]
  | k :: l => by
    simp only [maskOf, Nat.testBit_or, Bool.or_eq_true, Nat.testBit_two_pow, decide_eq_true_eq, maskOf_bit T j l, List.mem_cons, bef]
    constructor
    · rintro ((rfl | h) | h | ⟨x, hx, h⟩)
      · exact .inl (.inl rfl)
      · exact .inr ⟨k, .inl rfl, h⟩
      · exact .inl (.inr h)
      · exact .inr ⟨x, .inr hx, h⟩
    · rintro ((rfl | h) | ⟨x, rfl | hx, h⟩)
      · exact .inl (.inl rfl)
      · exact .inr (.inl h)
      · exact .inl (.inr h)
      · exact .inr (.inr ⟨x, hx, h⟩)
def tableOK (T : List Nat) (ops : Array Oper) : Bool :=
  (List.range ops.size).all fun i => match ops[i]? with
    | none => false
    | some o => (direct o).all (fun k => Nat.blt k i) && Nat.beq (T.getD i 0) (maskOf T (direct o))
def dstOf (ops : Array Oper) (i : Nat) : Option Tmp := (ops[i]?).bind (·.dst)
def heapOp (P : Program) (ops : Array Oper) (i : Nat) : Bool :=
  match ops[i]? with
  | some o => decide (cls P o = .heap)
  | none => false
def slotsOK (T : List Nat) (ops : Array Oper) : Bool :=
  (List.range ops.size).all fun i => match ops[i]? with
    | none => false
    | some o => (List.range ops.size).all fun j => decide (j = i) || match dstOf ops j with
      | none => true
      | some d => decide (o.dst ≠ some d) && (bef T j i || bef T i j || !(o.looksAt ops).contains d)
def chainOK (P : Program) (T : List Nat) (ops : Array Oper) : Bool :=
  (List.range ops.size).all fun i => !heapOp P ops i || (List.range i).all fun j => !heapOp P ops j || bef T j i
def drawOK (P : Program) (T : List Nat) (ops : Array Oper) : Bool :=
  tableOK T ops && slotsOK T ops && chainOK P T ops && Region.noSelect ops

/-! ### The walk -/
noncomputable def alog (P : Program) (call : ACall) (ops : Array Oper) : List Nat → List AV → AH → Option (List (List AV × AH))
  | [], fr, h => some [(fr, h)]
  | i :: rest, fr, h =>
    match astep P call ops i fr h with
    | none => none
    | some (fr', h') =>
      match alog P call ops rest fr' h' with
      | none => none
      | some l => some ((fr, h) :: l)
def sameLoad : Option AV → Option AV → Bool
  | some a, some b => a.beq b
  | _, _ => false
noncomputable def loadOK (P : Program) (T : List Nat) (ops : Array Oper) (log : List (List AV × AH)) (i : Nat) : Bool :=
  match ops[i]?, log[i]? with
  | some o, some (fr, h) =>
    if cls P o = .load then
      match awanted ops fr o with
      | some true => (List.range ops.size).all fun j => !heapOp P ops j || bef T j i || bef T i j || match log[j]?, log[j + 1]? with
        | some (_, hj), some (_, hj1) => sameLoad (aload P (aev fr) o hj) (aload P (aev fr) o h) && sameLoad (aload P (aev fr) o hj1) (aload P (aev fr) o h)
        | _, _ => false
      | _ => true
    else true
  | _, _ => false
/-! ### What the checks say -/
section
variable {P : Program} {T : List Nat} {ops : Array Oper}
theorem all_range {n : Nat} {p : Nat → Bool} (h : (List.range n).all p = true) {i : Nat} (hi : i < n) : p i = true := by
  rw [List.all_eq_true] at h; exact h i (List.mem_range.mpr hi)
theorem table_direct (h : tableOK T ops = true) {i : Nat} {o : Oper} (ho : ops[i]? = some o) : (∀ k ∈ direct o, k < i) ∧ (∀ k ∈ direct o, bef T k i = true) ∧ ∀ j, bef T j i = true → j ∈ direct o ∨ ∃ k ∈ direct o, bef T j k = true := by
  have hi : i < ops.size := (Array.getElem?_eq_some_iff.1 ho).1
  have h1 := all_range h hi
  simp only [ho, Bool.and_eq_true, List.all_eq_true, Nat.blt_eq] at h1
  have h2 := Nat.eq_of_beq_eq_true h1.2
  refine ⟨h1.1, fun k hk => ?_, fun j hj => ?_⟩
  · unfold bef; rw [h2, maskOf_bit]; exact .inl hk
  · unfold bef at hj; rw [h2, maskOf_bit] at hj; exact hj
theorem bef_lt (h : tableOK T ops = true) : ∀ (i : Nat), i < ops.size → ∀ j, bef T j i = true → j < i := by
  intro i
  induction i using Nat.strongRecOn with
  | _ i ih =>
    intro hi j hj
    have ho : ops[i]? = some ops[i] := by simp [hi]
    obtain ⟨h1, h2, h3⟩ := table_direct h ho
    rcases h3 j hj with hd | ⟨k, hk, hjk⟩
    · exact h1 j hd
    · have := h1 k hk
      have := ih k this (by omega) j hjk
      omega
theorem slot_apart (h : slotsOK T ops = true) {i j : Nat} (hi : i < ops.size) (hj : j < ops.size) (hne : j ≠ i) {d : Tmp} (hd : dstOf ops j = some d) {o : Oper} (ho : ops[i]? = some o) :
    o.dst ≠ some d ∧ (d ∈ o.looksAt ops → bef T j i = true ∨ bef T i j = true) := by
  have h1 := all_range h hi
  simp only [ho] at h1
  have h2 := all_range h1 hj
  simp only [hd, Bool.or_eq_true, decide_eq_true_eq, Bool.and_eq_true] at h2
  rcases h2 with h2 | h2
  · exact absurd h2 hne
  · refine ⟨h2.1, fun hl => ?_⟩
    rcases h2.2 with (h3 | h3) | h3
    · exact .inl h3
    · exact .inr h3
    · simp at h3; exact absurd hl h3
theorem chain_bef (h : chainOK P T ops = true) {i j : Nat} (hi : i < ops.size) (hji : j < i) (hhi : heapOp P ops i = true) (hhj : heapOp P ops j = true) : bef T j i = true := by
  have h1 := all_range h hi
  simp only [hhi, Bool.not_true, Bool.false_or] at h1
  have h2 := all_range h1 hji
  simpa [hhj] using h2
end

/-! ### The walk's states -/
section
variable {P : Program} {call : ACall} {ops : Array Oper}
theorem alog_spec : ∀ (l : List Nat) (fr : List AV) (h : AH) (log : List (List AV × AH)), alog P call ops l fr h = some log →
    log[0]? = some (fr, h) ∧ log.length = l.length + 1 ∧ ∀ k i, l[k]? = some i → ∃ s s', log[k]? = some s ∧ log[k + 1]? = some s' ∧ astep P call ops i s.1 s.2 = some s'
  | [], fr, h, log, h0 => by simp only [alog, Option.some.injEq] at h0; subst h0; simp
  | i :: l, fr, h, log, h0 => by
    unfold alog at h0
    split at h0
    · simp at h0
    · rename_i fr' h' hs
      split at h0
      · simp at h0
      · rename_i log' hl
        injection h0 with h0
        subst h0
        obtain ⟨h1, h2, h3⟩ := alog_spec l fr' h' log' hl
        refine ⟨rfl, by simp [h2], fun k j hk => ?_⟩
        cases k with
        | zero =>
          simp at hk
          subst hk
          exact ⟨(fr, h), (fr', h'), rfl, by simpa using h1, hs⟩
        | succ k =>
          obtain ⟨s, s', q1, q2, q3⟩ := h3 k j (by simpa using hk)
          exact ⟨s, s', by simpa using q1, by simpa using q2, q3⟩

/-- What one step did. -/
def Did (P : Program) (call : ACall) (ops : Array Oper) (i : Nat) (s s' : List AV × AH) (v : AV) : Prop :=
  ∃ o, ops[i]? = some o ∧ s'.1 = aput s.1 o.dst v ∧
    ((awanted ops s.1 o = some false ∧ v = .tup [] ∧ s'.2 = s.2) ∨ (awanted ops s.1 o = some true ∧ aop P call (aev s.1) o s.2 = some (v, s'.2)))
theorem astep_did {i : Nat} {s s' : List AV × AH} (h0 : astep P call ops i s.1 s.2 = some s') : ∃ v, Did P call ops i s s' v := by
  unfold astep at h0
  split at h0
  · simp at h0
  · rename_i o ho
    split at h0
    · simp at h0
    · rename_i hw
      injection h0 with h0
      subst h0
      exact ⟨.tup [], o, ho, rfl, .inl ⟨hw, rfl, rfl⟩⟩
    · rename_i hw
      cases hp : aop P call (aev s.1) o s.2 with
      | none => simp [hp] at h0
      | some r =>
        simp [hp] at h0
        subst h0
        exact ⟨r.1, o, ho, rfl, .inr ⟨hw, by rw [hp]⟩⟩

/-- The states of the walk in the text's order, and what each operation left. -/
structure Walk (P : Program) (call : ACall) (ops : Array Oper) (st : Nat → List AV × AH) (val : Nat → AV) : Prop where
  did : ∀ i, i < ops.size → Did P call ops i (st i) (st (i + 1)) (val i)

theorem walk_of_log {fr : List AV} {h : AH} {log : List (List AV × AH)} (h0 : alog P call ops (List.range ops.size) fr h = some log) :
    ∃ st val, Walk P call ops st val ∧ st 0 = (fr, h) ∧ ∀ k, k ≤ ops.size → log[k]? = some (st k) := by
  obtain ⟨h1, h2, h3⟩ := alog_spec _ _ _ _ h0
  simp only [List.length_range] at h2
  have hk : ∀ k, k ≤ ops.size → log[k]? = some (log.getD k (fr, h)) := fun k hk => by
    rw [List.getD_eq_getElem?_getD, List.getElem?_eq_getElem (by omega)]; rfl
  have hd : ∀ i, ∃ v, i < ops.size → Did P call ops i (log.getD i (fr, h)) (log.getD (i + 1) (fr, h)) v := fun i => by
    by_cases hi : i < ops.size
    · obtain ⟨s, s', q1, q2, q3⟩ := h3 i i (by simp [hi])
      rw [hk i (by omega)] at q1
      rw [hk (i + 1) (by omega)] at q2
      injection q1 with q1
      injection q2 with q2
      subst q1 q2
      obtain ⟨v, hv⟩ := astep_did q3
      exact ⟨v, fun _ => hv⟩
    · exact ⟨.top, fun h => absurd h hi⟩
  obtain ⟨val, hval⟩ := Classical.axiomOfChoice hd
  refine ⟨fun k => log.getD k (fr, h), val, ⟨hval⟩, ?_, hk⟩
  have := hk 0 (Nat.zero_le _)
  rw [h1] at this
  injection this with this
  exact this.symm

variable {st : Nat → List AV × AH} {val : Nat → AV} {T : List Nat}
theorem Walk.length (W : Walk P call ops st val) : ∀ i, i ≤ ops.size → (st i).1.length = (st 0).1.length
  | 0, _ => rfl
  | i + 1, hi => by
    obtain ⟨o, ho, e, _⟩ := W.did i (by omega)
    rw [e]
    cases hd : o.dst <;> simp [aput, W.length i (by omega)]
theorem Walk.slot_old (W : Walk P call ops st val) {t : Nat} : ∀ i, i ≤ ops.size → (∀ j, j < i → dstOf ops j ≠ some t) → (st i).1[t]? = (st 0).1[t]?
  | 0, _, _ => rfl
  | i + 1, hi, hn => by
    obtain ⟨o, ho, e, _⟩ := W.did i (by omega)
    rw [e, ← W.slot_old i (by omega) (fun j hj => hn j (by omega))]
    have := hn i (Nat.lt_succ_self i)
    simp only [dstOf, ho, Option.bind_some] at this
    cases hd : o.dst with
    | none => rfl
    | some d => simp only [aput]; rw [List.getElem?_set_ne]; rintro rfl; exact this hd
theorem Walk.slot_new (W : Walk P call ops st val) (hs : slotsOK T ops = true) {t j : Nat} (hj : j < ops.size) (hd : dstOf ops j = some t) (ht : t < (st 0).1.length) : ∀ i, i ≤ ops.size → j < i → (st i).1[t]? = some (val j)
  | 0, _, h => by omega
  | i + 1, hi, hji => by
    obtain ⟨o, ho, e, _⟩ := W.did i (by omega)
    by_cases hij : j = i
    · subst hij
      simp only [dstOf, ho, Option.bind_some] at hd
      rw [e, hd]
      simp only [aput]
      rw [List.getElem?_set_self (by rw [W.length j (by omega)]; exact ht)]
    · rw [e, ← W.slot_new hs hj hd ht i (by omega) (by omega)]
      have := (slot_apart hs (by omega : i < ops.size) hj hij hd ho).1
      cases hd2 : o.dst with
      | none => rfl
      | some d => simp only [aput]; rw [List.getElem?_set_ne]; rintro rfl; exact this hd2
theorem cls_keeps {o : Oper} {ρ' : Operand → AV} {h h' : AH} {v : AV} (hc : cls P o ≠ .heap) (h0 : aop P call ρ' o h = some (v, h')) : h' = h := by
  unfold aop at h0
  split at h0
  · cases hp : apure P ρ' o <;> simp [hp] at h0; exact h0.2.symm
  · cases hp : aload P ρ' o h <;> simp [hp] at h0; exact h0.2.symm
  · rename_i hh; exact absurd hh hc
theorem Walk.heap_same (W : Walk P call ops st val) {p : Nat} : ∀ q, p ≤ q → q ≤ ops.size → (∀ j, p ≤ j → j < q → heapOp P ops j = false) → (st q).2 = (st p).2 := by
  intro q hpq hq hn
  induction q with
  | zero => rw [show p = 0 by omega]
  | succ q ih =>
    by_cases hp : p = q + 1
    · rw [hp]
    · obtain ⟨o, ho, _, hd⟩ := W.did q (by omega)
      have h1 := hn q (by omega) (Nat.lt_succ_self q)
      simp only [heapOp, ho, decide_eq_false_iff_not] at h1
      have h2 : (st (q + 1)).2 = (st q).2 := by
        rcases hd with ⟨_, _, e⟩ | ⟨_, e⟩
        · exact e
        · exact cls_keeps h1 e
      rw [h2]
      exact ih (by omega) (by omega) (fun j h1 h2 => hn j h1 (by omega))
end
end Go.Proofs.Ytgnacecplaemlaa.AI
/-
  An abstract interpreter for the model's code, part 16: a region that draws its order comes, in every order, to what the walk in the text's order comes to.
-/
namespace Go.Proofs.Ytgnacecplaemlaa.AI
open Go.RowKit

section
variable {P : Program} {call : ACall} {f : Inj} {h : AH}

/-! ### An operation looks at its operands alone -/
theorem map_congr' {α β : Type} {g g' : α → β} : ∀ (l : List α), (∀ x ∈ l, g x = g' x) → l.map g = l.map g'
  | [], _ => rfl
  | x :: l, h => by rw [List.map_cons, List.map_cons, h x (by simp), map_congr' l (fun y hy => h y (by simp [hy]))]
theorem aop_congr {ρ ρ' : Operand → AV} {o : Oper} (he : ∀ x ∈ o.op.operands, ρ x = ρ' x) : aop P call ρ o h = aop P call ρ' o h := by
  obtain ⟨dst, op, type, pos, after, guard⟩ := o
  have key : apure P ρ ⟨dst, op, type, pos, after, guard⟩ = apure P ρ' ⟨dst, op, type, pos, after, guard⟩ ∧
      aload P ρ ⟨dst, op, type, pos, after, guard⟩ h = aload P ρ' ⟨dst, op, type, pos, after, guard⟩ h ∧
      aheap P call ρ ⟨dst, op, type, pos, after, guard⟩ h = aheap P call ρ' ⟨dst, op, type, pos, after, guard⟩ h := by
    cases op <;> simp only [Op.operands] at he <;> try (refine ⟨?_, ?_, ?_⟩ <;> (simp_all [apure, aload, aheap]; done))
    case makeFunc fn fs cs =>
      refine ⟨?_, rfl, rfl⟩
      simp only [apure]
      cases fn <;> simp_all
    case build t ps =>
      have e : ps.toList.map (fun p => (p.1, ρ p.2)) = ps.toList.map (fun p => (p.1, ρ' p.2)) := map_congr' _ fun x hx => by rw [he x.2 (by simp; exact ⟨x.1, by simpa using hx⟩)]
      exact ⟨by simp only [apure, e], rfl, rfl⟩
    case buildSlice t n ps =>
      have e : ps.toList.map (fun p => (p.1, ρ p.2)) = ps.toList.map (fun p => (p.1, ρ' p.2)) := map_congr' _ fun x hx => by rw [he x.2 (by simp; exact ⟨x.1, by simpa using hx⟩)]
      exact ⟨rfl, rfl, by simp only [aheap, e]⟩
    case slice t x lo hi mx =>
      refine ⟨?_, rfl, rfl⟩
      simp only [apure]
      cases lo <;> cases hi <;> cases mx <;> simp_all
    case call c =>
      obtain ⟨callee, args, ts⟩ := c
      have e1 : ∀ x ∈ args, ρ x = ρ' x := fun x hx => he x (by cases callee <;> simp [Call.operands, hx])
      have e2 : args.toList.map ρ = args.toList.map ρ' := map_congr' _ fun x hx => e1 x (by simpa using hx)
      have e3 : ∀ (i : Nat) (x : Operand), args[i]? = some x → ρ x = ρ' x := fun i x hx => e1 x (Array.mem_of_getElem? hx)
      cases callee with
      | value g =>
        have e4 : ρ g = ρ' g := he g (by simp [Call.operands])
        exact ⟨rfl, rfl, by simp only [aheap, e2, e4]⟩
      | invoke r m => exact ⟨rfl, rfl, rfl⟩
      | builtin b =>
        have e5 : ∀ (i : Nat), (args[i]?).map ρ = (args[i]?).map ρ' := fun i => by
          cases hx : args[i]? with
          | none => rfl
          | some x => simp [e3 i x hx]
        cases b <;> try exact ⟨rfl, rfl, rfl⟩
        case len =>
          refine ⟨?_, rfl, rfl⟩
          simp only [apure]
          cases h0 : ts[0]? <;> cases h1 : args[0]? <;> simp_all
          rw [e3 0 _ h1]
        case cap =>
          refine ⟨?_, rfl, rfl⟩
          simp only [apure]
          cases h0 : ts[0]? <;> cases h1 : args[0]? <;> simp_all
          rw [e3 0 _ h1]
        case min => exact ⟨by simp only [apure, e2], rfl, rfl⟩
        case max => exact ⟨by simp only [apure, e2], rfl, rfl⟩
        case append =>
          refine ⟨rfl, rfl, ?_⟩
          simp only [aheap]
          cases h0 : ts[0]? <;> cases h1 : ts[1]? <;> cases h2 : args[0]? <;> cases h3 : args[1]? <;> simp_all
          rw [e3 0 _ h2, e3 1 _ h3]
        case copy =>
          refine ⟨rfl, rfl, ?_⟩
          simp only [aheap]
          cases h0 : ts[0]? <;> cases h2 : args[0]? <;> cases h3 : args[1]? <;> simp_all
          rw [e3 0 _ h2, e3 1 _ h3]
  unfold aop
  have hcl : ∀ {ρ : Operand → AV}, cls P ⟨dst, op, type, pos, after, guard⟩ = cls P ⟨dst, op, type, pos, after, guard⟩ := rfl
  split <;> simp only [key.1, key.2.1, key.2.2]

/-- An operation run in a frame that fits at its operands alone. -/
theorem aop_at {B : Nat} {w : World} {a : Act} {fr : List AV} (hc : CallOK P call) (H : HR B f h w) {ops : Array Oper} {o : Oper} (hsel : ∀ cs b, o.op ≠ .select cs b)
    (hv : ∀ t ∈ o.looksAt ops, VR f (a.tmps.getD t undef) (fr.getD t .top)) {r : AV} {h' : AH} (h0 : aop P call (aev fr) o h = some (r, h'))
    {ro : Option Nat} {n : Nat} {K : Act → World → Prop} {Q : Exit → Act → World → Prop} (hK : ∀ v w', HPost B f w h' r v w' → K (a.put o.dst v) w') : o.wpIn (FW ro) n P a w K Q := by
  classical
  let ρ : Operand → Value := fun x => if x ∈ o.op.operands then a.eval x else undef
  let ρ' : Operand → AV := fun x => if x ∈ o.op.operands then aev fr x else .top
  have hρ : ∀ x, VR f (ρ x) (ρ' x) := fun x => by
    show VR f (if x ∈ o.op.operands then a.eval x else undef) (if x ∈ o.op.operands then aev fr x else .top)
    by_cases hx : x ∈ o.op.operands
    · rw [if_pos hx, if_pos hx]
      cases x with
      | tmp t => exact hv t (by unfold Oper.looksAt; exact List.mem_append_left _ (List.mem_filterMap.2 ⟨.tmp t, by simpa using hx, rfl⟩))
      | const v => exact VR.ofConst f v
      | global g => exact .top _
      | func g => exact .fn _ _ _ _ _ .nil .nil
    · rw [if_neg hx, if_neg hx]; exact .top _
  have e1 : aop P call ρ' o h = some (r, h') := by
    rw [← h0]
    exact aop_congr fun x hx => if_pos hx
  have e2 : execOp a.eval o = execOp ρ o := execOp_congr o hsel fun x hx => (if_pos hx).symm
  exact (aop_run hc H hρ e1).wp e2 (aop_nodefer h0) hK

/-- The same, of what an operation's run comes to. -/
theorem opRuns_at {w : World} {a : Act} {fr : List AV} {ops : Array Oper} {o : Oper} (hsel : ∀ cs b, o.op ≠ .select cs b) (hv : ∀ t ∈ o.looksAt ops, VR f (a.tmps.getD t undef) (fr.getD t .top)) {Φ : Value → World → Prop}
    (hr : ∀ (ρ : Operand → Value) (ρ' : Operand → AV), (∀ x ∈ o.op.operands, ρ' x = aev fr x) → (∀ x, VR f (ρ x) (ρ' x)) → OpRuns P ρ o w Φ) :
    ∃ ρ, execOp a.eval o = execOp ρ o ∧ OpRuns P ρ o w Φ := by
  classical
  let ρ : Operand → Value := fun x => if x ∈ o.op.operands then a.eval x else undef
  let ρ' : Operand → AV := fun x => if x ∈ o.op.operands then aev fr x else .top
  have hρ : ∀ x, VR f (ρ x) (ρ' x) := fun x => by
    show VR f (if x ∈ o.op.operands then a.eval x else undef) (if x ∈ o.op.operands then aev fr x else .top)
    by_cases hx : x ∈ o.op.operands
    · rw [if_pos hx, if_pos hx]
      cases x with
      | tmp t => exact hv t (by unfold Oper.looksAt; exact List.mem_append_left _ (List.mem_filterMap.2 ⟨.tmp t, by simpa using hx, rfl⟩))
      | const v => exact VR.ofConst f v
      | global g => exact .top _
      | func g => exact .fn _ _ _ _ _ .nil .nil
    · rw [if_neg hx, if_neg hx]; exact .top _
  exact ⟨ρ, execOp_congr o hsel fun x hx => (if_pos hx).symm, hr ρ ρ' (fun x hx => if_pos hx) hρ⟩
theorem OpRuns.mono {w : World} {o : Oper} {ρ : Operand → Value} {Φ Ψ : Value → World → Prop} (h : OpRuns P ρ o w Φ) (hm : ∀ v w', Φ v w' → Ψ v w') : OpRuns P ρ o w Ψ := by
  rcases h with ⟨v, w', h1, h2⟩ | ⟨g, vs, h1, h2⟩ | ⟨l, fn, tmps, asg, body, h1, h2⟩
  · exact .inl ⟨v, w', h1, hm _ _ h2⟩
  · exact .inr (.inl ⟨g, vs, h1, h2.mono fun e w' ⟨v, he, hp⟩ => ⟨v, he, hm _ _ hp⟩⟩)
  · exact .inr (.inr ⟨l, fn, tmps, asg, body, h1, fun n => (h2 n).mono fun e w' ⟨v, he, hp⟩ => ⟨v, he, hm _ _ hp⟩⟩)

/-- An operation that does not turn memory. -/
theorem aop_still {B : Nat} {w : World} (H : HR B f h w) {o : Oper} (hcl : cls P o ≠ .heap) {ρ : Operand → Value} {ρ' : Operand → AV} (hρ : ∀ x, VR f (ρ x) (ρ' x)) {r : AV} {h' : AH} (h0 : aop P call ρ' o h = some (r, h')) :
    OpRuns P ρ o w (fun v w' => w' = w ∧ VR f v r) := by
  unfold aop at h0
  split at h0
  · cases hp : apure P ρ' o with
    | none => simp [hp] at h0
    | some v =>
      simp [hp] at h0
      obtain ⟨rfl, rfl⟩ := h0
      obtain ⟨v', h1, h2⟩ := apure_sound hρ hp
      exact .inl ⟨v', w, .inl (h2 w), rfl, h1⟩
  · cases hp : aload P ρ' o h with
    | none => simp [hp] at h0
    | some v =>
      simp [hp] at h0
      obtain ⟨rfl, rfl⟩ := h0
      obtain ⟨v', h1, h2⟩ := aload_sound H hρ hp
      exact .inl ⟨v', w, .inl h2, rfl, h1⟩
  · rename_i hx
    exact absurd hx hcl

/-! ### Every order -/
variable {ops : Array Oper} {T : List Nat} {st : Nat → List AV × AH} {val : Nat → AV}

/-- Which of the operations that turn memory are over. -/
def hsOf (P : Program) (ops : Array Oper) (listed : Array Bool) : Nat → Bool := fun j => heapOp P ops j && listed.getD j false
def ins (S : Nat → Bool) (i : Nat) : Nat → Bool := fun j => decide (j = i) || S j
/-- Which abstract heaps may stand when just these operations are over, whatever their order was. -/
structure DrawG (P : Program) (ops : Array Oper) (T : List Nat) (st : Nat → List AV × AH) (val : Nat → AV) (G : (Nat → Bool) → Inj → AH → Prop) : Prop where
  start : ∀ f, G (fun _ => false) f (st 0).2
  step : ∀ i o S g f, ops[i]? = some o → heapOp P ops i = true → (∀ j, S j = true → heapOp P ops j = true ∧ j < ops.size) → S i = false → (∀ j, j < ops.size → heapOp P ops j = true → bef T j i = true → S j = true) → (∀ j, bef T i j = true → S j = false) → G S f g →
    awanted ops (st i).1 o = some true → ∀ B w (ρ : Operand → Value) (ρ' : Operand → AV), HR B f g w → (∀ x ∈ o.op.operands, ρ' x = aev (st i).1 x) → (∀ x, VR f (ρ x) (ρ' x)) →
    OpRuns P ρ o w (fun v w' => ∃ f' g', Ext f f' ∧ G (ins S i) f' g' ∧ HR B f' g' w' ∧ Kept B w w' ∧ VR f' v (val i))
  skip : ∀ i o S g f, ops[i]? = some o → heapOp P ops i = true → (∀ j, S j = true → heapOp P ops j = true ∧ j < ops.size) → S i = false → (∀ j, j < ops.size → heapOp P ops j = true → bef T j i = true → S j = true) → (∀ j, bef T i j = true → S j = false) → G S f g → awanted ops (st i).1 o = some false → G (ins S i) f g
  load : ∀ i o S g f, ops[i]? = some o → cls P o = .load → (∀ j, S j = true → heapOp P ops j = true ∧ j < ops.size) → (∀ j, j < ops.size → heapOp P ops j = true → bef T j i = true → S j = true) → (∀ j, bef T i j = true → S j = false) → G S f g → awanted ops (st i).1 o = some true →
    aload P (aev (st i).1) o g = aload P (aev (st i).1) o (st i).2
  fin : ∀ S g B f w, (∀ j, j < ops.size → heapOp P ops j = true → S j = true) → (∀ j, S j = true → heapOp P ops j = true ∧ j < ops.size) → G S f g → HR B f g w → HR B f (st ops.size).2 w

structure INV (P : Program) (B D : Nat) (ops : Array Oper) (T : List Nat) (st : Nat → List AV × AH) (val : Nat → AV) (G : (Nat → Bool) → Inj → AH → Prop) (fuel : Nat) (listed : Array Bool) (f : Inj) (a : Act) (w : World) : Prop where
  lsz : listed.size = ops.size
  closed : ∀ i j, listed.getD i false = true → bef T j i = true → listed.getD j false = true
  cnt : (List.range ops.size).countP (fun j => !listed.getD j false) ≤ fuel
  hg : ∃ g, G (hsOf P ops listed) f g ∧ HR B f g w
  sz : a.tmps.size = (st 0).1.length
  dm : Marks D a.defers w
  fa : ∀ t, (∀ j, j < ops.size → dstOf ops j = some t → listed.getD j false = false) → ∀ b, (st 0).1[t]? = some b → ∃ v, a.tmps[t]? = some v ∧ VR f v b
  fb : ∀ t j, j < ops.size → dstOf ops j = some t → listed.getD j false = true → t < (st 0).1.length → ∃ v, a.tmps[t]? = some v ∧ VR f v (val j)

theorem getD_true_false {listed : Array Bool} {i n : Nat} (hs : listed.size = n) (hi : i < n) : listed.getD i true = listed.getD i false := by
  simp [show i < listed.size by omega]

theorem INV.slot {B D fuel : Nat} {G : (Nat → Bool) → Inj → AH → Prop} {listed : Array Bool} {a : Act} {w : World} (I : INV P B D ops T st val G fuel listed f a w) (W : Walk P call ops st val) (ht : tableOK T ops = true) (hs : slotsOK T ops = true)
    {i : Nat} {o : Oper} (ho : ops[i]? = some o) (hun : listed.getD i false = false) (hdir : ∀ k ∈ direct o, listed.getD k false = true) {t : Nat} (hl : t ∈ o.looksAt ops) :
    VR f (a.tmps.getD t undef) ((st i).1.getD t .top) := by
  have hi : i < ops.size := (Array.getElem?_eq_some_iff.1 ho).1
  have fin : ∀ b, (st i).1[t]? = some b → (∃ v, a.tmps[t]? = some v ∧ VR f v b) → VR f (a.tmps.getD t undef) ((st i).1.getD t .top) := by
    rintro b hb ⟨v, h1, h2⟩
    rw [List.getD_eq_getElem?_getD, hb, Array.getD_eq_getD_getElem?, h1]
    exact h2
  by_cases htl : t < (st 0).1.length
  · by_cases hw : ∃ j, j < ops.size ∧ j ≠ i ∧ dstOf ops j = some t
    · obtain ⟨j, hj, hne, hd⟩ := hw
      rcases (slot_apart hs hi hj hne hd ho).2 hl with hb | hb
      · have hji := bef_lt ht i hi j hb
        have hlj : listed.getD j false = true := by
          rcases (table_direct ht ho).2.2 j hb with h1 | ⟨k, hk, h1⟩
          · exact hdir j h1
          · exact I.closed k j (hdir k hk) h1
        exact fin _ (W.slot_new hs hj hd htl i (by omega) hji) (I.fb t j hj hd hlj htl)
      · have hij := bef_lt ht j hj i hb
        have hlj : listed.getD j false = false := by
          cases hx : listed.getD j false with
          | false => rfl
          | true => rw [I.closed j i hx hb] at hun; simp at hun
        have huniq : ∀ k, k < ops.size → dstOf ops k = some t → k = j := fun k hk hkd => by
          apply Classical.byContradiction
          intro hkj
          have hoj : ops[j]? = some ops[j] := by simp [hj]
          have := (slot_apart hs hj hk hkj hkd hoj).1
          simp only [dstOf, hoj, Option.bind_some] at hd
          exact this hd
        have hold := W.slot_old (t := t) i (by omega) (fun k hk hkd => by have := huniq k (by omega) hkd; omega)
        have h0 : (st 0).1[t]? = some (st 0).1[t] := by simp [htl]
        exact fin _ (hold.trans h0) (I.fa t (fun k hk hkd => by rw [huniq k hk hkd]; exact hlj) _ h0)
    · have hnone : ∀ j, j < ops.size → dstOf ops j = some t → j = i := fun j hj hd => by
        apply Classical.byContradiction
        intro hne
        exact hw ⟨j, hj, hne, hd⟩
      have hold := W.slot_old (t := t) i (by omega) (fun k hk hkd => by have := hnone k (by omega) hkd; omega)
      have h0 : (st 0).1[t]? = some (st 0).1[t] := by simp [htl]
      exact fin _ (hold.trans h0) (I.fa t (fun k hk hkd => by rw [hnone k hk hkd]; exact hun) _ h0)
  · have : (st i).1[t]? = none := List.getElem?_eq_none (by rw [W.length i (by omega)]; omega)
    rw [List.getD_eq_getElem?_getD, this]
    exact .top _

theorem countP_set {n i : Nat} {listed : Array Bool} (hs : listed.size = n) (hi : i < n) (hun : listed.getD i false = false) :
    (List.range n).countP (fun j => !(listed.setIfInBounds i true).getD j false) + 1 = (List.range n).countP (fun j => !listed.getD j false) := by
  have key : ∀ l : List Nat, l.Nodup → (l.countP (fun j => !(listed.setIfInBounds i true).getD j false)) + (if i ∈ l then 1 else 0) = l.countP (fun j => !listed.getD j false) := by
    intro l
    induction l with
    | nil => intro _; simp
    | cons x l ih =>
      intro hn
      simp only [List.nodup_cons] at hn
      have := ih hn.2
      rw [List.countP_cons, List.countP_cons]
      by_cases hx : x = i
      · subst hx
        have e1 : (listed.setIfInBounds x true).getD x false = true := by simp [show x < listed.size by omega]
        rw [if_neg hn.1] at this
        have m : x ∈ x :: l := by simp
        rw [e1, hun, if_pos m]
        simp only [Bool.not_true, Bool.not_false, Bool.false_eq_true, if_false, if_true]
        omega
      · have e1 : (listed.setIfInBounds i true).getD x false = listed.getD x false := getD_set_ne false (fun e => hx e.symm)
        rw [e1]
        have e2 : (i ∈ x :: l) ↔ i ∈ l := by simp; intro e; exact absurd e.symm hx
        simp only [e2]
        omega
  have := key (List.range n) List.nodup_range
  rw [if_pos (List.mem_range.mpr hi)] at this
  exact this

theorem hsOf_set {listed : Array Bool} {i : Nat} (hs : listed.size = ops.size) (hi : i < ops.size) (hh : heapOp P ops i = true) : hsOf P ops (listed.setIfInBounds i true) = ins (hsOf P ops listed) i := by
  funext j
  unfold hsOf ins
  by_cases hj : j = i
  · subst hj; simp [hh, show j < listed.size by omega]
  · rw [getD_set_ne false (fun e => hj e.symm)]; simp [hj]
theorem hsOf_same {listed : Array Bool} {i : Nat} (hh : heapOp P ops i = false) : hsOf P ops (listed.setIfInBounds i true) = hsOf P ops listed := by
  funext j
  unfold hsOf
  by_cases hj : j = i
  · subst hj; simp [hh]
  · rw [getD_set_ne false (fun e => hj e.symm)]
theorem hsOf_some {listed : Array Bool} {j : Nat} (hs : listed.size = ops.size) (h : hsOf P ops listed j = true) : heapOp P ops j = true ∧ j < ops.size := by
  unfold hsOf at h
  rw [Bool.and_eq_true] at h
  refine ⟨h.1, ?_⟩
  rcases Nat.lt_or_ge j ops.size with q | q
  · exact q
  · have := h.2; simp [show ¬ j < listed.size by omega] at this

theorem draw_gen (_hc : CallOK P call) (W : Walk P call ops st val) (ht : tableOK T ops = true) (hs : slotsOK T ops = true) (hsel : Region.noSelect ops = true) {G : (Nat → Bool) → Inj → AH → Prop} (DG : DrawG P ops T st val G)
    {Q : Exit → Act → World → Prop} {B D : Nat} {ro : Option Nat} {n : Nat} : ∀ (fuel : Nat) {listed : Array Bool} {f : Inj} {a : Act} {w : World}, INV P B D ops T st val G fuel listed f a w →
    (∀ f' a' w', Ext f f' → SR B D f' (st ops.size).1 (st ops.size).2 a' w' → Kept B w w' → Q .normal a' w') → wpAnyIn (FW ro) n P .any ops Q fuel listed a w := by
  -- what is known when nothing may come up
  have done : ∀ {fuel : Nat} {listed : Array Bool} {f : Inj} {a : Act} {w : World}, INV P B D ops T st val G fuel listed f a w → Region.ready .any ops listed = [] →
      SR B D f (st ops.size).1 (st ops.size).2 a w := by
    intro fuel listed f a w I hr
    have all : ∀ i, i < ops.size → listed.getD i false = true := by
      intro i
      induction i using Nat.strongRecOn with
      | _ i ih =>
        intro hi
        cases hx : listed.getD i false with
        | true => rfl
        | false =>
          exfalso
          have ho : ops[i]? = some ops[i] := by simp [hi]
          have : i ∈ Region.ready .any ops listed := mem_ready.2 ⟨by rw [getD_true_false I.lsz hi]; exact hx, ops[i], ho, fun e he hb => by
            have hk : e.on ∈ direct ops[i] := List.mem_filterMap.2 ⟨e, by simpa using he, by rw [if_pos hb]⟩
            have hlt := (table_direct ht ho).1 _ hk
            exact ih _ hlt (by omega)⟩
          rw [hr] at this
          simp at this
    obtain ⟨g, hg1, hg2⟩ := I.hg
    refine ⟨⟨by rw [W.length _ (Nat.le_refl _)]; exact I.sz, fun t b hb => ?_⟩, ?_, I.dm⟩
    · have htl : t < (st 0).1.length := by
        rw [← W.length ops.size (Nat.le_refl _)]
        exact (List.getElem?_eq_some_iff.mp hb).1
      by_cases hw : ∃ j, j < ops.size ∧ dstOf ops j = some t
      · obtain ⟨j, hj, hd⟩ := hw
        rw [W.slot_new hs hj hd htl ops.size (Nat.le_refl _) hj] at hb
        injection hb with hb
        subst hb
        exact I.fb t j hj hd (all j hj) htl
      · rw [W.slot_old (t := t) ops.size (Nat.le_refl _) (fun k hk hkd => hw ⟨k, hk, hkd⟩)] at hb
        exact I.fa t (fun j hj hd => absurd ⟨j, hj, hd⟩ hw) b hb
    · exact DG.fin _ g B f w (fun j hj hh => by unfold hsOf; rw [hh, all j hj]; rfl) (fun j hj => hsOf_some I.lsz hj) hg1 hg2
  intro fuel
  induction fuel with
  | zero =>
    intro listed f a w I hQ
    have hr : Region.ready .any ops listed = [] := by
      cases hx : Region.ready .any ops listed with
      | nil => rfl
      | cons i l =>
        exfalso
        have hm : i ∈ Region.ready .any ops listed := by rw [hx]; simp
        obtain ⟨h1, o, ho, _⟩ := mem_ready.1 hm
        have hi : i < ops.size := (Array.getElem?_eq_some_iff.1 ho).1
        have h2 := I.cnt
        have h3 : (List.range ops.size).countP (fun j => !listed.getD j false) = 0 := by omega
        rw [List.countP_eq_zero] at h3
        have := h3 i (List.mem_range.mpr hi)
        rw [← getD_true_false I.lsz hi, h1] at this
        simp at this
    exact ⟨hr, hQ f a w (Ext.refl f) (done I hr) (Kept.refl B w)⟩
  | succ fuel ih =>
    intro listed f a w I hQ
    refine ⟨fun hr => hQ f a w (Ext.refl f) (done I hr) (Kept.refl B w), fun i hm => ?_⟩
    obtain ⟨h1, o, ho, hall⟩ := mem_ready.1 hm
    have hi : i < ops.size := (Array.getElem?_eq_some_iff.1 ho).1
    have hun : listed.getD i false = false := by rw [← getD_true_false I.lsz hi]; exact h1
    have hdir : ∀ k ∈ direct o, listed.getD k false = true := fun k hk => by
      obtain ⟨e, he, hb⟩ := List.mem_filterMap.1 hk
      split at hb
      · rename_i hbi
        injection hb with hb
        subst hb
        exact hall e (by simpa using he) hbi
      · simp at hb
    have hslot : ∀ t ∈ o.looksAt ops, VR f (a.tmps.getD t undef) ((st i).1.getD t .top) := fun t hl => I.slot W ht hs ho hun hdir hl
    have hbi : ∀ j, bef T j i = true → listed.getD j false = true := fun j hb => by
      rcases (table_direct ht ho).2.2 j hb with h1 | ⟨k, hk, h1⟩
      · exact hdir j h1
      · exact I.closed k j (hdir k hk) h1
    have hib : ∀ j, bef T i j = true → listed.getD j false = false := fun j hb => by
      cases hx : listed.getD j false with
      | false => rfl
      | true => rw [I.closed j i hx hb] at hun; simp at hun
    obtain ⟨o', ho', hfr, hdid⟩ := W.did i hi
    obtain rfl : o' = o := by rw [ho] at ho'; injection ho' with e; exact e.symm
    have hgl : ∀ k, (listed.setIfInBounds i true).getD k false = true ↔ (k = i ∨ listed.getD k false = true) := fun k => by
      by_cases hk : k = i
      · subst hk; simp [show k < listed.size by rw [I.lsz]; exact hi]
      · rw [getD_set_ne false (fun e => hk e.symm)]; simp [hk]
    obtain ⟨g, hg1, hg2⟩ := I.hg
    -- the step, once the value and the world are known
    have step : ∀ (f' : Inj) (g' : AH) (v : Value) (w' : World), G (hsOf P ops (listed.setIfInBounds i true)) f' g' →
        Ext f f' → HR B f' g' w' → Kept B w w' → VR f' v (val i) → wpAnyIn (FW ro) n P .any ops Q fuel (listed.setIfInBounds i true) (a.put o'.dst v) w' := by
      intro f' g' v w' hg' hext hhr hbel hv
      refine ih (f := f') ⟨by rw [Array.size_setIfInBounds]; exact I.lsz, fun x y hx hb => ?_, ?_, ⟨g', hg', hhr⟩, ?_, by rw [Act.put_tmps_defers]; exact I.dm.kept hbel, fun t hn b hb => ?_, fun t j hj hd hl htl => ?_⟩ (fun f2 a2 w2 e2 s2 b2 => hQ f2 a2 w2 (hext.trans e2) s2 (hbel.trans b2))
      · rw [hgl] at hx ⊢
        rcases hx with rfl | hx
        · exact .inr (hbi y hb)
        · exact .inr (I.closed x y hx hb)
      · have := countP_set I.lsz hi hun
        have := I.cnt
        omega
      · cases hd : o'.dst <;> simp [Act.put, I.sz]
      · have hne : o'.dst ≠ some t := fun hd => by
          have := hn i hi (by simp [dstOf, ho, hd])
          have h2 := (hgl i).2 (.inl rfl)
          rw [h2] at this
          simp at this
        obtain ⟨u, g1, g2⟩ := I.fa t (fun j hj hd => by
          have := hn j hj hd
          cases hx : listed.getD j false with
          | false => rfl
          | true => rw [(hgl j).2 (.inr hx)] at this; simp at this) b hb
        refine ⟨u, ?_, g2.mono hext⟩
        cases hd : o'.dst with
        | none => exact g1
        | some d =>
          simp only [Act.put]
          rw [Array.getElem?_setIfInBounds_ne (fun e => hne (by rw [hd, e]))]
          exact g1
      · rcases (hgl j).1 hl with rfl | hl2
        · simp only [dstOf, ho, Option.bind_some] at hd
          refine ⟨v, ?_, hv⟩
          rw [hd]
          simp only [Act.put]
          rw [Array.getElem?_setIfInBounds_self, if_pos (by rw [I.sz]; exact htl)]
        · obtain ⟨u, g1, g2⟩ := I.fb t j hj hd hl2 htl
          refine ⟨u, ?_, g2.mono hext⟩
          have hne : o'.dst ≠ some t := by
            by_cases hji : j = i
            · subst hji; rw [hl2] at hun; simp at hun
            · exact (slot_apart hs hi hj hji hd ho).1
          cases hd2 : o'.dst with
          | none => exact g1
          | some d =>
            simp only [Act.put]
            rw [Array.getElem?_setIfInBounds_ne (fun e => hne (by rw [hd2, e]))]
            exact g1
    have hS0 : ∀ j, hsOf P ops listed j = true → heapOp P ops j = true ∧ j < ops.size := fun j hj => hsOf_some I.lsz hj
    have hS1 : ∀ j, j < ops.size → heapOp P ops j = true → bef T j i = true → hsOf P ops listed j = true := fun j _ hh hb => by unfold hsOf; rw [hh, hbi j hb]; rfl
    have hS2 : ∀ j, bef T i j = true → hsOf P ops listed j = false := fun j hb => by unfold hsOf; rw [hib j hb, Bool.and_false]
    have hSi : hsOf P ops listed i = false := by unfold hsOf; rw [hun, Bool.and_false]
    unfold wpOpIn
    simp only [ho]
    have hgd : ∀ j want d, o'.guard = some (j, want) → (ops[j]?).bind (·.dst) = some d → VR f (a.tmps.getD d undef) ((st i).1.getD d .top) := fun j want d hg hd =>
      hslot d (by unfold Oper.looksAt; rw [hg]; simp [hd])
    by_cases hheap : heapOp P ops i = true
    · rcases hdid with ⟨hw, hv, hh⟩ | ⟨hw, hop⟩
      · rw [wanted_of hgd hw]
        have hv' : VR f undef (val i) := by rw [hv]; exact .tup _ _ (by exact .nil)
        have := step f g undef w (by rw [hsOf_set I.lsz hi hheap]; exact DG.skip i o' _ g f ho hheap hS0 hSi hS1 hS2 hg1 hw) (Ext.refl f) hg2 (Kept.refl B w) hv'
        exact ⟨fun _ _ => trivial, this⟩
      · rw [wanted_of hgd hw]
        have hrun := opRuns_at (Region.noSelect_spec hsel i o' · · ho) hslot (fun ρ ρ' h1 h2 => DG.step i o' _ g f ho hheap hS0 hSi hS1 hS2 hg1 hw B w ρ ρ' hg2 h1 h2)
        obtain ⟨ρ, he, hr⟩ := hrun
        refine hr.wp he (aop_nodefer hop) fun v w' ⟨f', g', q1, q2, q3, q4, q5⟩ => step f' g' v w' (by rw [hsOf_set I.lsz hi hheap]; exact q2) q1 q3 q4 q5
    · have hheap : heapOp P ops i = false := by simpa using hheap
      have hcls : cls P o' ≠ .heap := by simpa [heapOp, ho] using hheap
      rcases hdid with ⟨hw, hv, hh⟩ | ⟨hw, hop⟩
      · rw [wanted_of hgd hw]
        have hv' : VR f undef (val i) := by rw [hv]; exact .tup _ _ (by exact .nil)
        have := step f g undef w (by rw [hsOf_same hheap]; exact hg1) (Ext.refl f) hg2 (Kept.refl B w) hv'
        exact ⟨fun _ _ => trivial, this⟩
      · rw [wanted_of hgd hw]
        -- the operation, run over the heap that stands now
        have hnow : aop P call (aev (st i).1) o' g = some (val i, g) := by
          unfold aop at hop ⊢
          cases hcl : cls P o' with
          | heap => exact absurd hcl hcls
          | pure =>
            rw [hcl] at hop
            simp only at hop ⊢
            cases hp : apure P (aev (st i).1) o' with
            | none => simp [hp] at hop
            | some r => simp [hp] at hop ⊢; exact hop.1
          | load =>
            rw [hcl] at hop
            simp only at hop ⊢
            rw [DG.load i o' _ g f ho hcl hS0 hS1 hS2 hg1 hw]
            cases hp : aload P (aev (st i).1) o' (st i).2 with
            | none => simp [hp] at hop
            | some r => simp [hp] at hop ⊢; exact hop.1
        obtain ⟨ρ, he, hr⟩ := opRuns_at (Φ := fun v w' => w' = w ∧ VR f v (val i)) (Region.noSelect_spec hsel i o' · · ho) hslot (fun ρ ρ' h1 h2 => aop_still hg2 hcls h2 ((aop_congr h1).trans hnow))
        refine hr.wp he (aop_nodefer hop) fun v w' ⟨e, q⟩ => ?_
        subst e
        exact step f g v w' (by rw [hsOf_same hheap]; exact hg1) (Ext.refl f) hg2 (Kept.refl B w') q
/-- The first walk of a region. -/
theorem INV.first {G : (Nat → Bool) → Inj → AH → Prop} {B D : Nat} {w : World} {a : Act} (DG : ∃ g, G (fun _ => false) f g ∧ HR B f g w) (hsz : a.tmps.size = (st 0).1.length) (hdm : Marks D a.defers w) (hfa : ∀ (t : Nat) (b : AV), (st 0).1[t]? = some b → ∃ v, a.tmps[t]? = some v ∧ VR f v b) :
    INV P B D ops T st val G ops.size (Array.replicate ops.size false) f a w := by
  have hf : ∀ j, (Array.replicate ops.size false).getD j false = false := fun j => by by_cases hlt : j < ops.size <;> simp [hlt]
  refine ⟨by simp, fun x y hx => ?_, Nat.le_trans List.countP_le_length (by simp), ?_, hsz, hdm, fun t _ b hb => hfa t b hb, fun t j hj _ hl => ?_⟩
  · rw [hf] at hx; simp at hx
  · have : hsOf P ops (Array.replicate ops.size false) = fun _ => false := by funext j; unfold hsOf; rw [hf, Bool.and_false]
    rw [this]; exact DG
  · rw [hf] at hl; simp at hl

theorem chain_load (W : Walk P call ops st val) (ht : tableOK T ops = true)
    (hload : ∀ i j o, ops[i]? = some o → cls P o = .load → awanted ops (st i).1 o = some true → j < ops.size → heapOp P ops j = true → bef T j i = false → bef T i j = false →
      aload P (aev (st i).1) o (st j).2 = aload P (aev (st i).1) o (st i).2 ∧ aload P (aev (st i).1) o (st (j + 1)).2 = aload P (aev (st i).1) o (st i).2)
    {i : Nat} {o : Oper} {S : Nat → Bool} (ho : ops[i]? = some o) (hcl : cls P o = .load) (hS1 : ∀ j, j < ops.size → heapOp P ops j = true → bef T j i = true → S j = true) (hS2 : ∀ j, bef T i j = true → S j = false)
    {p : Nat} (hple : p ≤ ops.size) (hpos : ∀ j, j < ops.size → heapOp P ops j = true → (S j = true ↔ j < p)) (hw : awanted ops (st i).1 o = some true) :
    aload P (aev (st i).1) o (st p).2 = aload P (aev (st i).1) o (st i).2 := by
  have hi : i < ops.size := (Array.getElem?_eq_some_iff.1 ho).1
  have hcases : (st i).2 = (st p).2 ∨ ∃ j, j < ops.size ∧ heapOp P ops j = true ∧ bef T j i = false ∧ bef T i j = false ∧ ((st p).2 = (st j).2 ∨ (st p).2 = (st (j + 1)).2) := by
    rcases Nat.le_total p i with h2 | h2
    · by_cases hex : ∃ j, p ≤ j ∧ j < i ∧ heapOp P ops j = true
      · right
        obtain ⟨j, hj1, hj2⟩ : ∃ j, (p ≤ j ∧ j < i ∧ heapOp P ops j = true) ∧ ∀ k, k < j → ¬ (p ≤ k ∧ k < i ∧ heapOp P ops k = true) := by
          obtain ⟨j, hj⟩ := hex
          induction j using Nat.strongRecOn with
          | _ j ihj =>
            by_cases hk : ∃ k, k < j ∧ (p ≤ k ∧ k < i ∧ heapOp P ops k = true)
            · obtain ⟨k, hk1, hk2⟩ := hk; exact ihj k hk1 hk2
            · exact ⟨j, hj, fun k hk1 hk2 => hk ⟨k, hk1, hk2⟩⟩
        have hjn : j < ops.size := by omega
        have hnl : S j = false := by
          cases hx : S j with
          | false => rfl
          | true => have := (hpos j hjn hj1.2.2).1 hx; omega
        refine ⟨j, hjn, hj1.2.2, ?_, ?_, .inl ?_⟩
        · cases hx : bef T j i with
          | false => rfl
          | true => rw [hS1 j hjn hj1.2.2 hx] at hnl; simp at hnl
        · cases hx : bef T i j with
          | false => rfl
          | true => have := bef_lt ht j hjn i hx; omega
        · exact (W.heap_same j hj1.1 (by omega) (fun k h3 h4 => by
            cases hx : heapOp P ops k with
            | false => rfl
            | true => exact absurd ⟨h3, by omega, hx⟩ (hj2 k h4))).symm
      · left
        exact W.heap_same i h2 (by omega) (fun j h3 h4 => by
          cases hx : heapOp P ops j with
          | false => rfl
          | true => exact absurd ⟨j, h3, h4, hx⟩ hex)
    · by_cases hex : ∃ j, i ≤ j ∧ j < p ∧ heapOp P ops j = true
      · right
        obtain ⟨j, hj1, hj2⟩ : ∃ j, (i ≤ j ∧ j < p ∧ heapOp P ops j = true) ∧ ∀ k, j < k → ¬ (i ≤ k ∧ k < p ∧ heapOp P ops k = true) := by
          obtain ⟨j, hj⟩ := hex
          have : ∀ n j, p - j = n → (i ≤ j ∧ j < p ∧ heapOp P ops j = true) → ∃ j, (i ≤ j ∧ j < p ∧ heapOp P ops j = true) ∧ ∀ k, j < k → ¬ (i ≤ k ∧ k < p ∧ heapOp P ops k = true) := by
            intro n
            induction n using Nat.strongRecOn with
            | _ n ihn =>
              intro j hn hj
              by_cases hk : ∃ k, j < k ∧ (i ≤ k ∧ k < p ∧ heapOp P ops k = true)
              · obtain ⟨k, hk1, hk2⟩ := hk
                exact ihn (p - k) (by omega) k rfl hk2
              · exact ⟨j, hj, fun k hk1 hk2 => hk ⟨k, hk1, hk2⟩⟩
          exact this _ j rfl hj
        have hjn : j < ops.size := by omega
        have hnl : S j = true := (hpos j hjn hj1.2.2).2 hj1.2.1
        refine ⟨j, hjn, hj1.2.2, ?_, ?_, .inr ?_⟩
        · cases hx : bef T j i with
          | false => rfl
          | true => have := bef_lt ht i hi j hx; omega
        · cases hx : bef T i j with
          | false => rfl
          | true => rw [hS2 j hx] at hnl; simp at hnl
        · exact W.heap_same p (by omega) hple (fun k h3 h4 => by
            cases hx : heapOp P ops k with
            | false => rfl
            | true => exact absurd ⟨by omega, h4, hx⟩ (hj2 k (by omega)))
      · left
        exact (W.heap_same p h2 hple (fun j h3 h4 => by
          cases hx : heapOp P ops j with
          | false => rfl
          | true => exact absurd ⟨j, h3, h4, hx⟩ hex)).symm
  rcases hcases with he | ⟨j, hj, hhj, hb1, hb2, he⟩
  · rw [he]
  · have hl := hload i j o ho hcl hw hj hhj hb1 hb2
    rcases he with he | he
    · rw [he]; exact hl.1
    · rw [he]; exact hl.2
/-- Where the operations that turn memory stand in one chain. -/
theorem chain_draw (hc : CallOK P call) (W : Walk P call ops st val) (ht : tableOK T ops = true) (hch : chainOK P T ops = true)
    (hload : ∀ i j o, ops[i]? = some o → cls P o = .load → awanted ops (st i).1 o = some true → j < ops.size → heapOp P ops j = true → bef T j i = false → bef T i j = false →
      aload P (aev (st i).1) o (st j).2 = aload P (aev (st i).1) o (st i).2 ∧ aload P (aev (st i).1) o (st (j + 1)).2 = aload P (aev (st i).1) o (st i).2) :
    DrawG P ops T st val (fun S _ g => ∃ p, p ≤ ops.size ∧ (∀ j, j < ops.size → heapOp P ops j = true → (S j = true ↔ j < p)) ∧ g = (st p).2) := by
  have pos : ∀ i S, heapOp P ops i = true → i < ops.size → S i = false → (∀ j, j < ops.size → heapOp P ops j = true → bef T j i = true → S j = true) → (∀ j, bef T i j = true → S j = false) →
      ∀ p, p ≤ ops.size → (∀ j, j < ops.size → heapOp P ops j = true → (S j = true ↔ j < p)) → (st i).2 = (st p).2 ∧ (∀ j, j < ops.size → heapOp P ops j = true → (ins S i j = true ↔ j < i + 1)) := by
    intro i S hheap hi hSi hS1 hS2 p hp hpos
    have hposi : ∀ j, j < ops.size → heapOp P ops j = true → (S j = true ↔ j < i) := fun j hj hhj => by
      constructor
      · intro hl
        rcases Nat.lt_trichotomy j i with h2 | h2 | h2
        · exact h2
        · subst h2; rw [hl] at hSi; simp at hSi
        · have := hS2 j (chain_bef hch hj h2 hhj hheap)
          rw [hl] at this; simp at this
      · intro hlt
        exact hS1 j hj hhj (chain_bef hch hi hlt hheap hhj)
    refine ⟨?_, fun j hj hhj => ?_⟩
    · rcases Nat.le_total p i with h2 | h2
      · exact W.heap_same i h2 (by omega) (fun j h3 h4 => by
          cases hx : heapOp P ops j with
          | false => rfl
          | true => have := (hpos j (by omega) hx).1 ((hposi j (by omega) hx).2 h4); omega)
      · exact (W.heap_same p h2 hp (fun j h3 h4 => by
          cases hx : heapOp P ops j with
          | false => rfl
          | true => have := (hposi j (by omega) hx).1 ((hpos j (by omega) hx).2 h4); omega)).symm
    · unfold ins
      rw [Bool.or_eq_true, decide_eq_true_iff, hposi j hj hhj]
      omega
  refine ⟨fun _ => ⟨0, Nat.zero_le _, fun j _ _ => by simp, rfl⟩, ?_, ?_, ?_, ?_⟩
  · rintro i o S g f ho hheap _ hSi hS1 hS2 ⟨p, hp, hpos, rfl⟩ hw B w ρ ρ' H hρ1 hρ2
    have hi : i < ops.size := (Array.getElem?_eq_some_iff.1 ho).1
    obtain ⟨e1, e2⟩ := pos i S hheap hi hSi hS1 hS2 p hp hpos
    obtain ⟨o', ho', _, hdid⟩ := W.did i hi
    obtain rfl : o' = o := by rw [ho] at ho'; injection ho' with e; exact e.symm
    rcases hdid with ⟨hw', _, _⟩ | ⟨_, hop⟩
    · rw [hw] at hw'; simp at hw'
    · have hop' : aop P call ρ' o' (st p).2 = some (val i, (st (i + 1)).2) := by rw [← e1, ← hop]; exact aop_congr hρ1
      exact (aop_run hc H hρ2 hop').mono fun v w' ⟨f', g1, g2, g3, g4⟩ => ⟨f', _, g1, ⟨i + 1, by omega, e2, rfl⟩, g2, g3, g4⟩
  · rintro i o S g f ho hheap _ hSi hS1 hS2 ⟨p, hp, hpos, rfl⟩ hw
    have hi : i < ops.size := (Array.getElem?_eq_some_iff.1 ho).1
    obtain ⟨e1, e2⟩ := pos i S hheap hi hSi hS1 hS2 p hp hpos
    obtain ⟨o', ho', _, hdid⟩ := W.did i hi
    obtain rfl : o' = o := by rw [ho] at ho'; injection ho' with e; exact e.symm
    rcases hdid with ⟨_, _, hh⟩ | ⟨hw', _⟩
    · exact ⟨i + 1, by omega, e2, by rw [hh, e1]⟩
    · rw [hw] at hw'; simp at hw'
  · rintro i o S g f ho hcl _ hS1 hS2 ⟨p, hple, hpos, rfl⟩ hw
    exact chain_load W ht hload ho hcl hS1 hS2 hple hpos hw
  · rintro S g B f w hall _ ⟨p, hp, hpos, rfl⟩ H
    have : (st ops.size).2 = (st p).2 := W.heap_same ops.size hp (Nat.le_refl _) (fun j h1 h2 => by
      cases hx : heapOp P ops j with
      | false => rfl
      | true => have := (hpos j h2 hx).1 (hall j h2 hx); omega)
    rw [this]
    exact H
end
end Go.Proofs.Ytgnacecplaemlaa.AI
