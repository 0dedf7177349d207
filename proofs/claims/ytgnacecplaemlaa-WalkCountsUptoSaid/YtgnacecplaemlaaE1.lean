/-
  An abstract interpreter for the model's code, part 1: the trie, the abstract values, the abstract heap. Nothing here names the program.
-/
import Derived.Orders
import Derived.Below
namespace Go.Proofs.Ytgnacecplaemlaa.AI

/-! ### A trie, indexed by numbers. Written with the recursors, so that the kernel runs it fast. -/
inductive Tr (α : Type) where
  | nil
  | node (v : Option α) (l r : Tr α)

namespace Tr
variable {α : Type}
noncomputable def get (t : Tr α) : Nat → Option α :=
  Tr.rec (motive := fun _ => Nat → Option α) (fun _ => none)
    (fun v _ _ gl gr i => Nat.rec (motive := fun _ => Option α) v
      (fun j _ => Nat.rec (motive := fun _ => Option α) (gl (Nat.div j 2)) (fun _ _ => gr (Nat.div j 2)) (Nat.mod j 2)) i) t
noncomputable def single (v : α) (fuel : Nat) : Nat → Tr α :=
  Nat.rec (motive := fun _ => Nat → Tr α) (fun _ => .node (some v) .nil .nil)
    (fun _ ih i => Nat.rec (motive := fun _ => Tr α) (.node (some v) .nil .nil)
      (fun j _ => Nat.rec (motive := fun _ => Tr α) (.node none (ih (Nat.div j 2)) .nil) (fun _ _ => .node none .nil (ih (Nat.div j 2))) (Nat.mod j 2)) i) fuel
noncomputable def set (v : α) (t : Tr α) : Nat → Tr α :=
  Tr.rec (motive := fun _ => Nat → Tr α) (fun i => single v i i)
    (fun u l r sl sr i => Nat.rec (motive := fun _ => Tr α) (.node (some v) l r)
      (fun j _ => Nat.rec (motive := fun _ => Tr α) (.node u (sl (Nat.div j 2)) r) (fun _ _ => .node u l (sr (Nat.div j 2))) (Nat.mod j 2)) i) t

theorem get_nil (i : Nat) : (Tr.nil : Tr α).get i = none := rfl
theorem get_zero (v : Option α) (l r : Tr α) : (Tr.node v l r).get 0 = v := rfl
theorem get_even (v : Option α) (l r : Tr α) (i : Nat) : (Tr.node v l r).get (2 * i + 1) = l.get i := by
  have h1 : Nat.mod (2 * i) 2 = 0 := by show 2 * i % 2 = 0; omega
  have h2 : Nat.div (2 * i) 2 = i := by show 2 * i / 2 = i; omega
  show Nat.rec (motive := fun _ => Option α) (l.get (Nat.div (2 * i) 2)) (fun _ _ => r.get (Nat.div (2 * i) 2)) (Nat.mod (2 * i) 2) = _
  rw [h1, h2]; rfl
theorem get_odd (v : Option α) (l r : Tr α) (i : Nat) : (Tr.node v l r).get (2 * i + 2) = r.get i := by
  have h1 : Nat.mod (2 * i + 1) 2 = 1 := by show (2 * i + 1) % 2 = 1; omega
  have h2 : Nat.div (2 * i + 1) 2 = i := by show (2 * i + 1) / 2 = i; omega
  show Nat.rec (motive := fun _ => Option α) (l.get (Nat.div (2 * i + 1) 2)) (fun _ _ => r.get (Nat.div (2 * i + 1) 2)) (Nat.mod (2 * i + 1) 2) = _
  rw [h1, h2]; rfl
theorem split (i : Nat) : i = 0 ∨ (∃ j, i = 2 * j + 1) ∨ ∃ j, i = 2 * j + 2 := by
  rcases Nat.eq_zero_or_pos i with h | h
  · exact .inl h
  · rcases Nat.mod_two_eq_zero_or_one i with h2 | h2
    · exact .inr (.inr ⟨i / 2 - 1, by omega⟩)
    · exact .inr (.inl ⟨i / 2, by omega⟩)
theorem set_zero (x : α) (v : Option α) (l r : Tr α) : (Tr.node v l r).set x 0 = .node (some x) l r := rfl
theorem set_even (x : α) (v : Option α) (l r : Tr α) (i : Nat) : (Tr.node v l r).set x (2 * i + 1) = .node v (l.set x i) r := by
  have h1 : Nat.mod (2 * i) 2 = 0 := by show 2 * i % 2 = 0; omega
  have h2 : Nat.div (2 * i) 2 = i := by show 2 * i / 2 = i; omega
  show Nat.rec (motive := fun _ => Tr α) (.node v (l.set x (Nat.div (2 * i) 2)) r) (fun _ _ => .node v l (r.set x (Nat.div (2 * i) 2))) (Nat.mod (2 * i) 2) = _
  rw [h1, h2]; rfl
theorem set_odd (x : α) (v : Option α) (l r : Tr α) (i : Nat) : (Tr.node v l r).set x (2 * i + 2) = .node v l (r.set x i) := by
  have h1 : Nat.mod (2 * i + 1) 2 = 1 := by show (2 * i + 1) % 2 = 1; omega
  have h2 : Nat.div (2 * i + 1) 2 = i := by show (2 * i + 1) / 2 = i; omega
  show Nat.rec (motive := fun _ => Tr α) (.node v (l.set x (Nat.div (2 * i + 1) 2)) r) (fun _ _ => .node v l (r.set x (Nat.div (2 * i + 1) 2))) (Nat.mod (2 * i + 1) 2) = _
  rw [h1, h2]; rfl
theorem single_zero (x : α) (f : Nat) : single x f 0 = .node (some x) .nil .nil := by cases f <;> rfl
theorem single_even (x : α) (f i : Nat) : single x (f + 1) (2 * i + 1) = .node none (single x f i) .nil := by
  have h1 : Nat.mod (2 * i) 2 = 0 := by show 2 * i % 2 = 0; omega
  have h2 : Nat.div (2 * i) 2 = i := by show 2 * i / 2 = i; omega
  show Nat.rec (motive := fun _ => Tr α) (.node none (single x f (Nat.div (2 * i) 2)) .nil) (fun _ _ => .node none .nil (single x f (Nat.div (2 * i) 2))) (Nat.mod (2 * i) 2) = _
  rw [h1, h2]; rfl
theorem single_odd (x : α) (f i : Nat) : single x (f + 1) (2 * i + 2) = .node none .nil (single x f i) := by
  have h1 : Nat.mod (2 * i + 1) 2 = 1 := by show (2 * i + 1) % 2 = 1; omega
  have h2 : Nat.div (2 * i + 1) 2 = i := by show (2 * i + 1) / 2 = i; omega
  show Nat.rec (motive := fun _ => Tr α) (.node none (single x f (Nat.div (2 * i + 1) 2)) .nil) (fun _ _ => .node none .nil (single x f (Nat.div (2 * i + 1) 2))) (Nat.mod (2 * i + 1) 2) = _
  rw [h1, h2]; rfl
theorem get_single (x : α) : ∀ (f i : Nat), i ≤ f → ∀ j, (single x f i).get j = if j = i then some x else none := by
  intro f
  induction f with
  | zero =>
    intro i hi j
    obtain rfl : i = 0 := by omega
    rw [single_zero]
    rcases split j with rfl | ⟨k, rfl⟩ | ⟨k, rfl⟩
    · rfl
    · rw [get_even, get_nil, if_neg (by omega)]
    · rw [get_odd, get_nil, if_neg (by omega)]
  | succ f ih =>
    intro i hi j
    rcases split i with rfl | ⟨m, rfl⟩ | ⟨m, rfl⟩
    · rw [single_zero]
      rcases split j with rfl | ⟨k, rfl⟩ | ⟨k, rfl⟩
      · rfl
      · rw [get_even, get_nil, if_neg (by omega)]
      · rw [get_odd, get_nil, if_neg (by omega)]
    · rw [single_even]
      rcases split j with rfl | ⟨k, rfl⟩ | ⟨k, rfl⟩
      · rw [get_zero, if_neg (by omega)]
      · rw [get_even, ih m (by omega) k]
        by_cases h : k = m
        · subst h; rw [if_pos rfl, if_pos rfl]
        · rw [if_neg h, if_neg (by omega)]
      · rw [get_odd, get_nil, if_neg (by omega)]
    · rw [single_odd]
      rcases split j with rfl | ⟨k, rfl⟩ | ⟨k, rfl⟩
      · rw [get_zero, if_neg (by omega)]
      · rw [get_even, get_nil, if_neg (by omega)]
      · rw [get_odd, ih m (by omega) k]
        by_cases h : k = m
        · subst h; rw [if_pos rfl, if_pos rfl]
        · rw [if_neg h, if_neg (by omega)]
theorem get_set (x : α) (t : Tr α) : ∀ i j, (t.set x i).get j = if j = i then some x else t.get j := by
  induction t with
  | nil => intro i j; show (single x i i).get j = _; rw [get_single x i i (Nat.le_refl _) j, get_nil]
  | node v l r il ir =>
    intro i j
    rcases split i with rfl | ⟨m, rfl⟩ | ⟨m, rfl⟩
    · rw [set_zero]
      rcases split j with rfl | ⟨k, rfl⟩ | ⟨k, rfl⟩
      · rfl
      · rw [get_even, get_even, if_neg (by omega)]
      · rw [get_odd, get_odd, if_neg (by omega)]
    · rw [set_even]
      rcases split j with rfl | ⟨k, rfl⟩ | ⟨k, rfl⟩
      · rw [get_zero, get_zero, if_neg (by omega)]
      · rw [get_even, get_even, il]
        by_cases h : k = m
        · subst h; rw [if_pos rfl, if_pos rfl]
        · rw [if_neg h, if_neg (by omega)]
      · rw [get_odd, get_odd, if_neg (by omega)]
    · rw [set_odd]
      rcases split j with rfl | ⟨k, rfl⟩ | ⟨k, rfl⟩
      · rw [get_zero, get_zero, if_neg (by omega)]
      · rw [get_even, get_even, if_neg (by omega)]
      · rw [get_odd, get_odd, ir]
        by_cases h : k = m
        · subst h; rw [if_pos rfl, if_pos rfl]
        · rw [if_neg h, if_neg (by omega)]
theorem get_set_same (x : α) (t : Tr α) (i : Nat) : (t.set x i).get i = some x := by rw [get_set, if_pos rfl]
theorem get_set_ne (x : α) (t : Tr α) {i j : Nat} (h : j ≠ i) : (t.set x i).get j = t.get j := by rw [get_set, if_neg h]
end Tr

/-! ### Abstract values -/
inductive AV where
  | bool (b : Bool)
  | int (k : IntKind) (n : Int)
  | str (s : List Nat)
  | nilp
  /-- a place in an abstract block -/
  | ptr (id off : Nat)
  | nilSl
  /-- a slice: its block, the place of its first cell, its length, the cells of an element, its capacity if it is known -/
  | sl (id off len es : Nat) (cap : Option Nat)
  | nilMap
  | fn (f : Fn) (first captured : List AV)
  | nilFn
  | iface (t : TypeId) (v : AV)
  | nilIface
  | agg (l : List AV)
  | tup (l : List AV)
  /-- nothing is known -/
  | top
  deriving Inhabited

/-- The bytes of a string as numbers. -/
def nats (s : ByteArray) : List Nat := s.data.toList.map UInt8.toNat

/-- Where an abstract block lies: the concrete block, the cell in it at which the abstract place 'lo' lies, how many cells from there on are its own. -/
structure Reg where
  blk : Nat
  base : Nat
  lo : Nat
  ext : Nat

abbrev Inj := Nat → Option Reg

mutual
inductive VR (f : Inj) : Value → AV → Prop where
  | top (v : Value) : VR f v .top
  | bool (b : Bool) : VR f (.bool b) (.bool b)
  | int (k : IntKind) (n : Int) : VR f (.int k n) (.int k n)
  | str (s : ByteArray) (l : List Nat) (h : l = nats s) : VR f (.string s) (.str l)
  | nilp : VR f (.pointer none) .nilp
  | ptr (id off : Nat) (r : Reg) (h : f id = some r) (hlo : r.lo ≤ off) : VR f (.pointer (some ⟨r.blk, r.base + (off - r.lo), none⟩)) (.ptr id off)
  | nilSl : VR f (.slice none 0 0) .nilSl
  | sl (id off len es : Nat) (c : Option Nat) (r : Reg) (O cap : Nat) (h : f id = some r) (hlo : r.lo ≤ off) (hlen : len ≤ cap)
      (hO : cap = 0 ∨ (O = r.base + (off - r.lo) ∧ (off - r.lo) + cap * es ≤ r.ext)) (hc : ∀ k, c = some k → cap = k) (sp : Option Nat := none) (hsp : cap = 0 ∨ sp = none := by exact .inr rfl) :
      VR f (.slice (some ⟨r.blk, O, sp⟩) len cap) (.sl id off len es c)
  | nilMap : VR f (.map none) .nilMap
  | fn (g : FuncId) (first captured : Array Value) (l1 l2 : List AV) (h1 : VRs f first.toList l1) (h2 : VRs f captured.toList l2) : VR f (.func (.func g) first captured) (.fn (.func g) l1 l2)
  /-- the function that a loop over a function hands on -/
  | yld (id : Nat) (r : Reg) (h : f id = some r) : VR f (.func (.yield r.blk) #[] #[]) (.fn (.yield id) [] [])
  | nilFn : VR f .nilFunc .nilFn
  | iface (t : TypeId) (v : Value) (a : AV) (h : VR f v a) : VR f (.iface t v) (.iface t a)
  | nilIface : VR f .nilIface .nilIface
  | agg (cs : Array Value) (l : List AV) (h : VRs f cs.toList l) : VR f (.agg cs) (.agg l)
  | tup (cs : Array Value) (l : List AV) (h : VRs f cs.toList l) : VR f (.tuple cs) (.tup l)
inductive VRs (f : Inj) : List Value → List AV → Prop where
  | nil : VRs f [] []
  | cons (v : Value) (a : AV) (vs : List Value) (as : List AV) (h : VR f v a) (hs : VRs f vs as) : VRs f (v :: vs) (a :: as)
end

/-- f' says all that f says. -/
def Ext (f f' : Inj) : Prop := ∀ id r, f id = some r → f' id = some r
theorem Ext.refl (f : Inj) : Ext f f := fun _ _ h => h
theorem Ext.trans {f g h : Inj} (a : Ext f g) (b : Ext g h) : Ext f h := fun _ _ e => b _ _ (a _ _ e)

mutual
theorem VR.mono {f f' : Inj} (he : Ext f f') {v : Value} {a : AV} (h : VR f v a) : VR f' v a := by
  cases h with
  | top => exact .top _
  | bool => exact .bool _
  | int => exact .int _ _
  | str s l h => exact .str s l h
  | nilp => exact .nilp
  | ptr id off r h hlo => exact .ptr id off r (he _ _ h) hlo
  | nilSl => exact .nilSl
  | sl id off len es c r O cap h hlo hlen hO hc sp hsp => exact .sl id off len es c r O cap (he _ _ h) hlo hlen hO hc sp hsp
  | nilMap => exact .nilMap
  | fn g first captured l1 l2 h1 h2 => exact .fn g _ _ _ _ (VRs.mono he h1) (VRs.mono he h2)
  | yld id r h => exact .yld id r (he _ _ h)
  | nilFn => exact .nilFn
  | iface t v a h => exact .iface t _ _ (VR.mono he h)
  | nilIface => exact .nilIface
  | agg cs l h => exact .agg cs _ (VRs.mono he h)
  | tup cs l h => exact .tup cs _ (VRs.mono he h)
theorem VRs.mono {f f' : Inj} (he : Ext f f') {vs : List Value} {as : List AV} (h : VRs f vs as) : VRs f' vs as := by
  cases h with
  | nil => exact .nil
  | cons v a vs as h hs => exact .cons _ _ _ _ (VR.mono he h) (VRs.mono he hs)
end

theorem VRs.length {f : Inj} : ∀ {vs : List Value} {as : List AV}, VRs f vs as → vs.length = as.length
  | _, _, .nil => rfl
  | _, _, .cons _ _ _ _ _ hs => by simp [VRs.length hs]
theorem VRs.get {f : Inj} : ∀ {vs : List Value} {as : List AV}, VRs f vs as → ∀ (i : Nat) (a : AV), as[i]? = some a → ∃ v, vs[i]? = some v ∧ VR f v a
  | _, _, .nil, i, a, h => by simp at h
  | _, _, .cons v a0 vs as h0 hs, 0, a, h => by simp at h; subst h; exact ⟨v, rfl, h0⟩
  | _, _, .cons v a0 vs as h0 hs, i + 1, a, h => by simp at h; simpa using VRs.get hs i a h
theorem VRs.append {f : Inj} : ∀ {vs : List Value} {as : List AV} {us : List Value} {bs : List AV}, VRs f vs as → VRs f us bs → VRs f (vs ++ us) (as ++ bs)
  | _, _, _, _, .nil, h => h
  | _, _, _, _, .cons v a vs as h0 hs, h => .cons v a _ _ h0 (VRs.append hs h)
theorem VRs.drop {f : Inj} : ∀ {vs : List Value} {as : List AV} (n : Nat), VRs f vs as → VRs f (vs.drop n) (as.drop n)
  | _, _, 0, h => h
  | _, _, _ + 1, .nil => .nil
  | _, _, n + 1, .cons _ _ _ _ _ hs => VRs.drop n hs
theorem VRs.take {f : Inj} : ∀ {vs : List Value} {as : List AV} (n : Nat), VRs f vs as → VRs f (vs.take n) (as.take n)
  | _, _, 0, _ => .nil
  | _, _, _ + 1, .nil => .nil
  | _, _, n + 1, .cons _ _ _ _ h hs => .cons _ _ _ _ h (VRs.take n hs)
theorem VRs.of_get {f : Inj} : ∀ {vs : List Value} {as : List AV}, vs.length = as.length → (∀ (i : Nat) (v : Value) (a : AV), vs[i]? = some v → as[i]? = some a → VR f v a) → VRs f vs as
  | [], [], _, _ => .nil
  | [], _ :: _, h, _ => by simp at h
  | _ :: _, [], h, _ => by simp at h
  | v :: vs, a :: as, h, hg => .cons _ _ _ _ (hg 0 v a rfl rfl) (VRs.of_get (by simpa using h) (fun i v a h1 h2 => hg (i + 1) v a (by simpa using h1) (by simpa using h2)))
theorem VRs.single {f : Inj} {v : Value} {a : AV} (h : VR f v a) : VRs f [v] [a] := .cons _ _ _ _ h .nil

/-- The cells of a value. -/
def AV.cells : AV → List AV
  | .agg l => l
  | v => [v]
/-- A value of one cell, known not to be a struct or a tuple. -/
def AV.atom : AV → Bool
  | .agg _ | .tup _ | .top => false
  | _ => true
theorem VR.atom {f : Inj} {v : Value} {a : AV} (h : VR f v a) (ha : a.atom = true) : v.oneCell' = true ∧ v.cells = #[v] ∧ (∀ c, v ≠ .agg c) ∧ (∀ c, v ≠ .tuple c) := by
  cases h <;> simp_all [AV.atom, Value.oneCell', Value.cells]
theorem VR.cells {f : Inj} {v : Value} {a : AV} (h : VR f v a) (ha : a ≠ .top) : VRs f v.cells.toList a.cells := by
  cases h <;> first | (exact absurd rfl ha) | (exact .single (by first | assumption | constructor <;> assumption)) | (simp only [Value.cells, AV.cells]; assumption)

/-! ### Constants -/
def ofAtom : Value → AV
  | .bool b => .bool b
  | .int k n => .int k n
  | .string s => .str (nats s)
  | .pointer none => .nilp
  | .slice none 0 0 => .nilSl
  | .map none => .nilMap
  | .nilFunc => .nilFn
  | .nilIface => .nilIface
  | _ => .top
def ofConst : Value → AV
  | .agg cs => .agg (cs.toList.map ofAtom)
  | .iface t v => .iface t (ofAtom v)
  | v => ofAtom v
theorem VR.ofAtom (f : Inj) (v : Value) : VR f v (ofAtom v) := by
  unfold AI.ofAtom
  split <;> first | exact .top _ | constructor
  rfl
theorem VRs.ofAtoms (f : Inj) : ∀ l : List Value, VRs f l (l.map AI.ofAtom)
  | [] => .nil
  | v :: l => .cons _ _ _ _ (VR.ofAtom f v) (VRs.ofAtoms f l)
theorem VR.ofConst (f : Inj) (v : Value) : VR f v (ofConst v) := by
  unfold AI.ofConst
  split
  · exact .agg _ _ (VRs.ofAtoms f _)
  · exact .iface _ _ _ (VR.ofAtom f _)
  · exact VR.ofAtom f _

/-! ### The abstract heap -/
structure Blk where
  lo : Nat
  hi : Nat
  /-- came in: never written -/
  ro : Bool
  cells : Tr AV
/-- How it stands with a loop over a function: between rounds; in a round; a round has left by a jump. -/
inductive LSt where
  | ready
  | busy
  | ret
  | exit (id : Nat)
/-- A loop over a function: the function that it stands in, its frame, yield's parameters, the assignment, the body. -/
structure ALoop where
  st : LSt
  fn : FuncId
  fr : List AV
  ps : Array Tmp
  asg : Code
  body : Code
/-- What is no cells: a loop over a function; a walk through a string. -/
inductive AObj where
  | loop (L : ALoop)
  | iter (s : List Nat) (pos : Nat)
structure AH where
  m : Tr (Option Blk)
  ob : Tr (Option AObj)
  next : Nat

noncomputable def AH.blk? (h : AH) (id : Nat) : Option Blk := Option.rec (motive := fun _ => Option Blk) none (fun x => x) (h.m.get id)
noncomputable def AH.ob? (h : AH) (id : Nat) : Option AObj := Option.rec (motive := fun _ => Option AObj) none (fun x => x) (h.ob.get id)
noncomputable def AH.putOb (h : AH) (id : Nat) (b : Option AObj) : AH := { m := h.m, ob := h.ob.set b id, next := h.next }
noncomputable def AH.newOb (h : AH) (b : AObj) : AH := { m := h.m, ob := h.ob.set (some b) h.next, next := h.next + 1 }
theorem AH.ob?_putOb (h : AH) (id : Nat) (b : Option AObj) (j : Nat) : (h.putOb id b).ob? j = if j = id then b else h.ob? j := by
  unfold AH.ob? AH.putOb
  simp only [Tr.get_set]
  by_cases hj : j = id
  · rw [if_pos hj, if_pos hj]
  · rw [if_neg hj, if_neg hj]
theorem AH.ob?_newOb (h : AH) (b : AObj) (j : Nat) : (h.newOb b).ob? j = if j = h.next then some b else h.ob? j := by
  unfold AH.ob? AH.newOb
  simp only [Tr.get_set]
  by_cases hj : j = h.next
  · rw [if_pos hj, if_pos hj]
  · rw [if_neg hj, if_neg hj]
theorem AH.blk?_putOb (h : AH) (id : Nat) (b : Option AObj) (j : Nat) : (h.putOb id b).blk? j = h.blk? j := rfl
theorem AH.blk?_newOb (h : AH) (b : AObj) (j : Nat) : (h.newOb b).blk? j = h.blk? j := rfl
noncomputable def AH.put (h : AH) (id : Nat) (b : Option Blk) : AH := { m := h.m.set b id, ob := h.ob, next := h.next }
theorem AH.ob?_put (h : AH) (id : Nat) (b : Option Blk) (j : Nat) : (h.put id b).ob? j = h.ob? j := rfl
theorem AH.blk?_put (h : AH) (id : Nat) (b : Option Blk) (j : Nat) : (h.put id b).blk? j = if j = id then b else h.blk? j := by
  unfold AH.blk? AH.put
  simp only [Tr.get_set]
  by_cases hj : j = id
  · rw [if_pos hj, if_pos hj]
  · rw [if_neg hj, if_neg hj]
noncomputable def Blk.get (b : Blk) (o : Nat) : Option AV :=
  Bool.rec (motive := fun _ => Option AV) none (Bool.rec (motive := fun _ => Option AV) none (b.cells.get o) (Nat.blt o b.hi)) (Nat.ble b.lo o)
theorem Blk.get_eq (b : Blk) (o : Nat) : b.get o = if b.lo ≤ o ∧ o < b.hi then b.cells.get o else none := by
  unfold Blk.get
  by_cases h1 : b.lo ≤ o
  · have e1 : Nat.ble b.lo o = true := Nat.ble_eq.mpr h1
    by_cases h2 : o < b.hi
    · have e2 : Nat.blt o b.hi = true := Nat.blt_eq.mpr h2
      rw [e1, e2, if_pos ⟨h1, h2⟩]
    · have e2 : Nat.blt o b.hi = false := by cases e : Nat.blt o b.hi; rfl; exact absurd (Nat.blt_eq.mp e) h2
      rw [e1, e2, if_neg (fun h => h2 h.2)]
  · have e1 : Nat.ble b.lo o = false := by cases e : Nat.ble b.lo o; rfl; exact absurd (Nat.ble_eq.mp e) h1
    rw [e1, if_neg (fun h => h1 h.1)]
/-- A cell of the abstract heap. -/
noncomputable def AH.cell? (h : AH) (id off : Nat) : Option AV := Option.rec (motive := fun _ => Option AV) none (fun b => b.get off) (h.blk? id)
theorem AH.cell?_eq (h : AH) (id off : Nat) : h.cell? id off = (h.blk? id).bind fun b => b.get off := by
  unfold AH.cell?; cases h.blk? id <;> rfl
/-- Cells from a place on. -/
noncomputable def AH.cells? (h : AH) (id : Nat) (n : Nat) : Nat → Option (List AV) :=
  Nat.rec (motive := fun _ => Nat → Option (List AV)) (fun _ => some [])
    (fun _ ih off => Option.rec (motive := fun _ => Option (List AV)) none (fun v => Option.rec (motive := fun _ => Option (List AV)) none (fun l => some (v :: l)) (ih (off + 1))) (h.cell? id off)) n
theorem AH.cells?_zero (h : AH) (id off : Nat) : h.cells? id 0 off = some [] := rfl
theorem AH.cells?_succ (h : AH) (id n off : Nat) : h.cells? id (n + 1) off = (h.cell? id off).bind fun v => (h.cells? id n (off + 1)).bind fun l => some (v :: l) := by
  show Option.rec (motive := fun _ => Option (List AV)) none (fun v => Option.rec (motive := fun _ => Option (List AV)) none (fun l => some (v :: l)) (h.cells? id n (off + 1))) (h.cell? id off) = _
  cases h.cell? id off
  · rfl
  · cases h.cells? id n (off + 1) <;> rfl
theorem AH.cells?_spec (h : AH) (id : Nat) : ∀ (n off : Nat) (l : List AV), h.cells? id n off = some l → l.length = n ∧ ∀ i a, l[i]? = some a → h.cell? id (off + i) = some a
  | 0, off, l, e => by rw [cells?_zero] at e; injection e with e; subst e; simp
  | n + 1, off, l, e => by
    rw [cells?_succ] at e
    obtain ⟨v, hv, e⟩ := Option.bind_eq_some_iff.mp e
    obtain ⟨l', hl, e⟩ := Option.bind_eq_some_iff.mp e
    injection e with e
    subst e
    obtain ⟨h1, h2⟩ := AH.cells?_spec h id n (off + 1) l' hl
    refine ⟨by simp [h1], fun i a hi => ?_⟩
    cases i with
    | zero => simp at hi; subst hi; exact hv
    | succ i => have := h2 i a (by simpa using hi); rw [← this]; congr 1; omega
/-- Cells put into a trie, from a place on. -/
noncomputable def putCells (l : List AV) : Nat → Tr AV → Tr AV :=
  List.rec (motive := fun _ => Nat → Tr AV → Tr AV) (fun _ t => t) (fun v _ ih i t => ih (i + 1) (t.set v i)) l
theorem putCells_cons (v : AV) (l : List AV) (i : Nat) (t : Tr AV) : putCells (v :: l) i t = putCells l (i + 1) (t.set v i) := rfl
theorem get_putCells : ∀ (l : List AV) (i : Nat) (t : Tr AV) (j : Nat), (putCells l i t).get j = if i ≤ j ∧ j < i + l.length then l[j - i]? else t.get j
  | [], i, t, j => by rw [if_neg (by rintro ⟨a, b⟩; simp at b; omega)]; rfl
  | v :: l, i, t, j => by
    rw [putCells_cons, get_putCells l (i + 1) (t.set v i) j, Tr.get_set]
    by_cases h1 : j = i
    · subst h1; rw [if_neg (by omega), if_pos rfl, if_pos (by simp)]; simp
    · rw [if_neg h1]
      by_cases h2 : i + 1 ≤ j ∧ j < i + 1 + l.length
      · rw [if_pos h2, if_pos (by simp; omega)]
        have : j - i = (j - (i + 1)) + 1 := by omega
        rw [this]; simp
      · rw [if_neg h2, if_neg (by simp; omega)]
/-- A new block. -/
noncomputable def AH.alloc (h : AH) (l : List AV) : AH := { m := h.m.set (some { lo := 0, hi := l.length, ro := false, cells := putCells l 0 .nil }) h.next, ob := h.ob, next := h.next + 1 }
theorem AH.blk?_alloc (h : AH) (l : List AV) (j : Nat) : (h.alloc l).blk? j = if j = h.next then some { lo := 0, hi := l.length, ro := false, cells := putCells l 0 .nil } else h.blk? j := by
  unfold AH.blk? AH.alloc
  simp only [Tr.get_set]
  by_cases hj : j = h.next
  · rw [if_pos hj, if_pos hj]
  · rw [if_neg hj, if_neg hj]
theorem AH.ob?_alloc (h : AH) (l : List AV) (j : Nat) : (h.alloc l).ob? j = h.ob? j := rfl
/-- What calls come to. -/
abbrev ACall := Fn → List AV → AH → Option (AV × AH)
end Go.Proofs.Ytgnacecplaemlaa.AI
