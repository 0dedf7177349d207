/-
  The abstract heap, seen by rows of cells.
-/
import Derived.Test.YtgnacecplaemlaaS0
namespace Go.Proofs.Ytgnacecplaemlaa
open AI

/-- From the cell off on the block has these cells; it may be written. -/
def Row (h : AH) (id off : Nat) (l : List AV) : Prop :=
  id < h.next ∧ ∃ b, h.blk? id = some b ∧ b.ro = false ∧ b.lo ≤ off ∧ off + l.length ≤ b.hi ∧ ∀ i, i < l.length → b.get (off + i) = l[i]?
/-- At most the blocks of F have changed; there may be new ones. -/
def Other (F : Nat → Prop) (h h' : AH) : Prop := h.next ≤ h'.next ∧ ∀ j, j < h.next → ¬ F j → h'.blk? j = h.blk? j
/-- F, and what is new. -/
def Plus (F : Nat → Prop) (h h' : AH) : Nat → Prop := fun j => F j ∨ (h.next ≤ j ∧ j < h'.next)

theorem Other.refl (F : Nat → Prop) (h : AH) : Other F h h := ⟨Nat.le_refl _, fun _ _ _ => rfl⟩
theorem Other.trans {F : Nat → Prop} {a b c : AH} (x : Other F a b) (y : Other F b c) : Other F a c :=
  ⟨Nat.le_trans x.1 y.1, fun j hj hf => (y.2 j (Nat.lt_of_lt_of_le hj x.1) hf).trans (x.2 j hj hf)⟩
theorem Other.mono {F G : Nat → Prop} {a b : AH} (x : Other F a b) (hFG : ∀ j, j < a.next → F j → G j) : Other G a b :=
  ⟨x.1, fun j hj hg => x.2 j hj fun hf => hg (hFG j hj hf)⟩
/-- Behind a first step what is new may be changed too. -/
theorem Other.plus {F : Nat → Prop} {a b c : AH} (x : Other F a b) (y : Other (Plus F a b) b c) : Other F a c :=
  ⟨Nat.le_trans x.1 y.1, fun j hj hf => (y.2 j (Nat.lt_of_lt_of_le hj x.1) (fun h => h.elim hf fun q => absurd q.1 (by omega))).trans (x.2 j hj hf)⟩

theorem Row.keep {h h' : AH} {id off : Nat} {l : List AV} {F : Nat → Prop} (R : Row h id off l) (o : Other F h h') (hf : ¬ F id) : Row h' id off l := by
  obtain ⟨hlt, b, hb, r⟩ := R
  exact ⟨Nat.lt_of_lt_of_le hlt o.1, b, (o.2 id hlt hf).trans hb, r⟩
theorem Row.cell {h : AH} {id off : Nat} {l : List AV} (R : Row h id off l) {i : Nat} {v : AV} (hi : l[i]? = some v) : h.cell? id (off + i) = some v := by
  obtain ⟨_, b, hb, _, _, _, hg⟩ := R
  rw [AH.cell?_eq, hb]
  show b.get (off + i) = some v
  rw [hg i (List.getElem?_eq_some_iff.mp hi).1, hi]
theorem Row.cells {h : AH} {id off : Nat} {l : List AV} (R : Row h id off l) : ∀ (m i : Nat) (p : List AV), p.length = m → l.drop i = p ++ l.drop (i + m) → i + m ≤ l.length → h.cells? id m (off + i) = some p
  | 0, i, p, hp, _, _ => by rw [AH.cells?_zero, List.eq_nil_of_length_eq_zero hp]
  | m + 1, i, p, hp, hd, hle => by
    cases p with
    | nil => simp at hp
    | cons v p =>
      have hv : l[i]? = some v := by
        have := congrArg (fun x => x[0]?) hd
        simpa using this
      have hd' : l.drop (i + 1) = p ++ l.drop (i + 1 + m) := by
        have := congrArg List.tail hd
        simp only [List.cons_append, List.tail_cons, List.tail_drop] at this
        rw [this]; congr 2; omega
      rw [AH.cells?_succ, R.cell hv, Nat.add_assoc, R.cells m (i + 1) p (by simpa using hp) hd' (by omega)]
      rfl
theorem Row.all {h : AH} {id off : Nat} {l : List AV} (R : Row h id off l) : h.cells? id l.length off = some l := by
  have := R.cells l.length 0 l rfl (by simp) (by omega)
  simpa using this
theorem Row.part {h : AH} {id off : Nat} {l : List AV} (R : Row h id off l) {a p c : List AV} (e : l = a ++ p ++ c) : Row h id (off + a.length) p := by
  obtain ⟨hlt, b, hb, hro, hlo, hhi, hg⟩ := R
  subst e
  refine ⟨hlt, b, hb, hro, by omega, by simp at hhi; omega, fun i hi => ?_⟩
  have := hg (a.length + i) (by simp; omega)
  rw [Nat.add_assoc, this, List.append_assoc, List.getElem?_append_right (by omega)]
  rw [show a.length + i - a.length = i by omega, List.getElem?_append_left hi]
theorem Row.write {h : AH} {id off : Nat} {a p c : List AV} (R : Row h id off (a ++ p ++ c)) (p' : List AV) (hp : p'.length = p.length) :
    ∃ h', h.write id (off + a.length) p' = some h' ∧ h'.next = h.next ∧ Row h' id off (a ++ p' ++ c) ∧ Other (fun j => j = id) h h' := by
  obtain ⟨hlt, b, hb, hro, hlo, hhi, hg⟩ := R
  simp only [List.length_append] at hhi
  have hw : h.write id (off + a.length) p' = some (h.put id (some { b with cells := putCells p' (off + a.length) b.cells })) := by
    unfold AH.write
    rw [hb]
    have e1 : Nat.ble b.lo (off + a.length) = true := Nat.ble_eq.mpr (by omega)
    have e2 : Nat.ble (off + a.length + p'.length) b.hi = true := Nat.ble_eq.mpr (by omega)
    simp [hro, e1, e2]
  refine ⟨_, hw, rfl, ⟨hlt, { b with cells := putCells p' (off + a.length) b.cells }, by rw [AH.blk?_put, if_pos rfl], hro, hlo, by simp only [List.length_append]; omega, fun i hi => ?_⟩, Nat.le_refl _, fun j _ hj => by rw [AH.blk?_put, if_neg hj]⟩
  simp only [List.length_append] at hi
  rw [Blk.get_eq]
  have hin : b.lo ≤ off + i ∧ off + i < b.hi := by omega
  show (if b.lo ≤ off + i ∧ off + i < b.hi then (putCells p' (off + a.length) b.cells).get (off + i) else none) = _
  rw [if_pos hin, get_putCells]
  have h0 := hg i (by simp only [List.length_append]; omega)
  rw [Blk.get_eq, if_pos hin] at h0
  by_cases h1 : off + a.length ≤ off + i ∧ off + i < off + a.length + p'.length
  · rw [if_pos h1, List.append_assoc, List.getElem?_append_right (by omega), List.getElem?_append_left (by omega)]
    congr 1; omega
  · rw [if_neg h1, h0]
    by_cases h2 : i < a.length
    · rw [List.append_assoc, List.getElem?_append_left h2, List.append_assoc, List.getElem?_append_left h2]
    · rw [List.getElem?_append_right (by simp; omega), List.getElem?_append_right (by simp; omega)]
      congr 1; simp; omega
theorem Row.new (h : AH) (l : List AV) : Row (h.alloc l) h.next 0 l := by
  refine ⟨Nat.lt_succ_self _, _, by rw [AH.blk?_alloc, if_pos rfl], rfl, Nat.zero_le _, by simp, fun i hi => ?_⟩
  rw [Blk.get_eq]
  rw [if_pos ⟨Nat.zero_le _, by simpa using hi⟩, get_putCells, if_pos ⟨Nat.zero_le _, by simpa using hi⟩]
  congr 1; omega
theorem Other.alloc (F : Nat → Prop) (h : AH) (l : List AV) : Other F h (h.alloc l) :=
  ⟨Nat.le_succ _, fun j hj _ => by rw [AH.blk?_alloc, if_neg (by omega)]⟩
theorem AH.next_alloc (h : AH) (l : List AV) : (h.alloc l).next = h.next + 1 := rfl
/-- An append that takes the row's block away and lays a new one. -/
theorem Row.move {h : AH} {id off len n es : Nat} {l new : List AV} (R : Row h id off l) (hl : l.length = len * es) (hn : new.length = n * es) (ha : atoms new = true) :
    ∃ h', aappend.amove h id off len n es new = some (.sl h.next off (len + n) es none, h') ∧ h'.next = h.next + 1 ∧ Row h' h.next off (l ++ new) ∧ Other (fun j => j = id) h h' := by
  obtain ⟨hlt, b, hb, hro, hlo, hhi, hg⟩ := R
  have e0 : ∀ (B : Blk) j, AH.blk? { m := (h.put id none).m.set (some B) h.next, next := h.next + 1 } j = if j = h.next then some B else if j = id then none else h.blk? j := by
    intro B j
    have := AH.blk?_put (h.put id none) h.next (some B) j
    rw [AH.blk?_put h id none j] at this
    exact this
  refine ⟨{ m := (h.put id none).m.set (some { lo := off, hi := off + (len + n) * es, ro := false, cells := putCells new (off + len * es) b.cells }) h.next, next := h.next + 1 }, ?_, rfl, ⟨Nat.lt_succ_self _, { lo := off, hi := off + (len + n) * es, ro := false, cells := putCells new (off + len * es) b.cells }, by rw [e0, if_pos rfl], rfl, Nat.le_refl _, by simp [hl, hn, Nat.add_mul], fun i hi => ?_⟩, Nat.le_succ _, fun j hj hne => by rw [e0, if_neg (by omega), if_neg hne]⟩
  · unfold aappend.amove
    rw [hb]
    simp [hro, ha]
  · simp only [List.length_append, hl, hn] at hi
    rw [Blk.get_eq, if_pos ⟨by show off ≤ off + i; omega, by show off + i < off + (len + n) * es; rw [Nat.add_mul]; omega⟩]
    show (putCells new (off + len * es) b.cells).get (off + i) = _
    rw [get_putCells]
    by_cases h1 : off + len * es ≤ off + i ∧ off + i < off + len * es + new.length
    · rw [if_pos h1, List.getElem?_append_right (by omega)]
      congr 1; omega
    · rw [if_neg h1]
      have h2 : i < l.length := by omega
      have h0 := hg i h2
      rw [Blk.get_eq, if_pos (by omega)] at h0
      rw [h0, List.getElem?_append_left h2]
end Go.Proofs.Ytgnacecplaemlaa
