/-
  Slices: reading them, making them.
-/
import Derived.Test.YtgnacecplaemlaaW1
namespace Go.Proofs.Ytgnacecplaemlaa
open AI
section
variable {h : AH} {s : AV} {es : Nat} {L : List (List AV)} {t e : TypeId}
theorem Sl.alenOf (S : Sl h s es L) : alenOf s = some L.length := by
  rcases S.2 with ⟨rfl, rfl | ⟨id, off, c, rfl, _⟩⟩ | ⟨id, off, c, rfl, _⟩ <;> rfl
theorem Sl.alen (S : Sl h s es L) (ht : Try.prog.underlying t = some (.slice e)) : alen Try.prog t s = some L.length := by
  unfold AI.alen
  rw [ht]
  rcases S.2 with ⟨rfl, rfl | ⟨id, off, c, rfl, _⟩⟩ | ⟨id, off, c, rfl, _⟩ <;> rfl
theorem Sl.flat_len : ∀ {L : List (List AV)}, (∀ x ∈ L, x.length = es) → L.flatten.length = L.length * es
  | [], _ => by simp
  | x :: L, hL => by
    have := Sl.flat_len (L := L) (fun y hy => hL y (by simp [hy]))
    simp only [List.flatten_cons, List.length_append, List.length_cons, this, hL x (by simp), Nat.succ_mul]
    omega
theorem Sl.first (S : Sl h s es L) : afirst h es s = some L.flatten := by
  rcases S.2 with ⟨rfl, rfl | ⟨id, off, c, rfl, _⟩⟩ | ⟨id, off, c, rfl, H⟩
  · rfl
  · simp [afirst, AH.cells?_zero]
  · simp only [afirst, if_true]
    have := H.cells
    rw [Sl.flat_len S.1] at this
    exact this
theorem Sl.atom (S : Sl h s es L) : s.atom = true := by
  rcases S.2 with ⟨rfl, rfl | ⟨id, off, c, rfl, _⟩⟩ | ⟨id, off, c, rfl, _⟩ <;> rfl
theorem Sl.old (S : Sl h s es L) : oldAV h.next s = true := by
  rcases S.2 with ⟨rfl, rfl | ⟨id, off, c, rfl, hl⟩⟩ | ⟨id, off, c, rfl, H⟩
  · rfl
  · exact Nat.blt_eq.mpr hl
  · exact Nat.blt_eq.mpr H.1
theorem Sl.notTop (S : Sl h s es L) : s.isTop = false := by
  rcases S.2 with ⟨rfl, rfl | ⟨id, off, c, rfl, _⟩⟩ | ⟨id, off, c, rfl, _⟩ <;> rfl
theorem flatten_split {L : List (List AV)} {i : Nat} {x : List AV} (hi : L[i]? = some x) (hL : ∀ x ∈ L, x.length = es) : ∃ a c, L.flatten = a ++ x ++ c ∧ a.length = i * es := by
  obtain ⟨h1, h2⟩ := List.getElem?_eq_some_iff.mp hi
  refine ⟨(L.take i).flatten, (L.drop (i + 1)).flatten, ?_, ?_⟩
  · have : L = L.take i ++ ([x] ++ L.drop (i + 1)) := by
      rw [← h2, List.singleton_append, List.getElem_cons_drop, List.take_append_drop]
    conv => lhs; rw [this]
    simp
  · rw [Sl.flat_len (fun y hy => hL y (List.mem_of_mem_take hy)), List.length_take, Nat.min_eq_left (by omega)]
theorem Sl.ix (S : Sl h s es L) (ht : Try.prog.underlying t = some (.slice e)) (hz : asize Try.prog e = some es) {i : Nat} {x : List AV} (hi : L[i]? = some x) :
    ∃ id off, (∀ k, aindexAt Try.prog t s (.int k (i : Int)) = some (.ptr id off)) ∧ Has h id off x := by
  have hlt : i < L.length := (List.getElem?_eq_some_iff.mp hi).1
  rcases S.2 with ⟨rfl, _⟩ | ⟨id, off, c, rfl, H⟩
  · simp at hlt
  · obtain ⟨a, d, e1, e2⟩ := flatten_split hi S.1
    rw [e1] at H
    refine ⟨id, off + i * es, fun k => ?_, by rw [← e2]; exact H.part⟩
    unfold aindexAt
    rw [ht]
    simp only [hz]
    rw [if_pos ⟨trivial, by omega, by omega⟩, Int.toNat_natCast]
theorem Sl.of_has {id off : Nat} {c : Option Nat} (hL : ∀ x ∈ L, x.length = es) (H : Has h id off L.flatten) : Sl h (.sl id off L.length es c) es L := ⟨hL, .inr ⟨id, off, c, rfl, H⟩⟩
theorem Sl.nil : Sl h .nilSl es [] := ⟨by simp, .inl ⟨rfl, .inl rfl⟩⟩
end

/-! ### Appending to what is one's own -/
/-- A slice of one's own: its block is one of those from N on, and may be written. -/
def Own (h : AH) (s : AV) (es : Nat) (l : List AV) (N : Nat) : Prop :=
  (s = .nilSl ∧ l = []) ∨ ∃ id len c, s = .sl id 0 len es c ∧ l.length = len * es ∧ N ≤ id ∧ Row h id 0 l
/-- An element's type, as the library's append asks of it. -/
structure Elem (e : TypeId) (es nb : Nat) : Prop where
  info : ∃ i z, Try.prog.info? e = some i ∧ i.zero = some z ∧ i.size = es ∧ i.bytes = nb ∧ z.cells.size = es
  es0 : es ≠ 0
  nb0 : nb ≠ 0
theorem Elem.of {e : TypeId} {es nb : Nat} (h : (Try.prog.info? e).map (fun i => (i.size, i.bytes, i.zero.map (·.cells.size))) = some (es, nb, some es)) (h1 : es ≠ 0) (h2 : nb ≠ 0) : Elem e es nb := by
  refine ⟨?_, h1, h2⟩
  cases hi : Try.prog.info? e with
  | none => rw [hi] at h; simp at h
  | some i =>
    rw [hi] at h
    simp only [Option.map_some, Option.some.injEq, Prod.mk.injEq] at h
    cases hz : i.zero with
    | none => rw [hz] at h; simp at h
    | some z => rw [hz] at h; simp at h; exact ⟨i, z, rfl, hz, h.1, h.2.1, h.2.2⟩
theorem Own.quiet {h h' : AH} {s : AV} {es N : Nat} {l : List AV} (o : Own h s es l N) (q : Quiet h h') : Own h' s es l N :=
  o.imp_right fun ⟨id, len, c, e, hl, hn, R⟩ => ⟨id, len, c, e, hl, hn, R.keep q (fun x => x)⟩
theorem Own.nil (h : AH) (es N : Nat) : Own h .nilSl es [] N := .inl ⟨rfl, rfl⟩
theorem Own.keep {h h' : AH} {s : AV} {es N : Nat} {l : List AV} {F : Nat → Prop} (o : Own h s es l N) (q : Other F h h') (hF : ∀ id off len c, s = .sl id off len es c → ¬ F id) : Own h' s es l N := by
  rcases o with o | ⟨id, len, c, rfl, hl, hn, R⟩
  · exact .inl o
  · exact .inr ⟨id, len, c, rfl, hl, hn, R.keep q (hF _ _ _ _ rfl)⟩
theorem Own.atom {h : AH} {s : AV} {es N : Nat} {l : List AV} (o : Own h s es l N) : s.atom = true := by
  rcases o with ⟨rfl, _⟩ | ⟨id, len, c, rfl, _⟩ <;> rfl
theorem Own.notTop {h : AH} {s : AV} {es N : Nat} {l : List AV} (o : Own h s es l N) : s.isTop = false := by
  rcases o with ⟨rfl, _⟩ | ⟨id, len, c, rfl, _⟩ <;> rfl
theorem Own.sl {h : AH} {s : AV} {es N : Nat} {L : List (List AV)} (o : Own h s es L.flatten N) (hL : ∀ x ∈ L, x.length = es) (he : es ≠ 0) : Sl h s es L := by
  rcases o with ⟨rfl, e⟩ | ⟨id, len, c, rfl, hl, hn, R⟩
  · have : L = [] := by
      cases L with
      | nil => rfl
      | cons x L =>
        have h1 := hL x (by simp)
        simp only [List.flatten_cons, List.append_eq_nil_iff] at e
        rw [e.1] at h1
        exact absurd h1.symm he
    subst this
    exact Sl.nil
  · rw [Sl.flat_len hL] at hl
    have : L.length = len := Nat.eq_of_mul_eq_mul_right (Nat.pos_of_ne_zero he) hl
    subst this
    exact Sl.of_has hL R.has
/-- The block of a slice. -/
def SlF (s : AV) : Nat → Prop := fun j => ∃ off len es c, s = .sl j off len es c
theorem own_app {h : AH} {s x : AV} {es nb N n : Nat} {l new : List AV} {t t1 e : TypeId} {d1 : TypeDesc} (o : Own h s es l N) (hN : N ≤ h.next) (E : Elem e es nb) (ht : Try.prog.underlying t = some (.slice e))
    (ht1 : Try.prog.underlying t1 = some d1) (hd1 : isSeq d1 = true) (hn : alenOf x = some n) (hf : afirst h es x = some new) (hnew : new.length = n * es) (ha : atoms new = true) (hb : (l.length + new.length) * nb ≤ 140737488355328) :
    ∃ s' h', aappend Try.prog t t1 s x h = some (s', h') ∧ Own h' s' es (l ++ new) N ∧ Other (fun j => N ≤ j) h h' ∧ (∀ id off len c, s' = .sl id off len es c → (∃ off len c, s = .sl id off len es c) ∨ h.next ≤ id) ∧ Other (SlF s) h h' := by
  obtain ⟨i, z, q1, q2, q3, q4, q5⟩ := E.info
  have e1 : decide (es = 0) = false := decide_eq_false E.es0
  have e2 : decide (nb = 0) = false := decide_eq_false E.nb0
  have open_nil : aappend Try.prog t t1 .nilSl x h = (if n = 0 then some (.nilSl, h) else if Nat.blt 140737488355328 (n * nb) then none else some (.sl h.next 0 n es none, h.alloc new)) := by
    unfold aappend
    rw [ht, ht1]
    cases d1 <;> simp [isSeq] at hd1 <;> simp only [isSeq, q1, q2, hn, Bool.not_true, Bool.false_eq_true, if_false, q5, q3, bne_self_eq_false, hf, q4, e1, e2, Bool.or_self]
  have open_sl : ∀ id off len c old, h.cells? id (len * es) off = some old → aappend Try.prog t t1 (.sl id off len es c) x h = (if n = 0 then some (.sl id off len es c, h) else if Nat.blt 140737488355328 ((len + n) * nb) then none else
      match c with
      | some k => if Nat.blt k (len + n) then some (.sl h.next 0 (len + n) es none, h.alloc (old ++ new)) else aappend.amove h id off len n es new
      | none => aappend.amove h id off len n es new) := fun id off len c old hold => by
    unfold aappend
    rw [ht, ht1]
    cases d1 <;> simp [isSeq] at hd1 <;> simp only [isSeq, q1, q2, hn, Bool.not_true, Bool.false_eq_true, if_false, q5, q3, bne_self_eq_false, hf, q4, e1, e2, Bool.or_self, ne_eq, not_true_eq_false, hold] <;> (cases c <;> rfl)
  rcases o with ⟨rfl, rfl⟩ | ⟨id, len, c, rfl, hl, hle, R⟩
  · rw [open_nil]
    by_cases hz : n = 0
    · subst hz
      rw [if_pos rfl]
      have : new = [] := List.eq_nil_of_length_eq_zero (by simpa using hnew)
      subst this
      exact ⟨_, _, rfl, .inl ⟨rfl, rfl⟩, Other.refl _ _, fun _ _ _ _ e => (by cases e), Other.refl _ _⟩
    · have hblt : Nat.blt 140737488355328 (n * nb) = false := by
        cases hx : Nat.blt 140737488355328 (n * nb) with
        | false => rfl
        | true =>
          have h1 := Nat.blt_eq.mp hx
          have h2 : n ≤ new.length := by rw [hnew]; exact Nat.le_mul_of_pos_right n (Nat.pos_of_ne_zero E.es0)
          have h3 := Nat.mul_le_mul_right nb h2
          simp only [List.length_nil, Nat.zero_add] at hb
          omega
      rw [if_neg hz, hblt]
      simp only [Bool.false_eq_true, if_false]
      exact ⟨_, _, rfl, .inr ⟨h.next, n, none, rfl, by simpa using hnew, hN, by simpa using Row.new h new⟩, Other.alloc _ _ _, fun id off len c e => (by injection e with e; exact .inr (Nat.le_of_eq e)), Other.alloc _ _ _⟩
  · have hall := R.all
    rw [hl] at hall
    rw [open_sl _ _ _ _ _ hall]
    by_cases hz : n = 0
    · subst hz
      rw [if_pos rfl]
      have : new = [] := List.eq_nil_of_length_eq_zero (by simpa using hnew)
      subst this
      exact ⟨_, _, rfl, .inr ⟨id, len, c, rfl, by simpa using hl, hle, by simpa using R⟩, Other.refl _ _, fun id off len c e => (by injection e with e; exact .inl ⟨_, _, _, by rw [e]⟩), Other.refl _ _⟩
    · have hblt : Nat.blt 140737488355328 ((len + n) * nb) = false := by
        cases hx : Nat.blt 140737488355328 ((len + n) * nb) with
        | false => rfl
        | true =>
          have h1 := Nat.blt_eq.mp hx
          have h2 : len + n ≤ l.length + new.length := by rw [hnew, hl, ← Nat.add_mul]; exact Nat.le_mul_of_pos_right _ (Nat.pos_of_ne_zero E.es0)
          have h3 := Nat.mul_le_mul_right nb h2
          omega
      rw [if_neg hz, hblt]
      simp only [Bool.false_eq_true, if_false]
      have mv : ∃ s' h', aappend.amove h id 0 len n es new = some (s', h') ∧ Own h' s' es (l ++ new) N ∧ Other (fun j => N ≤ j) h h' ∧ (∀ id' off len' c', s' = .sl id' off len' es c' → (∃ off1 len1 c1, AV.sl id 0 len es c = .sl id' off1 len1 es c1) ∨ h.next ≤ id') ∧ Other (SlF (.sl id 0 len es c)) h h' := by
        obtain ⟨h1, e1, e2, e3, e4⟩ := Row.move R hl hnew ha
        refine ⟨_, _, e1, .inr ⟨h.next, len + n, none, rfl, by simp [hl, hnew, Nat.add_mul], hN, by simpa using e3⟩, e4.mono fun j _ e => (by subst e; exact hle), fun id' off len' c' e => (by injection e with e; exact .inr (Nat.le_of_eq e)), e4.mono fun j _ e => (by subst e; exact ⟨_, _, _, _, rfl⟩)⟩
      have mk : Own (h.alloc (l ++ new)) (.sl h.next 0 (len + n) es none) es (l ++ new) N := .inr ⟨h.next, len + n, none, rfl, by simp [hl, hnew, Nat.add_mul], hN, Row.new h _⟩
      cases c with
      | none => simp only; exact mv
      | some k =>
        simp only
        split
        · exact ⟨_, _, rfl, mk, Other.alloc _ _ _, fun id' off len' c' e => (by injection e with e; exact .inr (Nat.le_of_eq e)), Other.alloc _ _ _⟩
        · exact mv
/-- Handing it back. -/
theorem nrm_own' {h0 h' : AH} {s : AV} {es : Nat} {L : List (List AV)} (o : Own h' s es L.flatten h0.next) (q : Quiet h0 h') (hL : ∀ x ∈ L, x.length = es) (he : es ≠ 0) (hold : ∀ a ∈ L.flatten, oldAV h0.next a = true) :
    ∃ s2 h2, nrm h0 (some (s, h')) = some (s2, h2) ∧ Sl h2 s2 es L ∧ Quiet h0 h2 ∧ Own h2 s2 es L.flatten h0.next := by
  rcases o with ⟨rfl, e⟩ | ⟨id, len, c, rfl, hl, hn, R⟩
  · have : L = [] := by
      cases L with
      | nil => rfl
      | cons x L =>
        have h1 := hL x (by simp)
        simp only [List.flatten_cons, List.append_eq_nil_iff] at e
        rw [e.1] at h1
        exact absurd h1.symm he
    subst this
    exact ⟨_, _, nrm_flat q rfl, Sl.nil, Other.refl _ _, Own.nil _ _ _⟩
  · rw [Sl.flat_len hL] at hl
    have : L.length = len := Nat.eq_of_mul_eq_mul_right (Nat.pos_of_ne_zero he) hl
    subst this
    have hall := R.all
    rw [Sl.flat_len hL] at hall
    obtain ⟨_, b, hb, hro, hlo, hhi, _⟩ := R
    rw [Sl.flat_len hL] at hhi
    exact ⟨_, _, nrm_of ⟨q, .inr ⟨id, 0, L.length, es, c, b, L.flatten, rfl, hn, hb, hro, hlo, hhi, hall, hold, rfl, rfl⟩⟩, Sl.of_has hL (Has.new h0 _), Other.alloc _ _ _,
      .inr ⟨h0.next, L.length, none, rfl, Sl.flat_len hL, Nat.le_refl _, Row.new h0 _⟩⟩
theorem nrm_own {h0 h' : AH} {s : AV} {es : Nat} {L : List (List AV)} (o : Own h' s es L.flatten h0.next) (q : Quiet h0 h') (hL : ∀ x ∈ L, x.length = es) (he : es ≠ 0) (hold : ∀ a ∈ L.flatten, oldAV h0.next a = true) :
    ∃ s2 h2, nrm h0 (some (s, h')) = some (s2, h2) ∧ Sl h2 s2 es L ∧ Quiet h0 h2 := by
  obtain ⟨s2, h2, g1, g2, g3, _⟩ := nrm_own' o q hL he hold
  exact ⟨s2, h2, g1, g2, g3⟩
end Go.Proofs.Ytgnacecplaemlaa
