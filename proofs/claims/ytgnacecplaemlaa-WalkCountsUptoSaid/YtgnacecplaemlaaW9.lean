/-
  A variable that holds a slice of one's own; boxes that are filled; part.Cmds.
-/
import Derived.Test.YtgnacecplaemlaaW8
import Derived.Test.YtgnacecplaemlaaH3
namespace Go.Proofs.Ytgnacecplaemlaa
open AI
set_option linter.unusedSimpArgs false
theorem stV_agg {t : TypeId} {n : Nat} {l : List AV} (hz : asize Try.prog t = some n) (hl : l.length = n) (ha : atoms l = true) (id off : Nat) (h : AH) : stV Try.prog t (.ptr id off) (.agg l) h = (h.write id off l).map fun h' => (.tup [], h') := by
  unfold stV
  simp only [hz]
  rw [if_neg (by simp [AV.isTop, AV.cells, hl, ha])]
  rfl
theorem stV_one {t : TypeId} {v : AV} (hz : asize Try.prog t = some 1) (hv : v.atom = true) (id off : Nat) (h : AH) : stV Try.prog t (.ptr id off) v h = (h.write id off [v]).map fun h' => (.tup [], h') := by
  have h1 : v.isTop = false := by cases v <;> first | rfl | simp [AV.atom] at hv
  have h2 : v.cells = [v] := by cases v <;> first | rfl | simp [AV.atom] at hv
  unfold stV
  simp only [hz]
  rw [if_neg (by simp [h1, h2, atoms, hv]), h2]
theorem new3 (h : AH) : newV Try.prog 3 h = some (.ptr h.next 0, h.alloc [.int .i64 0]) := by kernel_rfl
theorem new40 (h : AH) : newV Try.prog 40 h = some (.ptr h.next 0, h.alloc [.nilSl]) := by kernel_rfl
theorem new44 (h : AH) : newV Try.prog 44 h = some (.ptr h.next 0, h.alloc [.nilSl]) := by kernel_rfl
theorem new47 (h : AH) : newV Try.prog 47 h = some (.ptr h.next 0, h.alloc [.nilSl]) := by kernel_rfl
theorem new89 (h : AH) : newV Try.prog 89 h = some (.ptr h.next 0, h.alloc [.nilSl]) := by kernel_rfl
theorem new60 (h : AH) : newV Try.prog 60 h = some (.ptr h.next 0, h.alloc [.nilSl]) := by kernel_rfl
theorem new73 (h : AH) : newV Try.prog 73 h = some (.ptr h.next 0, h.alloc [.str [], .int .i64 0, .nilSl, .str []]) := by kernel_rfl
theorem new78 (h : AH) : newV Try.prog 78 h = some (.ptr h.next 0, h.alloc [.int .i64 0, .str [], .str [], .nilSl, .nilSl]) := by kernel_rfl
theorem new49 (h : AH) : newV Try.prog 49 h = some (.ptr h.next 0, h.alloc [.int .i64 0, .str [], .bool false, .bool false, .nilSl, .nilSl, .nilSl, .nilSl, .nilSl, .nilSl]) := by kernel_rfl
theorem new76 (h : AH) : newV Try.prog 76 h = some (.ptr h.next 0, h.alloc [.nilSl, .int .i64 0, .str [], .bool false, .bool false, .nilSl, .nilSl, .nilSl, .nilSl, .nilSl, .nilSl]) := by kernel_rfl
/-- A new variable, and what is put into it. -/
theorem fill (h : AH) (z l : List AV) (hl : l.length = z.length) : ∃ h2, (h.alloc z).write h.next 0 l = some h2 ∧ Row h2 h.next 0 l ∧ Quiet h h2 ∧ h2.next = h.next + 1 := by
  have R := Row.new h z
  have R' : Row (h.alloc z) h.next 0 ([] ++ z ++ []) := by simpa using R
  obtain ⟨h2, w, n2, R2, O2⟩ := Row.write R' l hl
  refine ⟨h2, by simpa using w, by simpa using R2, (Other.alloc (fun _ => False) h z).plus O2 (fun j hj => by subst hj; exact .inr (Nat.le_refl _)), n2⟩

theorem at_int (k : IntKind) (n : Int) : (AV.int k n).atom = true := rfl
theorem at_str (s : List Nat) : (AV.str s).atom = true := rfl
theorem at_bool (b : Bool) : (AV.bool b).atom = true := rfl
theorem Rdr.atoms {h : AH} {r : Rdr} (hv : r.ok h) : AI.atoms r.cells = true := by
  cases r; simp only [Rdr.ok] at hv; simp only [Rdr.cells, AI.atoms, at_int, at_str, hv.1.atom, Bool.and_self]
theorem Pt.atoms {h : AH} {p : Pt} (hv : p.ok h) : AI.atoms p.cells = true := by
  cases p; simp only [Pt.ok] at hv; simp only [Pt.cells, AI.atoms, at_int, at_str, hv.1.atom, hv.2.2.1.atom, Bool.and_self]
theorem Wd.atoms {h : AH} {w : Wd} (hv : w.ok h) : AI.atoms w.cells = true := by
  cases w; simp only [Wd.ok] at hv; simp only [Wd.cells, AI.atoms, hv.1.atom, Bool.and_self]
theorem Nd.atoms {h : AH} {n : Nd} (hv : n.ok h) : AI.atoms n.cells = true := by
  cases n; simp only [Nd.ok] at hv
  obtain ⟨v1, ⟨v2, _⟩, ⟨v3, _⟩, ⟨v4, _⟩, ⟨v5, _⟩, v6, _⟩ := hv
  simp only [Nd.cells, AI.atoms, at_int, at_str, at_bool, v1.atom, v2.atom, v3.atom, v4.atom, v5.atom, v6.atom, Bool.and_self]
theorem Am.atoms {h : AH} {m : Am} (hv : m.ok h) : AI.atoms m.cells = true := by
  cases m; simp only [Am.ok] at hv; simp only [Am.cells, AI.atoms, hv.1.atom, Nd.atoms hv.2.2, Bool.and_self]

/-- A variable, and the slice of one's own that it holds. -/
structure Out (h : AH) (p : Nat) (t : AV) (es : Nat) (l : List AV) (N : Nat) : Prop where
  row : Row h p 0 [t]
  own : Own h t es l N
  le : N ≤ p
  ne : ∀ id off len c, t = .sl id off len es c → id ≠ p
theorem Out.cell {h : AH} {p es N : Nat} {t : AV} {l : List AV} (o : Out h p t es l N) : h.cell? p 0 = some t := o.row.cell (i := 0) rfl
theorem Out.quiet {h h' : AH} {p es N : Nat} {t : AV} {l : List AV} (o : Out h p t es l N) (q : Quiet h h') : Out h' p t es l N := ⟨o.row.keep q (fun x => x), o.own.quiet q, o.le, o.ne⟩
/-- The blocks that it stands on. -/
def OutF (p : Nat) (t : AV) : Nat → Prop := fun j => j = p ∨ ∃ off len es c, t = .sl j off len es c
theorem Out.keep {h h' : AH} {p es N : Nat} {t : AV} {l : List AV} {F : Nat → Prop} (o : Out h p t es l N) (q : Other F h h') (hF : ∀ j, OutF p t j → ¬ F j) : Out h' p t es l N :=
  ⟨o.row.keep q (hF _ (.inl rfl)), o.own.keep q (fun _ off len c e => hF _ (.inr ⟨off, len, es, c, e⟩)), o.le, o.ne⟩
theorem Out.ge {h : AH} {p es N : Nat} {t : AV} {l : List AV} (o : Out h p t es l N) : ∀ j, OutF p t j → N ≤ j := by
  rintro j (rfl | ⟨off, len, es', c, rfl⟩)
  · exact o.le
  · rcases o.own with ⟨e, _⟩ | ⟨_, len', c', e, _, hn, _⟩
    · cases e
    · injection e with e1; subst e1; exact hn
theorem Out.lt {h : AH} {p es N : Nat} {t : AV} {l : List AV} (o : Out h p t es l N) : ∀ j, OutF p t j → j < h.next := by
  rintro j (rfl | ⟨off, len, es', c, rfl⟩)
  · exact o.row.1
  · rcases o.own with ⟨e, _⟩ | ⟨id, len', c', e, _, _, R⟩
    · cases e
    · injection e with e1; subst e1; exact R.1
/-- What has turned between: its blocks; where it stands now. -/
structure OS (h h' : AH) (p : Nat) (tv t : AV) : Prop where
  oth : Other (OutF p tv) h h'
  fp : ∀ j, OutF p t j → OutF p tv j ∨ h.next ≤ j
theorem OS.refl (h : AH) (p : Nat) (t : AV) : OS h h p t t := ⟨Other.refl _ _, fun _ hj => .inl hj⟩
theorem OS.trans {h h' h'' : AH} {p : Nat} {a b c : AV} (x : OS h h' p a b) (y : OS h' h'' p b c) : OS h h'' p a c :=
  ⟨x.oth.plus y.oth x.fp, fun j hj => (y.fp j hj).elim (x.fp j) fun h => .inr (Nat.le_trans x.oth.next h)⟩
theorem OS.of_quiet {h h' : AH} {p : Nat} (t : AV) (q : Quiet h h') : OS h h' p t t := ⟨q.any, fun _ hj => .inl hj⟩
theorem OS.base {hB h h' : AH} {p : Nat} {a b : AV} (x : OS h h' p a b) (q : Quiet hB h) (ha : ∀ j, OutF p a j → hB.next ≤ j) : Quiet hB h' := q.plus x.oth fun j hj => .inr (ha j hj)
/-- More is put behind what it holds. -/
theorem out_app {h : AH} {p : Nat} {tv x : AV} {es nb N n : Nat} {l new : List AV} {t t1 e : TypeId} {d1 : TypeDesc} (o : Out h p tv es l N) (hN : N ≤ h.next) (E : Elem e es nb) (ht : Try.prog.underlying t = some (.slice e))
    (ht1 : Try.prog.underlying t1 = some d1) (hd1 : isSeq d1 = true) (hn : alenOf x = some n) (hf : afirst h es x = some new) (hnew : new.length = n * es) (ha : atoms new = true) (hb : (l.length + new.length) * nb ≤ 140737488355328) :
    ∃ s' h1 h2, aappend Try.prog t t1 tv x h = some (s', h1) ∧ h1.write p 0 [s'] = some h2 ∧ s'.atom = true ∧ Out h2 p s' es (l ++ new) N ∧ OS h h2 p tv s' := by
  obtain ⟨s', h1, a1, a2, _, a4, a3⟩ := own_app o.own hN E ht ht1 hd1 hn hf hnew ha hb
  have hnp : ¬ SlF tv p := by
    rintro ⟨off, len, es', c, rfl⟩
    rcases o.own with ⟨e, _⟩ | ⟨id, len', c', e, _, _, _⟩
    · cases e
    · injection e with e1 e2 e3 e4 e5
      subst e4
      exact o.ne _ _ _ _ rfl rfl
  have R1 : Row h1 p 0 ([] ++ [tv] ++ []) := by simpa using o.row.keep a3 hnp
  obtain ⟨h2, w, n2, R2, O2⟩ := Row.write R1 [s'] rfl
  have hne : ∀ id off len c, s' = .sl id off len es c → id ≠ p := fun id off len c e => by
    rcases a4 id off len c e with ⟨off', len', c', e'⟩ | h3
    · exact o.ne _ _ _ _ e'
    · have := o.row.1; omega
  refine ⟨s', h1, h2, a1, by simpa using w, a2.atom, ⟨by simpa using R2, a2.keep O2 hne, o.le, hne⟩, ?_, ?_⟩
  · exact (a3.mono fun j _ hj => .inr hj).trans (O2.mono fun j _ hj => .inl hj)
  · rintro j (rfl | ⟨off, len, es', c, e⟩)
    · exact .inl (.inl rfl)
    · rcases a2 with ⟨e2, _⟩ | ⟨id, len2, c2, e2, _⟩
      · rw [e2] at e; cases e
      · rw [e2] at e
        injection e with e3
        subst e3
        rcases a4 _ _ _ _ e2 with ⟨off', len', c', e'⟩ | h3
        · exact .inl (.inr ⟨_, _, _, _, e'⟩)
        · exact .inr h3
end Go.Proofs.Ytgnacecplaemlaa
