/-
  An abstract interpreter for the model's code: a region in which the last write stands in no order with other writes.
-/
import Derived.Test.YtgnacecplaemlaaE16
namespace Go.Proofs.Ytgnacecplaemlaa.AI
open Go.RowKit

/-- Two abstract heaps that say the same. -/
structure AHeq (g h : AH) : Prop where
  blk : ∀ j, g.blk? j = h.blk? j
  ob : ∀ j, g.ob? j = h.ob? j
  next : g.next = h.next
theorem AHeq.refl (h : AH) : AHeq h h := ⟨fun _ => rfl, fun _ => rfl, rfl⟩
theorem AHeq.trans {a b c : AH} (x : AHeq a b) (y : AHeq b c) : AHeq a c := ⟨fun j => (x.blk j).trans (y.blk j), fun j => (x.ob j).trans (y.ob j), x.next.trans y.next⟩
theorem HR.eqv {B : Nat} {f : Inj} {g h : AH} {w : World} (H : HR B f g w) (e : AHeq g h) : HR B f h w :=
  ⟨fun id b hb => H.blk id b (by rw [e.blk]; exact hb), fun id id' b b' r r' hne hb hb' => H.apart id id' b b' r r' hne (by rw [e.blk]; exact hb) (by rw [e.blk]; exact hb'),
    fun id hid => by rw [← e.blk]; exact H.fresh id (by rw [e.next]; exact hid), fun id hid => H.ffresh id (by rw [e.next]; exact hid), H.le, H.objs.keep (Ext.refl f) (fun j => (e.ob j).symm) (by rw [e.next]; exact Nat.le_refl _) (fun _ _ _ hx _ => hx)⟩
theorem write_some {h : AH} {id off : Nat} {l : List AV} {b : Blk} (hb : h.blk? id = some b) (hro : b.ro = false) (h1 : b.lo ≤ off) (h2 : off + l.length ≤ b.hi) :
    h.write id off l = some (h.put id (some { b with cells := putCells l off b.cells })) := by
  unfold AH.write
  rw [hb]
  have e1 : Nat.ble b.lo off = true := Nat.ble_eq.mpr h1
  have e2 : Nat.ble (off + l.length) b.hi = true := Nat.ble_eq.mpr h2
  simp [hro, e1, e2]
theorem write_eqv {g h h' : AH} {id off : Nat} {l : List AV} (e : AHeq g h) (hw : h.write id off l = some h') : ∃ g', g.write id off l = some g' ∧ AHeq g' h' := by
  obtain ⟨b, h1, h2, h3, h4, rfl⟩ := write_inv hw
  refine ⟨_, write_some (by rw [e.blk]; exact h1) h2 h3 h4, fun j => ?_, e.ob, e.next⟩
  rw [AH.blk?_put, AH.blk?_put, e.blk]
theorem write_other {h h' : AH} {id off j : Nat} {l : List AV} (hw : h.write id off l = some h') (hj : j ≠ id) : h'.blk? j = h.blk? j := by
  obtain ⟨b, _, _, _, _, rfl⟩ := write_inv hw
  rw [AH.blk?_put, if_neg hj]
/-- Two writes of two blocks. -/
theorem write_comm {h h1 h2 : AH} {a o b p : Nat} {l m : List AV} (hne : a ≠ b) (w1 : h.write a o l = some h1) (w2 : h.write b p m = some h2) :
    ∃ h3 h4, h1.write b p m = some h3 ∧ h2.write a o l = some h4 ∧ AHeq h4 h3 := by
  obtain ⟨x, x1, x2, x3, x4, rfl⟩ := write_inv w1
  obtain ⟨y, y1, y2, y3, y4, rfl⟩ := write_inv w2
  refine ⟨_, _, write_some (by rw [AH.blk?_put, if_neg (Ne.symm hne)]; exact y1) y2 y3 y4, write_some (by rw [AH.blk?_put, if_neg hne]; exact x1) x2 x3 x4, fun j => ?_, fun _ => rfl, rfl⟩
  simp only [AH.blk?_put]
  by_cases hj : j = a
  · subst hj; rw [if_pos rfl, if_neg hne, if_pos rfl]
  · rw [if_neg hj, if_neg hj]

/-! ### The static part -/
/-- A store without a guard: its type, its address, its value. -/
def storeOp (ops : Array Oper) (i : Nat) : Option (TypeId × Operand × Operand) :=
  match ops[i]? with
  | some o => match o.guard, o.op with
    | none, .store t a x => some (t, a, x)
    | _, _ => none
  | none => none
def chainButOK (P : Program) (T : List Nat) (ops : Array Oper) (s : Nat) : Bool :=
  (List.range ops.size).all fun i => !heapOp P ops i || decide (i = s) || ((List.range i).all fun j => !heapOp P ops j || decide (j = s) || bef T j i) && Nat.ble i s && (bef T i s || (storeOp ops i).isSome)
def loadsFirst (P : Program) (T : List Nat) (ops : Array Oper) (s : Nat) : Bool :=
  (List.range ops.size).all fun i => match ops[i]? with
    | some o => decide (cls P o ≠ .load) || bef T i s
    | none => false
def floatOK (P : Program) (T : List Nat) (ops : Array Oper) (s : Nat) : Bool :=
  tableOK T ops && slotsOK T ops && Region.noSelect ops && (storeOp ops s).isSome && heapOp P ops s && Nat.blt s ops.size && chainButOK P T ops s && loadsFirst P T ops s
/-- The block that a store writes. -/
def storeId (ops : Array Oper) (i : Nat) (fr : List AV) : Option Nat :=
  match storeOp ops i with
  | some (_, a, _) => match aev fr a with
    | .ptr id _ => some id
    | _ => none
  | none => none
def sidOK (ops : Array Oper) (log : List (List AV × AH)) (s : Nat) : Bool :=
  match log[s]? with
  | some (fs, _) => (storeId ops s fs).isSome
  | none => false
noncomputable def apartOK (T : List Nat) (ops : Array Oper) (log : List (List AV × AH)) (s : Nat) (i : Nat) : Bool :=
  if Nat.blt i s && !bef T i s then
    match storeOp ops i with
    | some _ => match log[i]?, log[s]? with
      | some (fr, _), some (fs, _) => match storeId ops i fr, storeId ops s fs with
        | some a, some b => !Nat.beq a b
        | _, _ => false
      | _, _ => false
    | none => true
  else true

/-- A region that draws its order. -/
noncomputable def adraw (P : Program) (call : ACall) (ops : Array Oper) (fr : List AV) (h : AH) : Option (List AV × AH) :=
  if drawOK P (befs ops.toList []) ops then
    match alog P call ops (List.range ops.size) fr h with
    | none => none
    | some log => if (List.range ops.size).all (loadOK P (befs ops.toList []) ops log) then log[ops.size]? else none
  else if floatOK P (befs ops.toList []) ops (ops.size - 1) then
    match alog P call ops (List.range ops.size) fr h with
    | none => none
    | some log => if (List.range ops.size).all (loadOK P (befs ops.toList []) ops log) && (List.range ops.size).all (apartOK (befs ops.toList []) ops log (ops.size - 1)) && sidOK ops log (ops.size - 1) then log[ops.size]? else none
  else none

section
variable {P : Program} {call : ACall} {T : List Nat} {ops : Array Oper} {st : Nat → List AV × AH} {val : Nat → AV}

/-- What a store's run in the interpreter says. -/
theorem store_did (W : Walk P call ops st val) {i : Nat} (hi : i < ops.size) {x : TypeId × Operand × Operand} (hs : storeOp ops i = some x) {id : Nat} (hid : storeId ops i (st i).1 = some id) :
    ∃ off l, (st i).2.write id off l = some (st (i + 1)).2 ∧ val i = .tup [] ∧
      ∀ o, ops[i]? = some o → ∀ (ρ' : Operand → AV), (∀ y ∈ o.op.operands, ρ' y = aev (st i).1 y) → ∀ g g', g.write id off l = some g' → aop P call ρ' o g = some (.tup [], g') := by
  obtain ⟨o, ho, _, hd⟩ := W.did i hi
  unfold storeOp at hs
  rw [ho] at hs
  simp only at hs
  split at hs
  · rename_i hg hop
    rename_i t a y
    injection hs with hs
    have hstore : storeId ops i (st i).1 = match aev (st i).1 a with | .ptr id _ => some id | _ => none := by
      unfold storeId storeOp
      simp only [ho, hg, hop]
    rw [hid] at hstore
    split at hstore
    · rename_i id' off haddr
      injection hstore with hstore
      subst hstore
      have hw : awanted ops (st i).1 o = some true := by unfold awanted; rw [hg]
      rcases hd with ⟨hw', _⟩ | ⟨_, hop'⟩
      · rw [hw] at hw'; simp at hw'
      · have key : ∀ (ρ' : Operand → AV), ρ' a = aev (st i).1 a → ρ' y = aev (st i).1 y → ∀ g, aop P call ρ' o g = match asize P t with
            | some n => if (aev (st i).1 y).isTop || (aev (st i).1 y).cells.length != n || !atoms (aev (st i).1 y).cells then none else (g.write id off (aev (st i).1 y).cells).map fun h' => (.tup [], h')
            | none => none := fun ρ' e1 e2 g => by
          have hcls : cls P o = .heap := by unfold cls; rw [hop]
          unfold aop
          rw [hcls]
          simp only [aheap, hop, e1, e2, haddr]
          cases asize P t <;> rfl
        rw [key _ rfl rfl] at hop'
        cases hsz : asize P t with
        | none => rw [hsz] at hop'; simp at hop'
        | some n =>
          rw [hsz] at hop'
          simp only at hop'
          split at hop'
          · simp at hop'
          · rename_i hc
            cases hwr : (st i).2.write id off (aev (st i).1 y).cells with
            | none => simp [hwr] at hop'
            | some h1 =>
              simp [hwr] at hop'
              refine ⟨off, _, by rw [hwr, hop'.2], hop'.1.symm, fun o2 ho2 ρ' hρ g g' hg' => ?_⟩
              obtain rfl : o2 = o := by rw [ho] at ho2; injection ho2 with e; exact e.symm
              rw [key ρ' (hρ a (by rw [hop]; simp [Op.operands])) (hρ y (by rw [hop]; simp [Op.operands])), hsz]
              simp only
              rw [if_neg hc, hg']
              rfl
    · simp at hstore
  · simp at hs

/-- The last write is apart from those with which it stands in no order. -/
theorem float_draw (hc : CallOK P call) (W : Walk P call ops st val) {s : Nat} (hok : floatOK P T ops s = true)
    (hap : ∀ i, i < s → bef T i s = false → (storeOp ops i).isSome = true → ∃ a b, storeId ops i (st i).1 = some a ∧ storeId ops s (st s).1 = some b ∧ a ≠ b)
    (hsid : ∃ b, storeId ops s (st s).1 = some b)
    (hload : ∀ i j o, ops[i]? = some o → cls P o = .load → awanted ops (st i).1 o = some true → j < ops.size → heapOp P ops j = true → bef T j i = false → bef T i j = false →
      aload P (aev (st i).1) o (st j).2 = aload P (aev (st i).1) o (st i).2 ∧ aload P (aev (st i).1) o (st (j + 1)).2 = aload P (aev (st i).1) o (st i).2) :
    ∃ G, DrawG P ops T st val G := by
  simp only [floatOK, Bool.and_eq_true] at hok
  obtain ⟨⟨⟨⟨⟨⟨⟨ht, hs⟩, hsel⟩, hss⟩, hsh⟩, hsl⟩, hch⟩, hlf⟩ := hok
  have hsl := Nat.blt_eq.mp hsl
  obtain ⟨bs, hbs⟩ := hsid
  obtain ⟨xs, hxs⟩ := Option.isSome_iff_exists.mp hss
  obtain ⟨os, ls, hws, hvs, hruns⟩ := store_did W hsl hxs hbs
  have chain : ∀ i, i < ops.size → heapOp P ops i = true → i ≠ s → (∀ j, j < i → heapOp P ops j = true → j ≠ s → bef T j i = true) ∧ i ≤ s ∧ (bef T i s = true ∨ (storeOp ops i).isSome = true) := by
    intro i hi hh hne
    have h1 := all_range hch hi
    simp only [hh, Bool.not_true, Bool.false_or, decide_eq_false hne, Bool.and_eq_true, Bool.or_eq_true] at h1
    refine ⟨fun j hj hhj hjs => ?_, Nat.ble_eq.mp h1.1.2, h1.2⟩
    have h2 := all_range h1.1.1 hj
    simpa [hhj, hjs] using h2
  -- between: the floating block does not turn
  have still : ∀ p q, p ≤ q → q ≤ s → (∀ j, p ≤ j → j < q → heapOp P ops j = true → bef T j s = false) → (st q).2.blk? bs = (st p).2.blk? bs := by
    intro p q hpq hqs hn
    induction q with
    | zero => rw [show p = 0 by omega]
    | succ q ih =>
      by_cases hp : p = q + 1
      · rw [hp]
      · rw [← ih (by omega) (by omega) (fun j h1 h2 => hn j h1 (by omega))]
        by_cases hh : heapOp P ops q = true
        · have hb := hn q (by omega) (Nat.lt_succ_self q) hh
          obtain ⟨_, _, hst⟩ := chain q (by omega) hh (by omega)
          rcases hst with hst | hst
          · rw [hb] at hst; simp at hst
          · obtain ⟨a, b, e1, e2, e3⟩ := hap q (by omega) hb hst
            obtain ⟨x, hx⟩ := Option.isSome_iff_exists.mp hst
            obtain ⟨off, l, hw, _⟩ := store_did W (by omega) hx e1
            rw [hbs] at e2
            injection e2 with e2
            subst e2
            exact write_other hw (Ne.symm e3)
        · have hh : heapOp P ops q = false := by simpa using hh
          rw [W.heap_same (p := q) (q + 1) (by omega) (by omega) (fun j h1 h2 => by rw [show j = q by omega]; exact hh)]
  -- the floating write goes through wherever its turn comes
  have goes : ∀ p, p ≤ s → (∀ j, p ≤ j → j < s → heapOp P ops j = true → bef T j s = false) → ∃ h1, (st p).2.write bs os ls = some h1 := by
    intro p hp hn
    obtain ⟨b, h1, h2, h3, h4, _⟩ := write_inv hws
    rw [still p s hp (Nat.le_refl _) hn] at h1
    exact ⟨_, write_some h1 h2 h3 h4⟩
  have posi : ∀ i S, heapOp P ops i = true → i < ops.size → i ≠ s → S i = false → (∀ j, j < ops.size → heapOp P ops j = true → bef T j i = true → S j = true) → (∀ j, bef T i j = true → S j = false) →
      ∀ p, p ≤ s → (∀ j, j < ops.size → heapOp P ops j = true → j ≠ s → (S j = true ↔ j < p)) → (st i).2 = (st p).2 ∧ (∀ j, j < ops.size → heapOp P ops j = true → j ≠ s → (ins S i j = true ↔ j < i + 1)) ∧ (∀ j, i ≤ j → j < s → heapOp P ops j = true → S j = false) := by
    intro i S hheap hi hne hSi hS1 hS2 p hp hpos
    have hposi : ∀ j, j < ops.size → heapOp P ops j = true → j ≠ s → (S j = true ↔ j < i) := fun j hj hhj hjs => by
      constructor
      · intro hl
        rcases Nat.lt_trichotomy j i with h2 | h2 | h2
        · exact h2
        · subst h2; rw [hl] at hSi; simp at hSi
        · have := hS2 j ((chain j hj hhj hjs).1 i h2 hheap hne)
          rw [hl] at this; simp at this
      · intro hlt
        exact hS1 j hj hhj ((chain i hi hheap hne).1 j hlt hhj hjs)
    have his := (chain i hi hheap hne).2.1
    refine ⟨?_, fun j hj hhj hjs => ?_, fun j h1 h2 h3 => ?_⟩
    · rcases Nat.le_total p i with h2 | h2
      · exact W.heap_same i h2 (by omega) (fun j h3 h4 => by
          cases hx : heapOp P ops j with
          | false => rfl
          | true => have := (hpos j (by omega) hx (by omega)).1 ((hposi j (by omega) hx (by omega)).2 h4); omega)
      · exact (W.heap_same p h2 (by omega) (fun j h3 h4 => by
          cases hx : heapOp P ops j with
          | false => rfl
          | true => have := (hposi j (by omega) hx (by omega)).1 ((hpos j (by omega) hx (by omega)).2 h4); omega)).symm
    · unfold ins
      rw [Bool.or_eq_true, decide_eq_true_iff, hposi j hj hhj hjs]
      omega
    · cases hx : S j with
      | false => rfl
      | true => have := (hposi j (by omega) h3 (by omega)).1 hx; omega
  refine ⟨fun S g => ∃ p, p ≤ s ∧ (∀ j, j < ops.size → heapOp P ops j = true → j ≠ s → (S j = true ↔ j < p)) ∧ (∀ j, p ≤ j → j < s → heapOp P ops j = true → S s = true → bef T j s = false) ∧
    ((S s = false ∧ g = (st p).2) ∨ (S s = true ∧ ∃ h1, (st p).2.write bs os ls = some h1 ∧ AHeq g h1)), ⟨0, Nat.zero_le _, fun j _ _ _ => by simp, fun j _ _ _ h => by simp at h, .inl ⟨rfl, rfl⟩⟩, ?_, ?_, ?_, ?_⟩
  · rintro i o S g ho hheap hS0 hSi hS1 hS2 ⟨p, hp, hpos, hdep, hg⟩ hw B f w ρ ρ' H hρ1 hρ2
    have hi : i < ops.size := (Array.getElem?_eq_some_iff.1 ho).1
    obtain ⟨o', ho', _, hdid⟩ := W.did i hi
    obtain rfl : o' = o := by rw [ho] at ho'; injection ho' with e; exact e.symm
    by_cases his : i = s
    · subst his
      -- the floating one
      rcases hg with ⟨_, rfl⟩ | ⟨h1, _⟩
      · have hno : ∀ j, p ≤ j → j < i → heapOp P ops j = true → bef T j i = false := fun j h1 h2 h3 => by
          cases hx : bef T j i with
          | false => rfl
          | true => have := (hpos j (by omega) h3 (by omega)).1 (hS1 j (by omega) h3 hx); omega
        obtain ⟨h1, hw1⟩ := goes p hp hno
        have hop := hruns o' ho ρ' hρ1 _ _ hw1
        refine (aop_run hc H hρ2 hop).mono fun v w' ⟨f', g1, g2, g3, g4⟩ => ⟨f', h1, g1, ⟨p, hp, fun j hj hhj hjs => ?_, fun j q1 q2 q3 _ => hno j q1 q2 q3, .inr ⟨by simp [ins], h1, hw1, AHeq.refl _⟩⟩, g2, g3, by rw [hvs]; exact g4⟩
        unfold ins
        rw [Bool.or_eq_true, decide_eq_true_iff]
        simp only [hjs, false_or]
        exact hpos j hj hhj hjs
      · rw [hSi] at h1; simp at h1
    · obtain ⟨e1, e2, e3⟩ := posi i S hheap hi his hSi hS1 hS2 p hp hpos
      have hi1 : i + 1 ≤ s := by have := (chain i hi hheap his).2.1; omega
      have hins : ins S i s = S s := by unfold ins; simp [Ne.symm his]
      rcases hg with ⟨hSs, rfl⟩ | ⟨hSs, h1, hw1, heq⟩
      · rcases hdid with ⟨hw', _, _⟩ | ⟨_, hop⟩
        · rw [hw] at hw'; simp at hw'
        · have hop' : aop P call ρ' o' (st p).2 = some (val i, (st (i + 1)).2) := by rw [← e1, ← hop]; exact aop_congr hρ1
          exact (aop_run hc H hρ2 hop').mono fun v w' ⟨f', g1, g2, g3, g4⟩ => ⟨f', _, g1, ⟨i + 1, hi1, e2, fun j _ _ _ h => by rw [hins, hSs] at h; simp at h, .inl ⟨by rw [hins]; exact hSs, rfl⟩⟩, g2, g3, g4⟩
      · -- a store beside it
        have hb : bef T i s = false := by
          cases hx : bef T i s with
          | false => rfl
          | true => have := hS2 s hx; rw [hSs] at this; simp at this
        obtain ⟨_, _, hst⟩ := chain i hi hheap his
        rcases hst with hst | hst
        · rw [hb] at hst; simp at hst
        · obtain ⟨a, b, q1, q2, q3⟩ := hap i (by omega) hb hst
          rw [hbs] at q2
          injection q2 with q2
          subst q2
          obtain ⟨x, hx⟩ := Option.isSome_iff_exists.mp hst
          obtain ⟨off, l, hwi, hvi, hri⟩ := store_did W hi hx q1
          rw [e1] at hwi
          obtain ⟨h3, h4, c1, c2, c3⟩ := write_comm (Ne.symm q3) hw1 hwi
          obtain ⟨g', c4, c5⟩ := write_eqv heq c1
          have hop := hri o' ho ρ' hρ1 _ _ c4
          refine (aop_run hc H hρ2 hop).mono fun v w' ⟨f', g1, g2, g3, g4⟩ => ⟨f', g', g1, ⟨i + 1, hi1, e2, fun j r1 r2 r3 _ => ?_, .inr ⟨by rw [hins]; exact hSs, h4, c2, c5.trans ⟨fun j => (c3.blk j).symm, fun j => (c3.ob j).symm, c3.next.symm⟩⟩⟩, g2, g3, by rw [hvi]; exact g4⟩
          refine hdep j ?_ r2 r3 hSs
          have hSj := e3 j (by omega) r2 r3
          rcases Nat.lt_or_ge j p with hjp | hjp
          · have := (hpos j (by omega) r3 (by omega)).2 hjp; rw [hSj] at this; simp at this
          · exact hjp
  · rintro i o S g ho hheap hS0 hSi hS1 hS2 ⟨p, hp, hpos, hdep, hg⟩ hw
    have hi : i < ops.size := (Array.getElem?_eq_some_iff.1 ho).1
    obtain ⟨o', ho', _, hdid⟩ := W.did i hi
    obtain rfl : o' = o := by rw [ho] at ho'; injection ho' with e; exact e.symm
    have hnw : (storeOp ops i).isSome = false := by
      cases hx : storeOp ops i with
      | none => rfl
      | some x =>
        exfalso
        unfold storeOp at hx
        rw [ho] at hx
        simp only at hx
        split at hx
        · rename_i hg' _
          unfold awanted at hw
          rw [hg'] at hw
          simp at hw
        · simp at hx
    have his : i ≠ s := by rintro rfl; rw [hss] at hnw; simp at hnw
    obtain ⟨e1, e2, e3⟩ := posi i S hheap hi his hSi hS1 hS2 p hp hpos
    have hi1 : i + 1 ≤ s := by have := (chain i hi hheap his).2.1; omega
    have hins : ins S i s = S s := by unfold ins; simp [Ne.symm his]
    have hbi : bef T i s = true := by
      rcases (chain i hi hheap his).2.2 with q | q
      · exact q
      · rw [hnw] at q; simp at q
    have hSs := hS2 s hbi
    rcases hg with ⟨_, rfl⟩ | ⟨h1, _⟩
    · rcases hdid with ⟨_, _, hh⟩ | ⟨hw', _⟩
      · exact ⟨i + 1, hi1, e2, fun j _ _ _ h => by rw [hins, hSs] at h; simp at h, .inl ⟨by rw [hins]; exact hSs, by rw [hh, e1]⟩⟩
      · rw [hw] at hw'; simp at hw'
    · rw [hSs] at h1; simp at h1
  · rintro i o S g ho hcl hS0 hS1 hS2 ⟨p, hp, hpos, hdep, hg⟩ hw
    have hi : i < ops.size := (Array.getElem?_eq_some_iff.1 ho).1
    have hbi : bef T i s = true := by
      have h1 := all_range hlf hi
      simp only [ho, Bool.or_eq_true, decide_eq_true_eq] at h1
      rcases h1 with h1 | h1
      · exact absurd hcl h1
      · exact h1
    have hSs := hS2 s hbi
    rcases hg with ⟨_, rfl⟩ | ⟨h1, _⟩
    · refine chain_load W ht hload ho hcl hS1 hS2 (by omega) (fun j hj hhj => ?_) hw
      by_cases hjs : j = s
      · subst hjs; rw [hSs]; simp; omega
      · exact hpos j hj hhj hjs
    · rw [hSs] at h1; simp at h1
  · rintro S g B f w hall hS0 ⟨p, hp, hpos, hdep, hg⟩ H
    rcases hg with ⟨h1, _⟩ | ⟨_, h1, hw1, heq⟩
    · rw [hall s hsl hsh] at h1; simp at h1
    · have e1 : (st s).2 = (st p).2 := W.heap_same s hp (by omega) (fun j h1 h2 => by
        cases hx : heapOp P ops j with
        | false => rfl
        | true => have := (hpos j (by omega) hx (by omega)).1 (hall j (by omega) hx); omega)
      have e2 : (st ops.size).2 = (st (s + 1)).2 := W.heap_same ops.size (by omega) (Nat.le_refl _) (fun j h1 h2 => by
        cases hx : heapOp P ops j with
        | false => rfl
        | true => have := (chain j h2 hx (by omega)).2.1; omega)
      rw [e1, hw1] at hws
      injection hws with hws
      rw [e2, ← hws]
      exact H.eqv heq

/-! ### A region some of whose steps leave the heap as it is -/
theorem natsEq_refl : ∀ (s : List Nat), natsEq s s = true
  | [] => rfl
  | a :: s => by simp [natsEq, natsEq_refl s]
mutual
theorem AV.beq_refl : ∀ (a : AV), AV.beq a a = true
  | .bool b => by simp [AV.beq]
  | .int k n => by simp [AV.beq]
  | .str s => by simp [AV.beq]; exact natsEq_refl s
  | .nilp => rfl
  | .ptr a b => by simp [AV.beq]
  | .nilSl => rfl
  | .sl a b c d e => by simp [AV.beq]
  | .nilMap => rfl
  | .fn f a b => by simp [AV.beq, AV.beqs_refl a, AV.beqs_refl b]
  | .nilFn => rfl
  | .iface t v => by simp [AV.beq, AV.beq_refl v]
  | .nilIface => rfl
  | .agg l => by simp [AV.beq, AV.beqs_refl l]
  | .tup l => by simp [AV.beq, AV.beqs_refl l]
  | .top => rfl
theorem AV.beqs_refl : ∀ (a : List AV), AV.beqs a a = true
  | [] => rfl
  | x :: l => by simp [AV.beqs, AV.beq_refl x, AV.beqs_refl l]
end
end
open Classical in
noncomputable def sameH (b : Bool) (h : AH) (r : List AV × AH) (k : List AV → AH → Option (List AV × AH)) : Option (List AV × AH) :=
  match b with
  | false => k r.1 r.2
  | true => if r.2 = h then k r.1 r.2 else none
noncomputable def aopsS (P : Program) (call : ACall) (ops : Array Oper) : List (Nat × Bool) → List AV → AH → Option (List AV × AH)
  | [], fr, h => some (fr, h)
  | (i, b) :: l, fr, h => (astep P call ops i fr h).bind fun r => sameH b h r (aopsS P call ops l)
def flags (q : List Nat) (n : Nat) : List (Nat × Bool) := (List.range n).map fun i => (i, q.any (Nat.beq i))
/-- Between a load and a write with which it stands in no order, every step is one that leaves the heap as it is. -/
def segOK (P : Program) (T : List Nat) (ops : Array Oper) (q : List Nat) : Bool :=
  (List.range ops.size).all fun i => match ops[i]? with
    | none => false
    | some o => !decide (cls P o = .load) || (List.range ops.size).all fun j => !heapOp P ops j || (bef T j i || (bef T i j || (List.range ops.size).all fun k => !(Nat.ble (min i j) k && Nat.blt k (max i (j + 1))) || q.any (Nat.beq k)))
noncomputable def sdraw (P : Program) (kq : Option (List Nat)) (call : ACall) (ops : Array Oper) (fr : List AV) (h : AH) : Option (List AV × AH) :=
  match kq with
  | none => adraw P call ops fr h
  | some q =>
    match drawOK P (befs ops.toList []) ops && segOK P (befs ops.toList []) ops q with
    | true => aopsS P call ops (flags q ops.size) fr h
    | false => none
section
variable {P : Program} {call : ACall} {ops : Array Oper}
theorem aopsS_log : ∀ (l : List (Nat × Bool)) (fr : List AV) (h : AH) (r : List AV × AH), aopsS P call ops l fr h = some r →
    ∃ log, alog P call ops (l.map (·.1)) fr h = some log ∧ log[l.length]? = some r ∧ ∀ (k i : Nat), l[k]? = some (i, true) → ∃ s s', log[k]? = some s ∧ log[k + 1]? = some s' ∧ s'.2 = s.2
  | [], fr, h, r, h0 => by
    simp only [aopsS, Option.some.injEq] at h0
    subst h0
    exact ⟨[(fr, h)], rfl, rfl, by simp⟩
  | (i, b) :: l, fr, h, r, h0 => by
    simp only [aopsS] at h0
    obtain ⟨s, hs, h0⟩ := Option.bind_eq_some_iff.mp h0
    have h1 : aopsS P call ops l s.1 s.2 = some r ∧ (b = true → s.2 = h) := by
      cases b with
      | false => exact ⟨h0, fun e => by simp at e⟩
      | true =>
        unfold sameH at h0
        simp only at h0
        split at h0
        · rename_i e; exact ⟨h0, fun _ => e⟩
        · simp at h0
    obtain ⟨log, q1, q2, q3⟩ := aopsS_log l s.1 s.2 r h1.1
    refine ⟨(fr, h) :: log, ?_, by simpa using q2, fun k j hk => ?_⟩
    · simp only [List.map_cons, alog, hs, q1]
    · cases k with
      | zero =>
        simp at hk
        obtain ⟨rfl, rfl⟩ := hk
        have hz := (alog_spec _ _ _ _ q1).1
        exact ⟨(fr, h), s, rfl, by simpa using hz, h1.2 rfl⟩
      | succ k =>
        obtain ⟨a, a', p1, p2, p3⟩ := q3 k j (by simpa using hk)
        exact ⟨a, a', by simpa using p1, by simpa using p2, p3⟩
theorem sdraw_some {kq : Option (List Nat)} {fr : List AV} {h : AH} {r : List AV × AH} (h0 : sdraw P kq call ops fr h = some r) : adraw P call ops fr h = some r := by
  unfold sdraw at h0
  split at h0
  · exact h0
  · rename_i q
    split at h0
    · rename_i hc
      rw [Bool.and_eq_true] at hc
      obtain ⟨log, q1, q2, q3⟩ := aopsS_log _ _ _ _ h0
      have hm : (flags q ops.size).map (·.1) = List.range ops.size := by unfold flags; rw [List.map_map]; exact List.map_id' _
      have hlen : (flags q ops.size).length = ops.size := by simp [flags]
      rw [hm] at q1
      rw [hlen] at q2
      obtain ⟨st, val, W, hst, hk⟩ := walk_of_log q1
      have same : ∀ k, k < ops.size → q.any (Nat.beq k) = true → (st (k + 1)).2 = (st k).2 := fun k hkl hq => by
        obtain ⟨s, s', p1, p2, p3⟩ := q3 k k (by simp [flags, hkl]; simpa using hq)
        rw [hk k (by omega)] at p1
        rw [hk (k + 1) (by omega)] at p2
        injection p1 with p1
        injection p2 with p2
        rw [p1, p2]
        exact p3
      have seg : ∀ a b, a ≤ b → b ≤ ops.size → (∀ k, a ≤ k → k < b → q.any (Nat.beq k) = true) → (st b).2 = (st a).2 := by
        intro a b hab hb hq
        induction b with
        | zero => rw [show a = 0 by omega]
        | succ b ih =>
          by_cases e : a = b + 1
          · rw [e]
          · rw [same b (by omega) (hq b (by omega) (Nat.lt_succ_self b)), ih (by omega) (by omega) (fun k h1 h2 => hq k h1 (by omega))]
      unfold adraw
      rw [if_pos hc.1, q1]
      show (if (List.range ops.size).all (loadOK P (befs ops.toList []) ops log) then log[ops.size]? else none) = some r
      rw [if_pos, q2]
      rw [List.all_eq_true]
      intro i hi
      have hi : i < ops.size := List.mem_range.mp hi
      have ho : ops[i]? = some ops[i] := by simp [hi]
      have hpi := all_range hc.2 hi
      rw [ho] at hpi
      unfold loadOK
      rw [ho, hk i (by omega)]
      simp only
      split
      · rename_i hcl
        split
        · rename_i hw
          rw [List.all_eq_true]
          intro j hj
          have hj : j < ops.size := List.mem_range.mp hj
          simp only [hcl, decide_true, Bool.not_true, Bool.false_or] at hpi
          have hpj := all_range hpi hj
          simp only [Bool.or_eq_true] at hpj ⊢
          rcases hpj with h1 | h1 | h1 | h1
          · exact .inl (.inl (.inl h1))
          · exact .inl (.inl (.inr h1))
          · exact .inl (.inr h1)
          · refine .inr ?_
            have hq : ∀ k, min i j ≤ k → k < max i (j + 1) → q.any (Nat.beq k) = true := fun k k1 k2 => by
              have := all_range h1 (show k < ops.size by omega)
              rw [Nat.ble_eq.mpr k1, Nat.blt_eq.mpr k2] at this
              simpa using this
            rw [hk j (by omega), hk (j + 1) (by omega)]
            simp only
            have e1 : (st j).2 = (st i).2 := by
              rcases Nat.le_total i j with c | c
              · exact seg i j c (by omega) (fun k k1 k2 => hq k (by omega) (by omega))
              · exact (seg j i c (by omega) (fun k k1 k2 => hq k (by omega) (by omega))).symm
            have e2 : (st (j + 1)).2 = (st i).2 := by
              rcases Nat.le_total i (j + 1) with c | c
              · exact seg i (j + 1) c (by omega) (fun k k1 k2 => hq k (by omega) (by omega))
              · exact (seg (j + 1) i c (by omega) (fun k k1 k2 => hq k (by omega) (by omega))).symm
            rw [e1, e2]
            obtain ⟨o', ho', _, hd⟩ := W.did i hi
            have ho2 : o' = ops[i] := by rw [ho] at ho'; injection ho' with e; exact e.symm
            subst ho2
            rcases hd with ⟨hw', _⟩ | ⟨_, hop⟩
            · rw [hw] at hw'; simp at hw'
            · unfold aop at hop
              rw [hcl] at hop
              simp only at hop
              cases hv : aload P (aev (st i).1) ops[i] (st i).2 with
              | none => simp [hv] at hop
              | some v => simp [sameLoad, AV.beq_refl]
        · rfl
      · rfl
    · simp at h0
end
end Go.Proofs.Ytgnacecplaemlaa.AI
