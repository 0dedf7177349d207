/-
  Part 2 of 9 of the proof of WalkTells: what follows.
-/
import Derived.Test.YtgnacecplaemlaaN1
/-
  An abstract interpreter for the model's code: a region in which two new blocks stand in no order.
-/
namespace Go.Proofs.Ytgnacecplaemlaa.AI
open Go.RowKit

/-- Two abstract heaps that say the same. -/
structure AHeq (g h : AH) : Prop where
  blk : ∀ j, g.blk? j = h.blk? j
  ob : ∀ j, g.ob? j = h.ob? j
  next : g.next = h.next
theorem AHeq.refl (h : AH) : AHeq h h := ⟨fun _ => rfl, fun _ => rfl, rfl⟩
theorem AHeq.trans {a b c : AH} (x : AHeq a b) (y : AHeq b c) : AHeq a c := ⟨fun j => (x.blk j).trans (y.blk j), fun j => (x.ob j).trans (y.ob j), x.next.trans y.next⟩
theorem HR.eqv {B : Nat} {f : Inj} {g h : AH} {w : World} (H : HR B f g w) (e : AHeq g h) : HR B f h w :=
  ⟨fun id b hb => H.blk id b (by rw [e.blk]; exact hb), fun id id' b b' r r' hne hb hb' => H.apart id id' b b' r r' hne (by rw [e.blk]; exact hb) (by rw [e.blk]; exact hb'),
    fun id hid => by rw [← e.blk]; exact H.fresh id (by rw [e.next]; exact hid), fun id hid => H.ffresh id (by rw [e.next]; exact hid), H.le, H.objs.keep (Ext.refl f) (fun j => (e.ob j).symm) (by rw [e.next]; exact Nat.le_refl _) (fun _ _ _ hx _ => hx)⟩

/-! ### The static part -/
/-- A new variable without a guard: its type. -/
def allocOp (ops : Array Oper) (i : Nat) : Option TypeId :=
  match ops[i]? with
  | some o => match o.guard, o.op with
    | none, .alloc t => some t
    | _, _ => none
  | none => none
def firstHeap (P : Program) (ops : Array Oper) : Nat := ops.toList.findIdx fun o => decide (cls P o = .heap)
def gapChain (P : Program) (T : List Nat) (ops : Array Oper) (s : Nat) : Bool :=
  (List.range ops.size).all fun i => !heapOp P ops i || decide (i = s) || decide (i = s + 1) || (Nat.blt (s + 1) i && bef T s i && bef T (s + 1) i && (List.range i).all fun j => !heapOp P ops j || bef T j i)
def gapLoads (P : Program) (T : List Nat) (ops : Array Oper) (s : Nat) : Bool :=
  (List.range ops.size).all fun i => match ops[i]? with
    | some o => !decide (cls P o = .load) || ((bef T s i == bef T (s + 1) i) && (bef T i s == bef T i (s + 1)))
    | none => false
def gapOK (P : Program) (T : List Nat) (ops : Array Oper) (s : Nat) : Bool :=
  tableOK T ops && slotsOK T ops && Region.noSelect ops && (allocOp ops s).isSome && (allocOp ops (s + 1)).isSome && Nat.blt (s + 1) ops.size && gapChain P T ops s && gapLoads P T ops s

/-! ### A new block under a name that is free -/
section
variable {B : Nat} {f : Inj} {h : AH} {w : World}
theorem HR.allocAt (H : HR B f h w) {id : Nat} (hfn : f id = none) {cs : Array Value} {b' : Blk} {h' : AH} (hro' : b'.ro = false) (hl : b'.hi - b'.lo ≤ cs.size)
    (hh : ∀ j, h'.blk? j = if j = id then some b' else h.blk? j) (hob : ∀ j, h'.ob? j = h.ob? j) (hnx : h.next ≤ h'.next) (hid' : id < h'.next)
    (hv : ∀ (o : Nat) (a : AV), b'.get o = some a → ∃ v, cs[o - b'.lo]? = some v ∧ VR f v a) (e : TypeId) :
    HR B (upd f id ⟨w.heap.size, 0, b'.lo, cs.size⟩) h' (w.alloc (.cells cs e)) ∧ Ext f (upd f id ⟨w.heap.size, 0, b'.lo, cs.size⟩) ∧ Kept B w (w.alloc (.cells cs e)) := by
  have hx : Ext f (upd f id ⟨w.heap.size, 0, b'.lo, cs.size⟩) := Ext.upd hfn _
  have hblt : ∀ id b r, h.blk? id = some b → f id = some r → r.blk < w.heap.size := by
    intro id b r hb hf
    obtain ⟨r', c, e, fz, hf', hw, _⟩ := H.blk id b hb
    rw [hf] at hf'
    injection hf' with e'
    subst e'
    exact (Array.getElem?_eq_some_iff.1 hw).1
  refine ⟨⟨fun k b hb => ?_, fun k k' b b2 r r' hne hb hb' hro hro2 hf hf' => ?_, fun k hk => ?_, fun k hk => ?_, ?_, H.objs.keep hx hob hnx (fun k x _ h1 _ => (Below.heap_alloc _ _ _ (Array.getElem?_eq_some_iff.1 h1).1).trans h1)⟩, hx, (Kept.refl B w).alloc H.le _⟩
  · rw [hh] at hb
    split at hb
    · rename_i hid
      subst hid
      injection hb with hb
      subst hb
      refine ⟨_, cs, e, (0, 0), upd_same _ _ _, ?_, by simp, rfl, hl, fun _ => ⟨H.le, rfl⟩, by simp [hro'], fun o a ha => ?_⟩
      · exact heap_alloc_new w _
      · obtain ⟨v, hv1, hv2⟩ := hv o a ha
        exact ⟨v, by simpa using hv1, hv2.mono hx⟩
    · rename_i hid
      obtain ⟨r, c, e', fz, hf, hw, h1, h2, h3, h4, h5, h6⟩ := H.blk k b hb
      refine ⟨r, c, e', fz, hx _ _ hf, ?_, h1, h2, h3, h4, h5, fun o a ha => ?_⟩
      · rw [← hw]
        exact Below.heap_alloc _ _ _ (hblt k b r hb hf)
      · obtain ⟨v, hv1, hv2⟩ := h6 o a ha
        exact ⟨v, hv1, hv2.mono hx⟩
  · rw [hh] at hb hb'
    unfold upd at hf hf'
    split at hb
    · rename_i hid
      subst hid
      rw [if_neg (Ne.symm hne)] at hb' hf'
      rw [if_pos rfl] at hf
      injection hf with hf
      subst hf
      left
      exact Nat.ne_of_gt (hblt k' b2 r' hb' hf')
    · rename_i hid
      rw [if_neg hid] at hf
      split at hb'
      · rename_i hid2
        subst hid2
        rw [if_pos rfl] at hf'
        injection hf' with hf'
        subst hf'
        left
        exact Nat.ne_of_lt (hblt k b r hb hf)
      · rename_i hid2
        rw [if_neg hid2] at hf'
        exact H.apart k k' b b2 r r' hne hb hb' hro hro2 hf hf'
  · rw [hh, if_neg (by omega)]
    exact H.fresh k (by omega)
  · unfold upd
    rw [if_neg (by omega)]
    exact H.ffresh k (by omega)
  · have := H.le
    simp
    omega
end

section
variable {P : Program} {call : ACall} {ops : Array Oper}
theorem allocOp_inv {i : Nat} {t : TypeId} (ha : allocOp ops i = some t) : ∃ o, ops[i]? = some o ∧ o.guard = none ∧ o.op = .alloc t := by
  unfold allocOp at ha
  split at ha
  · rename_i o ho
    split at ha
    · rename_i hg hop
      injection ha with ha
      subst ha
      exact ⟨o, ho, hg, hop⟩
    · simp at ha
  · simp at ha
/-- A new variable, whatever name the abstract heap gives it. -/
theorem alloc_runs {B : Nat} {f : Inj} {g : AH} {w : World} {o : Oper} {t : TypeId} (hop : o.op = .alloc t) {z : AV} (hz : azero P t = some z) (hzt : z.isTop = false) (H : HR B f g w) {id : Nat} (hfn : f id = none) {g' : AH}
    (hh : ∀ j, g'.blk? j = if j = id then some { lo := 0, hi := z.cells.length, ro := false, cells := putCells z.cells 0 .nil } else g.blk? j) (hob : ∀ j, g'.ob? j = g.ob? j) (hnx : g.next ≤ g'.next) (hid : id < g'.next) (ρ : Operand → Value) :
    OpRuns P ρ o w (fun v w' => ∃ f', (∀ j, j ≠ id → f' j = f j) ∧ Ext f f' ∧ HR B f' g' w' ∧ Kept B w w' ∧ VR f' v (.ptr id 0)) := by
  obtain ⟨dst, op, type, pos, after, guard⟩ := o
  simp only at hop
  subst hop
  obtain ⟨zv, hzv, hzr⟩ := run_zeroValue hz f
  have hnt : z ≠ .top := by rintro rfl; simp [AV.isTop] at hzt
  have hv := hzv.cells hnt
  have hlen : z.cells.length = zv.cells.size := by have := hv.length; simpa using this.symm
  have hb := H.allocAt hfn (cs := zv.cells) (b' := { lo := 0, hi := z.cells.length, ro := false, cells := putCells z.cells 0 .nil }) (h' := g') rfl (by simp; omega) hh hob hnx hid
    (fun o a ha => by
      obtain ⟨h1, h2⟩ := Blk.get_lo ha
      rw [Blk.get_eq, if_pos ⟨h1, h2⟩] at ha
      simp only [get_putCells, Tr.get_nil] at ha
      simp only at h1 h2
      rw [if_pos ⟨h1, by omega⟩] at ha
      obtain ⟨v, hv1, hv2⟩ := hv.get o a (by simpa using ha)
      exact ⟨v, by simpa using hv1, hv2⟩) t
  obtain ⟨h1, h2, h3⟩ := hb
  exact .inl ⟨_, _, .inl (by simp [execOp, Instr.alloc, hzr, newVar, newRow]), _, fun j hj => by unfold upd; rw [if_neg hj], h2, h1, h3, VR.ptr id 0 ⟨w.heap.size, 0, 0, zv.cells.size⟩ (upd_same _ _ _) (Nat.le_refl _)⟩
/-- A load that goes through sees what is there. -/
theorem cells?_more {h h' : AH} {id : Nat} (hb : ∀ b, h.blk? id = some b → h'.blk? id = some b) : ∀ (n off : Nat) (l : List AV), h.cells? id n off = some l → h'.cells? id n off = some l := by
  intro n
  induction n with
  | zero => intro off l h0; exact h0
  | succ n ih =>
    intro off l h0
    rw [AH.cells?_succ] at h0 ⊢
    have hc : ∀ a, h.cell? id off = some a → h'.cell? id off = some a := fun a ha => by
      rw [AH.cell?_eq] at ha ⊢
      obtain ⟨b, q1, q2⟩ := Option.bind_eq_some_iff.mp ha
      rw [hb b q1]
      exact q2
    obtain ⟨v, h1, h2⟩ := Option.bind_eq_some_iff.mp h0
    obtain ⟨l', h3, h4⟩ := Option.bind_eq_some_iff.mp h2
    rw [hc v h1, Option.bind_some, ih (off + 1) l' h3]
    exact h4
theorem aload_more {h h' : AH} (hb : ∀ id b, h.blk? id = some b → h'.blk? id = some b) {ρ : Operand → AV} {o : Oper} {a : AV} (h0 : aload P ρ o h = some a) : aload P ρ o h' = some a := by
  have hc : ∀ {id n off l}, h.cells? id n off = some l → h'.cells? id n off = some l := fun {id n off l} q => cells?_more (hb id) n off l q
  have hc1 : ∀ {id off v}, h.cell? id off = some v → h'.cell? id off = some v := fun {id off v} q => by
    rw [AH.cell?_eq] at q ⊢
    obtain ⟨b, q1, q2⟩ := Option.bind_eq_some_iff.mp q
    rw [hb id b q1]
    exact q2
  unfold aload at h0 ⊢
  cases hop : o.op <;> simp only [hop] at h0 ⊢ <;> try (simp at h0; done)
  case load t x =>
    cases hx : ρ x <;> simp only [hx] at h0 ⊢ <;> try (simp at h0; done)
    cases ht : aisAgg P t with
    | none => simp [ht] at h0
    | some b =>
      cases b with
      | false => simp only [ht] at h0 ⊢; exact hc1 h0
      | true =>
        cases hz : asize P t with
        | none => simp [ht, hz] at h0
        | some n =>
          simp only [ht, hz] at h0 ⊢
          obtain ⟨l, q1, q2⟩ := Option.map_eq_some_iff.mp h0
          rw [hc q1]
          exact congrArg some q2
  case convert src dst x =>
    split at h0
    · rename_i e id off len es _ e1 e2 e3
      split at h0
      · rename_i e4
        split at h0
        · rename_i e5
          rw [if_pos e5]
          obtain ⟨l, q1, q2⟩ := Option.map_eq_some_iff.mp h0
          obtain ⟨l2, q3, q4⟩ := Option.bind_eq_some_iff.mp q1
          rw [hc q3, Option.bind_some, q4]
          exact congrArg some q2
        · simp at h0
      · simp at h0
    · rename_i e e1 e2 e3
      exact h0
    · simp at h0

/-! ### Every order comes to the same -/
variable {T : List Nat} {st : Nat → List AV × AH} {val : Nat → AV}
theorem alloc_did (W : Walk P call ops st val) {i : Nat} (hi : i < ops.size) {t : TypeId} (ha : allocOp ops i = some t) :
    ∃ z, azero P t = some z ∧ z.isTop = false ∧ (st (i + 1)).2 = (st i).2.alloc z.cells ∧ val i = .ptr (st i).2.next 0 ∧ ∀ o, ops[i]? = some o → awanted ops (st i).1 o = some true ∧ o.op = .alloc t := by
  obtain ⟨o, ho, hg, hop⟩ := allocOp_inv ha
  obtain ⟨o', ho', _, hd⟩ := W.did i hi
  obtain rfl : o' = o := by rw [ho] at ho'; injection ho' with e; exact e.symm
  have hw : awanted ops (st i).1 o' = some true := by unfold awanted; rw [hg]
  rcases hd with ⟨hw', _⟩ | ⟨_, hr⟩
  · rw [hw] at hw'; simp at hw'
  · have hcls : cls P o' = .heap := by unfold cls; rw [hop]
    unfold aop at hr
    rw [hcls] at hr
    simp only [aheap, hop] at hr
    cases hz : azero P t with
    | none => rw [hz] at hr; simp at hr
    | some z =>
      rw [hz] at hr
      simp only at hr
      split at hr
      · simp at hr
      · rename_i hzt
        injection hr with hr
        injection hr with e1 e2
        exact ⟨z, rfl, by simpa using hzt, e2.symm, e1.symm, fun o2 ho2 => by rw [ho] at ho2; injection ho2 with e; subst e; exact ⟨hw, hop⟩⟩

theorem gap_draw (hc : CallOK P call) (W : Walk P call ops st val) {s : Nat} (hok : gapOK P T ops s = true)
    (hload : ∀ i j o, ops[i]? = some o → cls P o = .load → awanted ops (st i).1 o = some true → j < ops.size → heapOp P ops j = true → bef T j i = false → bef T i j = false →
      aload P (aev (st i).1) o (st j).2 = aload P (aev (st i).1) o (st i).2 ∧ aload P (aev (st i).1) o (st (j + 1)).2 = aload P (aev (st i).1) o (st i).2) :
    ∃ G, DrawG P ops T st val G := by
  simp only [gapOK, Bool.and_eq_true] at hok
  obtain ⟨⟨⟨⟨⟨⟨⟨ht, _⟩, _⟩, ha1⟩, ha2⟩, hsl⟩, hch⟩, hlo⟩ := hok
  have hsl := Nat.blt_eq.mp hsl
  obtain ⟨t1, ht1⟩ := Option.isSome_iff_exists.mp ha1
  obtain ⟨t2, ht2⟩ := Option.isSome_iff_exists.mp ha2
  obtain ⟨z1, hz1, hzt1, hst1, hv1, hr1⟩ := alloc_did W (by omega) ht1
  obtain ⟨z2, hz2, hzt2, hst2, hv2, hr2⟩ := alloc_did W hsl ht2
  have hh1 : heapOp P ops s = true := by
    obtain ⟨o, ho, hg, hop⟩ := allocOp_inv ht1
    unfold heapOp; rw [ho]; simp [cls, hop]
  have hh2 : heapOp P ops (s + 1) = true := by
    obtain ⟨o, ho, hg, hop⟩ := allocOp_inv ht2
    unfold heapOp; rw [ho]; simp [cls, hop]
  have chain : ∀ i, i < ops.size → heapOp P ops i = true → i ≠ s → i ≠ s + 1 → s + 1 < i ∧ bef T s i = true ∧ bef T (s + 1) i = true ∧ ∀ j, j < i → heapOp P ops j = true → bef T j i = true := by
    intro i hi hh n1 n2
    have h1 := all_range hch hi
    simp only [hh, Bool.not_true, Bool.false_or, decide_eq_false n1, decide_eq_false n2, Bool.and_eq_true] at h1
    refine ⟨Nat.blt_eq.mp h1.1.1.1, h1.1.1.2, h1.1.2, fun j hj hhj => ?_⟩
    have h2 := all_range h1.2 hj
    simpa [hhj] using h2
  have none_before : ∀ j, j < s → heapOp P ops j = false := fun j hj => by
    cases hx : heapOp P ops j with
    | false => rfl
    | true => have := (chain j (by omega) hx (by omega) (by omega)).1; omega
  have hbb : (st (s + 1)).2.next = (st s).2.next + 1 := by rw [hst1]; rfl
  have hnx2 : (st (s + 2)).2.next = (st s).2.next + 2 := by show (st (s + 1 + 1)).2.next = _; rw [hst2]; show (st (s + 1)).2.next + 1 = _; rw [hbb]
  -- the heap in which the second one is there alone
  let gap : AH := (st (s + 2)).2.put (st s).2.next none
  have gap_next : gap.next = (st s).2.next + 2 := hnx2
  have two_blk : ∀ j, (st (s + 2)).2.blk? j = if j = (st s).2.next + 1 then some { lo := 0, hi := z2.cells.length, ro := false, cells := putCells z2.cells 0 .nil } else if j = (st s).2.next then some { lo := 0, hi := z1.cells.length, ro := false, cells := putCells z1.cells 0 .nil } else (st s).2.blk? j := fun j => by
    show (st (s + 1 + 1)).2.blk? j = _
    rw [hst2, AH.blk?_alloc, hbb, hst1, AH.blk?_alloc]
  have two_ob : ∀ j, (st (s + 2)).2.ob? j = (st s).2.ob? j := fun j => by
    show (st (s + 1 + 1)).2.ob? j = _
    rw [hst2, AH.ob?_alloc, hst1, AH.ob?_alloc]
  have gap_blk : ∀ j, gap.blk? j = if j = (st s).2.next then none else (st (s + 2)).2.blk? j := fun j => AH.blk?_put _ _ _ _
  have gap_ob : ∀ j, gap.ob? j = (st s).2.ob? j := fun j => two_ob j
  have posi : ∀ i S, heapOp P ops i = true → i < ops.size → i ≠ s → i ≠ s + 1 → S i = false → (∀ j, j < ops.size → heapOp P ops j = true → bef T j i = true → S j = true) → (∀ j, bef T i j = true → S j = false) →
      ∀ p, s + 2 ≤ p → p ≤ ops.size → (∀ j, j < ops.size → heapOp P ops j = true → (S j = true ↔ j < p)) → (st i).2 = (st p).2 ∧ (∀ j, j < ops.size → heapOp P ops j = true → (ins S i j = true ↔ j < i + 1)) := by
    intro i S hheap hi n1 n2 hSi hS1 hS2 p hp1 hp hpos
    obtain ⟨c1, c2, c3, c4⟩ := chain i hi hheap n1 n2
    have hposi : ∀ j, j < ops.size → heapOp P ops j = true → (S j = true ↔ j < i) := fun j hj hhj => by
      constructor
      · intro hl
        rcases Nat.lt_trichotomy j i with h2 | h2 | h2
        · exact h2
        · subst h2; rw [hl] at hSi; simp at hSi
        · have := hS2 j ((chain j hj hhj (by omega) (by omega)).2.2.2 i h2 hheap)
          rw [hl] at this; simp at this
      · intro hlt
        exact hS1 j hj hhj (c4 j hlt hhj)
    refine ⟨?_, fun j hj hhj => ?_⟩
    · rcases Nat.le_total p i with h2 | h2
      · exact W.heap_same i h2 (by omega) (fun j h3 h4 => by
          cases hx : heapOp P ops j with
          | false => rfl
          | true => have := (hpos j (by omega) hx).1 ((hposi j (by omega) hx).2 h4); omega)
      · exact (W.heap_same p h2 hp (fun j h3 h4 => by
          cases hx : heapOp P ops j with
          | false => rfl
          | true => have := (hposi j (by omega) hx).1 ((hpos j (by omega) hx).2 h4); omega)).symm
    · unfold ins
      rw [Bool.or_eq_true, decide_eq_true_iff, hposi j hj hhj]
      omega
  have only : ∀ S : Nat → Bool, (∀ j, j < ops.size → heapOp P ops j = true → s + 1 < j → S j = false) → S s = true → S (s + 1) = true → ∀ j, j < ops.size → heapOp P ops j = true → (S j = true ↔ j < s + 2) := by
    intro S h1 h2 h3 j hj hhj
    constructor
    · intro hS
      rcases Nat.lt_or_ge j (s + 2) with q | q
      · exact q
      · rw [h1 j hj hhj (by omega)] at hS; simp at hS
    · intro hlt
      rcases Nat.lt_or_ge j s with q | q
      · rw [none_before j q] at hhj; simp at hhj
      · rcases Nat.lt_or_ge j (s + 1) with q2 | q2
        · rw [show j = s by omega]; exact h2
        · rw [show j = s + 1 by omega]; exact h3
  have ins_o : ∀ (S : Nat → Bool) (i : Nat), i < s + 2 → (∀ j, j < ops.size → heapOp P ops j = true → s + 1 < j → S j = false) → ∀ j, j < ops.size → heapOp P ops j = true → s + 1 < j → ins S i j = false := fun S i hi h1 j h2 h3 h4 => by
    unfold ins
    rw [h1 j h2 h3 h4, decide_eq_false (by omega)]
    rfl
  have ins_i : ∀ (S : Nat → Bool) (i : Nat), ins S i i = true := fun S i => by simp [ins]
  have ins_n : ∀ (S : Nat → Bool) (i j : Nat), j ≠ i → ins S i j = S j := fun S i j h => by simp [ins, h]
  refine ⟨fun S f g => ((∀ j, j < ops.size → heapOp P ops j = true → s + 1 < j → S j = false) ∧
      ((S s = false ∧ S (s + 1) = false ∧ g = (st s).2) ∨ (S s = true ∧ S (s + 1) = false ∧ g = (st (s + 1)).2) ∨
        (S s = false ∧ S (s + 1) = true ∧ g = gap ∧ f (st s).2.next = none ∧ ∀ id, (st s).2.next ≤ id → (st s).2.blk? id = none))) ∨
      (S s = true ∧ S (s + 1) = true ∧ ∃ p, s + 2 ≤ p ∧ p ≤ ops.size ∧ (∀ j, j < ops.size → heapOp P ops j = true → (S j = true ↔ j < p)) ∧ g = (st p).2), ?_, ?_, ?_, ?_, ?_⟩
  · intro f
    exact .inl ⟨fun _ _ _ _ => rfl, .inl ⟨rfl, rfl, (W.heap_same s (Nat.zero_le _) (by omega) (fun j _ h => none_before j h)).symm⟩⟩
  · rintro i o S g f ho hheap hS0 hSi hS1 hS2 hG hw B w ρ ρ' H hρ1 hρ2
    have hi : i < ops.size := (Array.getElem?_eq_some_iff.1 ho).1
    obtain ⟨o', ho', _, hdid⟩ := W.did i hi
    obtain rfl : o' = o := by rw [ho] at ho'; injection ho' with e; exact e.symm
    rcases hdid with ⟨hw', _, _⟩ | ⟨_, hop⟩
    · rw [hw] at hw'; simp at hw'
    have usual : ∀ p, (st i).2 = (st p).2 → g = (st p).2 → OpRuns P ρ o' w (HPost B f w (st (i + 1)).2 (val i)) := by
      rintro p e1 rfl
      have hop' : aop P call ρ' o' (st p).2 = some (val i, (st (i + 1)).2) := by rw [← e1, ← hop]; exact aop_congr hρ1
      exact aop_run hc H hρ2 hop'
    by_cases his : i = s
    · subst his
      rcases hG with ⟨hoth, hG⟩ | ⟨h1, _⟩
      · rcases hG with ⟨h1, h2, rfl⟩ | ⟨h1, _⟩ | ⟨h1, h2, rfl, h4, h5⟩
        · exact (usual i rfl rfl).mono fun v w' ⟨f', g1, g2, g3, g4⟩ => ⟨f', _, g1, .inl ⟨ins_o S i (by omega) hoth, .inr (.inl ⟨ins_i S i, by rw [ins_n S i _ (by omega)]; exact h2, rfl⟩)⟩, g2, g3, g4⟩
        · rw [hSi] at h1; simp at h1
        · have hq := alloc_runs (hr1 o' ho).2 hz1 hzt1 H h4 (g' := (st (i + 2)).2) (fun j => by
            rw [two_blk, gap_blk, two_blk]
            by_cases e1 : j = (st i).2.next
            · rw [if_pos e1, if_neg (by omega), if_pos e1]
            · rw [if_neg e1, if_neg e1, if_neg e1]) (fun j => by rw [gap_ob, two_ob]) (by rw [gap_next, hnx2]; exact Nat.le_refl _) (by rw [hnx2]; omega) ρ
          refine hq.mono fun v w' ⟨f', g0, g1, g2, g3, g4⟩ => ⟨f', _, g1, .inr ⟨ins_i S i, by rw [ins_n S i _ (by omega)]; exact h2, i + 2, Nat.le_refl _, by omega, ?_, rfl⟩, g2, g3, by rw [hv1]; exact g4⟩
          exact only _ (ins_o S i (by omega) hoth) (ins_i S i) (by rw [ins_n S i _ (by omega)]; exact h2)
      · rw [hSi] at h1; simp at h1
    · by_cases his1 : i = s + 1
      · subst his1
        rcases hG with ⟨hoth, hG⟩ | ⟨_, h1, _⟩
        · rcases hG with ⟨h1, h2, rfl⟩ | ⟨h1, h2, rfl⟩ | ⟨_, h1, _⟩
          · have hfr : ∀ id, (st s).2.next ≤ id → (st s).2.blk? id = none := H.fresh
            have hq := alloc_runs (hr2 o' ho).2 hz2 hzt2 H (H.ffresh ((st s).2.next + 1) (by omega)) (g' := gap) (fun j => by
              rw [gap_blk, two_blk]
              by_cases e1 : j = (st s).2.next
              · rw [if_pos e1, if_neg (by omega), e1, hfr _ (Nat.le_refl _)]
              · rw [if_neg e1]
                by_cases e2 : j = (st s).2.next + 1
                · rw [if_pos e2, if_pos e2]
                · rw [if_neg e2, if_neg e2, if_neg e1]) gap_ob (by rw [gap_next]; omega) (by rw [gap_next]; omega) ρ
            exact hq.mono fun v w' ⟨f', g0, g1, g2, g3, g4⟩ => ⟨f', _, g1, .inl ⟨ins_o S (s + 1) (by omega) hoth, .inr (.inr ⟨by rw [ins_n S _ _ (by omega)]; exact h1, ins_i S _, rfl, by rw [g0 _ (by omega)]; exact H.ffresh _ (Nat.le_refl _), hfr⟩)⟩, g2, g3, by rw [hv2, hbb]; exact g4⟩
          · refine (usual (s + 1) rfl rfl).mono fun v w' ⟨f', g1, g2, g3, g4⟩ => ⟨f', _, g1, .inr ⟨by rw [ins_n S _ _ (by omega)]; exact h1, ins_i S _, s + 2, Nat.le_refl _, by omega, ?_, rfl⟩, g2, g3, g4⟩
            exact only _ (ins_o S (s + 1) (by omega) hoth) (by rw [ins_n S _ _ (by omega)]; exact h1) (ins_i S _)
          · rw [hSi] at h1; simp at h1
        · rw [hSi] at h1; simp at h1
      · obtain ⟨c1, c2, c3, c4⟩ := chain i hi hheap his his1
        have k1 := hS1 s (by omega) hh1 c2
        have k2 := hS1 (s + 1) hsl hh2 c3
        rcases hG with ⟨_, h1⟩ | ⟨h1, h2, p, hp1, hp, hpos, rfl⟩
        · rcases h1 with ⟨h1, _⟩ | ⟨_, h1, _⟩ | ⟨h1, _⟩
          · rw [k1] at h1; simp at h1
          · rw [k2] at h1; simp at h1
          · rw [k1] at h1; simp at h1
        · obtain ⟨e1, e2⟩ := posi i S hheap hi his his1 hSi hS1 hS2 p hp1 hp hpos
          exact (usual p e1 rfl).mono fun v w' ⟨f', g1, g2, g3, g4⟩ => ⟨f', _, g1, .inr ⟨by rw [ins_n S _ _ (by omega)]; exact h1, by rw [ins_n S _ _ (by omega)]; exact h2, i + 1, by omega, by omega, e2, rfl⟩, g2, g3, g4⟩
  · rintro i o S g f ho hheap hS0 hSi hS1 hS2 hG hw
    have hi : i < ops.size := (Array.getElem?_eq_some_iff.1 ho).1
    have his : i ≠ s := by rintro rfl; rw [(hr1 o ho).1] at hw; simp at hw
    have his1 : i ≠ s + 1 := by rintro rfl; rw [(hr2 o ho).1] at hw; simp at hw
    obtain ⟨o', ho', _, hdid⟩ := W.did i hi
    obtain rfl : o' = o := by rw [ho] at ho'; injection ho' with e; exact e.symm
    obtain ⟨c1, c2, c3, c4⟩ := chain i hi hheap his his1
    have k1 := hS1 s (by omega) hh1 c2
    have k2 := hS1 (s + 1) hsl hh2 c3
    rcases hG with ⟨_, h1⟩ | ⟨h1, h2, p, hp1, hp, hpos, rfl⟩
    · rcases h1 with ⟨h1, _⟩ | ⟨_, h1, _⟩ | ⟨h1, _⟩
      · rw [k1] at h1; simp at h1
      · rw [k2] at h1; simp at h1
      · rw [k1] at h1; simp at h1
    · obtain ⟨e1, e2⟩ := posi i S hheap hi his his1 hSi hS1 hS2 p hp1 hp hpos
      rcases hdid with ⟨_, _, hh⟩ | ⟨hw', _⟩
      · exact .inr ⟨by rw [ins_n S _ _ (by omega)]; exact h1, by rw [ins_n S _ _ (by omega)]; exact h2, i + 1, by omega, by omega, e2, by rw [hh, e1]⟩
      · rw [hw] at hw'; simp at hw'
  · rintro i o S g f ho hcl hS0 hS1 hS2 hG hw
    have hi : i < ops.size := (Array.getElem?_eq_some_iff.1 ho).1
    have pos2 : ∀ p, (∀ j, j < ops.size → heapOp P ops j = true → s + 1 < j → S j = false) → (S s = true ↔ s < p) → (S (s + 1) = true ↔ s + 1 < p) → p ≤ s + 1 → ∀ j, j < ops.size → heapOp P ops j = true → (S j = true ↔ j < p) := by
      intro p h1 h2 h3 hp j hj hhj
      rcases Nat.lt_or_ge j s with q | q
      · rw [none_before j q] at hhj; simp at hhj
      · rcases Nat.lt_or_ge j (s + 1) with q2 | q2
        · rw [show j = s by omega]; exact h2
        · rcases Nat.lt_or_ge j (s + 2) with q3 | q3
          · rw [show j = s + 1 by omega]; exact h3
          · rw [h1 j hj hhj (by omega)]; simp; omega
    rcases hG with ⟨hoth, hG⟩ | ⟨h1, h2, p, hp1, hp, hpos, rfl⟩
    · rcases hG with ⟨h1, h2, rfl⟩ | ⟨h1, h2, rfl⟩ | ⟨h1, h2, rfl, h4, h5⟩
      · exact chain_load W ht hload ho hcl hS1 hS2 (by omega) (pos2 s hoth (by rw [h1]; simp) (by rw [h2]; simp) (by omega)) hw
      · exact chain_load W ht hload ho hcl hS1 hS2 (by omega) (pos2 (s + 1) hoth (by rw [h1]; simp) (by rw [h2]; simp) (by omega)) hw
      · have hl := all_range hlo hi
        simp only [ho, hcl, decide_true, Bool.not_true, Bool.false_or, Bool.and_eq_true, beq_iff_eq] at hl
        have b1 : bef T s i = false := by
          cases hx : bef T s i with
          | false => rfl
          | true => have := hS1 s (by omega) hh1 hx; rw [h1] at this; simp at this
        have b2 : bef T i s = false := by
          cases hx : bef T i s with
          | false => rfl
          | true => have := hS2 (s + 1) (by rw [← hl.2]; exact hx); rw [h2] at this; simp at this
        have e1 := (hload i s o ho hcl hw (by omega) hh1 b1 b2).1
        obtain ⟨o', ho', _, hdid⟩ := W.did i hi
        obtain rfl : o' = o := by rw [ho] at ho'; injection ho' with e; exact e.symm
        rcases hdid with ⟨hw', _⟩ | ⟨_, hop⟩
        · rw [hw] at hw'; simp at hw'
        · unfold aop at hop
          rw [hcl] at hop
          simp only at hop
          cases hv : aload P (aev (st i).1) o' (st i).2 with
          | none => simp [hv] at hop
          | some v =>
            rw [hv] at e1
            refine aload_more (fun id b hb => ?_) e1
            have hlt : id < (st s).2.next := by
              rcases Nat.lt_or_ge id (st s).2.next with q | q
              · exact q
              · rw [h5 id q] at hb; simp at hb
            rw [gap_blk, two_blk, if_neg (by omega), if_neg (by omega), if_neg (by omega)]
            exact hb
    · exact chain_load W ht hload ho hcl hS1 hS2 hp hpos hw
  · rintro S g B f w hall _ hG H
    rcases hG with ⟨_, h1⟩ | ⟨h1, h2, p, hp1, hp, hpos, rfl⟩
    · have k1 := hall s (by omega) hh1
      have k2 := hall (s + 1) hsl hh2
      rcases h1 with ⟨h1, _⟩ | ⟨_, h1, _⟩ | ⟨h1, _⟩
      · rw [k1] at h1; simp at h1
      · rw [k2] at h1; simp at h1
      · rw [k1] at h1; simp at h1
    · have : (st ops.size).2 = (st p).2 := W.heap_same ops.size hp (Nat.le_refl _) (fun j h3 h4 => by
        cases hx : heapOp P ops j with
        | false => rfl
        | true => have := (hpos j h4 hx).1 (hall j h4 hx); omega)
      rw [this]
      exact H
end
end Go.Proofs.Ytgnacecplaemlaa.AI
/-
  An abstract interpreter for the model's code: a region in which the last write stands in no order with other writes.
-/
namespace Go.Proofs.Ytgnacecplaemlaa.AI
open Go.RowKit

theorem write_some {h : AH} {id off : Nat} {l : List AV} {b : Blk} (hb : h.blk? id = some b) (hro : b.ro = false) (h1 : b.lo ≤ off) (h2 : off + l.length ≤ b.hi) :
    h.write id off l = some (h.put id (some { b with cells := putCells l off b.cells })) := by
  unfold AH.write
  rw [hb]
  have e1 : Nat.ble b.lo off = true := Nat.ble_eq.mpr h1
  have e2 : Nat.ble (off + l.length) b.hi = true := Nat.ble_eq.mpr h2
  simp [hro, e1, e2]
theorem write_eqv {g h h' : AH} {id off : Nat} {l : List AV} (e : AHeq g h) (hw : h.write id off l = some h') : ∃ g', g.write id off l = some g' ∧ AHeq g' h' := by
  obtain ⟨b, h1, h2, h3, h4, rfl⟩ := write_inv hw
  refine ⟨_, write_some (by rw [e.blk]; exact h1) h2 h3 h4, fun j => ?_, e.ob, e.next⟩
  rw [AH.blk?_put, AH.blk?_put, e.blk]
theorem write_other {h h' : AH} {id off j : Nat} {l : List AV} (hw : h.write id off l = some h') (hj : j ≠ id) : h'.blk? j = h.blk? j := by
  obtain ⟨b, _, _, _, _, rfl⟩ := write_inv hw
  rw [AH.blk?_put, if_neg hj]
/-- Two writes of two blocks. -/
theorem write_comm {h h1 h2 : AH} {a o b p : Nat} {l m : List AV} (hne : a ≠ b) (w1 : h.write a o l = some h1) (w2 : h.write b p m = some h2) :
    ∃ h3 h4, h1.write b p m = some h3 ∧ h2.write a o l = some h4 ∧ AHeq h4 h3 := by
  obtain ⟨x, x1, x2, x3, x4, rfl⟩ := write_inv w1
  obtain ⟨y, y1, y2, y3, y4, rfl⟩ := write_inv w2
  refine ⟨_, _, write_some (by rw [AH.blk?_put, if_neg (Ne.symm hne)]; exact y1) y2 y3 y4, write_some (by rw [AH.blk?_put, if_neg hne]; exact x1) x2 x3 x4, fun j => ?_, fun _ => rfl, rfl⟩
  simp only [AH.blk?_put]
  by_cases hj : j = a
  · subst hj; rw [if_pos rfl, if_neg hne, if_pos rfl]
  · rw [if_neg hj, if_neg hj]

/-! ### The static part -/
/-- A store without a guard: its type, its address, its value. -/
def storeOp (ops : Array Oper) (i : Nat) : Option (TypeId × Operand × Operand) :=
  match ops[i]? with
  | some o => match o.guard, o.op with
    | none, .store t a x => some (t, a, x)
    | _, _ => none
  | none => none
def chainButOK (P : Program) (T : List Nat) (ops : Array Oper) (s : Nat) : Bool :=
  (List.range ops.size).all fun i => !heapOp P ops i || decide (i = s) || ((List.range i).all fun j => !heapOp P ops j || decide (j = s) || bef T j i) && Nat.ble i s && (bef T i s || (storeOp ops i).isSome)
def loadsFirst (P : Program) (T : List Nat) (ops : Array Oper) (s : Nat) : Bool :=
  (List.range ops.size).all fun i => match ops[i]? with
    | some o => decide (cls P o ≠ .load) || bef T i s
    | none => false
def floatOK (P : Program) (T : List Nat) (ops : Array Oper) (s : Nat) : Bool :=
  tableOK T ops && slotsOK T ops && Region.noSelect ops && (storeOp ops s).isSome && heapOp P ops s && Nat.blt s ops.size && chainButOK P T ops s && loadsFirst P T ops s
/-- The block that a store writes. -/
def storeId (ops : Array Oper) (i : Nat) (fr : List AV) : Option Nat :=
  match storeOp ops i with
  | some (_, a, _) => match aev fr a with
    | .ptr id _ => some id
    | _ => none
  | none => none
def sidOK (ops : Array Oper) (log : List (List AV × AH)) (s : Nat) : Bool :=
  match log[s]? with
  | some (fs, _) => (storeId ops s fs).isSome
  | none => false
noncomputable def apartOK (T : List Nat) (ops : Array Oper) (log : List (List AV × AH)) (s : Nat) (i : Nat) : Bool :=
  if Nat.blt i s && !bef T i s then
    match storeOp ops i with
    | some _ => match log[i]?, log[s]? with
      | some (fr, _), some (fs, _) => match storeId ops i fr, storeId ops s fs with
        | some a, some b => !Nat.beq a b
        | _, _ => false
      | _, _ => false
    | none => true
  else true

/-- A region that draws its order. -/
noncomputable def adraw (P : Program) (call : ACall) (ops : Array Oper) (fr : List AV) (h : AH) : Option (List AV × AH) :=
  if drawOK P (befs ops.toList []) ops then
    match alog P call ops (List.range ops.size) fr h with
    | none => none
    | some log => if (List.range ops.size).all (loadOK P (befs ops.toList []) ops log) then log[ops.size]? else none
  else if floatOK P (befs ops.toList []) ops (ops.size - 1) then
    match alog P call ops (List.range ops.size) fr h with
    | none => none
    | some log => if (List.range ops.size).all (loadOK P (befs ops.toList []) ops log) && (List.range ops.size).all (apartOK (befs ops.toList []) ops log (ops.size - 1)) && sidOK ops log (ops.size - 1) then log[ops.size]? else none
  else if gapOK P (befs ops.toList []) ops (firstHeap P ops) then
    match alog P call ops (List.range ops.size) fr h with
    | none => none
    | some log => if (List.range ops.size).all (loadOK P (befs ops.toList []) ops log) then log[ops.size]? else none
  else none

section
variable {P : Program} {call : ACall} {T : List Nat} {ops : Array Oper} {st : Nat → List AV × AH} {val : Nat → AV}

/-- What a store's run in the interpreter says. -/
theorem store_did (W : Walk P call ops st val) {i : Nat} (hi : i < ops.size) {x : TypeId × Operand × Operand} (hs : storeOp ops i = some x) {id : Nat} (hid : storeId ops i (st i).1 = some id) :
    ∃ off l, (st i).2.write id off l = some (st (i + 1)).2 ∧ val i = .tup [] ∧
      ∀ o, ops[i]? = some o → ∀ (ρ' : Operand → AV), (∀ y ∈ o.op.operands, ρ' y = aev (st i).1 y) → ∀ g g', g.write id off l = some g' → aop P call ρ' o g = some (.tup [], g') := by
  obtain ⟨o, ho, _, hd⟩ := W.did i hi
  unfold storeOp at hs
  rw [ho] at hs
  simp only at hs
  split at hs
  · rename_i hg hop
    rename_i t a y
    injection hs with hs
    have hstore : storeId ops i (st i).1 = match aev (st i).1 a with | .ptr id _ => some id | _ => none := by
      unfold storeId storeOp
      simp only [ho, hg, hop]
    rw [hid] at hstore
    split at hstore
    · rename_i id' off haddr
      injection hstore with hstore
      subst hstore
      have hw : awanted ops (st i).1 o = some true := by unfold awanted; rw [hg]
      rcases hd with ⟨hw', _⟩ | ⟨_, hop'⟩
      · rw [hw] at hw'; simp at hw'
      · have key : ∀ (ρ' : Operand → AV), ρ' a = aev (st i).1 a → ρ' y = aev (st i).1 y → ∀ g, aop P call ρ' o g = match asize P t with
            | some n => if (aev (st i).1 y).isTop || (aev (st i).1 y).cells.length != n || !atoms (aev (st i).1 y).cells then none else (g.write id off (aev (st i).1 y).cells).map fun h' => (.tup [], h')
            | none => none := fun ρ' e1 e2 g => by
          have hcls : cls P o = .heap := by unfold cls; rw [hop]
          unfold aop
          rw [hcls]
          simp only [aheap, hop, e1, e2, haddr]
          cases asize P t <;> rfl
        rw [key _ rfl rfl] at hop'
        cases hsz : asize P t with
        | none => rw [hsz] at hop'; simp at hop'
        | some n =>
          rw [hsz] at hop'
          simp only at hop'
          split at hop'
          · simp at hop'
          · rename_i hc
            cases hwr : (st i).2.write id off (aev (st i).1 y).cells with
            | none => simp [hwr] at hop'
            | some h1 =>
              simp [hwr] at hop'
              refine ⟨off, _, by rw [hwr, hop'.2], hop'.1.symm, fun o2 ho2 ρ' hρ g g' hg' => ?_⟩
              obtain rfl : o2 = o := by rw [ho] at ho2; injection ho2 with e; exact e.symm
              rw [key ρ' (hρ a (by rw [hop]; simp [Op.operands])) (hρ y (by rw [hop]; simp [Op.operands])), hsz]
              simp only
              rw [if_neg hc, hg']
              rfl
    · simp at hstore
  · simp at hs

/-- The last write is apart from those with which it stands in no order. -/
theorem float_draw (hc : CallOK P call) (W : Walk P call ops st val) {s : Nat} (hok : floatOK P T ops s = true)
    (hap : ∀ i, i < s → bef T i s = false → (storeOp ops i).isSome = true → ∃ a b, storeId ops i (st i).1 = some a ∧ storeId ops s (st s).1 = some b ∧ a ≠ b)
    (hsid : ∃ b, storeId ops s (st s).1 = some b)
    (hload : ∀ i j o, ops[i]? = some o → cls P o = .load → awanted ops (st i).1 o = some true → j < ops.size → heapOp P ops j = true → bef T j i = false → bef T i j = false →
      aload P (aev (st i).1) o (st j).2 = aload P (aev (st i).1) o (st i).2 ∧ aload P (aev (st i).1) o (st (j + 1)).2 = aload P (aev (st i).1) o (st i).2) :
    ∃ G, DrawG P ops T st val G := by
  simp only [floatOK, Bool.and_eq_true] at hok
  obtain ⟨⟨⟨⟨⟨⟨⟨ht, hs⟩, hsel⟩, hss⟩, hsh⟩, hsl⟩, hch⟩, hlf⟩ := hok
  have hsl := Nat.blt_eq.mp hsl
  obtain ⟨bs, hbs⟩ := hsid
  obtain ⟨xs, hxs⟩ := Option.isSome_iff_exists.mp hss
  obtain ⟨os, ls, hws, hvs, hruns⟩ := store_did W hsl hxs hbs
  have chain : ∀ i, i < ops.size → heapOp P ops i = true → i ≠ s → (∀ j, j < i → heapOp P ops j = true → j ≠ s → bef T j i = true) ∧ i ≤ s ∧ (bef T i s = true ∨ (storeOp ops i).isSome = true) := by
    intro i hi hh hne
    have h1 := all_range hch hi
    simp only [hh, Bool.not_true, Bool.false_or, decide_eq_false hne, Bool.and_eq_true, Bool.or_eq_true] at h1
    refine ⟨fun j hj hhj hjs => ?_, Nat.ble_eq.mp h1.1.2, h1.2⟩
    have h2 := all_range h1.1.1 hj
    simpa [hhj, hjs] using h2
  -- between: the floating block does not turn
  have still : ∀ p q, p ≤ q → q ≤ s → (∀ j, p ≤ j → j < q → heapOp P ops j = true → bef T j s = false) → (st q).2.blk? bs = (st p).2.blk? bs := by
    intro p q hpq hqs hn
    induction q with
    | zero => rw [show p = 0 by omega]
    | succ q ih =>
      by_cases hp : p = q + 1
      · rw [hp]
      · rw [← ih (by omega) (by omega) (fun j h1 h2 => hn j h1 (by omega))]
        by_cases hh : heapOp P ops q = true
        · have hb := hn q (by omega) (Nat.lt_succ_self q) hh
          obtain ⟨_, _, hst⟩ := chain q (by omega) hh (by omega)
          rcases hst with hst | hst
          · rw [hb] at hst; simp at hst
          · obtain ⟨a, b, e1, e2, e3⟩ := hap q (by omega) hb hst
            obtain ⟨x, hx⟩ := Option.isSome_iff_exists.mp hst
            obtain ⟨off, l, hw, _⟩ := store_did W (by omega) hx e1
            rw [hbs] at e2
            injection e2 with e2
            subst e2
            exact write_other hw (Ne.symm e3)
        · have hh : heapOp P ops q = false := by simpa using hh
          rw [W.heap_same (p := q) (q + 1) (by omega) (by omega) (fun j h1 h2 => by rw [show j = q by omega]; exact hh)]
  -- the floating write goes through wherever its turn comes
  have goes : ∀ p, p ≤ s → (∀ j, p ≤ j → j < s → heapOp P ops j = true → bef T j s = false) → ∃ h1, (st p).2.write bs os ls = some h1 := by
    intro p hp hn
    obtain ⟨b, h1, h2, h3, h4, _⟩ := write_inv hws
    rw [still p s hp (Nat.le_refl _) hn] at h1
    exact ⟨_, write_some h1 h2 h3 h4⟩
  have posi : ∀ i S, heapOp P ops i = true → i < ops.size → i ≠ s → S i = false → (∀ j, j < ops.size → heapOp P ops j = true → bef T j i = true → S j = true) → (∀ j, bef T i j = true → S j = false) →
      ∀ p, p ≤ s → (∀ j, j < ops.size → heapOp P ops j = true → j ≠ s → (S j = true ↔ j < p)) → (st i).2 = (st p).2 ∧ (∀ j, j < ops.size → heapOp P ops j = true → j ≠ s → (ins S i j = true ↔ j < i + 1)) ∧ (∀ j, i ≤ j → j < s → heapOp P ops j = true → S j = false) := by
    intro i S hheap hi hne hSi hS1 hS2 p hp hpos
    have hposi : ∀ j, j < ops.size → heapOp P ops j = true → j ≠ s → (S j = true ↔ j < i) := fun j hj hhj hjs => by
      constructor
      · intro hl
        rcases Nat.lt_trichotomy j i with h2 | h2 | h2
        · exact h2
        · subst h2; rw [hl] at hSi; simp at hSi
        · have := hS2 j ((chain j hj hhj hjs).1 i h2 hheap hne)
          rw [hl] at this; simp at this
      · intro hlt
        exact hS1 j hj hhj ((chain i hi hheap hne).1 j hlt hhj hjs)
    have his := (chain i hi hheap hne).2.1
    refine ⟨?_, fun j hj hhj hjs => ?_, fun j h1 h2 h3 => ?_⟩
    · rcases Nat.le_total p i with h2 | h2
      · exact W.heap_same i h2 (by omega) (fun j h3 h4 => by
          cases hx : heapOp P ops j with
          | false => rfl
          | true => have := (hpos j (by omega) hx (by omega)).1 ((hposi j (by omega) hx (by omega)).2 h4); omega)
      · exact (W.heap_same p h2 (by omega) (fun j h3 h4 => by
          cases hx : heapOp P ops j with
          | false => rfl
          | true => have := (hposi j (by omega) hx (by omega)).1 ((hpos j (by omega) hx (by omega)).2 h4); omega)).symm
    · unfold ins
      rw [Bool.or_eq_true, decide_eq_true_iff, hposi j hj hhj hjs]
      omega
    · cases hx : S j with
      | false => rfl
      | true => have := (hposi j (by omega) h3 (by omega)).1 hx; omega
  refine ⟨fun S _ g => ∃ p, p ≤ s ∧ (∀ j, j < ops.size → heapOp P ops j = true → j ≠ s → (S j = true ↔ j < p)) ∧ (∀ j, p ≤ j → j < s → heapOp P ops j = true → S s = true → bef T j s = false) ∧
    ((S s = false ∧ g = (st p).2) ∨ (S s = true ∧ ∃ h1, (st p).2.write bs os ls = some h1 ∧ AHeq g h1)), fun _ => ⟨0, Nat.zero_le _, fun j _ _ _ => by simp, fun j _ _ _ h => by simp at h, .inl ⟨rfl, rfl⟩⟩, ?_, ?_, ?_, ?_⟩
  · rintro i o S g f ho hheap hS0 hSi hS1 hS2 ⟨p, hp, hpos, hdep, hg⟩ hw B w ρ ρ' H hρ1 hρ2
    have hi : i < ops.size := (Array.getElem?_eq_some_iff.1 ho).1
    obtain ⟨o', ho', _, hdid⟩ := W.did i hi
    obtain rfl : o' = o := by rw [ho] at ho'; injection ho' with e; exact e.symm
    by_cases his : i = s
    · subst his
      -- the floating one
      rcases hg with ⟨_, rfl⟩ | ⟨h1, _⟩
      · have hno : ∀ j, p ≤ j → j < i → heapOp P ops j = true → bef T j i = false := fun j h1 h2 h3 => by
          cases hx : bef T j i with
          | false => rfl
          | true => have := (hpos j (by omega) h3 (by omega)).1 (hS1 j (by omega) h3 hx); omega
        obtain ⟨h1, hw1⟩ := goes p hp hno
        have hop := hruns o' ho ρ' hρ1 _ _ hw1
        refine (aop_run hc H hρ2 hop).mono fun v w' ⟨f', g1, g2, g3, g4⟩ => ⟨f', h1, g1, ⟨p, hp, fun j hj hhj hjs => ?_, fun j q1 q2 q3 _ => hno j q1 q2 q3, .inr ⟨by simp [ins], h1, hw1, AHeq.refl _⟩⟩, g2, g3, by rw [hvs]; exact g4⟩
        unfold ins
        rw [Bool.or_eq_true, decide_eq_true_iff]
        simp only [hjs, false_or]
        exact hpos j hj hhj hjs
      · rw [hSi] at h1; simp at h1
    · obtain ⟨e1, e2, e3⟩ := posi i S hheap hi his hSi hS1 hS2 p hp hpos
      have hi1 : i + 1 ≤ s := by have := (chain i hi hheap his).2.1; omega
      have hins : ins S i s = S s := by unfold ins; simp [Ne.symm his]
      rcases hg with ⟨hSs, rfl⟩ | ⟨hSs, h1, hw1, heq⟩
      · rcases hdid with ⟨hw', _, _⟩ | ⟨_, hop⟩
        · rw [hw] at hw'; simp at hw'
        · have hop' : aop P call ρ' o' (st p).2 = some (val i, (st (i + 1)).2) := by rw [← e1, ← hop]; exact aop_congr hρ1
          exact (aop_run hc H hρ2 hop').mono fun v w' ⟨f', g1, g2, g3, g4⟩ => ⟨f', _, g1, ⟨i + 1, hi1, e2, fun j _ _ _ h => by rw [hins, hSs] at h; simp at h, .inl ⟨by rw [hins]; exact hSs, rfl⟩⟩, g2, g3, g4⟩
      · -- a store beside it
        have hb : bef T i s = false := by
          cases hx : bef T i s with
          | false => rfl
          | true => have := hS2 s hx; rw [hSs] at this; simp at this
        obtain ⟨_, _, hst⟩ := chain i hi hheap his
        rcases hst with hst | hst
        · rw [hb] at hst; simp at hst
        · obtain ⟨a, b, q1, q2, q3⟩ := hap i (by omega) hb hst
          rw [hbs] at q2
          injection q2 with q2
          subst q2
          obtain ⟨x, hx⟩ := Option.isSome_iff_exists.mp hst
          obtain ⟨off, l, hwi, hvi, hri⟩ := store_did W hi hx q1
          rw [e1] at hwi
          obtain ⟨h3, h4, c1, c2, c3⟩ := write_comm (Ne.symm q3) hw1 hwi
          obtain ⟨g', c4, c5⟩ := write_eqv heq c1
          have hop := hri o' ho ρ' hρ1 _ _ c4
          refine (aop_run hc H hρ2 hop).mono fun v w' ⟨f', g1, g2, g3, g4⟩ => ⟨f', g', g1, ⟨i + 1, hi1, e2, fun j r1 r2 r3 _ => ?_, .inr ⟨by rw [hins]; exact hSs, h4, c2, c5.trans ⟨fun j => (c3.blk j).symm, fun j => (c3.ob j).symm, c3.next.symm⟩⟩⟩, g2, g3, by rw [hvi]; exact g4⟩
          refine hdep j ?_ r2 r3 hSs
          have hSj := e3 j (by omega) r2 r3
          rcases Nat.lt_or_ge j p with hjp | hjp
          · have := (hpos j (by omega) r3 (by omega)).2 hjp; rw [hSj] at this; simp at this
          · exact hjp
  · rintro i o S g f ho hheap hS0 hSi hS1 hS2 ⟨p, hp, hpos, hdep, hg⟩ hw
    have hi : i < ops.size := (Array.getElem?_eq_some_iff.1 ho).1
    obtain ⟨o', ho', _, hdid⟩ := W.did i hi
    obtain rfl : o' = o := by rw [ho] at ho'; injection ho' with e; exact e.symm
    have hnw : (storeOp ops i).isSome = false := by
      cases hx : storeOp ops i with
      | none => rfl
      | some x =>
        exfalso
        unfold storeOp at hx
        rw [ho] at hx
        simp only at hx
        split at hx
        · rename_i hg' _
          unfold awanted at hw
          rw [hg'] at hw
          simp at hw
        · simp at hx
    have his : i ≠ s := by rintro rfl; rw [hss] at hnw; simp at hnw
    obtain ⟨e1, e2, e3⟩ := posi i S hheap hi his hSi hS1 hS2 p hp hpos
    have hi1 : i + 1 ≤ s := by have := (chain i hi hheap his).2.1; omega
    have hins : ins S i s = S s := by unfold ins; simp [Ne.symm his]
    have hbi : bef T i s = true := by
      rcases (chain i hi hheap his).2.2 with q | q
      · exact q
      · rw [hnw] at q; simp at q
    have hSs := hS2 s hbi
    rcases hg with ⟨_, rfl⟩ | ⟨h1, _⟩
    · rcases hdid with ⟨_, _, hh⟩ | ⟨hw', _⟩
      · exact ⟨i + 1, hi1, e2, fun j _ _ _ h => by rw [hins, hSs] at h; simp at h, .inl ⟨by rw [hins]; exact hSs, by rw [hh, e1]⟩⟩
      · rw [hw] at hw'; simp at hw'
    · rw [hSs] at h1; simp at h1
  · rintro i o S g f ho hcl hS0 hS1 hS2 ⟨p, hp, hpos, hdep, hg⟩ hw
    have hi : i < ops.size := (Array.getElem?_eq_some_iff.1 ho).1
    have hbi : bef T i s = true := by
      have h1 := all_range hlf hi
      simp only [ho, Bool.or_eq_true, decide_eq_true_eq] at h1
      rcases h1 with h1 | h1
      · exact absurd hcl h1
      · exact h1
    have hSs := hS2 s hbi
    rcases hg with ⟨_, rfl⟩ | ⟨h1, _⟩
    · refine chain_load W ht hload ho hcl hS1 hS2 (by omega) (fun j hj hhj => ?_) hw
      by_cases hjs : j = s
      · subst hjs; rw [hSs]; simp; omega
      · exact hpos j hj hhj hjs
    · rw [hSs] at h1; simp at h1
  · rintro S g B f w hall hS0 ⟨p, hp, hpos, hdep, hg⟩ H
    rcases hg with ⟨h1, _⟩ | ⟨_, h1, hw1, heq⟩
    · rw [hall s hsl hsh] at h1; simp at h1
    · have e1 : (st s).2 = (st p).2 := W.heap_same s hp (by omega) (fun j h1 h2 => by
        cases hx : heapOp P ops j with
        | false => rfl
        | true => have := (hpos j (by omega) hx (by omega)).1 (hall j (by omega) hx); omega)
      have e2 : (st ops.size).2 = (st (s + 1)).2 := W.heap_same ops.size (by omega) (Nat.le_refl _) (fun j h1 h2 => by
        cases hx : heapOp P ops j with
        | false => rfl
        | true => have := (chain j h2 hx (by omega)).2.1; omega)
      rw [e1, hw1] at hws
      injection hws with hws
      rw [e2, ← hws]
      exact H.eqv heq

/-! ### A region some of whose steps leave the heap as it is -/
theorem natsEq_refl : ∀ (s : List Nat), natsEq s s = true
  | [] => rfl
  | a :: s => by simp [natsEq, natsEq_refl s]
mutual
theorem AV.beq_refl : ∀ (a : AV), AV.beq a a = true
  | .bool b => by simp [AV.beq]
  | .int k n => by simp [AV.beq]
  | .str s => by simp [AV.beq]; exact natsEq_refl s
  | .nilp => rfl
  | .ptr a b => by simp [AV.beq]
  | .nilSl => rfl
  | .sl a b c d e => by simp [AV.beq]
  | .nilMap => rfl
  | .fn f a b => by simp [AV.beq, AV.beqs_refl a, AV.beqs_refl b]
  | .nilFn => rfl
  | .iface t v => by simp [AV.beq, AV.beq_refl v]
  | .nilIface => rfl
  | .agg l => by simp [AV.beq, AV.beqs_refl l]
  | .tup l => by simp [AV.beq, AV.beqs_refl l]
  | .top => rfl
theorem AV.beqs_refl : ∀ (a : List AV), AV.beqs a a = true
  | [] => rfl
  | x :: l => by simp [AV.beqs, AV.beq_refl x, AV.beqs_refl l]
end
end
open Classical in
noncomputable def sameH (b : Bool) (h : AH) (r : List AV × AH) (k : List AV → AH → Option (List AV × AH)) : Option (List AV × AH) :=
  match b with
  | false => k r.1 r.2
  | true => if r.2 = h then k r.1 r.2 else none
noncomputable def aopsS (P : Program) (call : ACall) (ops : Array Oper) : List (Nat × Bool) → List AV → AH → Option (List AV × AH)
  | [], fr, h => some (fr, h)
  | (i, b) :: l, fr, h => (astep P call ops i fr h).bind fun r => sameH b h r (aopsS P call ops l)
def flags (q : List Nat) (n : Nat) : List (Nat × Bool) := (List.range n).map fun i => (i, q.any (Nat.beq i))
/-- Between a load and a write with which it stands in no order, every step is one that leaves the heap as it is. -/
def segOK (P : Program) (T : List Nat) (ops : Array Oper) (q : List Nat) : Bool :=
  (List.range ops.size).all fun i => match ops[i]? with
    | none => false
    | some o => !decide (cls P o = .load) || (List.range ops.size).all fun j => !heapOp P ops j || (bef T j i || (bef T i j || (List.range ops.size).all fun k => !(Nat.ble (min i j) k && Nat.blt k (max i (j + 1))) || q.any (Nat.beq k)))
noncomputable def sdraw (P : Program) (kq : Option (List Nat)) (call : ACall) (ops : Array Oper) (fr : List AV) (h : AH) : Option (List AV × AH) :=
  match kq with
  | none => adraw P call ops fr h
  | some q =>
    match drawOK P (befs ops.toList []) ops && segOK P (befs ops.toList []) ops q with
    | true => aopsS P call ops (flags q ops.size) fr h
    | false => none
section
variable {P : Program} {call : ACall} {ops : Array Oper}
theorem aopsS_log : ∀ (l : List (Nat × Bool)) (fr : List AV) (h : AH) (r : List AV × AH), aopsS P call ops l fr h = some r →
    ∃ log, alog P call ops (l.map (·.1)) fr h = some log ∧ log[l.length]? = some r ∧ ∀ (k i : Nat), l[k]? = some (i, true) → ∃ s s', log[k]? = some s ∧ log[k + 1]? = some s' ∧ s'.2 = s.2
  | [], fr, h, r, h0 => by
    simp only [aopsS, Option.some.injEq] at h0
    subst h0
    exact ⟨[(fr, h)], rfl, rfl, by simp⟩
  | (i, b) :: l, fr, h, r, h0 => by
    simp only [aopsS] at h0
    obtain ⟨s, hs, h0⟩ := Option.bind_eq_some_iff.mp h0
    have h1 : aopsS P call ops l s.1 s.2 = some r ∧ (b = true → s.2 = h) := by
      cases b with
      | false => exact ⟨h0, fun e => by simp at e⟩
      | true =>
        unfold sameH at h0
        simp only at h0
        split at h0
        · rename_i e; exact ⟨h0, fun _ => e⟩
        · simp at h0
    obtain ⟨log, q1, q2, q3⟩ := aopsS_log l s.1 s.2 r h1.1
    refine ⟨(fr, h) :: log, ?_, by simpa using q2, fun k j hk => ?_⟩
    · simp only [List.map_cons, alog, hs, q1]
    · cases k with
      | zero =>
        simp at hk
        obtain ⟨rfl, rfl⟩ := hk
        have hz := (alog_spec _ _ _ _ q1).1
        exact ⟨(fr, h), s, rfl, by simpa using hz, h1.2 rfl⟩
      | succ k =>
        obtain ⟨a, a', p1, p2, p3⟩ := q3 k j (by simpa using hk)
        exact ⟨a, a', by simpa using p1, by simpa using p2, p3⟩
theorem sdraw_some {kq : Option (List Nat)} {fr : List AV} {h : AH} {r : List AV × AH} (h0 : sdraw P kq call ops fr h = some r) : adraw P call ops fr h = some r := by
  unfold sdraw at h0
  split at h0
  · exact h0
  · rename_i q
    split at h0
    · rename_i hc
      rw [Bool.and_eq_true] at hc
      obtain ⟨log, q1, q2, q3⟩ := aopsS_log _ _ _ _ h0
      have hm : (flags q ops.size).map (·.1) = List.range ops.size := by unfold flags; rw [List.map_map]; exact List.map_id' _
      have hlen : (flags q ops.size).length = ops.size := by simp [flags]
      rw [hm] at q1
      rw [hlen] at q2
      obtain ⟨st, val, W, hst, hk⟩ := walk_of_log q1
      have same : ∀ k, k < ops.size → q.any (Nat.beq k) = true → (st (k + 1)).2 = (st k).2 := fun k hkl hq => by
        obtain ⟨s, s', p1, p2, p3⟩ := q3 k k (by simp [flags, hkl]; simpa using hq)
        rw [hk k (by omega)] at p1
        rw [hk (k + 1) (by omega)] at p2
        injection p1 with p1
        injection p2 with p2
        rw [p1, p2]
        exact p3
      have seg : ∀ a b, a ≤ b → b ≤ ops.size → (∀ k, a ≤ k → k < b → q.any (Nat.beq k) = true) → (st b).2 = (st a).2 := by
        intro a b hab hb hq
        induction b with
        | zero => rw [show a = 0 by omega]
        | succ b ih =>
          by_cases e : a = b + 1
          · rw [e]
          · rw [same b (by omega) (hq b (by omega) (Nat.lt_succ_self b)), ih (by omega) (by omega) (fun k h1 h2 => hq k h1 (by omega))]
      unfold adraw
      rw [if_pos hc.1, q1]
      show (if (List.range ops.size).all (loadOK P (befs ops.toList []) ops log) then log[ops.size]? else none) = some r
      rw [if_pos, q2]
      rw [List.all_eq_true]
      intro i hi
      have hi : i < ops.size := List.mem_range.mp hi
      have ho : ops[i]? = some ops[i] := by simp [hi]
      have hpi := all_range hc.2 hi
      rw [ho] at hpi
      unfold loadOK
      rw [ho, hk i (by omega)]
      simp only
      split
      · rename_i hcl
        split
        · rename_i hw
          rw [List.all_eq_true]
          intro j hj
          have hj : j < ops.size := List.mem_range.mp hj
          simp only [hcl, decide_true, Bool.not_true, Bool.false_or] at hpi
          have hpj := all_range hpi hj
          simp only [Bool.or_eq_true] at hpj ⊢
          rcases hpj with h1 | h1 | h1 | h1
          · exact .inl (.inl (.inl h1))
          · exact .inl (.inl (.inr h1))
          · exact .inl (.inr h1)
          · refine .inr ?_
            have hq : ∀ k, min i j ≤ k → k < max i (j + 1) → q.any (Nat.beq k) = true := fun k k1 k2 => by
              have := all_range h1 (show k < ops.size by omega)
              rw [Nat.ble_eq.mpr k1, Nat.blt_eq.mpr k2] at this
              simpa using this
            rw [hk j (by omega), hk (j + 1) (by omega)]
            simp only
            have e1 : (st j).2 = (st i).2 := by
              rcases Nat.le_total i j with c | c
              · exact seg i j c (by omega) (fun k k1 k2 => hq k (by omega) (by omega))
              · exact (seg j i c (by omega) (fun k k1 k2 => hq k (by omega) (by omega))).symm
            have e2 : (st (j + 1)).2 = (st i).2 := by
              rcases Nat.le_total i (j + 1) with c | c
              · exact seg i (j + 1) c (by omega) (fun k k1 k2 => hq k (by omega) (by omega))
              · exact (seg (j + 1) i c (by omega) (fun k k1 k2 => hq k (by omega) (by omega))).symm
            rw [e1, e2]
            obtain ⟨o', ho', _, hd⟩ := W.did i hi
            have ho2 : o' = ops[i] := by rw [ho] at ho'; injection ho' with e; exact e.symm
            subst ho2
            rcases hd with ⟨hw', _⟩ | ⟨_, hop⟩
            · rw [hw] at hw'; simp at hw'
            · unfold aop at hop
              rw [hcl] at hop
              simp only at hop
              cases hv : aload P (aev (st i).1) ops[i] (st i).2 with
              | none => simp [hv] at hop
              | some v => simp [sameLoad, AV.beq_refl]
        · rfl
      · rfl
    · simp at h0
end
end Go.Proofs.Ytgnacecplaemlaa.AI
