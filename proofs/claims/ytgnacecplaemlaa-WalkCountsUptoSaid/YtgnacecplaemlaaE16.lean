/-
  An abstract interpreter for the model's code, part 16: a region that draws its order comes, in every order, to what the walk in the text's order comes to.
-/
import Derived.Test.YtgnacecplaemlaaE15
namespace Go.Proofs.Ytgnacecplaemlaa.AI
open Go.RowKit

section
variable {P : Program} {call : ACall} {f : Inj} {h : AH}

/-! ### An operation looks at its operands alone -/
theorem map_congr' {α β : Type} {g g' : α → β} : ∀ (l : List α), (∀ x ∈ l, g x = g' x) → l.map g = l.map g'
  | [], _ => rfl
  | x :: l, h => by rw [List.map_cons, List.map_cons, h x (by simp), map_congr' l (fun y hy => h y (by simp [hy]))]
theorem aop_congr {ρ ρ' : Operand → AV} {o : Oper} (he : ∀ x ∈ o.op.operands, ρ x = ρ' x) : aop P call ρ o h = aop P call ρ' o h := by
  obtain ⟨dst, op, type, pos, after, guard⟩ := o
  have key : apure P ρ ⟨dst, op, type, pos, after, guard⟩ = apure P ρ' ⟨dst, op, type, pos, after, guard⟩ ∧
      aload P ρ ⟨dst, op, type, pos, after, guard⟩ h = aload P ρ' ⟨dst, op, type, pos, after, guard⟩ h ∧
      aheap P call ρ ⟨dst, op, type, pos, after, guard⟩ h = aheap P call ρ' ⟨dst, op, type, pos, after, guard⟩ h := by
    cases op <;> simp only [Op.operands] at he <;> try (refine ⟨?_, ?_, ?_⟩ <;> (simp_all [apure, aload, aheap]; done))
    case makeFunc fn fs cs =>
      refine ⟨?_, rfl, rfl⟩
      simp only [apure]
      cases fn <;> simp_all
    case build t ps =>
      have e : ps.toList.map (fun p => (p.1, ρ p.2)) = ps.toList.map (fun p => (p.1, ρ' p.2)) := map_congr' _ fun x hx => by rw [he x.2 (by simp; exact ⟨x.1, by simpa using hx⟩)]
      exact ⟨by simp only [apure, e], rfl, rfl⟩
    case buildSlice t n ps =>
      have e : ps.toList.map (fun p => (p.1, ρ p.2)) = ps.toList.map (fun p => (p.1, ρ' p.2)) := map_congr' _ fun x hx => by rw [he x.2 (by simp; exact ⟨x.1, by simpa using hx⟩)]
      exact ⟨rfl, rfl, by simp only [aheap, e]⟩
    case slice t x lo hi mx =>
      refine ⟨?_, rfl, rfl⟩
      simp only [apure]
      cases lo <;> cases hi <;> cases mx <;> simp_all
    case call c =>
      obtain ⟨callee, args, ts⟩ := c
      have e1 : ∀ x ∈ args, ρ x = ρ' x := fun x hx => he x (by cases callee <;> simp [Call.operands, hx])
      have e2 : args.toList.map ρ = args.toList.map ρ' := map_congr' _ fun x hx => e1 x (by simpa using hx)
      have e3 : ∀ (i : Nat) (x : Operand), args[i]? = some x → ρ x = ρ' x := fun i x hx => e1 x (Array.mem_of_getElem? hx)
      cases callee with
      | value g =>
        have e4 : ρ g = ρ' g := he g (by simp [Call.operands])
        exact ⟨rfl, rfl, by simp only [aheap, e2, e4]⟩
      | invoke r m => exact ⟨rfl, rfl, rfl⟩
      | builtin b =>
        have e5 : ∀ (i : Nat), (args[i]?).map ρ = (args[i]?).map ρ' := fun i => by
          cases hx : args[i]? with
          | none => rfl
          | some x => simp [e3 i x hx]
        cases b <;> try exact ⟨rfl, rfl, rfl⟩
        case len =>
          refine ⟨?_, rfl, rfl⟩
          simp only [apure]
          cases h0 : ts[0]? <;> cases h1 : args[0]? <;> simp_all
          rw [e3 0 _ h1]
        case cap =>
          refine ⟨?_, rfl, rfl⟩
          simp only [apure]
          cases h0 : ts[0]? <;> cases h1 : args[0]? <;> simp_all
          rw [e3 0 _ h1]
        case min => exact ⟨by simp only [apure, e2], rfl, rfl⟩
        case max => exact ⟨by simp only [apure, e2], rfl, rfl⟩
        case append =>
          refine ⟨rfl, rfl, ?_⟩
          simp only [aheap]
          cases h0 : ts[0]? <;> cases h1 : ts[1]? <;> cases h2 : args[0]? <;> cases h3 : args[1]? <;> simp_all
          rw [e3 0 _ h2, e3 1 _ h3]
        case copy =>
          refine ⟨rfl, rfl, ?_⟩
          simp only [aheap]
          cases h0 : ts[0]? <;> cases h2 : args[0]? <;> cases h3 : args[1]? <;> simp_all
          rw [e3 0 _ h2, e3 1 _ h3]
  unfold aop
  have hcl : ∀ {ρ : Operand → AV}, cls P ⟨dst, op, type, pos, after, guard⟩ = cls P ⟨dst, op, type, pos, after, guard⟩ := rfl
  split <;> simp only [key.1, key.2.1, key.2.2]

/-- An operation run in a frame that fits at its operands alone. -/
theorem aop_at {B : Nat} {w : World} {a : Act} {fr : List AV} (hc : CallOK P call) (H : HR B f h w) {ops : Array Oper} {o : Oper} (hsel : ∀ cs b, o.op ≠ .select cs b)
    (hv : ∀ t ∈ o.looksAt ops, VR f (a.tmps.getD t undef) (fr.getD t .top)) {r : AV} {h' : AH} (h0 : aop P call (aev fr) o h = some (r, h'))
    {ro : Option Nat} {n : Nat} {K : Act → World → Prop} {Q : Exit → Act → World → Prop} (hK : ∀ v w', HPost B f w h' r v w' → K (a.put o.dst v) w') : o.wpIn (FW ro) n P a w K Q := by
  classical
  let ρ : Operand → Value := fun x => if x ∈ o.op.operands then a.eval x else undef
  let ρ' : Operand → AV := fun x => if x ∈ o.op.operands then aev fr x else .top
  have hρ : ∀ x, VR f (ρ x) (ρ' x) := fun x => by
    show VR f (if x ∈ o.op.operands then a.eval x else undef) (if x ∈ o.op.operands then aev fr x else .top)
    by_cases hx : x ∈ o.op.operands
    · rw [if_pos hx, if_pos hx]
      cases x with
      | tmp t => exact hv t (by unfold Oper.looksAt; exact List.mem_append_left _ (List.mem_filterMap.2 ⟨.tmp t, by simpa using hx, rfl⟩))
      | const v => exact VR.ofConst f v
      | global g => exact .top _
      | func g => exact .fn _ _ _ _ _ .nil .nil
    · rw [if_neg hx, if_neg hx]; exact .top _
  have e1 : aop P call ρ' o h = some (r, h') := by
    rw [← h0]
    exact aop_congr fun x hx => if_pos hx
  have e2 : execOp a.eval o = execOp ρ o := execOp_congr o hsel fun x hx => (if_pos hx).symm
  exact (aop_run hc H hρ e1).wp e2 (aop_nodefer h0) hK

/-- The same, of what an operation's run comes to. -/
theorem opRuns_at {w : World} {a : Act} {fr : List AV} {ops : Array Oper} {o : Oper} (hsel : ∀ cs b, o.op ≠ .select cs b) (hv : ∀ t ∈ o.looksAt ops, VR f (a.tmps.getD t undef) (fr.getD t .top)) {Φ : Value → World → Prop}
    (hr : ∀ (ρ : Operand → Value) (ρ' : Operand → AV), (∀ x ∈ o.op.operands, ρ' x = aev fr x) → (∀ x, VR f (ρ x) (ρ' x)) → OpRuns P ρ o w Φ) :
    ∃ ρ, execOp a.eval o = execOp ρ o ∧ OpRuns P ρ o w Φ := by
  classical
  let ρ : Operand → Value := fun x => if x ∈ o.op.operands then a.eval x else undef
  let ρ' : Operand → AV := fun x => if x ∈ o.op.operands then aev fr x else .top
  have hρ : ∀ x, VR f (ρ x) (ρ' x) := fun x => by
    show VR f (if x ∈ o.op.operands then a.eval x else undef) (if x ∈ o.op.operands then aev fr x else .top)
    by_cases hx : x ∈ o.op.operands
    · rw [if_pos hx, if_pos hx]
      cases x with
      | tmp t => exact hv t (by unfold Oper.looksAt; exact List.mem_append_left _ (List.mem_filterMap.2 ⟨.tmp t, by simpa using hx, rfl⟩))
      | const v => exact VR.ofConst f v
      | global g => exact .top _
      | func g => exact .fn _ _ _ _ _ .nil .nil
    · rw [if_neg hx, if_neg hx]; exact .top _
  exact ⟨ρ, execOp_congr o hsel fun x hx => (if_pos hx).symm, hr ρ ρ' (fun x hx => if_pos hx) hρ⟩
theorem OpRuns.mono {w : World} {o : Oper} {ρ : Operand → Value} {Φ Ψ : Value → World → Prop} (h : OpRuns P ρ o w Φ) (hm : ∀ v w', Φ v w' → Ψ v w') : OpRuns P ρ o w Ψ := by
  rcases h with ⟨v, w', h1, h2⟩ | ⟨g, vs, h1, h2⟩ | ⟨l, fn, tmps, asg, body, h1, h2⟩
  · exact .inl ⟨v, w', h1, hm _ _ h2⟩
  · exact .inr (.inl ⟨g, vs, h1, h2.mono fun e w' ⟨v, he, hp⟩ => ⟨v, he, hm _ _ hp⟩⟩)
  · exact .inr (.inr ⟨l, fn, tmps, asg, body, h1, fun n => (h2 n).mono fun e w' ⟨v, he, hp⟩ => ⟨v, he, hm _ _ hp⟩⟩)

/-! ### Every order -/
variable {ops : Array Oper} {T : List Nat} {st : Nat → List AV × AH} {val : Nat → AV}

/-- Which of the operations that turn memory are over. -/
def hsOf (P : Program) (ops : Array Oper) (listed : Array Bool) : Nat → Bool := fun j => heapOp P ops j && listed.getD j false
def ins (S : Nat → Bool) (i : Nat) : Nat → Bool := fun j => decide (j = i) || S j
/-- Which abstract heaps may stand when just these operations are over, whatever their order was. -/
structure DrawG (P : Program) (ops : Array Oper) (T : List Nat) (st : Nat → List AV × AH) (val : Nat → AV) (G : (Nat → Bool) → AH → Prop) : Prop where
  start : G (fun _ => false) (st 0).2
  step : ∀ i o S g, ops[i]? = some o → heapOp P ops i = true → (∀ j, S j = true → heapOp P ops j = true ∧ j < ops.size) → S i = false → (∀ j, j < ops.size → heapOp P ops j = true → bef T j i = true → S j = true) → (∀ j, bef T i j = true → S j = false) → G S g →
    awanted ops (st i).1 o = some true → ∀ B f w (ρ : Operand → Value) (ρ' : Operand → AV), HR B f g w → (∀ x ∈ o.op.operands, ρ' x = aev (st i).1 x) → (∀ x, VR f (ρ x) (ρ' x)) →
    OpRuns P ρ o w (fun v w' => ∃ f' g', Ext f f' ∧ G (ins S i) g' ∧ HR B f' g' w' ∧ Kept B w w' ∧ VR f' v (val i))
  skip : ∀ i o S g, ops[i]? = some o → heapOp P ops i = true → (∀ j, S j = true → heapOp P ops j = true ∧ j < ops.size) → S i = false → (∀ j, j < ops.size → heapOp P ops j = true → bef T j i = true → S j = true) → (∀ j, bef T i j = true → S j = false) → G S g → awanted ops (st i).1 o = some false → G (ins S i) g
  load : ∀ i o S g, ops[i]? = some o → cls P o = .load → (∀ j, S j = true → heapOp P ops j = true ∧ j < ops.size) → (∀ j, j < ops.size → heapOp P ops j = true → bef T j i = true → S j = true) → (∀ j, bef T i j = true → S j = false) → G S g → awanted ops (st i).1 o = some true →
    aload P (aev (st i).1) o g = aload P (aev (st i).1) o (st i).2
  fin : ∀ S g B f w, (∀ j, j < ops.size → heapOp P ops j = true → S j = true) → (∀ j, S j = true → heapOp P ops j = true ∧ j < ops.size) → G S g → HR B f g w → HR B f (st ops.size).2 w

structure INV (P : Program) (B D : Nat) (ops : Array Oper) (T : List Nat) (st : Nat → List AV × AH) (val : Nat → AV) (G : (Nat → Bool) → AH → Prop) (fuel : Nat) (listed : Array Bool) (f : Inj) (a : Act) (w : World) : Prop where
  lsz : listed.size = ops.size
  closed : ∀ i j, listed.getD i false = true → bef T j i = true → listed.getD j false = true
  cnt : (List.range ops.size).countP (fun j => !listed.getD j false) ≤ fuel
  hg : ∃ g, G (hsOf P ops listed) g ∧ HR B f g w
  sz : a.tmps.size = (st 0).1.length
  dm : Marks D a.defers w
  fa : ∀ t, (∀ j, j < ops.size → dstOf ops j = some t → listed.getD j false = false) → ∀ b, (st 0).1[t]? = some b → ∃ v, a.tmps[t]? = some v ∧ VR f v b
  fb : ∀ t j, j < ops.size → dstOf ops j = some t → listed.getD j false = true → t < (st 0).1.length → ∃ v, a.tmps[t]? = some v ∧ VR f v (val j)

theorem getD_true_false {listed : Array Bool} {i n : Nat} (hs : listed.size = n) (hi : i < n) : listed.getD i true = listed.getD i false := by
  simp [show i < listed.size by omega]

theorem INV.slot {B D fuel : Nat} {G : (Nat → Bool) → AH → Prop} {listed : Array Bool} {a : Act} {w : World} (I : INV P B D ops T st val G fuel listed f a w) (W : Walk P call ops st val) (ht : tableOK T ops = true) (hs : slotsOK T ops = true)
    {i : Nat} {o : Oper} (ho : ops[i]? = some o) (hun : listed.getD i false = false) (hdir : ∀ k ∈ direct o, listed.getD k false = true) {t : Nat} (hl : t ∈ o.looksAt ops) :
    VR f (a.tmps.getD t undef) ((st i).1.getD t .top) := by
  have hi : i < ops.size := (Array.getElem?_eq_some_iff.1 ho).1
  have fin : ∀ b, (st i).1[t]? = some b → (∃ v, a.tmps[t]? = some v ∧ VR f v b) → VR f (a.tmps.getD t undef) ((st i).1.getD t .top) := by
    rintro b hb ⟨v, h1, h2⟩
    rw [List.getD_eq_getElem?_getD, hb, Array.getD_eq_getD_getElem?, h1]
    exact h2
  by_cases htl : t < (st 0).1.length
  · by_cases hw : ∃ j, j < ops.size ∧ j ≠ i ∧ dstOf ops j = some t
    · obtain ⟨j, hj, hne, hd⟩ := hw
      rcases (slot_apart hs hi hj hne hd ho).2 hl with hb | hb
      · have hji := bef_lt ht i hi j hb
        have hlj : listed.getD j false = true := by
          rcases (table_direct ht ho).2.2 j hb with h1 | ⟨k, hk, h1⟩
          · exact hdir j h1
          · exact I.closed k j (hdir k hk) h1
        exact fin _ (W.slot_new hs hj hd htl i (by omega) hji) (I.fb t j hj hd hlj htl)
      · have hij := bef_lt ht j hj i hb
        have hlj : listed.getD j false = false := by
          cases hx : listed.getD j false with
          | false => rfl
          | true => rw [I.closed j i hx hb] at hun; simp at hun
        have huniq : ∀ k, k < ops.size → dstOf ops k = some t → k = j := fun k hk hkd => by
          apply Classical.byContradiction
          intro hkj
          have hoj : ops[j]? = some ops[j] := by simp [hj]
          have := (slot_apart hs hj hk hkj hkd hoj).1
          simp only [dstOf, hoj, Option.bind_some] at hd
          exact this hd
        have hold := W.slot_old (t := t) i (by omega) (fun k hk hkd => by have := huniq k (by omega) hkd; omega)
        have h0 : (st 0).1[t]? = some (st 0).1[t] := by simp [htl]
        exact fin _ (hold.trans h0) (I.fa t (fun k hk hkd => by rw [huniq k hk hkd]; exact hlj) _ h0)
    · have hnone : ∀ j, j < ops.size → dstOf ops j = some t → j = i := fun j hj hd => by
        apply Classical.byContradiction
        intro hne
        exact hw ⟨j, hj, hne, hd⟩
      have hold := W.slot_old (t := t) i (by omega) (fun k hk hkd => by have := hnone k (by omega) hkd; omega)
      have h0 : (st 0).1[t]? = some (st 0).1[t] := by simp [htl]
      exact fin _ (hold.trans h0) (I.fa t (fun k hk hkd => by rw [hnone k hk hkd]; exact hun) _ h0)
  · have : (st i).1[t]? = none := List.getElem?_eq_none (by rw [W.length i (by omega)]; omega)
    rw [List.getD_eq_getElem?_getD, this]
    exact .top _

theorem countP_set {n i : Nat} {listed : Array Bool} (hs : listed.size = n) (hi : i < n) (hun : listed.getD i false = false) :
    (List.range n).countP (fun j => !(listed.setIfInBounds i true).getD j false) + 1 = (List.range n).countP (fun j => !listed.getD j false) := by
  have key : ∀ l : List Nat, l.Nodup → (l.countP (fun j => !(listed.setIfInBounds i true).getD j false)) + (if i ∈ l then 1 else 0) = l.countP (fun j => !listed.getD j false) := by
    intro l
    induction l with
    | nil => intro _; simp
    | cons x l ih =>
      intro hn
      simp only [List.nodup_cons] at hn
      have := ih hn.2
      rw [List.countP_cons, List.countP_cons]
      by_cases hx : x = i
      · subst hx
        have e1 : (listed.setIfInBounds x true).getD x false = true := by simp [show x < listed.size by omega]
        rw [if_neg hn.1] at this
        have m : x ∈ x :: l := by simp
        rw [e1, hun, if_pos m]
        simp only [Bool.not_true, Bool.not_false, Bool.false_eq_true, if_false, if_true]
        omega
      · have e1 : (listed.setIfInBounds i true).getD x false = listed.getD x false := getD_set_ne false (fun e => hx e.symm)
        rw [e1]
        have e2 : (i ∈ x :: l) ↔ i ∈ l := by simp; intro e; exact absurd e.symm hx
        simp only [e2]
        omega
  have := key (List.range n) List.nodup_range
  rw [if_pos (List.mem_range.mpr hi)] at this
  exact this

theorem hsOf_set {listed : Array Bool} {i : Nat} (hs : listed.size = ops.size) (hi : i < ops.size) (hh : heapOp P ops i = true) : hsOf P ops (listed.setIfInBounds i true) = ins (hsOf P ops listed) i := by
  funext j
  unfold hsOf ins
  by_cases hj : j = i
  · subst hj; simp [hh, show j < listed.size by omega]
  · rw [getD_set_ne false (fun e => hj e.symm)]; simp [hj]
theorem hsOf_same {listed : Array Bool} {i : Nat} (hh : heapOp P ops i = false) : hsOf P ops (listed.setIfInBounds i true) = hsOf P ops listed := by
  funext j
  unfold hsOf
  by_cases hj : j = i
  · subst hj; simp [hh]
  · rw [getD_set_ne false (fun e => hj e.symm)]
theorem hsOf_some {listed : Array Bool} {j : Nat} (hs : listed.size = ops.size) (h : hsOf P ops listed j = true) : heapOp P ops j = true ∧ j < ops.size := by
  unfold hsOf at h
  rw [Bool.and_eq_true] at h
  refine ⟨h.1, ?_⟩
  rcases Nat.lt_or_ge j ops.size with q | q
  · exact q
  · have := h.2; simp [show ¬ j < listed.size by omega] at this

theorem draw_gen (hc : CallOK P call) (W : Walk P call ops st val) (ht : tableOK T ops = true) (hs : slotsOK T ops = true) (hsel : Region.noSelect ops = true) {G : (Nat → Bool) → AH → Prop} (DG : DrawG P ops T st val G)
    {Q : Exit → Act → World → Prop} {B D : Nat} {ro : Option Nat} {n : Nat} : ∀ (fuel : Nat) {listed : Array Bool} {f : Inj} {a : Act} {w : World}, INV P B D ops T st val G fuel listed f a w →
    (∀ f' a' w', Ext f f' → SR B D f' (st ops.size).1 (st ops.size).2 a' w' → Kept B w w' → Q .normal a' w') → wpAnyIn (FW ro) n P .any ops Q fuel listed a w := by
  -- what is known when nothing may come up
  have done : ∀ {fuel : Nat} {listed : Array Bool} {f : Inj} {a : Act} {w : World}, INV P B D ops T st val G fuel listed f a w → Region.ready .any ops listed = [] →
      SR B D f (st ops.size).1 (st ops.size).2 a w := by
    intro fuel listed f a w I hr
    have all : ∀ i, i < ops.size → listed.getD i false = true := by
      intro i
      induction i using Nat.strongRecOn with
      | _ i ih =>
        intro hi
        cases hx : listed.getD i false with
        | true => rfl
        | false =>
          exfalso
          have ho : ops[i]? = some ops[i] := by simp [hi]
          have : i ∈ Region.ready .any ops listed := mem_ready.2 ⟨by rw [getD_true_false I.lsz hi]; exact hx, ops[i], ho, fun e he hb => by
            have hk : e.on ∈ direct ops[i] := List.mem_filterMap.2 ⟨e, by simpa using he, by rw [if_pos hb]⟩
            have hlt := (table_direct ht ho).1 _ hk
            exact ih _ hlt (by omega)⟩
          rw [hr] at this
          simp at this
    obtain ⟨g, hg1, hg2⟩ := I.hg
    refine ⟨⟨by rw [W.length _ (Nat.le_refl _)]; exact I.sz, fun t b hb => ?_⟩, ?_, I.dm⟩
    · have htl : t < (st 0).1.length := by
        rw [← W.length ops.size (Nat.le_refl _)]
        exact (List.getElem?_eq_some_iff.mp hb).1
      by_cases hw : ∃ j, j < ops.size ∧ dstOf ops j = some t
      · obtain ⟨j, hj, hd⟩ := hw
        rw [W.slot_new hs hj hd htl ops.size (Nat.le_refl _) hj] at hb
        injection hb with hb
        subst hb
        exact I.fb t j hj hd (all j hj) htl
      · rw [W.slot_old (t := t) ops.size (Nat.le_refl _) (fun k hk hkd => hw ⟨k, hk, hkd⟩)] at hb
        exact I.fa t (fun j hj hd => absurd ⟨j, hj, hd⟩ hw) b hb
    · exact DG.fin _ g B f w (fun j hj hh => by unfold hsOf; rw [hh, all j hj]; rfl) (fun j hj => hsOf_some I.lsz hj) hg1 hg2
  intro fuel
  induction fuel with
  | zero =>
    intro listed f a w I hQ
    have hr : Region.ready .any ops listed = [] := by
      cases hx : Region.ready .any ops listed with
      | nil => rfl
      | cons i l =>
        exfalso
        have hm : i ∈ Region.ready .any ops listed := by rw [hx]; simp
        obtain ⟨h1, o, ho, _⟩ := mem_ready.1 hm
        have hi : i < ops.size := (Array.getElem?_eq_some_iff.1 ho).1
        have h2 := I.cnt
        have h3 : (List.range ops.size).countP (fun j => !listed.getD j false) = 0 := by omega
        rw [List.countP_eq_zero] at h3
        have := h3 i (List.mem_range.mpr hi)
        rw [← getD_true_false I.lsz hi, h1] at this
        simp at this
    exact ⟨hr, hQ f a w (Ext.refl f) (done I hr) (Kept.refl B w)⟩
  | succ fuel ih =>
    intro listed f a w I hQ
    refine ⟨fun hr => hQ f a w (Ext.refl f) (done I hr) (Kept.refl B w), fun i hm => ?_⟩
    obtain ⟨h1, o, ho, hall⟩ := mem_ready.1 hm
    have hi : i < ops.size := (Array.getElem?_eq_some_iff.1 ho).1
    have hun : listed.getD i false = false := by rw [← getD_true_false I.lsz hi]; exact h1
    have hdir : ∀ k ∈ direct o, listed.getD k false = true := fun k hk => by
      obtain ⟨e, he, hb⟩ := List.mem_filterMap.1 hk
      split at hb
      · rename_i hbi
        injection hb with hb
        subst hb
        exact hall e (by simpa using he) hbi
      · simp at hb
    have hslot : ∀ t ∈ o.looksAt ops, VR f (a.tmps.getD t undef) ((st i).1.getD t .top) := fun t hl => I.slot W ht hs ho hun hdir hl
    have hbi : ∀ j, bef T j i = true → listed.getD j false = true := fun j hb => by
      rcases (table_direct ht ho).2.2 j hb with h1 | ⟨k, hk, h1⟩
      · exact hdir j h1
      · exact I.closed k j (hdir k hk) h1
    have hib : ∀ j, bef T i j = true → listed.getD j false = false := fun j hb => by
      cases hx : listed.getD j false with
      | false => rfl
      | true => rw [I.closed j i hx hb] at hun; simp at hun
    obtain ⟨o', ho', hfr, hdid⟩ := W.did i hi
    obtain rfl : o' = o := by rw [ho] at ho'; injection ho' with e; exact e.symm
    have hgl : ∀ k, (listed.setIfInBounds i true).getD k false = true ↔ (k = i ∨ listed.getD k false = true) := fun k => by
      by_cases hk : k = i
      · subst hk; simp [show k < listed.size by rw [I.lsz]; exact hi]
      · rw [getD_set_ne false (fun e => hk e.symm)]; simp [hk]
    obtain ⟨g, hg1, hg2⟩ := I.hg
    -- the step, once the value and the world are known
    have step : ∀ (f' : Inj) (g' : AH) (v : Value) (w' : World), G (hsOf P ops (listed.setIfInBounds i true)) g' →
        Ext f f' → HR B f' g' w' → Kept B w w' → VR f' v (val i) → wpAnyIn (FW ro) n P .any ops Q fuel (listed.setIfInBounds i true) (a.put o'.dst v) w' := by
      intro f' g' v w' hg' hext hhr hbel hv
      refine ih (f := f') ⟨by rw [Array.size_setIfInBounds]; exact I.lsz, fun x y hx hb => ?_, ?_, ⟨g', hg', hhr⟩, ?_, by rw [Act.put_tmps_defers]; exact I.dm.kept hbel, fun t hn b hb => ?_, fun t j hj hd hl htl => ?_⟩ (fun f2 a2 w2 e2 s2 b2 => hQ f2 a2 w2 (hext.trans e2) s2 (hbel.trans b2))
      · rw [hgl] at hx ⊢
        rcases hx with rfl | hx
        · exact .inr (hbi y hb)
        · exact .inr (I.closed x y hx hb)
      · have := countP_set I.lsz hi hun
        have := I.cnt
        omega
      · cases hd : o'.dst <;> simp [Act.put, I.sz]
      · have hne : o'.dst ≠ some t := fun hd => by
          have := hn i hi (by simp [dstOf, ho, hd])
          have h2 := (hgl i).2 (.inl rfl)
          rw [h2] at this
          simp at this
        obtain ⟨u, g1, g2⟩ := I.fa t (fun j hj hd => by
          have := hn j hj hd
          cases hx : listed.getD j false with
          | false => rfl
          | true => rw [(hgl j).2 (.inr hx)] at this; simp at this) b hb
        refine ⟨u, ?_, g2.mono hext⟩
        cases hd : o'.dst with
        | none => exact g1
        | some d =>
          simp only [Act.put]
          rw [Array.getElem?_setIfInBounds_ne (fun e => hne (by rw [hd, e]))]
          exact g1
      · rcases (hgl j).1 hl with rfl | hl2
        · simp only [dstOf, ho, Option.bind_some] at hd
          refine ⟨v, ?_, hv⟩
          rw [hd]
          simp only [Act.put]
          rw [Array.getElem?_setIfInBounds_self, if_pos (by rw [I.sz]; exact htl)]
        · obtain ⟨u, g1, g2⟩ := I.fb t j hj hd hl2 htl
          refine ⟨u, ?_, g2.mono hext⟩
          have hne : o'.dst ≠ some t := by
            by_cases hji : j = i
            · subst hji; rw [hl2] at hun; simp at hun
            · exact (slot_apart hs hi hj hji hd ho).1
          cases hd2 : o'.dst with
          | none => exact g1
          | some d =>
            simp only [Act.put]
            rw [Array.getElem?_setIfInBounds_ne (fun e => hne (by rw [hd2, e]))]
            exact g1
    have hS0 : ∀ j, hsOf P ops listed j = true → heapOp P ops j = true ∧ j < ops.size := fun j hj => hsOf_some I.lsz hj
    have hS1 : ∀ j, j < ops.size → heapOp P ops j = true → bef T j i = true → hsOf P ops listed j = true := fun j _ hh hb => by unfold hsOf; rw [hh, hbi j hb]; rfl
    have hS2 : ∀ j, bef T i j = true → hsOf P ops listed j = false := fun j hb => by unfold hsOf; rw [hib j hb, Bool.and_false]
    have hSi : hsOf P ops listed i = false := by unfold hsOf; rw [hun, Bool.and_false]
    unfold wpOpIn
    simp only [ho]
    have hgd : ∀ j want d, o'.guard = some (j, want) → (ops[j]?).bind (·.dst) = some d → VR f (a.tmps.getD d undef) ((st i).1.getD d .top) := fun j want d hg hd =>
      hslot d (by unfold Oper.looksAt; rw [hg]; simp [hd])
    by_cases hheap : heapOp P ops i = true
    · rcases hdid with ⟨hw, hv, hh⟩ | ⟨hw, hop⟩
      · rw [wanted_of hgd hw]
        have hv' : VR f undef (val i) := by rw [hv]; exact .tup _ _ (by exact .nil)
        have := step f g undef w (by rw [hsOf_set I.lsz hi hheap]; exact DG.skip i o' _ g ho hheap hS0 hSi hS1 hS2 hg1 hw) (Ext.refl f) hg2 (Kept.refl B w) hv'
        exact ⟨fun _ _ => trivial, this⟩
      · rw [wanted_of hgd hw]
        have hrun := opRuns_at (Region.noSelect_spec hsel i o' · · ho) hslot (fun ρ ρ' h1 h2 => DG.step i o' _ g ho hheap hS0 hSi hS1 hS2 hg1 hw B f w ρ ρ' hg2 h1 h2)
        obtain ⟨ρ, he, hr⟩ := hrun
        refine hr.wp he (aop_nodefer hop) fun v w' ⟨f', g', q1, q2, q3, q4, q5⟩ => step f' g' v w' (by rw [hsOf_set I.lsz hi hheap]; exact q2) q1 q3 q4 q5
    · have hheap : heapOp P ops i = false := by simpa using hheap
      have hcls : cls P o' ≠ .heap := by simpa [heapOp, ho] using hheap
      rcases hdid with ⟨hw, hv, hh⟩ | ⟨hw, hop⟩
      · rw [wanted_of hgd hw]
        have hv' : VR f undef (val i) := by rw [hv]; exact .tup _ _ (by exact .nil)
        have := step f g undef w (by rw [hsOf_same hheap]; exact hg1) (Ext.refl f) hg2 (Kept.refl B w) hv'
        exact ⟨fun _ _ => trivial, this⟩
      · rw [wanted_of hgd hw]
        -- the operation, run over the heap that stands now
        have hnow : aop P call (aev (st i).1) o' g = some (val i, g) := by
          unfold aop at hop ⊢
          cases hcl : cls P o' with
          | heap => exact absurd hcl hcls
          | pure =>
            rw [hcl] at hop
            simp only at hop ⊢
            cases hp : apure P (aev (st i).1) o' with
            | none => simp [hp] at hop
            | some r => simp [hp] at hop ⊢; exact hop.1
          | load =>
            rw [hcl] at hop
            simp only at hop ⊢
            rw [DG.load i o' _ g ho hcl hS0 hS1 hS2 hg1 hw]
            cases hp : aload P (aev (st i).1) o' (st i).2 with
            | none => simp [hp] at hop
            | some r => simp [hp] at hop ⊢; exact hop.1
        exact aop_at hc hg2 (Region.noSelect_spec hsel i o' · · ho) hslot hnow fun v w' ⟨f', g1, g2, g3, g4⟩ => step f' g v w' (by rw [hsOf_same hheap]; exact hg1) g1 g2 g3 g4
/-- The first walk of a region. -/
theorem INV.first {G : (Nat → Bool) → AH → Prop} {B D : Nat} {w : World} {a : Act} (DG : ∃ g, G (fun _ => false) g ∧ HR B f g w) (hsz : a.tmps.size = (st 0).1.length) (hdm : Marks D a.defers w) (hfa : ∀ (t : Nat) (b : AV), (st 0).1[t]? = some b → ∃ v, a.tmps[t]? = some v ∧ VR f v b) :
    INV P B D ops T st val G ops.size (Array.replicate ops.size false) f a w := by
  have hf : ∀ j, (Array.replicate ops.size false).getD j false = false := fun j => by by_cases hlt : j < ops.size <;> simp [hlt]
  refine ⟨by simp, fun x y hx => ?_, Nat.le_trans List.countP_le_length (by simp), ?_, hsz, hdm, fun t _ b hb => hfa t b hb, fun t j hj _ hl => ?_⟩
  · rw [hf] at hx; simp at hx
  · have : hsOf P ops (Array.replicate ops.size false) = fun _ => false := by funext j; unfold hsOf; rw [hf, Bool.and_false]
    rw [this]; exact DG
  · rw [hf] at hl; simp at hl

theorem chain_load (W : Walk P call ops st val) (ht : tableOK T ops = true)
    (hload : ∀ i j o, ops[i]? = some o → cls P o = .load → awanted ops (st i).1 o = some true → j < ops.size → heapOp P ops j = true → bef T j i = false → bef T i j = false →
      aload P (aev (st i).1) o (st j).2 = aload P (aev (st i).1) o (st i).2 ∧ aload P (aev (st i).1) o (st (j + 1)).2 = aload P (aev (st i).1) o (st i).2)
    {i : Nat} {o : Oper} {S : Nat → Bool} (ho : ops[i]? = some o) (hcl : cls P o = .load) (hS1 : ∀ j, j < ops.size → heapOp P ops j = true → bef T j i = true → S j = true) (hS2 : ∀ j, bef T i j = true → S j = false)
    {p : Nat} (hple : p ≤ ops.size) (hpos : ∀ j, j < ops.size → heapOp P ops j = true → (S j = true ↔ j < p)) (hw : awanted ops (st i).1 o = some true) :
    aload P (aev (st i).1) o (st p).2 = aload P (aev (st i).1) o (st i).2 := by
  have hi : i < ops.size := (Array.getElem?_eq_some_iff.1 ho).1
  have hcases : (st i).2 = (st p).2 ∨ ∃ j, j < ops.size ∧ heapOp P ops j = true ∧ bef T j i = false ∧ bef T i j = false ∧ ((st p).2 = (st j).2 ∨ (st p).2 = (st (j + 1)).2) := by
    rcases Nat.le_total p i with h2 | h2
    · by_cases hex : ∃ j, p ≤ j ∧ j < i ∧ heapOp P ops j = true
      · right
        obtain ⟨j, hj1, hj2⟩ : ∃ j, (p ≤ j ∧ j < i ∧ heapOp P ops j = true) ∧ ∀ k, k < j → ¬ (p ≤ k ∧ k < i ∧ heapOp P ops k = true) := by
          obtain ⟨j, hj⟩ := hex
          induction j using Nat.strongRecOn with
          | _ j ihj =>
            by_cases hk : ∃ k, k < j ∧ (p ≤ k ∧ k < i ∧ heapOp P ops k = true)
            · obtain ⟨k, hk1, hk2⟩ := hk; exact ihj k hk1 hk2
            · exact ⟨j, hj, fun k hk1 hk2 => hk ⟨k, hk1, hk2⟩⟩
        have hjn : j < ops.size := by omega
        have hnl : S j = false := by
          cases hx : S j with
          | false => rfl
          | true => have := (hpos j hjn hj1.2.2).1 hx; omega
        refine ⟨j, hjn, hj1.2.2, ?_, ?_, .inl ?_⟩
        · cases hx : bef T j i with
          | false => rfl
          | true => rw [hS1 j hjn hj1.2.2 hx] at hnl; simp at hnl
        · cases hx : bef T i j with
          | false => rfl
          | true => have := bef_lt ht j hjn i hx; omega
        · exact (W.heap_same j hj1.1 (by omega) (fun k h3 h4 => by
            cases hx : heapOp P ops k with
            | false => rfl
            | true => exact absurd ⟨h3, by omega, hx⟩ (hj2 k h4))).symm
      · left
        exact W.heap_same i h2 (by omega) (fun j h3 h4 => by
          cases hx : heapOp P ops j with
          | false => rfl
          | true => exact absurd ⟨j, h3, h4, hx⟩ hex)
    · by_cases hex : ∃ j, i ≤ j ∧ j < p ∧ heapOp P ops j = true
      · right
        obtain ⟨j, hj1, hj2⟩ : ∃ j, (i ≤ j ∧ j < p ∧ heapOp P ops j = true) ∧ ∀ k, j < k → ¬ (i ≤ k ∧ k < p ∧ heapOp P ops k = true) := by
          obtain ⟨j, hj⟩ := hex
          have : ∀ n j, p - j = n → (i ≤ j ∧ j < p ∧ heapOp P ops j = true) → ∃ j, (i ≤ j ∧ j < p ∧ heapOp P ops j = true) ∧ ∀ k, j < k → ¬ (i ≤ k ∧ k < p ∧ heapOp P ops k = true) := by
            intro n
            induction n using Nat.strongRecOn with
            | _ n ihn =>
              intro j hn hj
              by_cases hk : ∃ k, j < k ∧ (i ≤ k ∧ k < p ∧ heapOp P ops k = true)
              · obtain ⟨k, hk1, hk2⟩ := hk
                exact ihn (p - k) (by omega) k rfl hk2
              · exact ⟨j, hj, fun k hk1 hk2 => hk ⟨k, hk1, hk2⟩⟩
          exact this _ j rfl hj
        have hjn : j < ops.size := by omega
        have hnl : S j = true := (hpos j hjn hj1.2.2).2 hj1.2.1
        refine ⟨j, hjn, hj1.2.2, ?_, ?_, .inr ?_⟩
        · cases hx : bef T j i with
          | false => rfl
          | true => have := bef_lt ht i hi j hx; omega
        · cases hx : bef T i j with
          | false => rfl
          | true => rw [hS2 j hx] at hnl; simp at hnl
        · exact W.heap_same p (by omega) hple (fun k h3 h4 => by
            cases hx : heapOp P ops k with
            | false => rfl
            | true => exact absurd ⟨by omega, h4, hx⟩ (hj2 k (by omega)))
      · left
        exact (W.heap_same p h2 hple (fun j h3 h4 => by
          cases hx : heapOp P ops j with
          | false => rfl
          | true => exact absurd ⟨j, h3, h4, hx⟩ hex)).symm
  rcases hcases with he | ⟨j, hj, hhj, hb1, hb2, he⟩
  · rw [he]
  · have hl := hload i j o ho hcl hw hj hhj hb1 hb2
    rcases he with he | he
    · rw [he]; exact hl.1
    · rw [he]; exact hl.2
/-- Where the operations that turn memory stand in one chain. -/
theorem chain_draw (hc : CallOK P call) (W : Walk P call ops st val) (ht : tableOK T ops = true) (hch : chainOK P T ops = true)
    (hload : ∀ i j o, ops[i]? = some o → cls P o = .load → awanted ops (st i).1 o = some true → j < ops.size → heapOp P ops j = true → bef T j i = false → bef T i j = false →
      aload P (aev (st i).1) o (st j).2 = aload P (aev (st i).1) o (st i).2 ∧ aload P (aev (st i).1) o (st (j + 1)).2 = aload P (aev (st i).1) o (st i).2) :
    DrawG P ops T st val (fun S g => ∃ p, p ≤ ops.size ∧ (∀ j, j < ops.size → heapOp P ops j = true → (S j = true ↔ j < p)) ∧ g = (st p).2) := by
  have pos : ∀ i S, heapOp P ops i = true → i < ops.size → S i = false → (∀ j, j < ops.size → heapOp P ops j = true → bef T j i = true → S j = true) → (∀ j, bef T i j = true → S j = false) →
      ∀ p, p ≤ ops.size → (∀ j, j < ops.size → heapOp P ops j = true → (S j = true ↔ j < p)) → (st i).2 = (st p).2 ∧ (∀ j, j < ops.size → heapOp P ops j = true → (ins S i j = true ↔ j < i + 1)) := by
    intro i S hheap hi hSi hS1 hS2 p hp hpos
    have hposi : ∀ j, j < ops.size → heapOp P ops j = true → (S j = true ↔ j < i) := fun j hj hhj => by
      constructor
      · intro hl
        rcases Nat.lt_trichotomy j i with h2 | h2 | h2
        · exact h2
        · subst h2; rw [hl] at hSi; simp at hSi
        · have := hS2 j (chain_bef hch hj h2 hhj hheap)
          rw [hl] at this; simp at this
      · intro hlt
        exact hS1 j hj hhj (chain_bef hch hi hlt hheap hhj)
    refine ⟨?_, fun j hj hhj => ?_⟩
    · rcases Nat.le_total p i with h2 | h2
      · exact W.heap_same i h2 (by omega) (fun j h3 h4 => by
          cases hx : heapOp P ops j with
          | false => rfl
          | true => have := (hpos j (by omega) hx).1 ((hposi j (by omega) hx).2 h4); omega)
      · exact (W.heap_same p h2 hp (fun j h3 h4 => by
          cases hx : heapOp P ops j with
          | false => rfl
          | true => have := (hposi j (by omega) hx).1 ((hpos j (by omega) hx).2 h4); omega)).symm
    · unfold ins
      rw [Bool.or_eq_true, decide_eq_true_iff, hposi j hj hhj]
      omega
  refine ⟨⟨0, Nat.zero_le _, fun j _ _ => by simp, rfl⟩, ?_, ?_, ?_, ?_⟩
  · rintro i o S g ho hheap _ hSi hS1 hS2 ⟨p, hp, hpos, rfl⟩ hw B f w ρ ρ' H hρ1 hρ2
    have hi : i < ops.size := (Array.getElem?_eq_some_iff.1 ho).1
    obtain ⟨e1, e2⟩ := pos i S hheap hi hSi hS1 hS2 p hp hpos
    obtain ⟨o', ho', _, hdid⟩ := W.did i hi
    obtain rfl : o' = o := by rw [ho] at ho'; injection ho' with e; exact e.symm
    rcases hdid with ⟨hw', _, _⟩ | ⟨_, hop⟩
    · rw [hw] at hw'; simp at hw'
    · have hop' : aop P call ρ' o' (st p).2 = some (val i, (st (i + 1)).2) := by rw [← e1, ← hop]; exact aop_congr hρ1
      exact (aop_run hc H hρ2 hop').mono fun v w' ⟨f', g1, g2, g3, g4⟩ => ⟨f', _, g1, ⟨i + 1, by omega, e2, rfl⟩, g2, g3, g4⟩
  · rintro i o S g ho hheap _ hSi hS1 hS2 ⟨p, hp, hpos, rfl⟩ hw
    have hi : i < ops.size := (Array.getElem?_eq_some_iff.1 ho).1
    obtain ⟨e1, e2⟩ := pos i S hheap hi hSi hS1 hS2 p hp hpos
    obtain ⟨o', ho', _, hdid⟩ := W.did i hi
    obtain rfl : o' = o := by rw [ho] at ho'; injection ho' with e; exact e.symm
    rcases hdid with ⟨_, _, hh⟩ | ⟨hw', _⟩
    · exact ⟨i + 1, by omega, e2, by rw [hh, e1]⟩
    · rw [hw] at hw'; simp at hw'
  · rintro i o S g ho hcl _ hS1 hS2 ⟨p, hple, hpos, rfl⟩ hw
    exact chain_load W ht hload ho hcl hS1 hS2 hple hpos hw
  · rintro S g B f w hall _ ⟨p, hp, hpos, rfl⟩ H
    have : (st ops.size).2 = (st p).2 := W.heap_same ops.size hp (Nat.le_refl _) (fun j h1 h2 => by
      cases hx : heapOp P ops j with
      | false => rfl
      | true => have := (hpos j h2 hx).1 (hall j h2 hx); omega)
    rw [this]
    exact H
end
end Go.Proofs.Ytgnacecplaemlaa.AI
