/-
  An abstract interpreter for the model's code, part 15: a region that draws its order: walked once in the text's order, with checks that make every order come to the same.
-/
import Derived.Test.YtgnacecplaemlaaE14
namespace Go.Proofs.Ytgnacecplaemlaa.AI
open Go.RowKit

/-! ### When two abstract values are surely one -/
mutual
def AV.beq : AV → AV → Bool
  | .bool a, .bool b => a == b
  | .int k a, .int k' b => decide (k = k') && a == b
  | .str a, .str b => natsEq a b
  | .nilp, .nilp => true
  | .ptr a b, .ptr c d => Nat.beq a c && Nat.beq b d
  | .nilSl, .nilSl => true
  | .sl a b c d e, .sl a' b' c' d' e' => Nat.beq a a' && Nat.beq b b' && Nat.beq c c' && Nat.beq d d' && decide (e = e')
  | .nilMap, .nilMap => true
  | .fn g a b, .fn g' a' b' => decide (g = g') && AV.beqs a a' && AV.beqs b b'
  | .nilFn, .nilFn => true
  | .iface t v, .iface t' v' => Nat.beq t t' && AV.beq v v'
  | .nilIface, .nilIface => true
  | .agg a, .agg b => AV.beqs a b
  | .tup a, .tup b => AV.beqs a b
  | .top, .top => true
  | _, _ => false
def AV.beqs : List AV → List AV → Bool
  | [], [] => true
  | a :: x, b :: y => AV.beq a b && AV.beqs x y
  | _, _ => false
end
theorem natsEq_sound : ∀ {x y : List Nat}, natsEq x y = true → x = y
  | [], [], _ => rfl
  | [], _ :: _, h => by simp [natsEq] at h
  | _ :: _, [], h => by simp [natsEq] at h
  | a :: x, b :: y, h => by
    simp only [natsEq, Bool.and_eq_true] at h
    rw [Nat.beq_eq.mp h.1, natsEq_sound h.2]
mutual
theorem AV.beq_sound : ∀ {a b : AV}, AV.beq a b = true → a = b := by
  intro a b h
  cases a <;> cases b <;> simp only [AV.beq, Bool.and_eq_true, decide_eq_true_eq, beq_iff_eq, Nat.beq_eq, Bool.false_eq_true] at h
  case bool.bool => rw [h]
  case int.int => rw [h.1, h.2]
  case str.str => rw [natsEq_sound h]
  case nilp.nilp => rfl
  case ptr.ptr => rw [h.1, h.2]
  case nilSl.nilSl => rfl
  case sl.sl => obtain ⟨⟨⟨⟨rfl, rfl⟩, rfl⟩, rfl⟩, rfl⟩ := h; rfl
  case nilMap.nilMap => rfl
  case fn.fn => rw [h.1.1, AV.beqs_sound h.1.2, AV.beqs_sound h.2]
  case nilFn.nilFn => rfl
  case iface.iface => rw [h.1, AV.beq_sound h.2]
  case nilIface.nilIface => rfl
  case agg.agg => rw [AV.beqs_sound h]
  case tup.tup => rw [AV.beqs_sound h]
  case top.top => rfl
theorem AV.beqs_sound : ∀ {a b : List AV}, AV.beqs a b = true → a = b := by
  intro a b h
  cases a with
  | nil => cases b with
    | nil => rfl
    | cons y b => simp [AV.beqs] at h
  | cons x a => cases b with
    | nil => simp [AV.beqs] at h
    | cons y b =>
      simp only [AV.beqs, Bool.and_eq_true] at h
      rw [AV.beq_sound h.1, AV.beqs_sound h.2]
end

/-! ### The static part -/
def direct (o : Oper) : List Nat := o.after.toList.filterMap fun e => if Region.binds .any e then some e.on else none
/-- The set of the operations that are listed, and of those that these wait for. -/
def maskOf (T : List Nat) : List Nat → Nat
  | [] => 0
  | k :: l => (2 ^ k ||| T.getD k 0) ||| maskOf T l
def befs : List Oper → List Nat → List Nat
  | [], acc => acc
  | o :: l, acc => (fun m => befs l (acc ++ [m])) (maskOf acc (direct o))
def bef (T : List Nat) (j i : Nat) : Bool := (T.getD i 0).testBit j
theorem maskOf_bit (T : List Nat) (j : Nat) : ∀ l, (maskOf T l).testBit j = true ↔ j ∈ l ∨ ∃ k ∈ l, bef T j k = true
  | [] => by simp [maskOf]
  | k :: l => by
    simp only [maskOf, Nat.testBit_or, Bool.or_eq_true, Nat.testBit_two_pow, decide_eq_true_eq, maskOf_bit T j l, List.mem_cons, bef]
    constructor
    · rintro ((rfl | h) | h | ⟨x, hx, h⟩)
      · exact .inl (.inl rfl)
      · exact .inr ⟨k, .inl rfl, h⟩
      · exact .inl (.inr h)
      · exact .inr ⟨x, .inr hx, h⟩
    · rintro ((rfl | h) | ⟨x, rfl | hx, h⟩)
      · exact .inl (.inl rfl)
      · exact .inr (.inl h)
      · exact .inl (.inr h)
      · exact .inr (.inr ⟨x, hx, h⟩)
def tableOK (T : List Nat) (ops : Array Oper) : Bool :=
  (List.range ops.size).all fun i => match ops[i]? with
    | none => false
    | some o => (direct o).all (fun k => Nat.blt k i) && Nat.beq (T.getD i 0) (maskOf T (direct o))
def dstOf (ops : Array Oper) (i : Nat) : Option Tmp := (ops[i]?).bind (·.dst)
def heapOp (P : Program) (ops : Array Oper) (i : Nat) : Bool :=
  match ops[i]? with
  | some o => decide (cls P o = .heap)
  | none => false
def slotsOK (T : List Nat) (ops : Array Oper) : Bool :=
  (List.range ops.size).all fun i => match ops[i]? with
    | none => false
    | some o => (List.range ops.size).all fun j => decide (j = i) || match dstOf ops j with
      | none => true
      | some d => decide (o.dst ≠ some d) && (bef T j i || bef T i j || !(o.looksAt ops).contains d)
def chainOK (P : Program) (T : List Nat) (ops : Array Oper) : Bool :=
  (List.range ops.size).all fun i => !heapOp P ops i || (List.range i).all fun j => !heapOp P ops j || bef T j i
def drawOK (P : Program) (T : List Nat) (ops : Array Oper) : Bool :=
  tableOK T ops && slotsOK T ops && chainOK P T ops && Region.noSelect ops

/-! ### The walk -/
noncomputable def alog (P : Program) (call : ACall) (ops : Array Oper) : List Nat → List AV → AH → Option (List (List AV × AH))
  | [], fr, h => some [(fr, h)]
  | i :: rest, fr, h =>
    match astep P call ops i fr h with
    | none => none
    | some (fr', h') =>
      match alog P call ops rest fr' h' with
      | none => none
      | some l => some ((fr, h) :: l)
def sameLoad : Option AV → Option AV → Bool
  | some a, some b => a.beq b
  | _, _ => false
noncomputable def loadOK (P : Program) (T : List Nat) (ops : Array Oper) (log : List (List AV × AH)) (i : Nat) : Bool :=
  match ops[i]?, log[i]? with
  | some o, some (fr, h) =>
    if cls P o = .load then
      match awanted ops fr o with
      | some true => (List.range ops.size).all fun j => !heapOp P ops j || bef T j i || bef T i j || match log[j]?, log[j + 1]? with
        | some (_, hj), some (_, hj1) => sameLoad (aload P (aev fr) o hj) (aload P (aev fr) o h) && sameLoad (aload P (aev fr) o hj1) (aload P (aev fr) o h)
        | _, _ => false
      | _ => true
    else true
  | _, _ => false
/-! ### What the checks say -/
section
variable {P : Program} {T : List Nat} {ops : Array Oper}
theorem all_range {n : Nat} {p : Nat → Bool} (h : (List.range n).all p = true) {i : Nat} (hi : i < n) : p i = true := by
  rw [List.all_eq_true] at h; exact h i (List.mem_range.mpr hi)
theorem table_direct (h : tableOK T ops = true) {i : Nat} {o : Oper} (ho : ops[i]? = some o) : (∀ k ∈ direct o, k < i) ∧ (∀ k ∈ direct o, bef T k i = true) ∧ ∀ j, bef T j i = true → j ∈ direct o ∨ ∃ k ∈ direct o, bef T j k = true := by
  have hi : i < ops.size := (Array.getElem?_eq_some_iff.1 ho).1
  have h1 := all_range h hi
  simp only [ho, Bool.and_eq_true, List.all_eq_true, Nat.blt_eq] at h1
  have h2 := Nat.eq_of_beq_eq_true h1.2
  refine ⟨h1.1, fun k hk => ?_, fun j hj => ?_⟩
  · unfold bef; rw [h2, maskOf_bit]; exact .inl hk
  · unfold bef at hj; rw [h2, maskOf_bit] at hj; exact hj
theorem bef_lt (h : tableOK T ops = true) : ∀ (i : Nat), i < ops.size → ∀ j, bef T j i = true → j < i := by
  intro i
  induction i using Nat.strongRecOn with
  | _ i ih =>
    intro hi j hj
    have ho : ops[i]? = some ops[i] := by simp [hi]
    obtain ⟨h1, h2, h3⟩ := table_direct h ho
    rcases h3 j hj with hd | ⟨k, hk, hjk⟩
    · exact h1 j hd
    · have := h1 k hk
      have := ih k this (by omega) j hjk
      omega
theorem slot_apart (h : slotsOK T ops = true) {i j : Nat} (hi : i < ops.size) (hj : j < ops.size) (hne : j ≠ i) {d : Tmp} (hd : dstOf ops j = some d) {o : Oper} (ho : ops[i]? = some o) :
    o.dst ≠ some d ∧ (d ∈ o.looksAt ops → bef T j i = true ∨ bef T i j = true) := by
  have h1 := all_range h hi
  simp only [ho] at h1
  have h2 := all_range h1 hj
  simp only [hd, Bool.or_eq_true, decide_eq_true_eq, Bool.and_eq_true] at h2
  rcases h2 with h2 | h2
  · exact absurd h2 hne
  · refine ⟨h2.1, fun hl => ?_⟩
    rcases h2.2 with (h3 | h3) | h3
    · exact .inl h3
    · exact .inr h3
    · simp at h3; exact absurd hl h3
theorem chain_bef (h : chainOK P T ops = true) {i j : Nat} (hi : i < ops.size) (hji : j < i) (hhi : heapOp P ops i = true) (hhj : heapOp P ops j = true) : bef T j i = true := by
  have h1 := all_range h hi
  simp only [hhi, Bool.not_true, Bool.false_or] at h1
  have h2 := all_range h1 hji
  simpa [hhj] using h2
end

/-! ### The walk's states -/
section
variable {P : Program} {call : ACall} {ops : Array Oper}
theorem alog_spec : ∀ (l : List Nat) (fr : List AV) (h : AH) (log : List (List AV × AH)), alog P call ops l fr h = some log →
    log[0]? = some (fr, h) ∧ log.length = l.length + 1 ∧ ∀ k i, l[k]? = some i → ∃ s s', log[k]? = some s ∧ log[k + 1]? = some s' ∧ astep P call ops i s.1 s.2 = some s'
  | [], fr, h, log, h0 => by simp only [alog, Option.some.injEq] at h0; subst h0; simp
  | i :: l, fr, h, log, h0 => by
    unfold alog at h0
    split at h0
    · simp at h0
    · rename_i fr' h' hs
      split at h0
      · simp at h0
      · rename_i log' hl
        injection h0 with h0
        subst h0
        obtain ⟨h1, h2, h3⟩ := alog_spec l fr' h' log' hl
        refine ⟨rfl, by simp [h2], fun k j hk => ?_⟩
        cases k with
        | zero =>
          simp at hk
          subst hk
          exact ⟨(fr, h), (fr', h'), rfl, by simpa using h1, hs⟩
        | succ k =>
          obtain ⟨s, s', q1, q2, q3⟩ := h3 k j (by simpa using hk)
          exact ⟨s, s', by simpa using q1, by simpa using q2, q3⟩

/-- What one step did. -/
def Did (P : Program) (call : ACall) (ops : Array Oper) (i : Nat) (s s' : List AV × AH) (v : AV) : Prop :=
  ∃ o, ops[i]? = some o ∧ s'.1 = aput s.1 o.dst v ∧
    ((awanted ops s.1 o = some false ∧ v = .tup [] ∧ s'.2 = s.2) ∨ (awanted ops s.1 o = some true ∧ aop P call (aev s.1) o s.2 = some (v, s'.2)))
theorem astep_did {i : Nat} {s s' : List AV × AH} (h0 : astep P call ops i s.1 s.2 = some s') : ∃ v, Did P call ops i s s' v := by
  unfold astep at h0
  split at h0
  · simp at h0
  · rename_i o ho
    split at h0
    · simp at h0
    · rename_i hw
      injection h0 with h0
      subst h0
      exact ⟨.tup [], o, ho, rfl, .inl ⟨hw, rfl, rfl⟩⟩
    · rename_i hw
      cases hp : aop P call (aev s.1) o s.2 with
      | none => simp [hp] at h0
      | some r =>
        simp [hp] at h0
        subst h0
        exact ⟨r.1, o, ho, rfl, .inr ⟨hw, by rw [hp]⟩⟩

/-- The states of the walk in the text's order, and what each operation left. -/
structure Walk (P : Program) (call : ACall) (ops : Array Oper) (st : Nat → List AV × AH) (val : Nat → AV) : Prop where
  did : ∀ i, i < ops.size → Did P call ops i (st i) (st (i + 1)) (val i)

theorem walk_of_log {fr : List AV} {h : AH} {log : List (List AV × AH)} (h0 : alog P call ops (List.range ops.size) fr h = some log) :
    ∃ st val, Walk P call ops st val ∧ st 0 = (fr, h) ∧ ∀ k, k ≤ ops.size → log[k]? = some (st k) := by
  obtain ⟨h1, h2, h3⟩ := alog_spec _ _ _ _ h0
  simp only [List.length_range] at h2
  have hk : ∀ k, k ≤ ops.size → log[k]? = some (log.getD k (fr, h)) := fun k hk => by
    rw [List.getD_eq_getElem?_getD, List.getElem?_eq_getElem (by omega)]; rfl
  have hd : ∀ i, ∃ v, i < ops.size → Did P call ops i (log.getD i (fr, h)) (log.getD (i + 1) (fr, h)) v := fun i => by
    by_cases hi : i < ops.size
    · obtain ⟨s, s', q1, q2, q3⟩ := h3 i i (by simp [hi])
      rw [hk i (by omega)] at q1
      rw [hk (i + 1) (by omega)] at q2
      injection q1 with q1
      injection q2 with q2
      subst q1 q2
      obtain ⟨v, hv⟩ := astep_did q3
      exact ⟨v, fun _ => hv⟩
    · exact ⟨.top, fun h => absurd h hi⟩
  obtain ⟨val, hval⟩ := Classical.axiomOfChoice hd
  refine ⟨fun k => log.getD k (fr, h), val, ⟨hval⟩, ?_, hk⟩
  have := hk 0 (Nat.zero_le _)
  rw [h1] at this
  injection this with this
  exact this.symm

variable {st : Nat → List AV × AH} {val : Nat → AV} {T : List Nat}
theorem Walk.length (W : Walk P call ops st val) : ∀ i, i ≤ ops.size → (st i).1.length = (st 0).1.length
  | 0, _ => rfl
  | i + 1, hi => by
    obtain ⟨o, ho, e, _⟩ := W.did i (by omega)
    rw [e]
    cases hd : o.dst <;> simp [aput, W.length i (by omega)]
theorem Walk.slot_old (W : Walk P call ops st val) {t : Nat} : ∀ i, i ≤ ops.size → (∀ j, j < i → dstOf ops j ≠ some t) → (st i).1[t]? = (st 0).1[t]?
  | 0, _, _ => rfl
  | i + 1, hi, hn => by
    obtain ⟨o, ho, e, _⟩ := W.did i (by omega)
    rw [e, ← W.slot_old i (by omega) (fun j hj => hn j (by omega))]
    have := hn i (Nat.lt_succ_self i)
    simp only [dstOf, ho, Option.bind_some] at this
    cases hd : o.dst with
    | none => rfl
    | some d => simp only [aput]; rw [List.getElem?_set_ne]; rintro rfl; exact this hd
theorem Walk.slot_new (W : Walk P call ops st val) (hs : slotsOK T ops = true) {t j : Nat} (hj : j < ops.size) (hd : dstOf ops j = some t) (ht : t < (st 0).1.length) : ∀ i, i ≤ ops.size → j < i → (st i).1[t]? = some (val j)
  | 0, _, h => by omega
  | i + 1, hi, hji => by
    obtain ⟨o, ho, e, _⟩ := W.did i (by omega)
    by_cases hij : j = i
    · subst hij
      simp only [dstOf, ho, Option.bind_some] at hd
      rw [e, hd]
      simp only [aput]
      rw [List.getElem?_set_self (by rw [W.length j (by omega)]; exact ht)]
    · rw [e, ← W.slot_new hs hj hd ht i (by omega) (by omega)]
      have := (slot_apart hs (by omega : i < ops.size) hj hij hd ho).1
      cases hd2 : o.dst with
      | none => rfl
      | some d => simp only [aput]; rw [List.getElem?_set_ne]; rintro rfl; exact this hd2
theorem cls_keeps {o : Oper} {ρ' : Operand → AV} {h h' : AH} {v : AV} (hc : cls P o ≠ .heap) (h0 : aop P call ρ' o h = some (v, h')) : h' = h := by
  unfold aop at h0
  split at h0
  · cases hp : apure P ρ' o <;> simp [hp] at h0; exact h0.2.symm
  · cases hp : aload P ρ' o h <;> simp [hp] at h0; exact h0.2.symm
  · rename_i hh; exact absurd hh hc
theorem Walk.heap_same (W : Walk P call ops st val) {p : Nat} : ∀ q, p ≤ q → q ≤ ops.size → (∀ j, p ≤ j → j < q → heapOp P ops j = false) → (st q).2 = (st p).2 := by
  intro q hpq hq hn
  induction q with
  | zero => rw [show p = 0 by omega]
  | succ q ih =>
    by_cases hp : p = q + 1
    · rw [hp]
    · obtain ⟨o, ho, _, hd⟩ := W.did q (by omega)
      have h1 := hn q (by omega) (Nat.lt_succ_self q)
      simp only [heapOp, ho, decide_eq_false_iff_not] at h1
      have h2 : (st (q + 1)).2 = (st q).2 := by
        rcases hd with ⟨_, _, e⟩ | ⟨_, e⟩
        · exact e
        · exact cls_keeps h1 e
      rw [h2]
      exact ih (by omega) (by omega) (fun j h1 h2 => hn j h1 (by omega))
end
end Go.Proofs.Ytgnacecplaemlaa.AI
