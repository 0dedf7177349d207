/-
  How a region whose order is open is run: as one in the text's order, with a look at the loads that no rule of Go orders against a write.
-/
import Derived.Test.YtgnacecplaemlaaS3
namespace Go.Proofs.Ytgnacecplaemlaa
open AI
section
variable {P : Program} {call : FuncId → List AV → AH → Option (AV × AH)} {ops : Array Oper}
noncomputable def bytesV (x : AV) (h : AH) : Option AV :=
  match x with
  | .sl id off len es _ => if es = 1 then ((h.cells? id len off).bind toBytes).map .str else none
  | .nilSl => some (.str [])
  | _ => none
noncomputable def loadI (P : Program) (ops : Array Oper) (i : Nat) (fr : List AV) (h : AH) : Option AV :=
  match ops[i]? with
  | some o => aload P (aev fr) o h
  | none => none
/-- Every load and every step that writes: ordered, or listed. -/
def pairsOK (P : Program) (T : List Nat) (ops : Array Oper) (pairs : List (Nat × Nat)) : Bool :=
  (List.range ops.size).all fun i => match ops[i]? with
    | none => false
    | some o => !decide (cls P o = .load) || (List.range ops.size).all fun j => !heapOp P ops j || (bef T j i || (bef T i j || pairs.any fun p => Nat.beq p.1 i && Nat.beq p.2 j))

theorem natsEq_refl : ∀ (s : List Nat), natsEq s s = true
  | [] => rfl
  | a :: s => by simp [natsEq, natsEq_refl s]
mutual
theorem AV.beq_refl : ∀ (a : AV), AV.beq a a = true
  | .bool b => by simp [AV.beq]
  | .int k n => by simp [AV.beq]
  | .str s => by simp [AV.beq]; exact natsEq_refl s
  | .nilp => rfl
  | .ptr a b => by simp [AV.beq]
  | .nilSl => rfl
  | .sl a b c d e => by simp [AV.beq]
  | .nilMap => rfl
  | .fn f a b => by simp [AV.beq, AV.beqs_refl a, AV.beqs_refl b]
  | .nilFn => rfl
  | .iface t v => by simp [AV.beq, AV.beq_refl v]
  | .nilIface => rfl
  | .agg l => by simp [AV.beq, AV.beqs_refl l]
  | .tup l => by simp [AV.beq, AV.beqs_refl l]
  | .top => rfl
theorem AV.beqs_refl : ∀ (a : List AV), AV.beqs a a = true
  | [] => rfl
  | x :: l => by simp [AV.beqs, AV.beq_refl x, AV.beqs_refl l]
end

theorem alog_get : ∀ (l : List Nat) (fr : List AV) (h : AH) (log : List (List AV × AH)), alog P call ops l fr h = some log → ∀ k, k ≤ l.length → log[k]? = aops P call ops (l.take k) fr h
  | [], fr, h, log, h0, k, hk => by
    simp only [alog, Option.some.injEq] at h0
    subst h0
    obtain rfl : k = 0 := by simpa using hk
    rfl
  | i :: l, fr, h, log, h0, k, hk => by
    unfold alog at h0
    split at h0
    · simp at h0
    · rename_i fr' h' hs
      split at h0
      · simp at h0
      · rename_i log' hl
        injection h0 with h0
        subst h0
        cases k with
        | zero => rfl
        | succ k =>
          rw [List.take_succ_cons, ops_cons, hs]
          simpa using alog_get l fr' h' log' hl k (by simpa using hk)
theorem alog_some : ∀ (l : List Nat) (fr : List AV) (h : AH) (r : List AV × AH), aops P call ops l fr h = some r → ∃ log, alog P call ops l fr h = some log
  | [], fr, h, r, h0 => ⟨_, rfl⟩
  | i :: l, fr, h, r, h0 => by
    rw [ops_cons] at h0
    obtain ⟨s, hs, h0⟩ := Option.bind_eq_some_iff.mp h0
    obtain ⟨log, hl⟩ := alog_some l s.1 s.2 r h0
    refine ⟨(fr, h) :: log, ?_⟩
    unfold alog
    rw [hs]
    show (match alog P call ops l s.1 s.2 with | none => none | some l => some ((fr, h) :: l)) = _
    rw [hl]
theorem take_range (k n : Nat) (hk : k ≤ n) : (List.range n).take k = List.range k := by
  rw [List.take_range]; congr 1; omega
/-- A listed pair's look: the load finds the same ahead of the write, and behind it. -/
def PairOK (P : Program) (call : FuncId → List AV → AH → Option (AV × AH)) (ops : Array Oper) (fr : List AV) (h : AH) (i j : Nat) : Prop :=
  ∃ s sj sj1 v, aops P call ops (List.range i) fr h = some s ∧ aops P call ops (List.range j) fr h = some sj ∧ aops P call ops (List.range (j + 1)) fr h = some sj1 ∧
    loadI P ops i s.1 s.2 = some v ∧ loadI P ops i s.1 sj.2 = some v ∧ loadI P ops i s.1 sj1.2 = some v
theorem adraw_eval {fr : List AV} {h : AH} {r : List AV × AH} (pairs : List (Nat × Nat)) (hd : drawOK P (befs ops.toList []) ops = true) (hp : pairsOK P (befs ops.toList []) ops pairs = true)
    (h0 : aops P call ops (List.range ops.size) fr h = some r) (hq : ∀ p ∈ pairs, PairOK P call ops fr h p.1 p.2) : adraw P call ops fr h = some r := by
  obtain ⟨log, hl⟩ := alog_some _ _ _ _ h0
  have hg : ∀ k, k ≤ ops.size → log[k]? = aops P call ops (List.range k) fr h := fun k hk => by
    rw [alog_get _ _ _ _ hl k (by simpa using hk), take_range k _ hk]
  have hlen : log.length = ops.size + 1 := by simpa using (alog_spec _ _ _ _ hl).2.1
  unfold adraw
  rw [if_pos hd, hl]
  show (if (List.range ops.size).all (loadOK P (befs ops.toList []) ops log) then log[ops.size]? else none) = some r
  rw [if_pos, hg _ (Nat.le_refl _), h0]
  rw [List.all_eq_true]
  intro i hi
  have hi : i < ops.size := List.mem_range.mp hi
  unfold loadOK
  obtain ⟨⟨fi, hhi⟩, hs⟩ : ∃ s, log[i]? = some s := ⟨log[i]'(by omega), List.getElem?_eq_getElem _⟩
  have ho : ops[i]? = some ops[i] := by simp [hi]
  have hpi := all_range hp hi
  rw [ho] at hpi
  rw [ho, hs]
  show (if cls P ops[i] = .load then (match awanted ops fi ops[i] with
      | some true => (List.range ops.size).all fun j => !heapOp P ops j || bef (befs ops.toList []) j i || bef (befs ops.toList []) i j || match log[j]?, log[j + 1]? with
        | some (_, hj), some (_, hj1) => sameLoad (aload P (aev fi) ops[i] hj) (aload P (aev fi) ops[i] hhi) && sameLoad (aload P (aev fi) ops[i] hj1) (aload P (aev fi) ops[i] hhi)
        | _, _ => false
      | _ => true) else true) = true
  split
  · rename_i hc
    split
    · rw [List.all_eq_true]
      intro j hj
      have hj : j < ops.size := List.mem_range.mp hj
      simp only [hc, decide_true, Bool.not_true, Bool.false_or] at hpi
      have hpj := all_range hpi hj
      simp only [Bool.or_eq_true] at hpj ⊢
      rcases hpj with h1 | h1 | h1 | h1
      · exact .inl (.inl (.inl h1))
      · exact .inl (.inl (.inr h1))
      · exact .inl (.inr h1)
      · refine .inr ?_
        rw [List.any_eq_true] at h1
        obtain ⟨⟨pi, pj⟩, hm, hpp⟩ := h1
        rw [Bool.and_eq_true] at hpp
        obtain ⟨rfl, rfl⟩ : pi = i ∧ pj = j := ⟨Nat.eq_of_beq_eq_true hpp.1, Nat.eq_of_beq_eq_true hpp.2⟩
        obtain ⟨s, sj, sj1, v, q1, q2, q3, q4, q5, q6⟩ := hq _ hm
        have e1 : log[pi]? = some s := by rw [hg _ (by omega)]; exact q1
        have e2 : log[pj]? = some sj := by rw [hg _ (by omega)]; exact q2
        have e3 : log[pj + 1]? = some sj1 := by rw [hg _ (by omega)]; exact q3
        rw [hs] at e1
        injection e1 with e1
        subst e1
        rw [e2, e3]
        unfold loadI at q4 q5 q6
        rw [ho] at q4 q5 q6
        simp only at q4 q5 q6
        show (sameLoad (aload P (aev fi) ops[pi] sj.2) (aload P (aev fi) ops[pi] hhi) && sameLoad (aload P (aev fi) ops[pi] sj1.2) (aload P (aev fi) ops[pi] hhi)) = true
        rw [q4, q5, q6]
        simp [sameLoad, AV.beq_refl]
    · rfl
  · rfl
/-- A region where no such load is. -/
theorem adraw_plain {fr : List AV} {h : AH} (hd : drawOK P (befs ops.toList []) ops = true) (hp : pairsOK P (befs ops.toList []) ops [] = true) : adraw P call ops fr h = aops P call ops (List.range ops.size) fr h := by
  cases h0 : aops P call ops (List.range ops.size) fr h with
  | some r => exact adraw_eval [] hd hp h0 (fun _ h => by simp at h)
  | none =>
    unfold adraw
    rw [if_pos hd]
    cases hl : alog P call ops (List.range ops.size) fr h with
    | none => rfl
    | some log =>
      have := alog_get _ _ _ _ hl ops.size (by simp)
      rw [List.take_of_length_le (by simp), h0] at this
      have hlen := (alog_spec _ _ _ _ hl).2.1
      simp only [List.length_range] at hlen
      rw [List.getElem?_eq_none_iff] at this
      omega
end
end Go.Proofs.Ytgnacecplaemlaa
