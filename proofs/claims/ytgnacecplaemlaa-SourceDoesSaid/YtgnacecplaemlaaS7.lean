/-
  The program's source of bytes, on: Left, Active, and a text's last byte.
-/
import Derived.Test.YtgnacecplaemlaaS6
namespace Go.Proofs.Ytgnacecplaemlaa
open AI
set_option linter.unusedSimpArgs false

/-! ### Left -/
def left (L : List Val) : Nat := (L.map fun v => v.text.length - v.at_).sum
theorem left_cons (v : Val) (L : List Val) : left (v :: L) = (v.text.length - v.at_) + left L := by simp [left]
def C13 (s len i acc : Nat) : List AV := [.ptr s 0, .top, .int .i64 0, .int .i64 (acc : Int), .top, .top, .int .i64 (len : Int), .int .i64 (i : Int), .top, .top, .top, .top, .top, .top, .top, .top, .top, .top, .top, .top, .top, .top, .top, .top, .top, .top, .top, .top, .top, .top, .top, .top]
theorem left_loop {h : AH} {s cnt : Nat} {L : List Val} {F : Nat → Prop} (S : Src h s L cnt F) (wf : ∀ v ∈ L, v.at_ ≤ v.text.length) (total : Nat) (hb : total < 4611686018427387904) (hLb : L.length < 4611686018427387904)
    (call : FuncId → List AV → AH → Option (AV × AH)) (lf : Nat) : ∀ (m i acc : Nat) (fr : List AV), i + m = L.length → aclear (HK 13) lp13_3 fr = C13 s L.length i acc → acc + left (L.drop i) = total → ∀ k,
      aloop (arun Try.prog (HK 13) call lf lp13_3) (aclear (HK 13) lp13_3) (m + 1 + k) fr h = some (.exit 0, (C13 s L.length L.length total).set 8 (.bool false), h)
  | 0, i, acc, fr, hi, hc, ht, k => by
    have e0 : i = L.length := by omega
    subst e0
    rw [List.drop_length] at ht
    have e1 : acc = total := by simpa [left] using ht
    subst e1
    rw [show 0 + 1 + k = k + 1 by omega, loop_succ, hc]
    conv => lhs; arg 1; unfold lp13_3
    have d : decide ((L.length : Int) < (L.length : Int)) = false := by simp
    simp (implicitDefEqProofs := false) only [C13, run_seq, run_cond, run_block, run_loop, run_exit, run_ret, run_skip, ops_cons, ops_nil, ev_tmp, pureS_some, heapS_some, heapN_some, gdS_tt, gdS_ff, gdS_tf, gdS_ft, gdS_undef, List.getD_cons_succ, List.getD_cons_zero, List.set_cons_succ, List.set_cons_zero, Option.bind_some, regR_some, seqR_normal, seqR_ret, seqR_exit, fin0_ret, fin0_normal, fin1_ret, fin1_normal, finN_ret, finN_normal, List.map_cons, List.map_nil, lenV_some, pickV_t, pickV_f, callV_func, extV_tup, condR_true, condR_false, blockR_normal, blockR_ret, blockR_exit, if_true, List.nil_append, List.append_nil, List.cons_append, List.getElem?_cons_zero, List.getElem?_cons_succ, loopR_normal, loopR_exit, loopR_ret, Option.map_some, ite_true, reduceIte, reg13_0, st13_0_0, reg13_1, st13_1_0, reg13_2, st13_2_0, st13_2_1, st13_2_2, reg13_3, st13_3_0, reg13_4, st13_4_0, st13_4_1, reg13_5, st13_5_0, st13_5_1, st13_5_2, st13_5_3, st13_5_4, st13_5_5, st13_5_6, st13_5_7, st13_5_8, st13_5_9, st13_5_10, st13_5_11, st13_5_12, st13_5_13, st13_5_14, st13_5_15, st13_5_16, st13_5_17, st13_5_18, st13_5_19, st13_5_20, reg13_6, st13_6_0, st13_6_1, reg13_7, st13_7_0, st13_7_1, i_lss, d]
  | m + 1, i, acc, fr, hi, hc, ht, k => by
    have hlt : i < L.length := by omega
    have hv : L[i]? = some L[i] := by simp [hlt]
    have hw := wf _ (List.mem_of_getElem? hv)
    have ed : L.drop i = L[i] :: L.drop (i + 1) := (List.getElem_cons_drop hlt).symm
    rw [ed, left_cons] at ht
    have ih : ∀ fr, aclear (HK 13) lp13_3 fr = C13 s L.length (i + 1) (acc + ((L[i]).text.length - (L[i]).at_)) → aloop (arun Try.prog (HK 13) call lf lp13_3) (aclear (HK 13) lp13_3) (m + 1 + k) fr h = some (.exit 0, (C13 s L.length L.length total).set 8 (.bool false), h) :=
      fun fr hcl => left_loop S wf total hb hLb call lf m (i + 1) _ fr (by omega) hcl (by omega) k
    rw [show m + 1 + 1 + k = (m + 1 + k) + 1 by omega, loop_succ, hc]
    conv => lhs; arg 1; unfold lp13_3
    have d : decide ((i : Int) < (L.length : Int)) = true := by simp; omega
    rcases S.slice with ⟨rfl, _⟩ | ⟨id, _, _, hcell, hR⟩
    · simp at hlt
    · have r := row_val hR hv
      have r1 : h.cell? id (0 + i * 4 + 1) = some (.str (L[i]).text) := r.cell (i := 1) rfl
      have r2 : h.cell? id (0 + i * 4 + 2) = some (.int .i64 ((L[i]).at_ : Int)) := r.cell (i := 2) rfl
      have i1 : ∀ k, aindexAt Try.prog 62 (.sl id 0 L.length 4 none) (.int k (i : Int)) = some (.ptr id (0 + i * 4)) := fun k => ix62 _ _ _ _ hlt k
      have w1 : IntKind.i64.wrap (((L[i]).text.length : Int) - ((L[i]).at_ : Int)) = (((L[i]).text.length - (L[i]).at_ : Nat) : Int) := by
        rw [show (((L[i]).text.length : Int) - ((L[i]).at_ : Int)) = (((L[i]).text.length - (L[i]).at_ : Nat) : Int) by omega]
        exact wrap_nat _ (by omega)
      have w2 : IntKind.i64.wrap ((acc : Int) + (((L[i]).text.length - (L[i]).at_ : Nat) : Int)) = ((acc + ((L[i]).text.length - (L[i]).at_) : Nat) : Int) := by
        rw [show ((acc : Int) + (((L[i]).text.length - (L[i]).at_ : Nat) : Int)) = ((acc + ((L[i]).text.length - (L[i]).at_) : Nat) : Int) by omega]
        exact wrap_nat _ (by omega)
      have w3 := wrap_succ i (by omega)
      simp (implicitDefEqProofs := false) only [C13, run_seq, run_cond, run_block, run_loop, run_exit, run_ret, run_skip, ops_cons, ops_nil, ev_tmp, pureS_some, heapS_some, heapN_some, gdS_tt, gdS_ff, gdS_tf, gdS_ft, gdS_undef, List.getD_cons_succ, List.getD_cons_zero, List.set_cons_succ, List.set_cons_zero, Option.bind_some, regR_some, seqR_normal, seqR_ret, seqR_exit, fin0_ret, fin0_normal, fin1_ret, fin1_normal, finN_ret, finN_normal, List.map_cons, List.map_nil, lenV_some, pickV_t, pickV_f, callV_func, extV_tup, condR_true, condR_false, blockR_normal, blockR_ret, blockR_exit, if_true, List.nil_append, List.append_nil, List.cons_append, List.getElem?_cons_zero, List.getElem?_cons_succ, loopR_normal, loopR_exit, loopR_ret, Option.map_some, ite_true, reduceIte, reg13_0, st13_0_0, reg13_1, st13_1_0, reg13_2, st13_2_0, st13_2_1, st13_2_2, reg13_3, st13_3_0, reg13_4, st13_4_0, st13_4_1, reg13_5, st13_5_0, st13_5_1, st13_5_2, st13_5_3, st13_5_4, st13_5_5, st13_5_6, st13_5_7, st13_5_8, st13_5_9, st13_5_10, st13_5_11, st13_5_12, st13_5_13, st13_5_14, st13_5_15, st13_5_16, st13_5_17, st13_5_18, st13_5_19, st13_5_20, reg13_6, st13_6_0, st13_6_1, reg13_7, st13_7_0, st13_7_1, i_lss, d, nilck, fa64_0, ld62, Nat.add_zero, hcell, i1, fa66_1, fa66_2, ld9, ld3, r1, r2, len9, i_sub, i_add, w1, w2, w3]
      exact ih _ (by rw [cl13_3]; rfl)
theorem left_ok {h : AH} {s cnt : Nat} {L : List Val} {F : Nat → Prop} (S : Src h s L cnt F) (wf : ∀ v ∈ L, v.at_ ≤ v.text.length) (hb : left L < 4611686018427387904) (hLb : L.length < 4611686018427387904) (n : Nat) (hn : L.length + 2 ≤ n) :
    X (n + 1) 13 [.ptr s 0] h = some (.int .i64 (left L : Int), h) := by
  rw [ent13]
  unfold cd13
  obtain ⟨k, rfl⟩ : ∃ k, n = L.length + 1 + k := ⟨n - (L.length + 1), by omega⟩
  have e : X (L.length + 1 + k) 18 [.ptr s 0] h = some (.int .i64 (L.length : Int), h) := by
    rw [show L.length + 1 + k = (L.length + k) + 1 by omega]; exact deep_ok S _
  have l := fun fr hc => left_loop S wf (left L) hb hLb (X (L.length + 1 + k)) (L.length + 1 + k) L.length 0 0 fr (by omega) hc (by simp) k
  simp (implicitDefEqProofs := false) only [run_seq, run_cond, run_block, run_loop, run_exit, run_ret, run_skip, ops_cons, ops_nil, ev_tmp, pureS_some, heapS_some, heapN_some, gdS_tt, gdS_ff, gdS_tf, gdS_ft, gdS_undef, List.getD_cons_succ, List.getD_cons_zero, List.set_cons_succ, List.set_cons_zero, Option.bind_some, regR_some, seqR_normal, seqR_ret, seqR_exit, fin0_ret, fin0_normal, fin1_ret, fin1_normal, finN_ret, finN_normal, List.map_cons, List.map_nil, lenV_some, pickV_t, pickV_f, callV_func, extV_tup, condR_true, condR_false, blockR_normal, blockR_ret, blockR_exit, if_true, List.nil_append, List.append_nil, List.cons_append, List.getElem?_cons_zero, List.getElem?_cons_succ, loopR_normal, loopR_exit, loopR_ret, Option.map_some, ite_true, reduceIte, reg13_0, st13_0_0, reg13_1, st13_1_0, reg13_2, st13_2_0, st13_2_1, st13_2_2, reg13_3, st13_3_0, reg13_4, st13_4_0, st13_4_1, reg13_5, st13_5_0, st13_5_1, st13_5_2, st13_5_3, st13_5_4, st13_5_5, st13_5_6, st13_5_7, st13_5_8, st13_5_9, st13_5_10, st13_5_11, st13_5_12, st13_5_13, st13_5_14, st13_5_15, st13_5_16, st13_5_17, st13_5_18, st13_5_19, st13_5_20, reg13_6, st13_6_0, st13_6_1, reg13_7, st13_7_0, st13_7_1, e]
  rw [l _ (by rw [cl13_3]; rfl)]
  simp (implicitDefEqProofs := false) only [C13, run_seq, run_cond, run_block, run_loop, run_exit, run_ret, run_skip, ops_cons, ops_nil, ev_tmp, pureS_some, heapS_some, heapN_some, gdS_tt, gdS_ff, gdS_tf, gdS_ft, gdS_undef, List.getD_cons_succ, List.getD_cons_zero, List.set_cons_succ, List.set_cons_zero, Option.bind_some, regR_some, seqR_normal, seqR_ret, seqR_exit, fin0_ret, fin0_normal, fin1_ret, fin1_normal, finN_ret, finN_normal, List.map_cons, List.map_nil, lenV_some, pickV_t, pickV_f, callV_func, extV_tup, condR_true, condR_false, blockR_normal, blockR_ret, blockR_exit, if_true, List.nil_append, List.append_nil, List.cons_append, List.getElem?_cons_zero, List.getElem?_cons_succ, loopR_normal, loopR_exit, loopR_ret, Option.map_some, ite_true, reduceIte, reg13_0, st13_0_0, reg13_1, st13_1_0, reg13_2, st13_2_0, st13_2_1, st13_2_2, reg13_3, st13_3_0, reg13_4, st13_4_0, st13_4_1, reg13_5, st13_5_0, st13_5_1, st13_5_2, st13_5_3, st13_5_4, st13_5_5, st13_5_6, st13_5_7, st13_5_8, st13_5_9, st13_5_10, st13_5_11, st13_5_12, st13_5_13, st13_5_14, st13_5_15, st13_5_16, st13_5_17, st13_5_18, st13_5_19, st13_5_20, reg13_6, st13_6_0, st13_6_1, reg13_7, st13_7_0, st13_7_1]

/-! ### A text's last byte -/
def isBlank (t : List Nat) : Bool := t.getLast? == some 32 || t.getLast? == some 9
theorem natsEq_iff (a b : List Nat) : natsEq a b = true ↔ a = b := ⟨fun h => natsEq_sound h, fun h => h ▸ natsEq_refl a⟩
theorem natsEq_dec (a b : List Nat) : natsEq a b = decide (a = b) := by
  rw [Bool.eq_iff_iff, natsEq_iff]; simp
theorem s_eql (xo yo : Operand) (s t : List Nat) : abin Try.prog .eql 9 xo yo (.str s) (.str t) = some (.bool (natsEq s t)) := rfl
theorem s_neq (xo yo : Operand) (s t : List Nat) : abin Try.prog .neq 9 xo yo (.str s) (.str t) = some (.bool (!natsEq s t)) := rfl
theorem sl9_lo (s : List Nat) {i : Nat} (hi : i ≤ s.length) (k : IntKind) : aslice Try.prog 9 (.str s) (some (.int k (i : Int))) none none = some (.str (s.drop i)) := by
  have hu : Try.prog.underlying 9 = some .string := by kernel_rfl
  unfold aslice
  simp only [hu]
  simp [abound, aIx, hi]
  rw [List.take_of_length_le (by simp)]
theorem suffix_ok (t : List Nat) (c : Nat) (ht : t.length < 4611686018427387904) (h : AH) (n : Nat) : X (n + 1) 81 [.str t, .str [c]] h = some (.bool (t.getLast? == some c), h) := by
  rw [ent81]
  unfold cd81
  rcases List.eq_nil_or_concat t with rfl | ⟨t', b, rfl⟩
  · have d : decide ((([] : List Nat).length : Int) ≥ (([c] : List Nat).length : Int)) = false := by simp
    simp (implicitDefEqProofs := false) only [run_seq, run_cond, run_block, run_loop, run_exit, run_ret, run_skip, ops_cons, ops_nil, ev_tmp, pureS_some, heapS_some, heapN_some, gdS_tt, gdS_ff, gdS_tf, gdS_ft, gdS_undef, List.getD_cons_succ, List.getD_cons_zero, List.set_cons_succ, List.set_cons_zero, Option.bind_some, regR_some, seqR_normal, seqR_ret, seqR_exit, fin0_ret, fin0_normal, fin1_ret, fin1_normal, finN_ret, finN_normal, List.map_cons, List.map_nil, lenV_some, pickV_t, pickV_f, callV_func, extV_tup, condR_true, condR_false, blockR_normal, blockR_ret, blockR_exit, if_true, List.nil_append, List.append_nil, List.cons_append, List.getElem?_cons_zero, List.getElem?_cons_succ, loopR_normal, loopR_exit, loopR_ret, Option.map_some, ite_true, reduceIte, reg81_0, st81_0_0, reg81_1, st81_1_0, st81_1_1, st81_1_2, st81_1_3, st81_1_4, st81_1_5, st81_1_6, st81_1_7, st81_1_8, st81_1_9, st81_1_10, st81_1_11, st81_1_12, st81_1_13, st81_1_14, st81_1_15, st81_1_16, len9, i_geq, d]
    rfl
  · have d : decide (((t' ++ [b]).length : Int) ≥ (([c] : List Nat).length : Int)) = true := by simp; omega
    have w : IntKind.i64.wrap (((t' ++ [b]).length : Int) - (([c] : List Nat).length : Int)) = (t'.length : Int) := by
      have : ((t' ++ [b]).length : Int) - (([c] : List Nat).length : Int) = (t'.length : Int) := by simp
      rw [this]; exact wrap_nat _ (by simp at ht; omega)
    have sl : ∀ k, aslice Try.prog 9 (.str (t' ++ [b])) (some (.int k (t'.length : Int))) none none = some (.str [b]) := fun k => by
      rw [sl9_lo _ (by simp) k]; simp
    simp (implicitDefEqProofs := false) only [List.concat_eq_append]
    simp (implicitDefEqProofs := false) only [run_seq, run_cond, run_block, run_loop, run_exit, run_ret, run_skip, ops_cons, ops_nil, ev_tmp, pureS_some, heapS_some, heapN_some, gdS_tt, gdS_ff, gdS_tf, gdS_ft, gdS_undef, List.getD_cons_succ, List.getD_cons_zero, List.set_cons_succ, List.set_cons_zero, Option.bind_some, regR_some, seqR_normal, seqR_ret, seqR_exit, fin0_ret, fin0_normal, fin1_ret, fin1_normal, finN_ret, finN_normal, List.map_cons, List.map_nil, lenV_some, pickV_t, pickV_f, callV_func, extV_tup, condR_true, condR_false, blockR_normal, blockR_ret, blockR_exit, if_true, List.nil_append, List.append_nil, List.cons_append, List.getElem?_cons_zero, List.getElem?_cons_succ, loopR_normal, loopR_exit, loopR_ret, Option.map_some, ite_true, reduceIte, reg81_0, st81_0_0, reg81_1, st81_1_0, st81_1_1, st81_1_2, st81_1_3, st81_1_4, st81_1_5, st81_1_6, st81_1_7, st81_1_8, st81_1_9, st81_1_10, st81_1_11, st81_1_12, st81_1_13, st81_1_14, st81_1_15, st81_1_16, len9, i_geq, d, i_sub, w, sl, s_eql]
    have : natsEq [b] [c] = ((t' ++ [b]).getLast? == some c) := by
      rw [natsEq_dec]; simp; rfl
    rw [this]
theorem hassuffix_ok (t : List Nat) (c : Nat) (ht : t.length < 4611686018427387904) (h : AH) (n : Nat) : X (n + 2) 64 [.str t, .str [c]] h = some (.bool (t.getLast? == some c), h) := by
  rw [ent64]
  unfold cd64
  have e := suffix_ok t c ht h n
  simp (implicitDefEqProofs := false) only [run_seq, run_cond, run_block, run_loop, run_exit, run_ret, run_skip, ops_cons, ops_nil, ev_tmp, pureS_some, heapS_some, heapN_some, gdS_tt, gdS_ff, gdS_tf, gdS_ft, gdS_undef, List.getD_cons_succ, List.getD_cons_zero, List.set_cons_succ, List.set_cons_zero, Option.bind_some, regR_some, seqR_normal, seqR_ret, seqR_exit, fin0_ret, fin0_normal, fin1_ret, fin1_normal, finN_ret, finN_normal, List.map_cons, List.map_nil, lenV_some, pickV_t, pickV_f, callV_func, extV_tup, condR_true, condR_false, blockR_normal, blockR_ret, blockR_exit, if_true, List.nil_append, List.append_nil, List.cons_append, List.getElem?_cons_zero, List.getElem?_cons_succ, loopR_normal, loopR_exit, loopR_ret, Option.map_some, ite_true, reduceIte, reg64_0, st64_0_0, reg64_1, st64_1_0, st64_1_1, st64_1_2, st64_1_3, e]
theorem blank_ok (t : List Nat) (ht : t.length < 4611686018427387904) (h : AH) (n : Nat) : X (n + 3) 44 [.str t] h = some (.bool (isBlank t), h) := by
  rw [ent44]
  unfold cd44
  have e1 := hassuffix_ok t 32 ht h n
  have e2 := hassuffix_ok t 9 ht h n
  cases hb : (t.getLast? == some 32)
  · rw [hb] at e1
    simp (implicitDefEqProofs := false) only [run_seq, run_cond, run_block, run_loop, run_exit, run_ret, run_skip, ops_cons, ops_nil, ev_tmp, pureS_some, heapS_some, heapN_some, gdS_tt, gdS_ff, gdS_tf, gdS_ft, gdS_undef, List.getD_cons_succ, List.getD_cons_zero, List.set_cons_succ, List.set_cons_zero, Option.bind_some, regR_some, seqR_normal, seqR_ret, seqR_exit, fin0_ret, fin0_normal, fin1_ret, fin1_normal, finN_ret, finN_normal, List.map_cons, List.map_nil, lenV_some, pickV_t, pickV_f, callV_func, extV_tup, condR_true, condR_false, blockR_normal, blockR_ret, blockR_exit, if_true, List.nil_append, List.append_nil, List.cons_append, List.getElem?_cons_zero, List.getElem?_cons_succ, loopR_normal, loopR_exit, loopR_ret, Option.map_some, ite_true, reduceIte, reg44_0, st44_0_0, reg44_1, st44_1_0, st44_1_1, st44_1_2, st44_1_3, st44_1_4, st44_1_5, st44_1_6, e1, e2, isBlank, hb, Bool.false_or]
  · rw [hb] at e1
    simp (implicitDefEqProofs := false) only [run_seq, run_cond, run_block, run_loop, run_exit, run_ret, run_skip, ops_cons, ops_nil, ev_tmp, pureS_some, heapS_some, heapN_some, gdS_tt, gdS_ff, gdS_tf, gdS_ft, gdS_undef, List.getD_cons_succ, List.getD_cons_zero, List.set_cons_succ, List.set_cons_zero, Option.bind_some, regR_some, seqR_normal, seqR_ret, seqR_exit, fin0_ret, fin0_normal, fin1_ret, fin1_normal, finN_ret, finN_normal, List.map_cons, List.map_nil, lenV_some, pickV_t, pickV_f, callV_func, extV_tup, condR_true, condR_false, blockR_normal, blockR_ret, blockR_exit, if_true, List.nil_append, List.append_nil, List.cons_append, List.getElem?_cons_zero, List.getElem?_cons_succ, loopR_normal, loopR_exit, loopR_ret, Option.map_some, ite_true, reduceIte, reg44_0, st44_0_0, reg44_1, st44_1_0, st44_1_1, st44_1_2, st44_1_3, st44_1_4, st44_1_5, st44_1_6, e1, e2, isBlank, hb, Bool.true_or]
end Go.Proofs.Ytgnacecplaemlaa
