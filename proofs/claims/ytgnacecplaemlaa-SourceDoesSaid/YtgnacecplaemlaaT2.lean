/-
  The reference's source, on: Left, Peek; an append to its slice.
-/
import Derived.Test.YtgnacecplaemlaaT1
namespace Go.Proofs.Ytgnacecplaemlaa
open AI
set_option linter.unusedSimpArgs false

/-! ### Left -/
def C19 (x i acc : Nat) : List AV := [.ptr x 0, .top, .int .i64 0, .int .i64 (acc : Int), .int .i64 (i : Int), .top, .top, .top, .top, .top, .top, .top, .top, .top, .top, .top, .top, .top, .top, .top, .top, .top, .top, .top, .top, .top]
theorem rleft_loop {h : AH} {x cnt : Nat} {L : List Val} {G : Nat → Prop} (R : Ref h x L cnt G) (total : Nat) (hb : total < 4611686018427387904) (hLb : L.length < 4611686018427387904)
    (call : FuncId → List AV → AH → Option (AV × AH)) (lf : Nat) : ∀ (m i acc : Nat) (fr : List AV), i + m = L.length → aclear (HK 19) lp19_3 fr = C19 x i acc → acc + left (L.drop i) = total → ∀ k,
      ∃ fr', aloop (arun Try.prog (HK 19) call lf lp19_3) (aclear (HK 19) lp19_3) (m + 1 + k) fr h = some (.exit 0, fr', h) ∧ fr'.getD 3 .top = .int .i64 (total : Int) ∧ fr'.length = 26
  | 0, i, acc, fr, hi, hc, ht, k => by
    have e0 : i = L.length := by omega
    subst e0
    rw [List.drop_length] at ht
    have e1 : acc = total := by simpa [left] using ht
    subst e1
    have d : decide ((L.length : Int) < (L.length : Int)) = false := by simp
    have d0 : decide ((0 : Int) < ((0 : Nat) : Int)) = false := by decide
    have key : ∀ fr : List AV, fr.getD 3 .top = .int .i64 (acc : Int) → fr.length = 26 → ∃ fr', (some (.exit 0, fr, h) : ARes) = some (.exit 0, fr', h) ∧ fr'.getD 3 .top = .int .i64 (acc : Int) ∧ fr'.length = 26 := fun fr h1 h2 => ⟨fr, rfl, h1, h2⟩
    rw [show 0 + 1 + k = k + 1 by omega, loop_succ, hc]
    conv => enter [1, fr', 1, 1, 1]; unfold lp19_3
    rcases R.slice with ⟨rfl, hcell⟩ | ⟨id, c, _, _, hcell, hR, hcc⟩
    · simp (implicitDefEqProofs := false) only [C19, run_seq, run_cond, run_block, run_loop, run_exit, run_ret, run_skip, ops_cons, ops_nil, ev_tmp, pureS_some, heapS_some, heapN_some, gdS_tt, gdS_ff, gdS_tf, gdS_ft, gdS_undef, List.getD_cons_succ, List.getD_cons_zero, List.set_cons_succ, List.set_cons_zero, Option.bind_some, regR_some, seqR_normal, seqR_ret, seqR_exit, fin0_ret, fin0_normal, fin1_ret, fin1_normal, finN_ret, finN_normal, List.map_cons, List.map_nil, lenV_some, pickV_t, pickV_f, callV_func, extV_tup, condR_true, condR_false, blockR_normal, blockR_ret, blockR_exit, if_true, List.nil_append, List.append_nil, List.cons_append, List.getElem?_cons_zero, List.getElem?_cons_succ, loopR_normal, loopR_exit, loopR_ret, Option.map_some, ite_true, reduceIte, reg19_0, st19_0_0, reg19_1, st19_1_0, reg19_2, st19_2_0, reg19_3, st19_3_0, st19_3_1, st19_3_2, st19_3_3, st19_3_4, st19_3_5, st19_3_6, reg19_5, st19_5_0, st19_5_1, st19_5_2, st19_5_3, st19_5_4, st19_5_5, st19_5_6, st19_5_7, st19_5_8, st19_5_9, st19_5_10, st19_5_11, reg19_4, st19_4_0, st19_4_1, st19_4_2, reg19_6, st19_6_0, st19_6_1, nilck, fa35_0, ld33, Nat.add_zero, hcell, len33n, i_lss, d0, List.length_nil, nat0]
      exact key _ rfl rfl
    · simp (implicitDefEqProofs := false) only [C19, run_seq, run_cond, run_block, run_loop, run_exit, run_ret, run_skip, ops_cons, ops_nil, ev_tmp, pureS_some, heapS_some, heapN_some, gdS_tt, gdS_ff, gdS_tf, gdS_ft, gdS_undef, List.getD_cons_succ, List.getD_cons_zero, List.set_cons_succ, List.set_cons_zero, Option.bind_some, regR_some, seqR_normal, seqR_ret, seqR_exit, fin0_ret, fin0_normal, fin1_ret, fin1_normal, finN_ret, finN_normal, List.map_cons, List.map_nil, lenV_some, pickV_t, pickV_f, callV_func, extV_tup, condR_true, condR_false, blockR_normal, blockR_ret, blockR_exit, if_true, List.nil_append, List.append_nil, List.cons_append, List.getElem?_cons_zero, List.getElem?_cons_succ, loopR_normal, loopR_exit, loopR_ret, Option.map_some, ite_true, reduceIte, reg19_0, st19_0_0, reg19_1, st19_1_0, reg19_2, st19_2_0, reg19_3, st19_3_0, st19_3_1, st19_3_2, st19_3_3, st19_3_4, st19_3_5, st19_3_6, reg19_5, st19_5_0, st19_5_1, st19_5_2, st19_5_3, st19_5_4, st19_5_5, st19_5_6, st19_5_7, st19_5_8, st19_5_9, st19_5_10, st19_5_11, reg19_4, st19_4_0, st19_4_1, st19_4_2, reg19_6, st19_6_0, st19_6_1, nilck, fa35_0, ld33, Nat.add_zero, hcell, len33, i_lss, d]
      exact key _ rfl rfl
  | m + 1, i, acc, fr, hi, hc, ht, k => by
    have hlt : i < L.length := by omega
    have hv : L[i]? = some L[i] := by simp [hlt]
    have ed : L.drop i = L[i] :: L.drop (i + 1) := (List.getElem_cons_drop hlt).symm
    rw [ed, left_cons] at ht
    have d : decide ((i : Int) < (L.length : Int)) = true := by simp; omega
    have w3 := wrap_succ i (by omega)
    have ih : ∀ fr, aclear (HK 19) lp19_3 fr = C19 x (i + 1) (acc + ((L[i]).text.length - (L[i]).at_)) → ∃ fr', aloop (arun Try.prog (HK 19) call lf lp19_3) (aclear (HK 19) lp19_3) (m + 1 + k) fr h = some (.exit 0, fr', h) ∧ fr'.getD 3 .top = .int .i64 (total : Int) ∧ fr'.length = 26 :=
      fun fr hcl => rleft_loop R total hb hLb call lf m (i + 1) _ fr (by omega) hcl (by omega) k
    generalize L[i] = v at hv ht ih
    rcases R.slice with ⟨rfl, _⟩ | ⟨id, c, _, _, hcell, hR, hcc⟩
    · simp at hlt
    · have r := row_rval hR hv
      have r1 : h.cell? id (0 + i * 3 + 1) = some (.str (v.text.drop v.at_)) := r.cell (i := 1) rfl
      have i1 : ∀ k, aindexAt Try.prog 33 (.sl id 0 L.length 3 c) (.int k (i : Int)) = some (.ptr id (0 + i * 3)) := fun k => ix33 _ _ _ _ hlt k
      have w2 : IntKind.i64.wrap ((acc : Int) + ((v.text.length - v.at_ : Nat) : Int)) = ((acc + (v.text.length - v.at_) : Nat) : Int) := by
        rw [show ((acc : Int) + ((v.text.length - v.at_ : Nat) : Int)) = ((acc + (v.text.length - v.at_) : Nat) : Int) by omega]
        exact wrap_nat _ (by omega)
      rw [show m + 1 + 1 + k = (m + 1 + k) + 1 by omega, loop_succ, hc]
      conv => enter [1, fr', 1, 1, 1]; unfold lp19_3
      simp (implicitDefEqProofs := false) only [C19, run_seq, run_cond, run_block, run_loop, run_exit, run_ret, run_skip, ops_cons, ops_nil, ev_tmp, pureS_some, heapS_some, heapN_some, gdS_tt, gdS_ff, gdS_tf, gdS_ft, gdS_undef, List.getD_cons_succ, List.getD_cons_zero, List.set_cons_succ, List.set_cons_zero, Option.bind_some, regR_some, seqR_normal, seqR_ret, seqR_exit, fin0_ret, fin0_normal, fin1_ret, fin1_normal, finN_ret, finN_normal, List.map_cons, List.map_nil, lenV_some, pickV_t, pickV_f, callV_func, extV_tup, condR_true, condR_false, blockR_normal, blockR_ret, blockR_exit, if_true, List.nil_append, List.append_nil, List.cons_append, List.getElem?_cons_zero, List.getElem?_cons_succ, loopR_normal, loopR_exit, loopR_ret, Option.map_some, ite_true, reduceIte, reg19_0, st19_0_0, reg19_1, st19_1_0, reg19_2, st19_2_0, reg19_3, st19_3_0, st19_3_1, st19_3_2, st19_3_3, st19_3_4, st19_3_5, st19_3_6, reg19_5, st19_5_0, st19_5_1, st19_5_2, st19_5_3, st19_5_4, st19_5_5, st19_5_6, st19_5_7, st19_5_8, st19_5_9, st19_5_10, st19_5_11, reg19_4, st19_4_0, st19_4_1, st19_4_2, reg19_6, st19_6_0, st19_6_1, nilck, fa35_0, ld33, Nat.add_zero, hcell, len33, i_lss, d, i1, fa69_1, ld9, r1, len9, List.length_drop, i_add, w2, w3]
      exact ih _ (by rw [cl19_3]; rfl)
theorem rleft_ok {h : AH} {x cnt : Nat} {L : List Val} {G : Nat → Prop} (R : Ref h x L cnt G) (hb : left L < 4611686018427387904) (hLb : L.length < 4611686018427387904) (n : Nat) (hn : L.length + 2 ≤ n) :
    X (n + 1) 19 [.ptr x 0] h = some (.int .i64 (left L : Int), h) := by
  obtain ⟨k, rfl⟩ : ∃ k, n = L.length + 1 + k := ⟨n - (L.length + 1), by omega⟩
  rw [ent19]
  unfold cd19
  have l' : ∀ fr, aclear (HK 19) lp19_3 fr = C19 x 0 0 → fin1 (seqR (blockR 0 (aloop (arun Try.prog (HK 19) (X (L.length + 1 + k)) (L.length + 1 + k) lp19_3) (aclear (HK 19) lp19_3) (L.length + 1 + k) fr h))
      (fun fr' h' => some (.ret, (fr'.set 25 (fr'.getD 3 .top)).set 2 ((fr'.set 25 (fr'.getD 3 .top)).getD 25 .top), h'))) 2 = some (.int .i64 (left L : Int), h) := fun fr hcl => by
    obtain ⟨fr', e', g, g2⟩ := rleft_loop R (left L) hb hLb (X (L.length + 1 + k)) (L.length + 1 + k) L.length 0 0 fr (by omega) hcl (by simp) k
    rw [e']
    show fin1 (some (.ret, (fr'.set 25 (fr'.getD 3 .top)).set 2 ((fr'.set 25 (fr'.getD 3 .top)).getD 25 .top), h)) 2 = _
    rw [fin1_ret, g]
    simp [List.getD_eq_getElem?_getD, g2]
  simp (implicitDefEqProofs := false) only [run_seq, run_cond, run_block, run_loop, run_exit, run_ret, run_skip, ops_cons, ops_nil, ev_tmp, pureS_some, heapS_some, heapN_some, gdS_tt, gdS_ff, gdS_tf, gdS_ft, gdS_undef, List.getD_cons_succ, List.getD_cons_zero, List.set_cons_succ, List.set_cons_zero, Option.bind_some, regR_some, seqR_normal, seqR_ret, seqR_exit, fin0_ret, fin0_normal, fin1_ret, fin1_normal, finN_ret, finN_normal, List.map_cons, List.map_nil, lenV_some, pickV_t, pickV_f, callV_func, extV_tup, condR_true, condR_false, blockR_normal, blockR_ret, blockR_exit, if_true, List.nil_append, List.append_nil, List.cons_append, List.getElem?_cons_zero, List.getElem?_cons_succ, loopR_normal, loopR_exit, loopR_ret, Option.map_some, ite_true, reduceIte, reg19_0, st19_0_0, reg19_1, st19_1_0, reg19_2, st19_2_0, reg19_3, st19_3_0, st19_3_1, st19_3_2, st19_3_3, st19_3_4, st19_3_5, st19_3_6, reg19_5, st19_5_0, st19_5_1, st19_5_2, st19_5_3, st19_5_4, st19_5_5, st19_5_6, st19_5_7, st19_5_8, st19_5_9, st19_5_10, st19_5_11, reg19_4, st19_4_0, st19_4_1, st19_4_2, reg19_6, st19_6_0, st19_6_1]
  exact l' _ (by rw [cl19_3]; rfl)

/-! ### Peek -/
theorem rpeek_none {h : AH} {x cnt : Nat} {G : Nat → Prop} (R : Ref h x [] cnt G) (n : Nat) : X (n + 1) 17 [.ptr x 0] h = some (.tup [.int .u8 0, .bool false], h) := by
  rw [ent17]
  unfold cd17
  have q : ((0 : Int) == 0) = true := by decide
  rcases R.slice with ⟨_, hcell⟩ | ⟨id, c, _, _, hcell, hR, hcc⟩ <;>
  simp (implicitDefEqProofs := false) only [run_seq, run_cond, run_block, run_loop, run_exit, run_ret, run_skip, ops_cons, ops_nil, ev_tmp, pureS_some, heapS_some, heapN_some, gdS_tt, gdS_ff, gdS_tf, gdS_ft, gdS_undef, List.getD_cons_succ, List.getD_cons_zero, List.set_cons_succ, List.set_cons_zero, Option.bind_some, regR_some, seqR_normal, seqR_ret, seqR_exit, fin0_ret, fin0_normal, fin1_ret, fin1_normal, finN_ret, finN_normal, List.map_cons, List.map_nil, lenV_some, pickV_t, pickV_f, callV_func, extV_tup, condR_true, condR_false, blockR_normal, blockR_ret, blockR_exit, if_true, List.nil_append, List.append_nil, List.cons_append, List.getElem?_cons_zero, List.getElem?_cons_succ, loopR_normal, loopR_exit, loopR_ret, Option.map_some, ite_true, reduceIte, reg17_0, st17_0_0, st17_0_1, reg17_1, st17_1_0, st17_1_1, st17_1_2, st17_1_3, st17_1_4, st17_1_5, reg17_2, st17_2_0, st17_2_1, reg17_3, st17_3_0, st17_3_1, st17_3_2, st17_3_3, st17_3_4, st17_3_5, st17_3_6, st17_3_7, st17_3_8, st17_3_9, st17_3_10, st17_3_11, st17_3_12, st17_3_13, st17_3_14, st17_3_15, nilck, fa35_0, ld33, Nat.add_zero, hcell, len33n, len33, i_eql, List.length_nil, nat0, q]
theorem rpeek_some {h : AH} {x cnt : Nat} {L : List Val} {v : Val} {G : Nat → Prop} {b : Nat} (R : Ref h x (L ++ [v]) cnt G) (hL : L.length < 4611686018427387904) (hb : v.text[v.at_]? = some b) (n : Nat) :
    X (n + 1) 17 [.ptr x 0] h = some (.tup [.int .u8 (b : Int), .bool true], h) := by
  rw [ent17]
  unfold cd17
  rcases R.slice with ⟨h0, _⟩ | ⟨id, c, _, _, hcell, hR, hcc⟩
  · simp at h0
  · have hv : (L ++ [v])[L.length]? = some v := by simp
    have r := row_rval hR hv
    have r1 : h.cell? id (0 + L.length * 3 + 1) = some (.str (v.text.drop v.at_)) := r.cell (i := 1) rfl
    have i1 : ∀ k, aindexAt Try.prog 33 (.sl id 0 (L ++ [v]).length 3 c) (.int k (L.length : Int)) = some (.ptr id (0 + L.length * 3)) := fun k => ix33 _ _ _ _ (by simp) k
    have i2 : ∀ k, aindex Try.prog 9 (.str (v.text.drop v.at_)) (.int k 0) = some (.int .u8 (b : Int)) := fun k => ix9 (i := 0) _ (by simpa using hb) k
    have q : (((L ++ [v]).length : Int) == 0) = false := by simp; omega
    have w := wrap_last L.length hL
    have el : (((L ++ [v]).length : Nat) : Int) = ((L.length + 1 : Nat) : Int) := by simp
    simp (implicitDefEqProofs := false) only [run_seq, run_cond, run_block, run_loop, run_exit, run_ret, run_skip, ops_cons, ops_nil, ev_tmp, pureS_some, heapS_some, heapN_some, gdS_tt, gdS_ff, gdS_tf, gdS_ft, gdS_undef, List.getD_cons_succ, List.getD_cons_zero, List.set_cons_succ, List.set_cons_zero, Option.bind_some, regR_some, seqR_normal, seqR_ret, seqR_exit, fin0_ret, fin0_normal, fin1_ret, fin1_normal, finN_ret, finN_normal, List.map_cons, List.map_nil, lenV_some, pickV_t, pickV_f, callV_func, extV_tup, condR_true, condR_false, blockR_normal, blockR_ret, blockR_exit, if_true, List.nil_append, List.append_nil, List.cons_append, List.getElem?_cons_zero, List.getElem?_cons_succ, loopR_normal, loopR_exit, loopR_ret, Option.map_some, ite_true, reduceIte, reg17_0, st17_0_0, st17_0_1, reg17_1, st17_1_0, st17_1_1, st17_1_2, st17_1_3, st17_1_4, st17_1_5, reg17_2, st17_2_0, st17_2_1, reg17_3, st17_3_0, st17_3_1, st17_3_2, st17_3_3, st17_3_4, st17_3_5, st17_3_6, st17_3_7, st17_3_8, st17_3_9, st17_3_10, st17_3_11, st17_3_12, st17_3_13, st17_3_14, st17_3_15, nilck, fa35_0, ld33, Nat.add_zero, hcell, len33, i_eql, q, i_sub]
    rw [el] at *
    simp (implicitDefEqProofs := false) only [run_seq, run_cond, run_block, run_loop, run_exit, run_ret, run_skip, ops_cons, ops_nil, ev_tmp, pureS_some, heapS_some, heapN_some, gdS_tt, gdS_ff, gdS_tf, gdS_ft, gdS_undef, List.getD_cons_succ, List.getD_cons_zero, List.set_cons_succ, List.set_cons_zero, Option.bind_some, regR_some, seqR_normal, seqR_ret, seqR_exit, fin0_ret, fin0_normal, fin1_ret, fin1_normal, finN_ret, finN_normal, List.map_cons, List.map_nil, lenV_some, pickV_t, pickV_f, callV_func, extV_tup, condR_true, condR_false, blockR_normal, blockR_ret, blockR_exit, if_true, List.nil_append, List.append_nil, List.cons_append, List.getElem?_cons_zero, List.getElem?_cons_succ, loopR_normal, loopR_exit, loopR_ret, Option.map_some, ite_true, reduceIte, reg17_0, st17_0_0, st17_0_1, reg17_1, st17_1_0, st17_1_1, st17_1_2, st17_1_3, st17_1_4, st17_1_5, reg17_2, st17_2_0, st17_2_1, reg17_3, st17_3_0, st17_3_1, st17_3_2, st17_3_3, st17_3_4, st17_3_5, st17_3_6, st17_3_7, st17_3_8, st17_3_9, st17_3_10, st17_3_11, st17_3_12, st17_3_13, st17_3_14, st17_3_15, w, i1, fa69_1, ld9, r1, i2]
end Go.Proofs.Ytgnacecplaemlaa
