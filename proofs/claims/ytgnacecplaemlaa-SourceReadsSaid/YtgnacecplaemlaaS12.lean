/-
  SourceReads of chapter 37: its run in the interpreter, as a whole.
-/
import Derived.Test.YtgnacecplaemlaaS11
namespace Go.Proofs.Ytgnacecplaemlaa
open AI
set_option linter.unusedSimpArgs false
theorem conv53 (k : Int) : aconv Try.prog 5 3 (.int .u8 k) = some (.int .i64 (IntKind.i64.wrap k)) := by kernel_rfl
theorem i_rem (xo yo : Operand) (a b : Nat) (hb : b ≠ 0) : abin Try.prog .rem 3 xo yo (.int .i64 (a : Int)) (.int .i64 (b : Int)) = some (.int .i64 ((a % b : Nat) : Int)) := by
  have e : abin Try.prog .rem 3 xo yo (.int .i64 (a : Int)) (.int .i64 (b : Int)) = if (b : Int) = 0 then none else some (.int .i64 ((a : Int).tmod (b : Int))) := rfl
  rw [e, if_neg (by omega)]
  rfl
theorem sl9_hi (s : List Nat) {i : Nat} (hi : i ≤ s.length) (k : IntKind) : aslice Try.prog 9 (.str s) none (some (.int k (i : Int))) none = some (.str (s.take i)) := by
  have hu : Try.prog.underlying 9 = some .string := by kernel_rfl
  unfold aslice
  simp only [hu]
  simp [abound, aIx, hi]
set_option maxRecDepth 100000 in
theorem sourceReads_ok (v w : List Nat) (k : Nat) (hk : k < 256) (hv256 : ∀ b ∈ v, b < 256) (hw256 : ∀ b ∈ w, b < 256) : ∃ h', X 1000 3 [.str v, .str w, .int .u8 (k : Int)] AH.empty = some (.bool true, h') := by
  have ea : ∀ h, X 999 8 [] h = some (.bool true, h) := fun h => X_awake 998 h
  rw [ent3]
  unfold cd3
  by_cases hA : v.length > 200
  · have d1 : decide ((v.length : Int) > 200) = true := by simp; omega
    refine ⟨AH.empty, ?_⟩
    simp (implicitDefEqProofs := false) only [run_seq, run_cond, run_block, run_loop, run_exit, run_ret, run_skip, ops_cons, ops_nil, ev_tmp, pureS_some, heapS_some, heapN_some, gdS_tt, gdS_ff, gdS_tf, gdS_ft, gdS_undef, List.getD_cons_succ, List.getD_cons_zero, List.set_cons_succ, List.set_cons_zero, Option.bind_some, regR_some, seqR_normal, seqR_ret, seqR_exit, fin0_ret, fin0_normal, fin1_ret, fin1_normal, finN_ret, finN_normal, List.map_cons, List.map_nil, lenV_some, pickV_t, pickV_f, callV_func, extV_tup, condR_true, condR_false, blockR_normal, blockR_ret, blockR_exit, if_true, List.nil_append, List.append_nil, List.cons_append, List.getElem?_cons_zero, List.getElem?_cons_succ, loopR_normal, loopR_exit, loopR_ret, Option.map_some, ite_true, reduceIte, reg3_0, st3_0_0, reg3_1, st3_1_0, st3_1_1, st3_1_2, st3_1_3, st3_1_4, st3_1_5, st3_1_6, st3_1_7, reg3_2, st3_2_0, st3_2_1, reg3_3, st3_3_0, st3_3_1, reg3_4, st3_4_0, st3_4_1, st3_4_2, st3_4_3, reg3_5, st3_5_0, reg3_6, st3_6_0, st3_6_1, st3_6_2, st3_6_3, st3_6_4, st3_6_5, st3_6_6, reg3_7, st3_7_0, reg3_8, st3_8_0, reg3_9, st3_9_0, st3_9_1, reg3_11, st3_11_0, st3_11_1, st3_11_2, st3_11_3, st3_11_4, st3_11_5, st3_11_6, st3_11_7, st3_11_8, reg3_12, st3_12_0, reg3_13, st3_13_0, st3_13_1, st3_13_2, st3_13_3, st3_13_4, st3_13_5, st3_13_6, reg3_14, st3_14_0, st3_14_1, reg3_15, st3_15_0, st3_15_1, st3_15_2, st3_15_3, st3_15_4, st3_15_5, reg3_16, st3_16_0, st3_16_1, reg3_10, st3_10_0, st3_10_1, st3_10_2, reg3_17, st3_17_0, st3_17_1, st3_17_2, st3_17_3, st3_17_4, st3_17_5, st3_17_6, st3_17_7, st3_17_8, st3_17_9, st3_17_10, st3_17_11, st3_17_12, st3_17_13, st3_17_14, st3_17_15, st3_17_16, st3_17_17, st3_17_18, st3_17_19, st3_17_20, st3_17_21, st3_17_22, st3_17_23, st3_17_24, st3_17_25, st3_17_26, st3_17_27, st3_17_28, st3_17_29, st3_17_30, st3_17_31, st3_17_32, len9, i_gtr, d1, ea]
  have d1 : decide ((v.length : Int) > 200) = false := by simp; omega
  by_cases hB : w.length > 200
  · have d2 : decide ((w.length : Int) > 200) = true := by simp; omega
    refine ⟨AH.empty, ?_⟩
    simp (implicitDefEqProofs := false) only [run_seq, run_cond, run_block, run_loop, run_exit, run_ret, run_skip, ops_cons, ops_nil, ev_tmp, pureS_some, heapS_some, heapN_some, gdS_tt, gdS_ff, gdS_tf, gdS_ft, gdS_undef, List.getD_cons_succ, List.getD_cons_zero, List.set_cons_succ, List.set_cons_zero, Option.bind_some, regR_some, seqR_normal, seqR_ret, seqR_exit, fin0_ret, fin0_normal, fin1_ret, fin1_normal, finN_ret, finN_normal, List.map_cons, List.map_nil, lenV_some, pickV_t, pickV_f, callV_func, extV_tup, condR_true, condR_false, blockR_normal, blockR_ret, blockR_exit, if_true, List.nil_append, List.append_nil, List.cons_append, List.getElem?_cons_zero, List.getElem?_cons_succ, loopR_normal, loopR_exit, loopR_ret, Option.map_some, ite_true, reduceIte, reg3_0, st3_0_0, reg3_1, st3_1_0, st3_1_1, st3_1_2, st3_1_3, st3_1_4, st3_1_5, st3_1_6, st3_1_7, reg3_2, st3_2_0, st3_2_1, reg3_3, st3_3_0, st3_3_1, reg3_4, st3_4_0, st3_4_1, st3_4_2, st3_4_3, reg3_5, st3_5_0, reg3_6, st3_6_0, st3_6_1, st3_6_2, st3_6_3, st3_6_4, st3_6_5, st3_6_6, reg3_7, st3_7_0, reg3_8, st3_8_0, reg3_9, st3_9_0, st3_9_1, reg3_11, st3_11_0, st3_11_1, st3_11_2, st3_11_3, st3_11_4, st3_11_5, st3_11_6, st3_11_7, st3_11_8, reg3_12, st3_12_0, reg3_13, st3_13_0, st3_13_1, st3_13_2, st3_13_3, st3_13_4, st3_13_5, st3_13_6, reg3_14, st3_14_0, st3_14_1, reg3_15, st3_15_0, st3_15_1, st3_15_2, st3_15_3, st3_15_4, st3_15_5, reg3_16, st3_16_0, st3_16_1, reg3_10, st3_10_0, st3_10_1, st3_10_2, reg3_17, st3_17_0, st3_17_1, st3_17_2, st3_17_3, st3_17_4, st3_17_5, st3_17_6, st3_17_7, st3_17_8, st3_17_9, st3_17_10, st3_17_11, st3_17_12, st3_17_13, st3_17_14, st3_17_15, st3_17_16, st3_17_17, st3_17_18, st3_17_19, st3_17_20, st3_17_21, st3_17_22, st3_17_23, st3_17_24, st3_17_25, st3_17_26, st3_17_27, st3_17_28, st3_17_29, st3_17_30, st3_17_31, st3_17_32, len9, i_gtr, d1, d2, ea]
  have d2 : decide ((w.length : Int) > 200) = false := by simp; omega
  have e1 := new_ok AH.empty 998
  have S0 := new_src AH.empty
  generalize hs : AH.empty.next = s at e1 S0
  have hm : mayEnter [] [118] v = true := by
    simp only [mayEnter, has, List.any_nil, Bool.not_false, Bool.true_and, List.length_nil, Bool.and_eq_true, decide_eq_true_eq]
    exact ⟨by omega, by omega⟩
  obtain ⟨h1, e2, S1, _⟩ := enter_yes S0 [118] v hm 998 (by simp)
  have w1 := wrap_nat k (by omega)
  have w2 := wrap_succ v.length (by omega)
  have e3 : ∀ xo yo, abin Try.prog .rem 3 xo yo (.int .i64 (k : Int)) (.int .i64 ((v.length + 1 : Nat) : Int)) = some (.int .i64 ((k % (v.length + 1) : Nat) : Int)) := fun xo yo => i_rem _ _ _ _ (by omega)
  have hat : k % (v.length + 1) < v.length + 1 := Nat.mod_lt _ (by omega)
  generalize k % (v.length + 1) = at_ at e3 hat
  have V256 : ∀ b ∈ v ++ [32], b < 256 := fun b hb => by simp at hb; rcases hb with hb | rfl; exact hv256 b hb; omega
  have W256 : ∀ b ∈ w ++ [32], b < 256 := fun b hb => by simp at hb; rcases hb with hb | rfl; exact hw256 b hb; omega
  have hVl : (v ++ [32]).length = v.length + 1 := len_snoc v 32
  have hWl : (w ++ [32]).length = w.length + 1 := len_snoc w 32
  have ph : ∀ fr, clr3 fr = C3 v w k s at_ [] 0 → ∃ h' F', aloop (body3 999) clr3 999 fr h1 =
      some (.exit 0, E3 v w k s at_ ((v ++ [32]).take at_ ++ (w ++ [32]) ++ (v ++ [32]).drop at_) (w.length + v.length + 2), h') ∧ Src h' s [] (w.length + v.length + 2) F' := fun fr hc => by
    obtain ⟨h', F', e, S⟩ := phaseA (v := v) (w := w) (k := k) (s := s) (at_ := at_) (V := v ++ [32]) (W := w ++ [32]) rfl 999 (by omega) (by omega) (by omega) V256 W256 (by omega) (isBlank v) at_ 0 h1 _ fr (by omega) S1 hc (999 - (at_ + (w ++ [32]).length + ((v ++ [32]).length - at_) + 1))
    rw [hVl, hWl, show at_ + (w.length + 1) + (v.length + 1 - at_) + 1 + (999 - (at_ + (w.length + 1) + (v.length + 1 - at_) + 1)) = 999 by omega] at e
    rw [hVl, hWl] at S
    rw [show w.length + 1 + (v.length + 1) = w.length + v.length + 2 by omega] at e S
    exact ⟨h', F', e, S⟩
  have t1 : ∀ kk, aslice Try.prog 9 (.str v) none (some (.int kk (at_ : Int))) none = some (.str (v.take at_)) := fun kk => sl9_hi _ (by omega) kk
  have t2 : ∀ kk, aslice Try.prog 9 (.str v) (some (.int kk (at_ : Int))) none none = some (.str (v.drop at_)) := fun kk => sl9_lo _ (by omega) kk
  have l1 : (v.take at_).length ≤ 200 := by rw [List.length_take]; omega
  have l2 : (v.drop at_).length ≤ 200 := by rw [List.length_drop]; omega
  have a1 : ∀ xo yo, abin Try.prog .add 9 xo yo (.str (v.take at_)) (.str w) = some (.str (v.take at_ ++ w)) := fun xo yo => s_add _ _ _ _ (by omega)
  have a2 : ∀ xo yo, abin Try.prog .add 9 xo yo (.str (v.take at_ ++ w)) (.str [32]) = some (.str (v.take at_ ++ w ++ [32])) := fun xo yo => s_add _ _ _ _ (by rw [List.length_append]; simp; omega)
  have a3 : ∀ xo yo, abin Try.prog .add 9 xo yo (.str (v.take at_ ++ w ++ [32])) (.str (v.drop at_)) = some (.str (v.take at_ ++ w ++ [32] ++ v.drop at_)) := fun xo yo => s_add _ _ _ _ (by rw [List.length_append, List.length_append]; simp only [List.length_singleton]; omega)
  have a4 : ∀ xo yo, abin Try.prog .add 9 xo yo (.str (v.take at_ ++ w ++ [32] ++ v.drop at_)) (.str [32]) = some (.str (v.take at_ ++ w ++ [32] ++ v.drop at_ ++ [32])) := fun xo yo => s_add _ _ _ _ (by rw [List.length_append, List.length_append, List.length_append]; simp only [List.length_singleton]; omega)
  have eq1 : natsEq ((v ++ [32]).take at_ ++ (w ++ [32]) ++ (v ++ [32]).drop at_) (v.take at_ ++ w ++ [32] ++ v.drop at_ ++ [32]) = true := by
    rw [natsEq_iff, List.take_append_of_le_length (by omega), List.drop_append_of_le_length (by omega)]
    simp
  have w3 : IntKind.i64.wrap ((v.length : Int) + (w.length : Int)) = ((v.length + w.length : Nat) : Int) := by
    rw [show ((v.length : Int) + (w.length : Int)) = ((v.length + w.length : Nat) : Int) by omega]; exact wrap_nat _ (by omega)
  have w4 : IntKind.i64.wrap (((v.length + w.length : Nat) : Int) + 2) = ((v.length + w.length + 2 : Nat) : Int) := by
    rw [show (((v.length + w.length : Nat) : Int) + 2) = ((v.length + w.length + 2 : Nat) : Int) by omega]; exact wrap_nat _ (by omega)
  have q1 : (((left [] : Nat) : Int) == 0) = true := by decide
  have q2 : (((w.length + v.length + 2 : Nat) : Int) == ((v.length + w.length + 2 : Nat) : Int)) = true := by
    rw [show w.length + v.length + 2 = v.length + w.length + 2 by omega]; simp
  have fin : ∀ fr, clr3 fr = C3 v w k s at_ [] 0 → ∃ h', fin1 (seqR (blockR 0 (aloop (body3 999) clr3 999 fr h1)) (fun fr h => seqR (arun Try.prog (HK 3) (X 999) 999 (.region 17 (rg Try.f3 17) true) fr h) (fun fr h => some (.ret, fr, h)))) 6 = some (.bool true, h') := fun fr hc => by
    obtain ⟨h', F', e, S⟩ := ph fr hc
    refine ⟨h', ?_⟩
    have el := left_ok S (by simp) (by decide) (by simp) 998 (by simp)
    have ec := count_ok S 998
    rw [e]
    simp (implicitDefEqProofs := false) only [E3, blockR_00, run_seq, run_cond, run_block, run_loop, run_exit, run_ret, run_skip, ops_cons, ops_nil, ev_tmp, pureS_some, heapS_some, heapN_some, gdS_tt, gdS_ff, gdS_tf, gdS_ft, gdS_undef, List.getD_cons_succ, List.getD_cons_zero, List.set_cons_succ, List.set_cons_zero, Option.bind_some, regR_some, seqR_normal, seqR_ret, seqR_exit, fin0_ret, fin0_normal, fin1_ret, fin1_normal, finN_ret, finN_normal, List.map_cons, List.map_nil, lenV_some, pickV_t, pickV_f, callV_func, extV_tup, condR_true, condR_false, blockR_normal, blockR_ret, blockR_exit, if_true, List.nil_append, List.append_nil, List.cons_append, List.getElem?_cons_zero, List.getElem?_cons_succ, loopR_normal, loopR_exit, loopR_ret, Option.map_some, ite_true, reduceIte, reg3_0, st3_0_0, reg3_1, st3_1_0, st3_1_1, st3_1_2, st3_1_3, st3_1_4, st3_1_5, st3_1_6, st3_1_7, reg3_2, st3_2_0, st3_2_1, reg3_3, st3_3_0, st3_3_1, reg3_4, st3_4_0, st3_4_1, st3_4_2, st3_4_3, reg3_5, st3_5_0, reg3_6, st3_6_0, st3_6_1, st3_6_2, st3_6_3, st3_6_4, st3_6_5, st3_6_6, reg3_7, st3_7_0, reg3_8, st3_8_0, reg3_9, st3_9_0, st3_9_1, reg3_11, st3_11_0, st3_11_1, st3_11_2, st3_11_3, st3_11_4, st3_11_5, st3_11_6, st3_11_7, st3_11_8, reg3_12, st3_12_0, reg3_13, st3_13_0, st3_13_1, st3_13_2, st3_13_3, st3_13_4, st3_13_5, st3_13_6, reg3_14, st3_14_0, st3_14_1, reg3_15, st3_15_0, st3_15_1, st3_15_2, st3_15_3, st3_15_4, st3_15_5, reg3_16, st3_16_0, st3_16_1, reg3_10, st3_10_0, st3_10_1, st3_10_2, reg3_17, st3_17_0, st3_17_1, st3_17_2, st3_17_3, st3_17_4, st3_17_5, st3_17_6, st3_17_7, st3_17_8, st3_17_9, st3_17_10, st3_17_11, st3_17_12, st3_17_13, st3_17_14, st3_17_15, st3_17_16, st3_17_17, st3_17_18, st3_17_19, st3_17_20, st3_17_21, st3_17_22, st3_17_23, st3_17_24, st3_17_25, st3_17_26, st3_17_27, st3_17_28, st3_17_29, st3_17_30, st3_17_31, st3_17_32, t1, t2, a1, a2, a3, a4, s_eql, eq1, el, ec, i_eql, q1, len9, i_add, w3, w4, q2, ea]
  simp (implicitDefEqProofs := false) only [run_seq, run_cond, run_block, run_loop, run_exit, run_ret, run_skip, ops_cons, ops_nil, ev_tmp, pureS_some, heapS_some, heapN_some, gdS_tt, gdS_ff, gdS_tf, gdS_ft, gdS_undef, List.getD_cons_succ, List.getD_cons_zero, List.set_cons_succ, List.set_cons_zero, Option.bind_some, regR_some, seqR_normal, seqR_ret, seqR_exit, fin0_ret, fin0_normal, fin1_ret, fin1_normal, finN_ret, finN_normal, List.map_cons, List.map_nil, lenV_some, pickV_t, pickV_f, callV_func, extV_tup, condR_true, condR_false, blockR_normal, blockR_ret, blockR_exit, if_true, List.nil_append, List.append_nil, List.cons_append, List.getElem?_cons_zero, List.getElem?_cons_succ, loopR_normal, loopR_exit, loopR_ret, Option.map_some, ite_true, reduceIte, reg3_0, st3_0_0, reg3_1, st3_1_0, st3_1_1, st3_1_2, st3_1_3, st3_1_4, st3_1_5, st3_1_6, st3_1_7, reg3_2, st3_2_0, st3_2_1, reg3_3, st3_3_0, st3_3_1, reg3_4, st3_4_0, st3_4_1, st3_4_2, st3_4_3, reg3_5, st3_5_0, reg3_6, st3_6_0, st3_6_1, st3_6_2, st3_6_3, st3_6_4, st3_6_5, st3_6_6, reg3_7, st3_7_0, reg3_8, st3_8_0, reg3_9, st3_9_0, st3_9_1, reg3_11, st3_11_0, st3_11_1, st3_11_2, st3_11_3, st3_11_4, st3_11_5, st3_11_6, st3_11_7, st3_11_8, reg3_12, st3_12_0, reg3_13, st3_13_0, st3_13_1, st3_13_2, st3_13_3, st3_13_4, st3_13_5, st3_13_6, reg3_14, st3_14_0, st3_14_1, reg3_15, st3_15_0, st3_15_1, st3_15_2, st3_15_3, st3_15_4, st3_15_5, reg3_16, st3_16_0, st3_16_1, reg3_10, st3_10_0, st3_10_1, st3_10_2, st3_17_0, st3_17_1, st3_17_2, st3_17_3, st3_17_4, st3_17_5, st3_17_6, st3_17_7, st3_17_8, st3_17_9, st3_17_10, st3_17_11, st3_17_12, st3_17_13, st3_17_14, st3_17_15, st3_17_16, st3_17_17, st3_17_18, st3_17_19, st3_17_20, st3_17_21, st3_17_22, st3_17_23, st3_17_24, st3_17_25, st3_17_26, st3_17_27, st3_17_28, st3_17_29, st3_17_30, st3_17_31, st3_17_32, len9, i_gtr, d1, d2, e1, e2, not_b, Bool.not_true, conv53, w1, i_add, w2, e3]
  exact fin _ (by unfold clr3; rw [cl3_9]; rfl)
end Go.Proofs.Ytgnacecplaemlaa
