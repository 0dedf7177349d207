/-
  The program's source of bytes: Enter as a whole.
-/
import Derived.Test.YtgnacecplaemlaaS9
namespace Go.Proofs.Ytgnacecplaemlaa
open AI
set_option linter.unusedSimpArgs false
def mayEnter (L : List Val) (nm value : List Nat) : Bool := !has L nm && decide (L.length < 40) && decide (value.length ≤ 200)
theorem enter_no {h : AH} {s cnt : Nat} {L : List Val} {F : Nat → Prop} (S : Src h s L cnt F) (nm value : List Nat) (hno : mayEnter L nm value = false) (hLb : L.length < 4611686018427387904) (n : Nat) (hn : L.length + 3 ≤ n) :
    ∃ h', X (n + 1) 10 [.ptr s 0, .str nm, .str value] h = some (.bool false, h') ∧ Other (fun _ => False) h h' := by
  obtain ⟨m, rfl⟩ : ∃ m, n = m + 1 := ⟨n - 1, by omega⟩
  obtain ⟨h1, e1, O1⟩ := active_ok S nm hLb m (by omega)
  refine ⟨h1, ?_, O1⟩
  have S1 := S.keep O1 (fun _ _ x => x)
  rw [ent10]
  unfold cd10
  cases hh : has L nm
  · rw [hh] at e1
    by_cases h40 : 40 ≤ L.length
    · have d : decide ((L.length : Int) ≥ 40) = true := by simp; omega
      rcases S1.slice with ⟨rfl, hc⟩ | ⟨id, _, _, hc, _⟩
      · simp at h40
      · simp (implicitDefEqProofs := false) only [run_seq, run_cond, run_block, run_loop, run_exit, run_ret, run_skip, ops_cons, ops_nil, ev_tmp, pureS_some, heapS_some, heapN_some, gdS_tt, gdS_ff, gdS_tf, gdS_ft, gdS_undef, List.getD_cons_succ, List.getD_cons_zero, List.set_cons_succ, List.set_cons_zero, Option.bind_some, regR_some, seqR_normal, seqR_ret, seqR_exit, fin0_ret, fin0_normal, fin1_ret, fin1_normal, finN_ret, finN_normal, List.map_cons, List.map_nil, lenV_some, pickV_t, pickV_f, callV_func, extV_tup, condR_true, condR_false, blockR_normal, blockR_ret, blockR_exit, if_true, List.nil_append, List.append_nil, List.cons_append, List.getElem?_cons_zero, List.getElem?_cons_succ, loopR_normal, loopR_exit, loopR_ret, Option.map_some, ite_true, reduceIte, reg10_0, st10_0_0, reg10_1, st10_1_0, st10_1_1, st10_1_2, st10_1_3, st10_1_4, st10_1_5, st10_1_6, st10_1_7, st10_1_8, st10_1_9, st10_1_10, st10_1_11, st10_1_12, st10_1_13, st10_1_14, st10_1_15, st10_1_16, st10_1_17, st10_1_18, st10_1_19, reg10_2, st10_2_0, st10_3_0, st10_3_1, st10_3_2, st10_3_3, st10_3_4, st10_3_5, st10_3_6, st10_3_7, st10_3_8, st10_3_9, st10_3_10, st10_3_11, st10_3_12, st10_3_13, st10_3_14, st10_3_15, reg10_4, st10_4_0, eq23, e1, nilck, fa64_0, ld62, Nat.add_zero, hc, len62, i_geq, d]
    · have d : decide ((L.length : Int) ≥ 40) = false := by simp; omega
      have d2 : decide ((value.length : Int) > 200) = true := by
        simp [mayEnter, hh] at hno
        have := hno (by omega)
        simp; omega
      have d0 : decide (((0 : Nat) : Int) ≥ 40) = false := by decide
      rcases S1.slice with ⟨rfl, hc⟩ | ⟨id, _, _, hc, _⟩ <;>
      simp (implicitDefEqProofs := false) only [run_seq, run_cond, run_block, run_loop, run_exit, run_ret, run_skip, ops_cons, ops_nil, ev_tmp, pureS_some, heapS_some, heapN_some, gdS_tt, gdS_ff, gdS_tf, gdS_ft, gdS_undef, List.getD_cons_succ, List.getD_cons_zero, List.set_cons_succ, List.set_cons_zero, Option.bind_some, regR_some, seqR_normal, seqR_ret, seqR_exit, fin0_ret, fin0_normal, fin1_ret, fin1_normal, finN_ret, finN_normal, List.map_cons, List.map_nil, lenV_some, pickV_t, pickV_f, callV_func, extV_tup, condR_true, condR_false, blockR_normal, blockR_ret, blockR_exit, if_true, List.nil_append, List.append_nil, List.cons_append, List.getElem?_cons_zero, List.getElem?_cons_succ, loopR_normal, loopR_exit, loopR_ret, Option.map_some, ite_true, reduceIte, reg10_0, st10_0_0, reg10_1, st10_1_0, st10_1_1, st10_1_2, st10_1_3, st10_1_4, st10_1_5, st10_1_6, st10_1_7, st10_1_8, st10_1_9, st10_1_10, st10_1_11, st10_1_12, st10_1_13, st10_1_14, st10_1_15, st10_1_16, st10_1_17, st10_1_18, st10_1_19, reg10_2, st10_2_0, st10_3_0, st10_3_1, st10_3_2, st10_3_3, st10_3_4, st10_3_5, st10_3_6, st10_3_7, st10_3_8, st10_3_9, st10_3_10, st10_3_11, st10_3_12, st10_3_13, st10_3_14, st10_3_15, reg10_4, st10_4_0, eq23, e1, nilck, fa64_0, ld62, Nat.add_zero, hc, len62, len62n, i_geq, d, d0, len9, i_gtr, d2]
  · rw [hh] at e1
    simp (implicitDefEqProofs := false) only [run_seq, run_cond, run_block, run_loop, run_exit, run_ret, run_skip, ops_cons, ops_nil, ev_tmp, pureS_some, heapS_some, heapN_some, gdS_tt, gdS_ff, gdS_tf, gdS_ft, gdS_undef, List.getD_cons_succ, List.getD_cons_zero, List.set_cons_succ, List.set_cons_zero, Option.bind_some, regR_some, seqR_normal, seqR_ret, seqR_exit, fin0_ret, fin0_normal, fin1_ret, fin1_normal, finN_ret, finN_normal, List.map_cons, List.map_nil, lenV_some, pickV_t, pickV_f, callV_func, extV_tup, condR_true, condR_false, blockR_normal, blockR_ret, blockR_exit, if_true, List.nil_append, List.append_nil, List.cons_append, List.getElem?_cons_zero, List.getElem?_cons_succ, loopR_normal, loopR_exit, loopR_ret, Option.map_some, ite_true, reduceIte, reg10_0, st10_0_0, reg10_1, st10_1_0, st10_1_1, st10_1_2, st10_1_3, st10_1_4, st10_1_5, st10_1_6, st10_1_7, st10_1_8, st10_1_9, st10_1_10, st10_1_11, st10_1_12, st10_1_13, st10_1_14, st10_1_15, st10_1_16, st10_1_17, st10_1_18, st10_1_19, reg10_2, st10_2_0, st10_3_0, st10_3_1, st10_3_2, st10_3_3, st10_3_4, st10_3_5, st10_3_6, st10_3_7, st10_3_8, st10_3_9, st10_3_10, st10_3_11, st10_3_12, st10_3_13, st10_3_14, st10_3_15, reg10_4, st10_4_0, eq23, e1]
set_option maxRecDepth 100000 in
theorem enter_yes {h : AH} {s cnt : Nat} {L : List Val} {F : Nat → Prop} (S : Src h s L cnt F) (nm value : List Nat) (hyes : mayEnter L nm value = true) (n : Nat) (hn : L.length + 3 ≤ n) :
    ∃ h', X (n + 1) 10 [.ptr s 0, .str nm, .str value] h = some (.bool true, h') ∧ Src h' s (L ++ [⟨nm, value ++ [32], 0, isBlank value⟩]) cnt (Plus F h h') ∧ Other F h h' := by
  obtain ⟨m, rfl⟩ : ∃ m, n = m + 1 := ⟨n - 1, by omega⟩
  simp only [mayEnter, Bool.and_eq_true, Bool.not_eq_true', decide_eq_true_eq] at hyes
  obtain ⟨⟨hh, h40⟩, h200⟩ := hyes
  obtain ⟨h1, e1, O1⟩ := active_ok S nm (by omega) m (by omega)
  have S1 := S.keep O1 (fun _ _ x => x)
  rw [hh] at e1
  have d : decide ((L.length : Int) ≥ 40) = false := by simp; omega
  have d2 : decide ((value.length : Int) > 200) = false := by simp; omega
  have d0 : decide (((0 : Nat) : Int) ≥ 40) = false := by decide
  have key := enter_reg3 S1 nm value h40 h200 (m + 1) (m + 1) (by omega)
  have fin : ∀ fr, (∃ fr' h', arun Try.prog (HK 10) (X (m + 1)) (m + 1) (.region 3 (rg Try.f10 3) true) fr h1 = some (.normal, fr', h') ∧ 6 < fr'.length ∧ Src h' s (L ++ [⟨nm, value ++ [32], 0, isBlank value⟩]) cnt (Plus F h1 h') ∧ Other F h1 h') →
      ∃ h', fin1 (seqR (arun Try.prog (HK 10) (X (m + 1)) (m + 1) (.region 3 (rg Try.f10 3) true) fr h1) (fun fr' h' => some (.ret, fr'.set 6 (.bool true), h'))) 6 = some (.bool true, h') ∧
        Src h' s (L ++ [⟨nm, value ++ [32], 0, isBlank value⟩]) cnt (Plus F h h') ∧ Other F h h' := by
    rintro fr ⟨fr', h', e, hl, S3, O3⟩
    have hle := O1.1
    have O : Other F h h' := (O1.mono fun _ _ x => x.elim).trans O3
    refine ⟨h', ?_, ?_, O⟩
    · rw [e, seqR_normal, fin1_ret]
      congr 2
      rw [List.getD_eq_getElem?_getD, List.getElem?_set_self hl]
      rfl
    · obtain ⟨a, b, c⟩ := S3
      have sub : ∀ j, Plus F h1 h' j → Plus F h h' j := fun j hj => hj.elim .inl fun q => .inr ⟨by omega, q.2⟩
      refine ⟨sub _ a, fun j hj => ?_, ?_⟩
      · rcases hj with hj | hj
        · exact Nat.lt_of_lt_of_le (S.lt j hj) O.1
        · exact hj.2
      · rcases c with c | ⟨id, c1, c2, c3⟩
        · exact .inl c
        · exact .inr ⟨id, c1, sub _ c2, c3⟩
  rw [ent10]
  unfold cd10
  rcases S1.slice with ⟨rfl, hc⟩ | ⟨id, _, _, hc, _⟩
  · simp (implicitDefEqProofs := false) only [run_seq, run_cond, run_block, run_loop, run_exit, run_ret, run_skip, ops_cons, ops_nil, ev_tmp, pureS_some, heapS_some, heapN_some, gdS_tt, gdS_ff, gdS_tf, gdS_ft, gdS_undef, List.getD_cons_succ, List.getD_cons_zero, List.set_cons_succ, List.set_cons_zero, Option.bind_some, regR_some, seqR_normal, seqR_ret, seqR_exit, fin0_ret, fin0_normal, fin1_ret, fin1_normal, finN_ret, finN_normal, List.map_cons, List.map_nil, lenV_some, pickV_t, pickV_f, callV_func, extV_tup, condR_true, condR_false, blockR_normal, blockR_ret, blockR_exit, if_true, List.nil_append, List.append_nil, List.cons_append, List.getElem?_cons_zero, List.getElem?_cons_succ, loopR_normal, loopR_exit, loopR_ret, Option.map_some, ite_true, reduceIte, reg10_0, st10_0_0, reg10_1, st10_1_0, st10_1_1, st10_1_2, st10_1_3, st10_1_4, st10_1_5, st10_1_6, st10_1_7, st10_1_8, st10_1_9, st10_1_10, st10_1_11, st10_1_12, st10_1_13, st10_1_14, st10_1_15, st10_1_16, st10_1_17, st10_1_18, st10_1_19, reg10_2, st10_2_0, st10_3_0, st10_3_1, st10_3_2, st10_3_3, st10_3_4, st10_3_5, st10_3_6, st10_3_7, st10_3_8, st10_3_9, st10_3_10, st10_3_11, st10_3_12, st10_3_13, st10_3_14, st10_3_15, reg10_4, st10_4_0, eq23, e1, nilck, fa64_0, ld62, Nat.add_zero, hc, len62, len62n, i_geq, d, d0, len9, i_gtr, d2]
    exact fin _ (key ..)
  · simp (implicitDefEqProofs := false) only [run_seq, run_cond, run_block, run_loop, run_exit, run_ret, run_skip, ops_cons, ops_nil, ev_tmp, pureS_some, heapS_some, heapN_some, gdS_tt, gdS_ff, gdS_tf, gdS_ft, gdS_undef, List.getD_cons_succ, List.getD_cons_zero, List.set_cons_succ, List.set_cons_zero, Option.bind_some, regR_some, seqR_normal, seqR_ret, seqR_exit, fin0_ret, fin0_normal, fin1_ret, fin1_normal, finN_ret, finN_normal, List.map_cons, List.map_nil, lenV_some, pickV_t, pickV_f, callV_func, extV_tup, condR_true, condR_false, blockR_normal, blockR_ret, blockR_exit, if_true, List.nil_append, List.append_nil, List.cons_append, List.getElem?_cons_zero, List.getElem?_cons_succ, loopR_normal, loopR_exit, loopR_ret, Option.map_some, ite_true, reduceIte, reg10_0, st10_0_0, reg10_1, st10_1_0, st10_1_1, st10_1_2, st10_1_3, st10_1_4, st10_1_5, st10_1_6, st10_1_7, st10_1_8, st10_1_9, st10_1_10, st10_1_11, st10_1_12, st10_1_13, st10_1_14, st10_1_15, st10_1_16, st10_1_17, st10_1_18, st10_1_19, reg10_2, st10_2_0, st10_3_0, st10_3_1, st10_3_2, st10_3_3, st10_3_4, st10_3_5, st10_3_6, st10_3_7, st10_3_8, st10_3_9, st10_3_10, st10_3_11, st10_3_12, st10_3_13, st10_3_14, st10_3_15, reg10_4, st10_4_0, eq23, e1, nilck, fa64_0, ld62, Nat.add_zero, hc, len62, len62n, i_geq, d, d0, len9, i_gtr, d2]
    exact fin _ (key ..)
end Go.Proofs.Ytgnacecplaemlaa
