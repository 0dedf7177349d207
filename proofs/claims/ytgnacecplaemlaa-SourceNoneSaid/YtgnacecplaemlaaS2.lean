import Derived.Test.YtgnacecplaemlaaG5
namespace Go.Proofs.Ytgnacecplaemlaa
open AI
set_option linter.unusedSimpArgs false
theorem alen_str (s : List Nat) : alen Try.prog 9 (.str s) = some s.length := by kernel_rfl
theorem alen_nil40 : alen Try.prog 40 .nilSl = some 0 := by kernel_rfl
theorem gtr_i64 (P : Program) (t : TypeId) (xo yo : Operand) (a b : Int) : abin P .gtr t xo yo (.int .i64 a) (.int .i64 b) = some (.bool (decide (a > b))) := rfl
theorem add_i64 (P : Program) (t : TypeId) (xo yo : Operand) (a b : Int) : abin P .add t xo yo (.int .i64 a) (.int .i64 b) = some (.int .i64 (IntKind.i64.wrap (a + b))) := rfl
theorem eql_i64 (P : Program) (t : TypeId) (xo yo : Operand) (a b : Int) : abin P .eql t xo yo (.int .i64 a) (.int .i64 b) = some (.bool (a == b)) := rfl
theorem not_bool (b : Bool) : aun .not (.bool b) = some (.bool (!b)) := rfl
theorem peek_nil (n : Nat) (h : AH) : X (n + 5) 11 [.nilp] h = some (.tup [.int .u8 0, .bool false], h) := by kernel_rfl
theorem enter_nil (n : Nat) (a b : List Nat) (h : AH) : X (n + 5) 10 [.nilp, .str a, .str b] h = some (.bool false, h) := by kernel_rfl
theorem active_nil (n : Nat) (a : List Nat) (h : AH) : X (n + 5) 20 [.nilp, .str a] h = some (.bool false, h) := by kernel_rfl
theorem step_nil (n : Nat) (h : AH) : X (n + 5) 12 [.nilp] h = some (.bool false, h) := by kernel_rfl
theorem deep_nil (n : Nat) (h : AH) : X (n + 5) 18 [.nilp] h = some (.int .i64 0, h) := by kernel_rfl
theorem left_nil (n : Nat) (h : AH) : X (n + 5) 13 [.nilp] h = some (.int .i64 0, h) := by kernel_rfl
theorem count_nil (n : Nat) (h : AH) : X (n + 5) 14 [.nilp] h = some (.int .i64 0, h) := by kernel_rfl
theorem names_nil (n : Nat) (h : AH) : X (n + 5) 23 [.nilp] h = some (.nilSl, h) := by kernel_rfl
theorem wrap_0 : IntKind.i64.wrap (0 + 0) = 0 := by decide
theorem wrap_00 : IntKind.i64.wrap (0 + ((0 : Nat) : Int)) = 0 := by decide
theorem sourceNone_ok (a b : List Nat) : X 10 5 [.str a, .str b] AH.empty = some (.bool true, AH.empty) := by
  have e1 : X 9 8 [] AH.empty = some (.bool true, AH.empty) := X_awake 8 _
  have e2 := peek_nil 4 AH.empty
  have e3 := enter_nil 4 a b AH.empty
  have e4 := active_nil 4 a AH.empty
  have e5 := step_nil 4 AH.empty
  have e6 := deep_nil 4 AH.empty
  have e7 := left_nil 4 AH.empty
  have e8 := count_nil 4 AH.empty
  have e9 := names_nil 4 AH.empty
  rw [ent5]
  unfold cd5
  cases hA : decide ((a.length : Int) > 1000) <;> cases hB : decide ((b.length : Int) > 1000) <;>
  simp (implicitDefEqProofs := false) only [run_seq, run_cond, run_block, run_exit, run_ret, run_skip, ops_cons, ops_nil, ev_tmp, pureS_some, heapS_some, heapN_some, gdS_tt, gdS_ff, gdS_tf, gdS_ft, gdS_undef, List.getD_cons_succ, List.getD_cons_zero, List.set_cons_succ, List.set_cons_zero, Option.bind_some, regR_some, seqR_normal, seqR_ret, seqR_exit, fin0_ret, fin0_normal, fin1_ret, fin1_normal, finN_ret, finN_normal, List.map_cons, List.map_nil, lenV_some, pickV_t, pickV_f, callV_func, extV_tup, condR_true, condR_false, blockR_normal, blockR_ret, blockR_exit, if_true, List.nil_append, List.append_nil, List.cons_append, List.getElem?_cons_zero, List.getElem?_cons_succ, alen_str, gtr_i64, add_i64, eql_i64, not_bool, alen_nil40, reg5_0, st5_0_0, reg5_1, st5_1_0, st5_1_1, st5_1_2, st5_1_3, st5_1_4, st5_1_5, st5_1_6, st5_1_7, reg5_2, st5_2_0, st5_2_1, reg5_3, st5_3_0, reg5_4, st5_4_0, st5_4_1, st5_4_2, st5_4_3, st5_4_4, st5_4_5, st5_4_6, reg5_5, st5_5_0, st5_5_1, st5_5_2, st5_5_3, st5_5_4, st5_5_5, st5_5_6, st5_5_7, st5_5_8, st5_5_9, st5_5_10, st5_5_11, st5_5_12, st5_5_13, st5_5_14, st5_5_15, st5_5_16, st5_5_17, st5_5_18, st5_5_19, st5_5_20, st5_5_21, st5_5_22, st5_5_23, st5_5_24, st5_5_25, st5_5_26, st5_5_27, st5_5_28, st5_5_29, st5_5_30, st5_5_31, st5_5_32, st5_5_33, st5_5_34, st5_5_35, st5_5_36, st5_5_37, st5_5_38, hA, hB, e1, e2, e3, e4, e5, e6, e7, e8, e9, Nat.reduceAdd, wrap_0, wrap_00, Bool.not_false, Bool.not_true, beq_self_eq_true]
end Go.Proofs.Ytgnacecplaemlaa
