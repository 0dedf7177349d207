/-
  The program's source of bytes, on: Active, Enter.
-/
import Derived.Test.YtgnacecplaemlaaS7
namespace Go.Proofs.Ytgnacecplaemlaa
open AI
set_option linter.unusedSimpArgs false

/-! ### Active -/
def eqF (p q r t : Bool) : Option Bool :=
  match some p with
  | some true => match some q with
    | some true => match some r with
      | some true => match some t with
        | some true => some true
        | some false => some false
        | none => none
      | some false => some false
      | none => none
    | some false => some false
    | none => none
  | some false => some false
  | none => none
theorem eq66 (xo yo : Operand) (a a' b : List Nat) (i : Int) (y : Bool) :
    abin Try.prog .eql 66 xo yo (.agg [.str a, .str b, .int .i64 i, .bool y]) (.agg [.str a', .str b, .int .i64 i, .bool y]) = some (.bool (natsEq a a')) := by
  have e : abin Try.prog .eql 66 xo yo (.agg [.str a, .str b, .int .i64 i, .bool y]) (.agg [.str a', .str b, .int .i64 i, .bool y]) = (eqF (natsEq a a') (natsEq b b) (i == i) (y == y)).map .bool := by kernel_rfl
  rw [e, natsEq_refl, beq_self_eq_true, beq_self_eq_true]
  cases natsEq a a' <;> rfl
theorem new66 (h : AH) : newV Try.prog 66 h = some (.ptr h.next 0, h.alloc [.str [], .str [], .int .i64 0, .bool false]) := by kernel_rfl
theorem st66 (id off : Nat) (h : AH) (a b : List Nat) (k : IntKind) (i : Int) (y : Bool) : stV Try.prog 66 (.ptr id off) (.agg [.str a, .str b, .int k i, .bool y]) h = (h.write id off [.str a, .str b, .int k i, .bool y]).map fun h' => (.tup [], h') := by kernel_rfl
theorem bld66 (a b : List Nat) (k : IntKind) (i : Int) (y : Bool) : abuild Try.prog 66 [(0, .str a), (1, .str b), (2, .int k i), (3, .bool y)] = some (.agg [.str a, .str b, .int k i, .bool y]) := by kernel_rfl
def has (L : List Val) (a : List Nat) : Bool := L.any fun v => natsEq v.name a
def C20 (s len i : Nat) (a : List Nat) : List AV := [.ptr s 0, .str a, .top, .top, .bool false, .top, .top, .top, .int .i64 (len : Int), .int .i64 (i : Int), .top, .top, .top, .top, .top, .top, .top, .top, .top, .top, .top, .top, .top, .top, .top, .top, .top, .top, .top, .top]
theorem active_loop {s cnt : Nat} {L : List Val} {F : Nat → Prop} (hLb : L.length < 4611686018427387904) (a : List Nat)
    (call : FuncId → List AV → AH → Option (AV × AH)) (lf : Nat) : ∀ (m i : Nat) (fr : List AV) (h : AH), Src h s L cnt F → i + m = L.length → aclear (HK 20) lp20_2 fr = C20 s L.length i a → ∀ k,
      ∃ fr' h', Other (fun _ => False) h h' ∧ aloop (arun Try.prog (HK 20) call lf lp20_2) (aclear (HK 20) lp20_2) (m + 1 + k) fr h =
        (if has (L.drop i) a then some (.ret, fr', h') else some (.exit 0, (C20 s L.length L.length a).set 10 (.bool false), h')) ∧ (has (L.drop i) a = true → fr'.getD 4 .top = .bool true)
  | 0, i, fr, h, S, hi, hc, k => by
    have e0 : i = L.length := by omega
    subst e0
    refine ⟨fr, h, Other.refl _ _, ?_, by simp [has]⟩
    rw [show has (L.drop L.length) a = false by simp [has], if_neg (by simp)]
    rw [show 0 + 1 + k = k + 1 by omega, loop_succ, hc]
    conv => lhs; arg 1; unfold lp20_2
    have d : decide ((L.length : Int) < (L.length : Int)) = false := by simp
    simp (implicitDefEqProofs := false) only [C20, run_seq, run_cond, run_block, run_loop, run_exit, run_ret, run_skip, ops_cons, ops_nil, ev_tmp, pureS_some, heapS_some, heapN_some, gdS_tt, gdS_ff, gdS_tf, gdS_ft, gdS_undef, List.getD_cons_succ, List.getD_cons_zero, List.set_cons_succ, List.set_cons_zero, Option.bind_some, regR_some, seqR_normal, seqR_ret, seqR_exit, fin0_ret, fin0_normal, fin1_ret, fin1_normal, finN_ret, finN_normal, List.map_cons, List.map_nil, lenV_some, pickV_t, pickV_f, callV_func, extV_tup, condR_true, condR_false, blockR_normal, blockR_ret, blockR_exit, if_true, List.nil_append, List.append_nil, List.cons_append, List.getElem?_cons_zero, List.getElem?_cons_succ, loopR_normal, loopR_exit, loopR_ret, Option.map_some, ite_true, reduceIte, reg20_0, st20_0_0, reg20_1, st20_1_0, st20_1_1, st20_1_2, reg20_2, st20_2_0, reg20_3, st20_3_0, st20_3_1, reg20_4, st20_4_0, st20_4_1, st20_4_2, st20_4_3, st20_4_4, st20_4_5, st20_4_6, st20_4_7, st20_4_8, reg20_5, st20_5_0, st20_5_1, st20_5_2, st20_5_3, st20_5_4, st20_5_5, st20_5_6, st20_5_7, st20_5_8, st20_5_9, reg20_6, st20_6_0, reg20_7, st20_7_0, st20_7_1, reg20_8, st20_8_0, i_lss, d]
  | m + 1, i, fr, h, S, hi, hc, k => by
    have hlt : i < L.length := by omega
    have hv : L[i]? = some L[i] := by simp [hlt]
    have ed : L.drop i = L[i] :: L.drop (i + 1) := (List.getElem_cons_drop hlt).symm
    have hh : has (L.drop i) a = (natsEq (L[i]).name a || has (L.drop (i + 1)) a) := by unfold has; rw [ed, List.any_cons]
    have d : decide ((i : Int) < (L.length : Int)) = true := by simp; omega
    have w3 := wrap_succ i (by omega)
    generalize L[i] = v at hv hh
    rcases S.slice with ⟨rfl, _⟩ | ⟨id, _, _, hcell, hR⟩
    · simp at hlt
    · have r := row_val hR hv
      have r1 : h.cells? id 4 (0 + i * 4) = some v.cells := r.all
      have i1 : ∀ k, aindexAt Try.prog 62 (.sl id 0 L.length 4 none) (.int k (i : Int)) = some (.ptr id (0 + i * 4)) := fun k => ix62 _ _ _ _ hlt k
      have N := Row.new h [.str [], .str [], .int .i64 0, .bool false]
      obtain ⟨h2, w2, n2, R2, O2⟩ := Row.write (a := []) (p := [.str [], .str [], .int .i64 0, .bool false]) (c := []) N v.cells rfl
      have w2' : (h.alloc [.str [], .str [], .int .i64 0, .bool false]).write h.next 0 [.str v.name, .str v.text, .int .i64 (v.at_ : Int), .bool v.blank] = some h2 := by simpa [Val.cells] using w2
      have R2' : Row h2 h.next 0 v.cells := by simpa using R2
      have O : Other (fun _ => False) h h2 := ⟨by rw [n2]; exact Nat.le_succ _, fun j hj _ => by
        rw [O2.2 j (Nat.lt_succ_of_lt hj) (by omega)]; exact (Other.alloc (fun _ => False) h _).2 j hj (fun x => x)⟩
      have c0 : h2.cells? h.next 4 0 = some [.str v.name, .str v.text, .int .i64 (v.at_ : Int), .bool v.blank] := R2'.all
      have c1 : h2.cell? h.next 1 = some (.str v.text) := R2'.cell (i := 1) rfl
      have c2 : h2.cell? h.next 2 = some (.int .i64 (v.at_ : Int)) := R2'.cell (i := 2) rfl
      have c3 : h2.cell? h.next 3 = some (.bool v.blank) := R2'.cell (i := 3) rfl
      simp (implicitDefEqProofs := false) only [Val.cells, Nat.zero_add] at r1
      rw [show m + 1 + 1 + k = (m + 1 + k) + 1 by omega, loop_succ, hc, hh]
      conv => enter [1, fr', 1, h', 2, 1, 1, 1]; unfold lp20_2
      cases hn : natsEq v.name a
      · have ih : ∀ fr, aclear (HK 20) lp20_2 fr = C20 s L.length (i + 1) a → ∃ fr' h', Other (fun _ => False) h h' ∧ aloop (arun Try.prog (HK 20) call lf lp20_2) (aclear (HK 20) lp20_2) (m + 1 + k) fr h2 =
            (if has (L.drop (i + 1)) a then some (.ret, fr', h') else some (.exit 0, (C20 s L.length L.length a).set 10 (.bool false), h')) ∧ (has (L.drop (i + 1)) a = true → fr'.getD 4 .top = .bool true) := fun fr hcl => by
          obtain ⟨fr', h', o, e, g⟩ := active_loop hLb a call lf m (i + 1) fr h2 (S.keep O (fun _ _ x => x)) (by omega) hcl k
          exact ⟨fr', h', O.trans o, e, g⟩
        rw [Bool.false_or]
        simp (implicitDefEqProofs := false) only [C20, run_seq, run_cond, run_block, run_loop, run_exit, run_ret, run_skip, ops_cons, ops_nil, ev_tmp, pureS_some, heapS_some, heapN_some, gdS_tt, gdS_ff, gdS_tf, gdS_ft, gdS_undef, List.getD_cons_succ, List.getD_cons_zero, List.set_cons_succ, List.set_cons_zero, Option.bind_some, regR_some, seqR_normal, seqR_ret, seqR_exit, fin0_ret, fin0_normal, fin1_ret, fin1_normal, finN_ret, finN_normal, List.map_cons, List.map_nil, lenV_some, pickV_t, pickV_f, callV_func, extV_tup, condR_true, condR_false, blockR_normal, blockR_ret, blockR_exit, if_true, List.nil_append, List.append_nil, List.cons_append, List.getElem?_cons_zero, List.getElem?_cons_succ, loopR_normal, loopR_exit, loopR_ret, Option.map_some, ite_true, reduceIte, reg20_0, st20_0_0, reg20_1, st20_1_0, st20_1_1, st20_1_2, reg20_2, st20_2_0, reg20_3, st20_3_0, st20_3_1, reg20_4, st20_4_0, st20_4_1, st20_4_2, st20_4_3, st20_4_4, st20_4_5, st20_4_6, st20_4_7, st20_4_8, reg20_5, st20_5_0, st20_5_1, st20_5_2, st20_5_3, st20_5_4, st20_5_5, st20_5_6, st20_5_7, st20_5_8, st20_5_9, reg20_6, st20_6_0, reg20_7, st20_7_0, st20_7_1, reg20_8, st20_8_0, i_lss, d, nilck, fa64_0, ld62, Nat.add_zero, hcell, i1, ld66, r1, new66, st66, w2', c0, fa66_1, fa66_2, fa66_3, Nat.zero_add, ld9, ld3, ld4, c1, c2, c3, bld66, eq66, hn, i_add, w3]
        exact ih _ (by rw [cl20_2]; rfl)
      · rw [Bool.true_or]
        simp (implicitDefEqProofs := false) only [C20, run_seq, run_cond, run_block, run_loop, run_exit, run_ret, run_skip, ops_cons, ops_nil, ev_tmp, pureS_some, heapS_some, heapN_some, gdS_tt, gdS_ff, gdS_tf, gdS_ft, gdS_undef, List.getD_cons_succ, List.getD_cons_zero, List.set_cons_succ, List.set_cons_zero, Option.bind_some, regR_some, seqR_normal, seqR_ret, seqR_exit, fin0_ret, fin0_normal, fin1_ret, fin1_normal, finN_ret, finN_normal, List.map_cons, List.map_nil, lenV_some, pickV_t, pickV_f, callV_func, extV_tup, condR_true, condR_false, blockR_normal, blockR_ret, blockR_exit, if_true, List.nil_append, List.append_nil, List.cons_append, List.getElem?_cons_zero, List.getElem?_cons_succ, loopR_normal, loopR_exit, loopR_ret, Option.map_some, ite_true, reduceIte, reg20_0, st20_0_0, reg20_1, st20_1_0, st20_1_1, st20_1_2, reg20_2, st20_2_0, reg20_3, st20_3_0, st20_3_1, reg20_4, st20_4_0, st20_4_1, st20_4_2, st20_4_3, st20_4_4, st20_4_5, st20_4_6, st20_4_7, st20_4_8, reg20_5, st20_5_0, st20_5_1, st20_5_2, st20_5_3, st20_5_4, st20_5_5, st20_5_6, st20_5_7, st20_5_8, st20_5_9, reg20_6, st20_6_0, reg20_7, st20_7_0, st20_7_1, reg20_8, st20_8_0, i_lss, d, nilck, fa64_0, ld62, Nat.add_zero, hcell, i1, ld66, r1, new66, st66, w2', c0, fa66_1, fa66_2, fa66_3, Nat.zero_add, ld9, ld3, ld4, c1, c2, c3, bld66, eq66, hn, i_add, w3]
        exact ⟨_, h2, O, rfl, fun _ => rfl⟩
theorem active_ok {h : AH} {s cnt : Nat} {L : List Val} {F : Nat → Prop} (S : Src h s L cnt F) (a : List Nat) (hLb : L.length < 4611686018427387904) (n : Nat) (hn : L.length + 2 ≤ n) :
    ∃ h', X (n + 1) 20 [.ptr s 0, .str a] h = some (.bool (has L a), h') ∧ Other (fun _ => False) h h' := by
  obtain ⟨k, rfl⟩ : ∃ k, n = L.length + 1 + k := ⟨n - (L.length + 1), by omega⟩
  have e : X (L.length + 1 + k) 18 [.ptr s 0] h = some (.int .i64 (L.length : Int), h) := by
    rw [show L.length + 1 + k = (L.length + k) + 1 by omega]; exact deep_ok S _
  have l := fun fr hc => active_loop hLb a (X (L.length + 1 + k)) (L.length + 1 + k) L.length 0 fr h S (by omega) hc k
  rw [ent20]
  unfold cd20
  simp (implicitDefEqProofs := false) only [run_seq, run_cond, run_block, run_loop, run_exit, run_ret, run_skip, ops_cons, ops_nil, ev_tmp, pureS_some, heapS_some, heapN_some, gdS_tt, gdS_ff, gdS_tf, gdS_ft, gdS_undef, List.getD_cons_succ, List.getD_cons_zero, List.set_cons_succ, List.set_cons_zero, Option.bind_some, regR_some, seqR_normal, seqR_ret, seqR_exit, fin0_ret, fin0_normal, fin1_ret, fin1_normal, finN_ret, finN_normal, List.map_cons, List.map_nil, lenV_some, pickV_t, pickV_f, callV_func, extV_tup, condR_true, condR_false, blockR_normal, blockR_ret, blockR_exit, if_true, List.nil_append, List.append_nil, List.cons_append, List.getElem?_cons_zero, List.getElem?_cons_succ, loopR_normal, loopR_exit, loopR_ret, Option.map_some, ite_true, reduceIte, reg20_0, st20_0_0, reg20_1, st20_1_0, st20_1_1, st20_1_2, reg20_2, st20_2_0, reg20_3, st20_3_0, st20_3_1, reg20_4, st20_4_0, st20_4_1, st20_4_2, st20_4_3, st20_4_4, st20_4_5, st20_4_6, st20_4_7, st20_4_8, reg20_5, st20_5_0, st20_5_1, st20_5_2, st20_5_3, st20_5_4, st20_5_5, st20_5_6, st20_5_7, st20_5_8, st20_5_9, reg20_6, st20_6_0, reg20_7, st20_7_0, st20_7_1, reg20_8, st20_8_0, e]
  have l' : ∀ fr, aclear (HK 20) lp20_2 fr = C20 s L.length 0 a → ∃ h', fin1 (seqR (blockR 0 (aloop (arun Try.prog (HK 20) (X (L.length + 1 + k)) (L.length + 1 + k) lp20_2) (aclear (HK 20) lp20_2) (L.length + 1 + k) fr h))
      (fun fr' h' => some (.ret, fr'.set 4 (.bool false), h'))) 4 = some (.bool (has L a), h') ∧ Other (fun _ => False) h h' := fun fr hcl => by
    obtain ⟨fr', h', o, e', g⟩ := l fr hcl
    rw [List.drop_zero] at e' g
    rw [e']
    refine ⟨h', ?_, o⟩
    cases hh : has L a
    · rfl
    · show fin1 (some (.ret, fr', h')) 4 = _
      rw [fin1_ret, g hh]
  exact l' _ (by rw [cl20_2]; rfl)
end Go.Proofs.Ytgnacecplaemlaa
