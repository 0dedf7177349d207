/-
  Names of the reference, and the comparison of two slices of strings.
-/
import Derived.Test.YtgnacecplaemlaaT6
namespace Go.Proofs.Ytgnacecplaemlaa
open AI
set_option linter.unusedSimpArgs false
def C24 (x i : Nat) (sv : AV) : List AV := [.ptr x 0, .top, .nilSl, sv, .int .i64 (i : Int), .top, .top, .top, .top, .top, .top, .top, .top, .top, .top, .top, .top, .top, .top, .top, .top, .top, .top, .top, .top, .top]
theorem rnames_loop {x cnt : Nat} {L : List Val} {G : Nat → Prop} (hLb : L.length < 1000) (h0 : AH)
    (call : FuncId → List AV → AH → Option (AV × AH)) (lf : Nat) : ∀ (m i : Nat) (fr : List AV) (h : AH) (sv : AV), Ref h x L cnt G → Other (fun _ => False) h0 h → (∀ j, G j → j < h0.next) → Sl40 h sv (names (L.take i)) → (∀ j, own sv j → h0.next ≤ j ∧ j < h.next) →
      i + m = L.length → aclear (HK 24) lp24_3 fr = C24 x i sv → ∀ k,
      ∃ fr' h' sv', Other (fun _ => False) h0 h' ∧ Sl40 h' sv' (names L) ∧ (∀ j, own sv' j → h0.next ≤ j ∧ j < h'.next) ∧ aloop (arun Try.prog (HK 24) call lf lp24_3) (aclear (HK 24) lp24_3) (m + 1 + k) fr h = some (.exit 0, fr', h') ∧ fr'.getD 3 .top = sv' ∧ fr'.length = 26
  | 0, i, fr, h, sv, S, O, hF, N, hw, hi, hc, k => by
    have e0 : i = L.length := by omega
    subst e0
    rw [List.take_length] at N
    have key : ∀ fr : List AV, fr.getD 3 .top = sv → fr.length = 26 → ∃ fr' h' sv', Other (fun _ => False) h0 h' ∧ Sl40 h' sv' (names L) ∧ (∀ j, own sv' j → h0.next ≤ j ∧ j < h'.next) ∧ (some (.exit 0, fr, h) : ARes) = some (.exit 0, fr', h') ∧ fr'.getD 3 .top = sv' ∧ fr'.length = 26 :=
      fun fr a b => ⟨fr, h, sv, O, N, hw, rfl, a, b⟩
    rw [show 0 + 1 + k = k + 1 by omega, loop_succ, hc]
    conv => enter [1, fr', 1, h', 1, sv', 2, 2, 2, 1, 1, 1]; unfold lp24_3
    have d : decide ((L.length : Int) < (L.length : Int)) = false := by simp
    have d0 : decide ((0 : Int) < 0) = false := by decide
    rcases S.slice with ⟨rfl, hcell⟩ | ⟨id, c, _, _, hcell, hR, hcc⟩
    · simp (implicitDefEqProofs := false) only [C24, run_seq, run_cond, run_block, run_loop, run_exit, run_ret, run_skip, ops_cons, ops_nil, ev_tmp, pureS_some, heapS_some, heapN_some, gdS_tt, gdS_ff, gdS_tf, gdS_ft, gdS_undef, List.getD_cons_succ, List.getD_cons_zero, List.set_cons_succ, List.set_cons_zero, Option.bind_some, regR_some, seqR_normal, seqR_ret, seqR_exit, fin0_ret, fin0_normal, fin1_ret, fin1_normal, finN_ret, finN_normal, List.map_cons, List.map_nil, lenV_some, pickV_t, pickV_f, callV_func, extV_tup, condR_true, condR_false, blockR_normal, blockR_ret, blockR_exit, if_true, List.nil_append, List.append_nil, List.cons_append, List.getElem?_cons_zero, List.getElem?_cons_succ, loopR_normal, loopR_exit, loopR_ret, Option.map_some, ite_true, reduceIte, reg24_0, st24_0_0, reg24_1, st24_1_0, reg24_2, st24_2_0, reg24_3, st24_3_0, st24_3_1, st24_3_2, st24_3_3, st24_3_4, st24_3_5, st24_3_6, reg24_5, st24_5_0, st24_5_1, st24_5_2, st24_5_3, st24_5_4, st24_5_5, st24_5_6, st24_5_7, st24_5_8, st24_5_9, st24_5_10, st24_5_11, reg24_4, st24_4_0, st24_4_1, st24_4_2, reg24_6, st24_6_0, st24_6_1, nilck, fa35_0, ld33, Nat.add_zero, hcell, len33n, i_lss, d0, List.length_nil, nat0]
      exact key _ rfl rfl
    · simp (implicitDefEqProofs := false) only [C24, run_seq, run_cond, run_block, run_loop, run_exit, run_ret, run_skip, ops_cons, ops_nil, ev_tmp, pureS_some, heapS_some, heapN_some, gdS_tt, gdS_ff, gdS_tf, gdS_ft, gdS_undef, List.getD_cons_succ, List.getD_cons_zero, List.set_cons_succ, List.set_cons_zero, Option.bind_some, regR_some, seqR_normal, seqR_ret, seqR_exit, fin0_ret, fin0_normal, fin1_ret, fin1_normal, finN_ret, finN_normal, List.map_cons, List.map_nil, lenV_some, pickV_t, pickV_f, callV_func, extV_tup, condR_true, condR_false, blockR_normal, blockR_ret, blockR_exit, if_true, List.nil_append, List.append_nil, List.cons_append, List.getElem?_cons_zero, List.getElem?_cons_succ, loopR_normal, loopR_exit, loopR_ret, Option.map_some, ite_true, reduceIte, reg24_0, st24_0_0, reg24_1, st24_1_0, reg24_2, st24_2_0, reg24_3, st24_3_0, st24_3_1, st24_3_2, st24_3_3, st24_3_4, st24_3_5, st24_3_6, reg24_5, st24_5_0, st24_5_1, st24_5_2, st24_5_3, st24_5_4, st24_5_5, st24_5_6, st24_5_7, st24_5_8, st24_5_9, st24_5_10, st24_5_11, reg24_4, st24_4_0, st24_4_1, st24_4_2, reg24_6, st24_6_0, st24_6_1, nilck, fa35_0, ld33, Nat.add_zero, hcell, len33, i_lss, d]
      exact key _ rfl rfl
  | m + 1, i, fr, h, sv, S, O, hF, N, hw, hi, hc, k => by
    have hlt : i < L.length := by omega
    have hv : L[i]? = some L[i] := by simp [hlt]
    have et : names (L.take (i + 1)) = names (L.take i) ++ [(L[i]).name] := by unfold names; rw [List.take_succ_eq_append_getElem hlt, List.map_append]; rfl
    have d : decide ((i : Int) < (L.length : Int)) = true := by simp; omega
    have w3 := wrap_succ i (by omega)
    obtain ⟨sv', h', e, N', O', w'⟩ := app_name N (L[i]).name (by simp [names]; omega) (fun j hj => (hw j hj).2)
    have hle := O.1
    have S' := S.keep O' (fun j hj e => by have := hF j hj; have := hw j e; omega)
    have ih := fun fr hcl => rnames_loop hLb h0 call lf m (i + 1) fr h' sv' S' (O.above O' (fun j hj => .inl (hw j hj).1)) hF (by rw [et]; exact N') (fun j hj => by have := w' j hj; omega) (by omega) hcl k
    generalize L[i] = v at hv e
    rcases S.slice with ⟨rfl, _⟩ | ⟨id, c, _, _, hcell, hR, hcc⟩
    · simp at hlt
    · have r := row_rval hR hv
      have r1 : h.cell? id (0 + i * 3) = some (.str v.name) := r.cell (i := 0) rfl
      have i1 : ∀ k, aindexAt Try.prog 33 (.sl id 0 L.length 3 c) (.int k (i : Int)) = some (.ptr id (0 + i * 3)) := fun k => ix33 _ _ _ _ hlt k
      rw [show m + 1 + 1 + k = (m + 1 + k) + 1 by omega, loop_succ, hc]
      conv => enter [1, fr', 1, h', 1, sv', 2, 2, 2, 1, 1, 1]; unfold lp24_3
      simp (implicitDefEqProofs := false) only [C24, run_seq, run_cond, run_block, run_loop, run_exit, run_ret, run_skip, ops_cons, ops_nil, ev_tmp, pureS_some, heapS_some, heapN_some, gdS_tt, gdS_ff, gdS_tf, gdS_ft, gdS_undef, List.getD_cons_succ, List.getD_cons_zero, List.set_cons_succ, List.set_cons_zero, Option.bind_some, regR_some, seqR_normal, seqR_ret, seqR_exit, fin0_ret, fin0_normal, fin1_ret, fin1_normal, finN_ret, finN_normal, List.map_cons, List.map_nil, lenV_some, pickV_t, pickV_f, callV_func, extV_tup, condR_true, condR_false, blockR_normal, blockR_ret, blockR_exit, if_true, List.nil_append, List.append_nil, List.cons_append, List.getElem?_cons_zero, List.getElem?_cons_succ, loopR_normal, loopR_exit, loopR_ret, Option.map_some, ite_true, reduceIte, reg24_0, st24_0_0, reg24_1, st24_1_0, reg24_2, st24_2_0, reg24_3, st24_3_0, st24_3_1, st24_3_2, st24_3_3, st24_3_4, st24_3_5, st24_3_6, reg24_5, st24_5_0, st24_5_1, st24_5_2, st24_5_3, st24_5_4, st24_5_5, st24_5_6, st24_5_7, st24_5_8, st24_5_9, st24_5_10, st24_5_11, reg24_4, st24_4_0, st24_4_1, st24_4_2, reg24_6, st24_6_0, st24_6_1, i_lss, d, nilck, fa35_0, ld33, Nat.add_zero, hcell, len33, i1, fa69_0, ld9, r1, bsl40, e, i_add, w3]
      exact ih _ (by rw [cl24_3]; rfl)
theorem rnames_ok {h : AH} {x cnt : Nat} {L : List Val} {G : Nat → Prop} (S : Ref h x L cnt G) (hLb : L.length < 1000) (n : Nat) (hn : L.length + 2 ≤ n) :
    ∃ sv h', X (n + 1) 24 [.ptr x 0] h = some (sv, h') ∧ Sl40 h' sv (names L) ∧ Other (fun _ => False) h h' ∧ (∀ j, own sv j → h.next ≤ j ∧ j < h'.next) := by
  obtain ⟨k, rfl⟩ : ∃ k, n = L.length + 1 + k := ⟨n - (L.length + 1), by omega⟩
  rw [ent24]
  unfold cd24
  have l' : ∀ fr, aclear (HK 24) lp24_3 fr = C24 x 0 .nilSl → ∃ sv h', fin1 (seqR (blockR 0 (aloop (arun Try.prog (HK 24) (X (L.length + 1 + k)) (L.length + 1 + k) lp24_3) (aclear (HK 24) lp24_3) (L.length + 1 + k) fr h))
      (fun fr' h' => some (.ret, (fr'.set 25 (fr'.getD 3 .top)).set 2 ((fr'.set 25 (fr'.getD 3 .top)).getD 25 .top), h'))) 2 = some (sv, h') ∧ Sl40 h' sv (names L) ∧ Other (fun _ => False) h h' ∧ (∀ j, own sv j → h.next ≤ j ∧ j < h'.next) := fun fr hcl => by
    obtain ⟨fr', h', sv', O, N, w, e', g, g2⟩ := rnames_loop hLb h (X (L.length + 1 + k)) (L.length + 1 + k) L.length 0 fr h .nilSl S (Other.refl _ _) S.lt (.inl ⟨rfl, rfl⟩) (fun j hj => hj.elim) (by omega) hcl k
    refine ⟨sv', h', ?_, N, O, w⟩
    rw [e']
    show fin1 (some (.ret, (fr'.set 25 (fr'.getD 3 .top)).set 2 ((fr'.set 25 (fr'.getD 3 .top)).getD 25 .top), h')) 2 = _
    rw [fin1_ret, g]
    simp [List.getD_eq_getElem?_getD, g2]
  simp (implicitDefEqProofs := false) only [run_seq, run_cond, run_block, run_loop, run_exit, run_ret, run_skip, ops_cons, ops_nil, ev_tmp, pureS_some, heapS_some, heapN_some, gdS_tt, gdS_ff, gdS_tf, gdS_ft, gdS_undef, List.getD_cons_succ, List.getD_cons_zero, List.set_cons_succ, List.set_cons_zero, Option.bind_some, regR_some, seqR_normal, seqR_ret, seqR_exit, fin0_ret, fin0_normal, fin1_ret, fin1_normal, finN_ret, finN_normal, List.map_cons, List.map_nil, lenV_some, pickV_t, pickV_f, callV_func, extV_tup, condR_true, condR_false, blockR_normal, blockR_ret, blockR_exit, if_true, List.nil_append, List.append_nil, List.cons_append, List.getElem?_cons_zero, List.getElem?_cons_succ, loopR_normal, loopR_exit, loopR_ret, Option.map_some, ite_true, reduceIte, reg24_0, st24_0_0, reg24_1, st24_1_0, reg24_2, st24_2_0, reg24_3, st24_3_0, st24_3_1, st24_3_2, st24_3_3, st24_3_4, st24_3_5, st24_3_6, reg24_5, st24_5_0, st24_5_1, st24_5_2, st24_5_3, st24_5_4, st24_5_5, st24_5_6, st24_5_7, st24_5_8, st24_5_9, st24_5_10, st24_5_11, reg24_4, st24_4_0, st24_4_1, st24_4_2, reg24_6, st24_6_0, st24_6_1]
  exact l' _ (by rw [cl24_3]; rfl)

/-! ### The same -/
theorem len40 (id off len n : Nat) (c : Option Nat) : alen Try.prog 40 (.sl id off len n c) = some len := by kernel_rfl
theorem len40n : alen Try.prog 40 .nilSl = some 0 := by kernel_rfl
theorem ix40 (id off len : Nat) (c : Option Nat) {i : Nat} (hi : i < len) (k : IntKind) : aindexAt Try.prog 40 (.sl id off len 1 c) (.int k (i : Int)) = some (.ptr id (off + i * 1)) := by
  have : aindexAt Try.prog 40 (.sl id off len 1 c) (.int k (i : Int)) = if 1 = 1 ∧ 0 ≤ (i : Int) ∧ (i : Int) < (len : Int) then some (.ptr id (off + (i : Int).toNat * 1)) else none := by kernel_rfl
  rw [this, if_pos (by omega), Int.toNat_natCast]
theorem Sl40.len {h : AH} {sv : AV} {N : List (List Nat)} (S : Sl40 h sv N) : alen Try.prog 40 sv = some N.length := by
  rcases S with ⟨rfl, rfl⟩ | ⟨id, rfl, R⟩
  · exact len40n
  · exact len40 ..
theorem Sl40.at_ {h : AH} {sv : AV} {N : List (List Nat)} (S : Sl40 h sv N) {i : Nat} (hi : i < N.length) : ∃ id off, (∀ k, aindexAt Try.prog 40 sv (.int k (i : Int)) = some (.ptr id off)) ∧ h.cell? id off = some (.str N[i]) := by
  rcases S with ⟨rfl, rfl⟩ | ⟨id, rfl, R⟩
  · simp at hi
  · exact ⟨id, _, fun k => ix40 _ _ _ _ hi k, by rw [Nat.mul_one]; exact R.cell (by simp [strs, hi])⟩
def C22 (a b : AV) (i : Nat) : List AV := [a, b, .top, .top, .bool false, .int .i64 (i : Int), .top, .top, .top, .top, .top, .top, .top, .top, .top, .top, .top, .top, .top, .top, .top, .top, .top, .top, .top, .top, .top, .top, .top, .top, .top, .top]
theorem same_loop {h : AH} {a b : AV} {N : List (List Nat)} (A : Sl40 h a N) (B : Sl40 h b N) (hLb : N.length < 1000)
    (call : FuncId → List AV → AH → Option (AV × AH)) (lf : Nat) : ∀ (m i : Nat) (fr : List AV), i + m = N.length → aclear (HK 22) lp22_4 fr = C22 a b i → ∀ k,
      ∃ fr', aloop (arun Try.prog (HK 22) call lf lp22_4) (aclear (HK 22) lp22_4) (m + 1 + k) fr h = some (.exit 0, fr', h) ∧ fr'.length = 32
  | 0, i, fr, hi, hc, k => by
    have e0 : i = N.length := by omega
    subst e0
    have d : decide ((N.length : Int) < (N.length : Int)) = false := by simp
    have la := A.len
    have key : ∀ fr : List AV, fr.length = 32 → ∃ fr', (some (.exit 0, fr, h) : ARes) = some (.exit 0, fr', h) ∧ fr'.length = 32 := fun fr h => ⟨fr, rfl, h⟩
    rw [show 0 + 1 + k = k + 1 by omega, loop_succ, hc]
    conv => enter [1, fr', 1, 1, 1]; unfold lp22_4
    simp (implicitDefEqProofs := false) only [C22, run_seq, run_cond, run_block, run_loop, run_exit, run_ret, run_skip, ops_cons, ops_nil, ev_tmp, pureS_some, heapS_some, heapN_some, gdS_tt, gdS_ff, gdS_tf, gdS_ft, gdS_undef, List.getD_cons_succ, List.getD_cons_zero, List.set_cons_succ, List.set_cons_zero, Option.bind_some, regR_some, seqR_normal, seqR_ret, seqR_exit, fin0_ret, fin0_normal, fin1_ret, fin1_normal, finN_ret, finN_normal, List.map_cons, List.map_nil, lenV_some, pickV_t, pickV_f, callV_func, extV_tup, condR_true, condR_false, blockR_normal, blockR_ret, blockR_exit, if_true, List.nil_append, List.append_nil, List.cons_append, List.getElem?_cons_zero, List.getElem?_cons_succ, loopR_normal, loopR_exit, loopR_ret, Option.map_some, ite_true, reduceIte, reg22_0, st22_0_0, reg22_1, st22_1_0, st22_1_1, st22_1_2, st22_1_3, st22_1_4, reg22_2, st22_2_0, reg22_3, st22_3_0, reg22_4, st22_4_0, st22_4_1, st22_4_2, st22_4_3, st22_4_4, st22_4_5, st22_4_6, st22_4_7, st22_4_8, st22_4_9, reg22_6, st22_6_0, st22_6_1, st22_6_2, st22_6_3, st22_6_4, st22_6_5, st22_6_6, st22_6_7, st22_6_8, reg22_7, st22_7_0, reg22_5, st22_5_0, st22_5_1, st22_5_2, reg22_8, st22_8_0, la, i_lss, d]
    exact key _ rfl
  | m + 1, i, fr, hi, hc, k => by
    have hlt : i < N.length := by omega
    have d : decide ((i : Int) < (N.length : Int)) = true := by simp; omega
    have w3 := wrap_succ i (by omega)
    have ih := fun fr hcl => same_loop A B hLb call lf m (i + 1) fr (by omega) hcl k
    have la := A.len
    have lb := B.len
    obtain ⟨ia, oa, a1, a2⟩ := A.at_ hlt
    obtain ⟨ib, ob, b1, b2⟩ := B.at_ hlt
    have q := natsEq_refl N[i]
    rw [show m + 1 + 1 + k = (m + 1 + k) + 1 by omega, loop_succ, hc]
    conv => enter [1, fr', 1, 1, 1]; unfold lp22_4
    simp (implicitDefEqProofs := false) only [C22, run_seq, run_cond, run_block, run_loop, run_exit, run_ret, run_skip, ops_cons, ops_nil, ev_tmp, pureS_some, heapS_some, heapN_some, gdS_tt, gdS_ff, gdS_tf, gdS_ft, gdS_undef, List.getD_cons_succ, List.getD_cons_zero, List.set_cons_succ, List.set_cons_zero, Option.bind_some, regR_some, seqR_normal, seqR_ret, seqR_exit, fin0_ret, fin0_normal, fin1_ret, fin1_normal, finN_ret, finN_normal, List.map_cons, List.map_nil, lenV_some, pickV_t, pickV_f, callV_func, extV_tup, condR_true, condR_false, blockR_normal, blockR_ret, blockR_exit, if_true, List.nil_append, List.append_nil, List.cons_append, List.getElem?_cons_zero, List.getElem?_cons_succ, loopR_normal, loopR_exit, loopR_ret, Option.map_some, ite_true, reduceIte, reg22_0, st22_0_0, reg22_1, st22_1_0, st22_1_1, st22_1_2, st22_1_3, st22_1_4, reg22_2, st22_2_0, reg22_3, st22_3_0, reg22_4, st22_4_0, st22_4_1, st22_4_2, st22_4_3, st22_4_4, st22_4_5, st22_4_6, st22_4_7, st22_4_8, st22_4_9, reg22_6, st22_6_0, st22_6_1, st22_6_2, st22_6_3, st22_6_4, st22_6_5, st22_6_6, st22_6_7, st22_6_8, reg22_7, st22_7_0, reg22_5, st22_5_0, st22_5_1, st22_5_2, reg22_8, st22_8_0, la, lb, i_lss, d, a1, b1, ld9, a2, b2, s_neq, q, Bool.not_true, i_add, w3]
    exact ih _ (by rw [cl22_4]; rfl)
theorem same_ok {h : AH} {a b : AV} {N : List (List Nat)} (A : Sl40 h a N) (B : Sl40 h b N) (hLb : N.length < 1000) (n : Nat) (hn : N.length + 2 ≤ n) : X (n + 1) 22 [a, b] h = some (.bool true, h) := by
  obtain ⟨k, rfl⟩ : ∃ k, n = N.length + 1 + k := ⟨n - (N.length + 1), by omega⟩
  have la := A.len
  have lb := B.len
  have q : ((N.length : Int) != (N.length : Int)) = false := by simp
  rw [ent22]
  unfold cd22
  have l' : ∀ fr, aclear (HK 22) lp22_4 fr = C22 a b 0 → fin1 (seqR (blockR 0 (aloop (arun Try.prog (HK 22) (X (N.length + 1 + k)) (N.length + 1 + k) lp22_4) (aclear (HK 22) lp22_4) (N.length + 1 + k) fr h))
      (fun fr' h' => some (.ret, fr'.set 4 (.bool true), h'))) 4 = some (.bool true, h) := fun fr hcl => by
    obtain ⟨fr', e', g⟩ := same_loop A B hLb (X (N.length + 1 + k)) (N.length + 1 + k) N.length 0 fr (by omega) hcl k
    rw [e']
    show fin1 (some (.ret, fr'.set 4 (.bool true), h)) 4 = _
    rw [fin1_ret, List.getD_eq_getElem?_getD, List.getElem?_set_self (by omega)]
    rfl
  simp (implicitDefEqProofs := false) only [run_seq, run_cond, run_block, run_loop, run_exit, run_ret, run_skip, ops_cons, ops_nil, ev_tmp, pureS_some, heapS_some, heapN_some, gdS_tt, gdS_ff, gdS_tf, gdS_ft, gdS_undef, List.getD_cons_succ, List.getD_cons_zero, List.set_cons_succ, List.set_cons_zero, Option.bind_some, regR_some, seqR_normal, seqR_ret, seqR_exit, fin0_ret, fin0_normal, fin1_ret, fin1_normal, finN_ret, finN_normal, List.map_cons, List.map_nil, lenV_some, pickV_t, pickV_f, callV_func, extV_tup, condR_true, condR_false, blockR_normal, blockR_ret, blockR_exit, if_true, List.nil_append, List.append_nil, List.cons_append, List.getElem?_cons_zero, List.getElem?_cons_succ, loopR_normal, loopR_exit, loopR_ret, Option.map_some, ite_true, reduceIte, reg22_0, st22_0_0, reg22_1, st22_1_0, st22_1_1, st22_1_2, st22_1_3, st22_1_4, reg22_2, st22_2_0, reg22_3, st22_3_0, reg22_4, st22_4_0, st22_4_1, st22_4_2, st22_4_3, st22_4_4, st22_4_5, st22_4_6, st22_4_7, st22_4_8, st22_4_9, reg22_6, st22_6_0, st22_6_1, st22_6_2, st22_6_3, st22_6_4, st22_6_5, st22_6_6, st22_6_7, st22_6_8, reg22_7, st22_7_0, reg22_5, st22_5_0, st22_5_1, st22_5_2, reg22_8, st22_8_0, la, lb, i_neq, q]
  exact l' _ (by rw [cl22_4]; rfl)
end Go.Proofs.Ytgnacecplaemlaa
