/-
  Count.
-/
import Derived.Test.YtgnacecplaemlaaW4
namespace Go.Proofs.Ytgnacecplaemlaa
open AI
set_option linter.unusedSimpArgs false
theorem wrap_eq {a : Int} {n : Nat} (h : a = (n : Int)) (hn : n < 4611686018427387904) : IntKind.i64.wrap a = (n : Int) := by rw [h]; exact wrap_nat n hn
theorem cntN_append (a b : List Nd) : cntN (a ++ b) = cntN a + cntN b := by
  induction a with
  | nil => simp [cntN]
  | cons x a ih => simp only [List.cons_append, cntN, ih]; omega
theorem cntW_append (a b : List Wd) : cntW (a ++ b) = cntW a + cntW b := by
  induction a with
  | nil => simp [cntW]
  | cons x a ih => cases x; simp only [List.cons_append, cntW, ih]; omega
theorem cntR_append (a b : List Rdr) : cntR (a ++ b) = cntR a + cntR b := by
  induction a with
  | nil => simp [cntR]
  | cons x a ih => cases x; simp only [List.cons_append, cntR, ih]; omega
theorem cntM_append (a b : List Am) : cntM (a ++ b) = cntM a + cntM b := by
  induction a with
  | nil => simp [cntM]
  | cons x a ih => cases x; simp only [List.cons_append, cntM, ih]; omega
theorem szN_take (l : List Nd) (i : Nat) : szN (l.take i) ≤ szN l := by
  induction l generalizing i with
  | nil => simp [szN]
  | cons p l ih => cases i with
    | zero => simp [szN]
    | succ i => have := ih i; simp only [List.take_succ_cons, szN]; omega
theorem szW_take (l : List Wd) (i : Nat) : szW (l.take i) ≤ szW l := by
  induction l generalizing i with
  | nil => simp [szW]
  | cons p l ih => cases i with
    | zero => simp [szW]
    | succ i => have := ih i; simp only [List.take_succ_cons, szW]; omega
theorem szR_take (l : List Rdr) (i : Nat) : szR (l.take i) ≤ szR l := by
  induction l generalizing i with
  | nil => simp [szR]
  | cons p l ih => cases i with
    | zero => simp [szR]
    | succ i => have := ih i; simp only [List.take_succ_cons, szR]; omega
theorem szM_take (l : List Am) (i : Nat) : szM (l.take i) ≤ szM l := by
  induction l generalizing i with
  | nil => simp [szM]
  | cons p l ih => cases i with
    | zero => simp [szM]
    | succ i => have := ih i; simp only [List.take_succ_cons, szM]; omega

def sumC (L : List (AV × List Nd)) : Nat := (L.map fun c => cntN c.2).sum
theorem sumC_nil : sumC [] = 0 := rfl
theorem sumC_append (a b : List (AV × List Nd)) : sumC (a ++ b) = sumC a + sumC b := by simp [sumC]
theorem sumC_one (c : AV × List Nd) : sumC [c] = cntN c.2 := by simp [sumC]

structure CntFam (N : Nat) : Prop where
  one : ∀ {h : AH} {T : Nd}, T.sz ≤ N → T.sz ≤ 1048576 → T.ok h → ∀ n, 4 * T.sz + 4 ≤ n → X n (.func 27) [.agg T.cells] h = some (.int .i64 (T.cnt : Int), h)
  all : ∀ {h : AH} {s : AV} {l : List Nd}, szN l ≤ N → szN l ≤ 1048576 → okN h l → Sl h s 10 (l.map Nd.cells) → ∀ n, 4 * szN l + 5 ≤ n → X n (.func 49) [s] h = some (.int .i64 (cntN l : Int), h)
  wds : ∀ {h : AH} {s : AV} {l : List Wd}, szW l ≤ N → szW l ≤ 1048576 → okW h l → Sl h s 1 (l.map Wd.cells) → ∀ n, 4 * szW l + 6 ≤ n → X n (.func 50) [s] h = some (.int .i64 (cntW l : Int), h)

theorem count49 {N : Nat} (one : ∀ {h : AH} {T : Nd}, T.sz ≤ N → T.sz ≤ 1048576 → T.ok h → ∀ n, 4 * T.sz + 4 ≤ n → X n (.func 27) [.agg T.cells] h = some (.int .i64 (T.cnt : Int), h))
    {h : AH} {s : AV} {l : List Nd} (hN : szN l ≤ N) (hb : szN l ≤ 1048576) (hv : okN h l) (S : Sl h s 10 (l.map Nd.cells)) (n : Nat) (hn : 4 * szN l + 5 ≤ n) : X n (.func 49) [s] h = some (.int .i64 (cntN l : Int), h) := by
  obtain ⟨m, rfl⟩ : ∃ m, n = m + 1 := ⟨n - 1, by omega⟩
  have hlen := szN_len l
  have hl : alen Try.prog 47 s = some l.length := by rw [S.alen u47, List.length_map]
  rw [ent49]
  unfold cd49
  simp (implicitDefEqProofs := false) only [run_seq, run_cond, opsS_cons, opsS_nil, sameH_f, sameH_t, run_block, run_loop, run_exit, run_ret, run_skip, ops_cons, ops_nil, ev_tmp, pureS_some, heapS_some, heapN_some, gdS_tt, gdS_ff, gdS_tf, gdS_ft, gdS_undef, List.getD_cons_succ, List.getD_cons_zero, List.set_cons_succ, List.set_cons_zero, Option.bind_some, regR_some, seqR_normal, seqR_ret, seqR_exit, fin0_ret, fin0_normal, fin1_ret, fin1_normal, finN_ret, finN_normal, List.map_cons, List.map_nil, lenV_some, pickV_t, pickV_f, callV_func, callV_yield, extV_tup, condR_true, condR_false, blockR_normal, blockR_ret, blockR_exit, if_true, List.nil_append, List.append_nil, List.cons_append, List.getElem?_cons_zero, List.getElem?_cons_succ, loopR_normal, loopR_exit, loopR_ret, Option.map_some, ite_true, reduceIte, reg49_0, st49_0_0, reg49_1, st49_1_0, reg49_2, st49_2_0, reg49_3, st49_3_0, st49_3_1, st49_3_2, st49_3_3, reg49_5, st49_5_0, st49_5_1, st49_5_2, st49_5_3, st49_5_4, st49_5_5, st49_5_6, st49_5_7, reg49_4, st49_4_0, st49_4_1, st49_4_2, reg49_6, st49_6_0, st49_6_1]
  generalize hr : aloop _ _ _ _ _ = r
  revert r hr
  refine loop_all l.length (fun i h' fr => h' = h ∧ fr = C49_3 s (.int .i64 (cntN (l.take i) : Int)) (.int .i64 (i : Int))) ?_ ?_ ⟨rfl, by rw [cl49_3]; simp [cntN]⟩ (by omega)
  · rintro i h' fr hi ⟨rfl, e⟩ k hk
    have hm : l[i]? = some l[i] := List.getElem?_eq_getElem hi
    have htk := take_next hi
    have hmem : l[i] ∈ l := List.getElem_mem hi
    have hx : (l.map Nd.cells)[i]? = some l[i].cells := by rw [List.getElem?_map, hm]; rfl
    obtain ⟨id, off, i1, H⟩ := S.ix u47 z49 hx
    have hsz := szN_mem hmem
    have hok := okN_mem hv _ hmem
    have htl := szN_take l i
    have hc1 := cntN_le (l.take i)
    have hc2 := l[i].cnt_le
    generalize l[i] = x at *
    have d : decide ((i : Int) < (l.length : Int)) = true := by simp; omega
    have w := wrap_succ i (by omega)
    have e1 := one (h := h') (T := x) (by omega) (by omega) hok m (by omega)
    have w2 : IntKind.i64.wrap ((cntN (l.take i) : Int) + (x.cnt : Int)) = ((cntN (l.take (i + 1)) : Nat) : Int) := wrap_eq (by rw [htk, cntN_append]; simp [cntN]) (by rw [htk, cntN_append]; simp only [cntN]; omega)
    have r1 := ldS H x.cells_len
    rw [e]
    unfold C49_3 lp49_3
    simp (implicitDefEqProofs := false) only [run_seq, run_cond, opsS_cons, opsS_nil, sameH_f, sameH_t, run_block, run_loop, run_exit, run_ret, run_skip, ops_cons, ops_nil, ev_tmp, pureS_some, heapS_some, heapN_some, gdS_tt, gdS_ff, gdS_tf, gdS_ft, gdS_undef, List.getD_cons_succ, List.getD_cons_zero, List.set_cons_succ, List.set_cons_zero, Option.bind_some, regR_some, seqR_normal, seqR_ret, seqR_exit, fin0_ret, fin0_normal, fin1_ret, fin1_normal, finN_ret, finN_normal, List.map_cons, List.map_nil, lenV_some, pickV_t, pickV_f, callV_func, callV_yield, extV_tup, condR_true, condR_false, blockR_normal, blockR_ret, blockR_exit, if_true, List.nil_append, List.append_nil, List.cons_append, List.getElem?_cons_zero, List.getElem?_cons_succ, loopR_normal, loopR_exit, loopR_ret, Option.map_some, ite_true, reduceIte, reg49_0, st49_0_0, reg49_1, st49_1_0, reg49_2, st49_2_0, reg49_3, st49_3_0, st49_3_1, st49_3_2, st49_3_3, reg49_5, st49_5_0, st49_5_1, st49_5_2, st49_5_3, st49_5_4, st49_5_5, st49_5_6, st49_5_7, reg49_4, st49_4_0, st49_4_1, st49_4_2, reg49_6, st49_6_0, st49_6_1, hl, i_lss, d, i1, ld49, r1, e1, i_add, w, w2]
    exact hk _ _ ⟨rfl, by rw [cl49_3]⟩
  · rintro h' fr ⟨rfl, e⟩ k
    have d : decide ((l.length : Int) < (l.length : Int)) = false := by simp
    rw [e]
    unfold C49_3 lp49_3
    simp (implicitDefEqProofs := false) only [run_seq, run_cond, opsS_cons, opsS_nil, sameH_f, sameH_t, run_block, run_loop, run_exit, run_ret, run_skip, ops_cons, ops_nil, ev_tmp, pureS_some, heapS_some, heapN_some, gdS_tt, gdS_ff, gdS_tf, gdS_ft, gdS_undef, List.getD_cons_succ, List.getD_cons_zero, List.set_cons_succ, List.set_cons_zero, Option.bind_some, regR_some, seqR_normal, seqR_ret, seqR_exit, fin0_ret, fin0_normal, fin1_ret, fin1_normal, finN_ret, finN_normal, List.map_cons, List.map_nil, lenV_some, pickV_t, pickV_f, callV_func, callV_yield, extV_tup, condR_true, condR_false, blockR_normal, blockR_ret, blockR_exit, if_true, List.nil_append, List.append_nil, List.cons_append, List.getElem?_cons_zero, List.getElem?_cons_succ, loopR_normal, loopR_exit, loopR_ret, Option.map_some, ite_true, reduceIte, reg49_0, st49_0_0, reg49_1, st49_1_0, reg49_2, st49_2_0, reg49_3, st49_3_0, st49_3_1, st49_3_2, st49_3_3, reg49_5, st49_5_0, st49_5_1, st49_5_2, st49_5_3, st49_5_4, st49_5_5, st49_5_6, st49_5_7, reg49_4, st49_4_0, st49_4_1, st49_4_2, reg49_6, st49_6_0, st49_6_1, hl, i_lss, d]
    rw [List.take_length]
    exact nrm_flat (Other.refl _ _) rfl

theorem count50 {N : Nat} (all : ∀ {h : AH} {s : AV} {l : List Nd}, szN l ≤ N → szN l ≤ 1048576 → okN h l → Sl h s 10 (l.map Nd.cells) → ∀ n, 4 * szN l + 5 ≤ n → X n (.func 49) [s] h = some (.int .i64 (cntN l : Int), h))
    {h : AH} {s : AV} {l : List Wd} (hN : szW l ≤ N) (hb : szW l ≤ 1048576) (hv : okW h l) (S : Sl h s 1 (l.map Wd.cells)) (n : Nat) (hn : 4 * szW l + 6 ≤ n) : X n (.func 50) [s] h = some (.int .i64 (cntW l : Int), h) := by
  obtain ⟨m, rfl⟩ : ∃ m, n = m + 1 := ⟨n - 1, by omega⟩
  have hlen := szW_len l
  have hl : alen Try.prog 44 s = some l.length := by rw [S.alen u44, List.length_map]
  rw [ent50]
  unfold cd50
  simp (implicitDefEqProofs := false) only [run_seq, run_cond, opsS_cons, opsS_nil, sameH_f, sameH_t, run_block, run_loop, run_exit, run_ret, run_skip, ops_cons, ops_nil, ev_tmp, pureS_some, heapS_some, heapN_some, gdS_tt, gdS_ff, gdS_tf, gdS_ft, gdS_undef, List.getD_cons_succ, List.getD_cons_zero, List.set_cons_succ, List.set_cons_zero, Option.bind_some, regR_some, seqR_normal, seqR_ret, seqR_exit, fin0_ret, fin0_normal, fin1_ret, fin1_normal, finN_ret, finN_normal, List.map_cons, List.map_nil, lenV_some, pickV_t, pickV_f, callV_func, callV_yield, extV_tup, condR_true, condR_false, blockR_normal, blockR_ret, blockR_exit, if_true, List.nil_append, List.append_nil, List.cons_append, List.getElem?_cons_zero, List.getElem?_cons_succ, loopR_normal, loopR_exit, loopR_ret, Option.map_some, ite_true, reduceIte, reg50_0, st50_0_0, reg50_1, st50_1_0, reg50_2, st50_2_0, reg50_3, st50_3_0, st50_3_1, st50_3_2, st50_3_3, reg50_5, st50_5_0, st50_5_1, st50_5_2, st50_5_3, st50_5_4, st50_5_5, st50_5_6, reg50_6, st50_6_0, reg50_7, st50_7_0, st50_7_1, st50_7_2, st50_7_3, reg50_9, st50_9_0, st50_9_1, st50_9_2, st50_9_3, st50_9_4, st50_9_5, st50_9_6, st50_9_7, reg50_8, st50_8_0, st50_8_1, st50_8_2, reg50_4, st50_4_0, st50_4_1, st50_4_2, reg50_10, st50_10_0, st50_10_1]
  generalize hr : aloop _ _ _ _ _ = r
  revert r hr
  refine loop_all l.length (fun i h' fr => Quiet h h' ∧ fr = C50_3 s (.int .i64 (cntW (l.take i) : Int)) (.int .i64 (i : Int))) ?_ ?_ ⟨Other.refl _ _, by rw [cl50_3]; simp [cntW]⟩ (by omega)
  · rintro i h' fr hi ⟨q, e⟩ k hk
    have hm : l[i]? = some l[i] := List.getElem?_eq_getElem hi
    have htk := take_next hi
    have hmem : l[i] ∈ l := List.getElem_mem hi
    have hx : (l.map Wd.cells)[i]? = some l[i].cells := by rw [List.getElem?_map, hm]; rfl
    obtain ⟨id, off, i1, H⟩ := S.ix u44 z60 hx
    have hsz := szW_mem hmem
    have hok := okW_mem hv _ hmem
    have htl := szW_take l i
    have hc1 := cntW_le (l.take i)
    generalize l[i] = x at *
    obtain ⟨ps, parts⟩ := x
    simp only [Wd.ok] at hok
    simp only [Wd.sz] at hsz
    have hc2 := cntP_le parts
    have hok' := okP.quiet q hok.2
    obtain ⟨s2, h2, r1, r2, r3⟩ := cmds67 (szP parts) (h := h') (s := ps) (ps := parts) (Nat.le_refl _) (by omega) hok' (hok.1.quiet q) m (by omega)
    have hl2 : alen Try.prog 89 s2 = some (cmds parts).length := by rw [r2.alen u89, List.length_map]
    have d : decide ((i : Int) < (l.length : Int)) = true := by simp; omega
    have w := wrap_succ i (by omega)
    have c0 : h'.cell? id (off + 0) = some ps := (H.quiet q).cell (i := 0) rfl
    have hcl := cmds_len parts
    have hsum : sumC (cmds parts) = cntP parts := cnt_cmds parts
    have hc3 := cntW_le (l.take (i + 1))
    rw [htk, cntW_append] at hc3
    simp only [cntW] at hc3
    have htl3 := szW_take l (i + 1)
    rw [htk] at htl3
    rw [e]
    unfold C50_3 lp50_3
    simp (implicitDefEqProofs := false) only [run_seq, run_cond, opsS_cons, opsS_nil, sameH_f, sameH_t, run_block, run_loop, run_exit, run_ret, run_skip, ops_cons, ops_nil, ev_tmp, pureS_some, heapS_some, heapN_some, gdS_tt, gdS_ff, gdS_tf, gdS_ft, gdS_undef, List.getD_cons_succ, List.getD_cons_zero, List.set_cons_succ, List.set_cons_zero, Option.bind_some, regR_some, seqR_normal, seqR_ret, seqR_exit, fin0_ret, fin0_normal, fin1_ret, fin1_normal, finN_ret, finN_normal, List.map_cons, List.map_nil, lenV_some, pickV_t, pickV_f, callV_func, callV_yield, extV_tup, condR_true, condR_false, blockR_normal, blockR_ret, blockR_exit, if_true, List.nil_append, List.append_nil, List.cons_append, List.getElem?_cons_zero, List.getElem?_cons_succ, loopR_normal, loopR_exit, loopR_ret, Option.map_some, ite_true, reduceIte, reg50_0, st50_0_0, reg50_1, st50_1_0, reg50_2, st50_2_0, reg50_3, st50_3_0, st50_3_1, st50_3_2, st50_3_3, reg50_5, st50_5_0, st50_5_1, st50_5_2, st50_5_3, st50_5_4, st50_5_5, st50_5_6, reg50_6, st50_6_0, reg50_7, st50_7_0, st50_7_1, st50_7_2, st50_7_3, reg50_9, st50_9_0, st50_9_1, st50_9_2, st50_9_3, st50_9_4, st50_9_5, st50_9_6, st50_9_7, reg50_8, st50_8_0, st50_8_1, st50_8_2, reg50_4, st50_4_0, st50_4_1, st50_4_2, reg50_10, st50_10_0, st50_10_1, hl, i_lss, d, i1, fa60_0, ld58, c0, r1]
    generalize hr2 : aloop _ _ _ _ _ = r
    revert r hr2
    refine loop_all (cmds parts).length (fun j h3 fr => h3 = h2 ∧ fr = C50_7 s (.int .i64 ((cntW (l.take i) + sumC ((cmds parts).take j) : Nat) : Int)) (.int .i64 (i : Int)) s2 (.int .i64 (j : Int))) ?_ ?_ ⟨rfl, by rw [cl50_7, List.take_zero, sumC_nil]; rfl⟩ (by omega)
    · rintro j h3 fr hj ⟨rfl, e⟩ k2 hk2
      have hm2 : (cmds parts)[j]? = some (cmds parts)[j] := List.getElem?_eq_getElem hj
      have htk2 := take_next hj
      have hmem2 : (cmds parts)[j] ∈ cmds parts := List.getElem_mem hj
      have hx2 : ((cmds parts).map fun c => [c.1])[j]? = some [(cmds parts)[j].1] := by rw [List.getElem?_map, hm2]; rfl
      obtain ⟨id2, off2, i2, H2⟩ := r2.ix u89 z47 hx2
      obtain ⟨v1, v2, v3⟩ := cmds_ok hok' _ hmem2
      have hle : sumC ((cmds parts).take j) + cntN (cmds parts)[j].2 ≤ cntP parts := by
        rw [← hsum]
        conv => rhs; rw [← List.take_append_drop (j + 1) (cmds parts), htk2, sumC_append, sumC_append, sumC_one]
        omega
      generalize (cmds parts)[j] = y at *
      have e1 := all (h := h3) (s := y.1) (l := y.2) (by omega) (by omega) (okN.quiet r3 v2) (v1.quiet r3) m (by omega)
      have d2 : decide ((j : Int) < ((cmds parts).length : Int)) = true := by simp; omega
      have w2 := wrap_succ j (by omega)
      have w3 : IntKind.i64.wrap (((cntW (l.take i) + sumC ((cmds parts).take j) : Nat) : Int) + (cntN y.2 : Int)) = ((cntW (l.take i) + sumC ((cmds parts).take (j + 1)) : Nat) : Int) :=
        wrap_eq (by rw [htk2, sumC_append, sumC_one]; omega) (by rw [htk2, sumC_append, sumC_one]; omega)
      have c1 : h3.cell? id2 off2 = some y.1 := by have := H2.cell (i := 0) rfl; rwa [Nat.add_zero] at this
      rw [e]
      unfold C50_7 lp50_7
      simp (implicitDefEqProofs := false) only [run_seq, run_cond, opsS_cons, opsS_nil, sameH_f, sameH_t, run_block, run_loop, run_exit, run_ret, run_skip, ops_cons, ops_nil, ev_tmp, pureS_some, heapS_some, heapN_some, gdS_tt, gdS_ff, gdS_tf, gdS_ft, gdS_undef, List.getD_cons_succ, List.getD_cons_zero, List.set_cons_succ, List.set_cons_zero, Option.bind_some, regR_some, seqR_normal, seqR_ret, seqR_exit, fin0_ret, fin0_normal, fin1_ret, fin1_normal, finN_ret, finN_normal, List.map_cons, List.map_nil, lenV_some, pickV_t, pickV_f, callV_func, callV_yield, extV_tup, condR_true, condR_false, blockR_normal, blockR_ret, blockR_exit, if_true, List.nil_append, List.append_nil, List.cons_append, List.getElem?_cons_zero, List.getElem?_cons_succ, loopR_normal, loopR_exit, loopR_ret, Option.map_some, ite_true, reduceIte, reg50_0, st50_0_0, reg50_1, st50_1_0, reg50_2, st50_2_0, reg50_3, st50_3_0, st50_3_1, st50_3_2, st50_3_3, reg50_5, st50_5_0, st50_5_1, st50_5_2, st50_5_3, st50_5_4, st50_5_5, st50_5_6, reg50_6, st50_6_0, reg50_7, st50_7_0, st50_7_1, st50_7_2, st50_7_3, reg50_9, st50_9_0, st50_9_1, st50_9_2, st50_9_3, st50_9_4, st50_9_5, st50_9_6, st50_9_7, reg50_8, st50_8_0, st50_8_1, st50_8_2, reg50_4, st50_4_0, st50_4_1, st50_4_2, reg50_10, st50_10_0, st50_10_1, hl2, i_lss, d2, i2, ld47, c1, e1, i_add, w2, w3]
      exact hk2 _ _ ⟨rfl, by rw [cl50_7]⟩
    · rintro h3 fr ⟨rfl, e⟩ k2
      have d2 : decide (((cmds parts).length : Int) < ((cmds parts).length : Int)) = false := by simp
      have w3 : cntW (l.take i) + sumC ((cmds parts).take (cmds parts).length) = cntW (l.take (i + 1)) := by
        rw [List.take_length, hsum, htk, cntW_append]; simp [cntW]
      rw [e, w3]
      unfold C50_7 lp50_7
      simp (implicitDefEqProofs := false) only [run_seq, run_cond, opsS_cons, opsS_nil, sameH_f, sameH_t, run_block, run_loop, run_exit, run_ret, run_skip, ops_cons, ops_nil, ev_tmp, pureS_some, heapS_some, heapN_some, gdS_tt, gdS_ff, gdS_tf, gdS_ft, gdS_undef, List.getD_cons_succ, List.getD_cons_zero, List.set_cons_succ, List.set_cons_zero, Option.bind_some, regR_some, seqR_normal, seqR_ret, seqR_exit, fin0_ret, fin0_normal, fin1_ret, fin1_normal, finN_ret, finN_normal, List.map_cons, List.map_nil, lenV_some, pickV_t, pickV_f, callV_func, callV_yield, extV_tup, condR_true, condR_false, blockR_normal, blockR_ret, blockR_exit, if_true, List.nil_append, List.append_nil, List.cons_append, List.getElem?_cons_zero, List.getElem?_cons_succ, loopR_normal, loopR_exit, loopR_ret, Option.map_some, ite_true, reduceIte, reg50_0, st50_0_0, reg50_1, st50_1_0, reg50_2, st50_2_0, reg50_3, st50_3_0, st50_3_1, st50_3_2, st50_3_3, reg50_5, st50_5_0, st50_5_1, st50_5_2, st50_5_3, st50_5_4, st50_5_5, st50_5_6, reg50_6, st50_6_0, reg50_7, st50_7_0, st50_7_1, st50_7_2, st50_7_3, reg50_9, st50_9_0, st50_9_1, st50_9_2, st50_9_3, st50_9_4, st50_9_5, st50_9_6, st50_9_7, reg50_8, st50_8_0, st50_8_1, st50_8_2, reg50_4, st50_4_0, st50_4_1, st50_4_2, reg50_10, st50_10_0, st50_10_1, hl2, i_lss, d2, i_add, w]
      exact hk _ _ ⟨q.trans r3, by rw [cl50_3]⟩
  · rintro h' fr ⟨q, e⟩ k
    have d : decide ((l.length : Int) < (l.length : Int)) = false := by simp
    rw [e]
    unfold C50_3 lp50_3
    simp (implicitDefEqProofs := false) only [run_seq, run_cond, opsS_cons, opsS_nil, sameH_f, sameH_t, run_block, run_loop, run_exit, run_ret, run_skip, ops_cons, ops_nil, ev_tmp, pureS_some, heapS_some, heapN_some, gdS_tt, gdS_ff, gdS_tf, gdS_ft, gdS_undef, List.getD_cons_succ, List.getD_cons_zero, List.set_cons_succ, List.set_cons_zero, Option.bind_some, regR_some, seqR_normal, seqR_ret, seqR_exit, fin0_ret, fin0_normal, fin1_ret, fin1_normal, finN_ret, finN_normal, List.map_cons, List.map_nil, lenV_some, pickV_t, pickV_f, callV_func, callV_yield, extV_tup, condR_true, condR_false, blockR_normal, blockR_ret, blockR_exit, if_true, List.nil_append, List.append_nil, List.cons_append, List.getElem?_cons_zero, List.getElem?_cons_succ, loopR_normal, loopR_exit, loopR_ret, Option.map_some, ite_true, reduceIte, reg50_0, st50_0_0, reg50_1, st50_1_0, reg50_2, st50_2_0, reg50_3, st50_3_0, st50_3_1, st50_3_2, st50_3_3, reg50_5, st50_5_0, st50_5_1, st50_5_2, st50_5_3, st50_5_4, st50_5_5, st50_5_6, reg50_6, st50_6_0, reg50_7, st50_7_0, st50_7_1, st50_7_2, st50_7_3, reg50_9, st50_9_0, st50_9_1, st50_9_2, st50_9_3, st50_9_4, st50_9_5, st50_9_6, st50_9_7, reg50_8, st50_8_0, st50_8_1, st50_8_2, reg50_4, st50_4_0, st50_4_1, st50_4_2, reg50_10, st50_10_0, st50_10_1, hl, i_lss, d]
    rw [List.take_length]
    exact nrm_flat q rfl
end Go.Proofs.Ytgnacecplaemlaa
