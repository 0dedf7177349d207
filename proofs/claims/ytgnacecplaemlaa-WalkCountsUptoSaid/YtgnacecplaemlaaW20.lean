/-
  The law of the counts, and the statement's function.
-/
import Derived.Test.YtgnacecplaemlaaW19
namespace Go.Proofs.Ytgnacecplaemlaa
open AI
set_option linter.unusedSimpArgs false
theorem sum_flatMap {α β : Type} (g : β → Nat) (f : α → List β) (l : List α) : ((l.flatMap f).map g).sum = (l.map fun a => ((f a).map g).sum).sum := by
  induction l with
  | nil => rfl
  | cons a l ih => simp only [List.flatMap_cons, List.map_append, List.sum_append, ih, List.map_cons, List.sum_cons]
theorem sum_cnt (l : List Nd) : (l.map Nd.cnt).sum = cntN l := by
  induction l with
  | nil => simp [cntN]
  | cons a l ih => simp only [List.map_cons, List.sum_cons, ih, cntN]
theorem Wd.cmds_cnt (w : Wd) : (w.cmds.map Nd.cnt).sum = cntP w.ps := by
  unfold Wd.cmds
  rw [sum_flatMap, ← cnt_cmds]
  congr 2
  funext c
  exact sum_cnt c.2
def cntWs (l : List Wd) : Nat := (l.map fun w => cntP w.ps).sum
theorem cntWs_append (a b : List Wd) : cntWs (a ++ b) = cntWs a + cntWs b := by simp [cntWs]
theorem cntWs_eq (l : List Wd) : cntWs l = cntW l := by
  induction l with
  | nil => simp [cntWs, cntW]
  | cons w l ih => cases w; simp only [cntWs, List.map_cons, List.sum_cons, cntW, Wd.ps] at *; omega
theorem cntR_eq (l : List Rdr) : cntWs (l.map Rdr.to) = cntR l := by
  induction l with
  | nil => simp [cntWs, cntR]
  | cons w l ih => cases w; simp only [cntWs, List.map_cons, List.sum_cons, cntR, Wd.ps, Rdr.to] at *; omega
theorem cntM_eq (l : List Am) : cntWs (l.flatMap Am.pats) + ((l.map Am.body).map Nd.cnt).sum = cntM l := by
  induction l with
  | nil => simp [cntWs, cntM]
  | cons w l ih =>
    obtain ⟨s, pats, body⟩ := w
    have e := cntWs_append pats (l.flatMap Am.pats)
    have e2 := cntWs_eq pats
    simp only [List.flatMap_cons, List.map_cons, List.sum_cons, cntM, Am.pats, Am.body]
    omega
theorem cmds_cntWs (l : List Wd) : ((l.flatMap Wd.cmds).map Nd.cnt).sum = cntWs l := by
  rw [sum_flatMap]
  unfold cntWs
  congr 2
  funext w
  exact w.cmds_cnt
theorem Nd.under_cnt (n : Nd) : (n.under.map Nd.cnt).sum + 1 = n.cnt := by
  have e : n.under = n.own.flatMap Wd.cmds ++ n.arms.map Am.body ++ n.kids := rfl
  rw [e, List.map_append, List.map_append, List.sum_append, List.sum_append, cmds_cntWs, sum_cnt n.kids]
  cases n with
  | mk k name nt inn so ops sa az sw ws sr rs sm ms sk kids =>
    have h0 : cntWs (Nd.own (.mk k name nt inn so ops sa az sw ws sr rs sm ms sk kids)) = cntWs az + cntWs ws + cntWs (rs.map Rdr.to) + cntWs (ms.flatMap Am.pats) := by
      simp only [Nd.own]
      rw [cntWs_append, cntWs_append, cntWs_append]
    have h1 := cntWs_eq az
    have h2 := cntWs_eq ws
    have h3 := cntR_eq rs
    have h4 := cntM_eq ms
    simp only [Nd.kids, Nd.arms, Nd.cnt]
    omega
theorem all_len : ∀ (M : Nat) {n : Nd}, n.sz ≤ M → n.all.length = n.cnt := by
  intro M
  induction M with
  | zero => intro n hm; have := n.sz_pos; omega
  | succ M ih =>
    intro n hm
    rw [Nd.all_eq, List.length_cons, List.length_flatMap, ← n.under_cnt]
    congr 2
    refine List.map_congr_left fun x hx => ?_
    exact ih (by have := Nd.under_sz hx; omega)
theorem counts6 {h : AH} {T : Nd} (hb : T.sz ≤ 1048576) (hv : T.ok h) (n : Nat) (hn : 16 * T.sz + 40 ≤ n) : X n (.func 6) [.agg T.cells] h = some (.bool true, h) := by
  obtain ⟨m, rfl⟩ : ∃ m, n = m + 2 := ⟨n - 2, by omega⟩
  have hal := all_len _ (Nat.le_refl T.sz)
  have hcs := T.cnt_le
  have q1 : Quiet h (h.alloc T.cells) := Other.alloc _ _ _
  have H1 := Has.new h T.cells
  have bx : boxV (.agg T.cells) h = some (.ptr h.next 0, h.alloc T.cells) := box_agg h T.cells
  rw [ent6]
  unfold cd6
  generalize h.alloc T.cells = h1 at *
  have r1 := ldS H1 (n := 10) T.cells_len
  obtain ⟨u, hu⟩ := much_ok hb (hv.quiet q1) (m + 1) (by omega)
  have hcn := count_ok hb (hv.quiet q1) (m + 1) (by omega)
  cases hd : decide (u > 400) with
  | true =>
    simp (implicitDefEqProofs := false) only [run_seq, run_cond, opsS_cons, opsS_nil, sameH_f, sameH_t, run_block, run_loop, run_exit, run_ret, run_skip, ops_cons, ops_nil, ev_tmp, pureS_some, heapS_some, heapN_some, gdS_tt, gdS_ff, gdS_tf, gdS_ft, gdS_undef, List.getD_cons_succ, List.getD_cons_zero, List.set_cons_succ, List.set_cons_zero, Option.bind_some, regR_some, seqR_normal, seqR_ret, seqR_exit, fin0_ret, fin0_normal, fin1_ret, fin1_normal, finN_ret, finN_normal, List.map_cons, List.map_nil, lenV_some, pickV_t, pickV_f, callV_func, callV_yield, extV_tup, condR_true, condR_false, blockR_normal, blockR_ret, blockR_exit, if_true, List.nil_append, List.append_nil, List.cons_append, List.getElem?_cons_zero, List.getElem?_cons_succ, loopR_normal, loopR_exit, loopR_ret, Option.map_some, ite_true, reduceIte, reg6_0, st6_0_0, st6_0_1, reg6_1, st6_1_0, st6_1_1, st6_1_2, reg6_2, st6_2_0, st6_2_1, reg6_3, st6_3_0, st6_3_1, st6_3_2, reg6_4, st6_4_0, st6_4_1, st6_4_2, st6_4_3, st6_4_4, st6_4_5, st6_4_6, st6_4_7, st6_4_8, st6_4_9, st6_4_10, st6_4_11, st6_4_12, st6_4_13, st6_4_14, st6_4_15, st6_4_16, st6_4_17, st6_4_18, st6_4_19, st6_4_20, st6_4_21, st6_4_22, st6_4_23, st6_4_24, st6_4_25, st6_4_26, st6_4_27, st6_4_28, bx, ld49, r1, hu, i_gtr, hd, X_awake]
    exact nrm_flat q1 rfl
  | false =>
    have w5 := wrap_add T.cnt 5 (by omega)
    have w5 : IntKind.i64.wrap ((T.cnt : Int) + 5) = ((T.cnt + 5 : Nat) : Int) := w5
    obtain ⟨s2, h2, g1, g2, g3, g4⟩ := nodes28 (most := T.cnt + 5) hb (by omega) (by omega) (hv.quiet q1) (m + 1) (by omega)
    have hl2 : alen Try.prog 47 s2 = some T.cnt := by rw [g2.alen u47, List.length_map, List.take_of_length_le (by omega), hal]
    have r2 := ldS (H1.quiet g3) (n := 10) T.cells_len
    have q2 : Quiet h h2 := q1.trans g3
    have hdp := deep29 _ (Nat.le_refl T.sz) hb (hv.quiet q2) (m + 1) (by omega)
    have hd1 := Nd.deep_le _ (Nat.le_refl T.sz)
    have hd2 := T.deep_eq
    obtain ⟨s3, h3, c1, c2, c3, c4⟩ := calls30 hb (by omega) (hv.quiet q2) (m + 1) (by omega)
    have hl3 : alen Try.prog 40 s3 = some (T.all.filterMap Nd.call).length := by rw [c2.alen u40, List.length_map]
    have hl4 := List.length_filterMap_le Nd.call T.all
    have e1 : ((T.cnt : Int) == (T.cnt : Int)) = true := by simp
    have e2 : decide ((T.deep : Int) ≤ (T.cnt : Int)) = true := by simp; omega
    have e3 : decide ((T.deep : Int) ≥ 1) = true := by simp; omega
    have e4 : decide (((T.all.filterMap Nd.call).length : Int) ≤ (T.cnt : Int)) = true := by simp; omega
    simp (implicitDefEqProofs := false) only [run_seq, run_cond, opsS_cons, opsS_nil, sameH_f, sameH_t, run_block, run_loop, run_exit, run_ret, run_skip, ops_cons, ops_nil, ev_tmp, pureS_some, heapS_some, heapN_some, gdS_tt, gdS_ff, gdS_tf, gdS_ft, gdS_undef, List.getD_cons_succ, List.getD_cons_zero, List.set_cons_succ, List.set_cons_zero, Option.bind_some, regR_some, seqR_normal, seqR_ret, seqR_exit, fin0_ret, fin0_normal, fin1_ret, fin1_normal, finN_ret, finN_normal, List.map_cons, List.map_nil, lenV_some, pickV_t, pickV_f, callV_func, callV_yield, extV_tup, condR_true, condR_false, blockR_normal, blockR_ret, blockR_exit, if_true, List.nil_append, List.append_nil, List.cons_append, List.getElem?_cons_zero, List.getElem?_cons_succ, loopR_normal, loopR_exit, loopR_ret, Option.map_some, ite_true, reduceIte, reg6_0, st6_0_0, st6_0_1, reg6_1, st6_1_0, st6_1_1, st6_1_2, reg6_2, st6_2_0, st6_2_1, reg6_3, st6_3_0, st6_3_1, st6_3_2, reg6_4, st6_4_0, st6_4_1, st6_4_2, st6_4_3, st6_4_4, st6_4_5, st6_4_6, st6_4_7, st6_4_8, st6_4_9, st6_4_10, st6_4_11, st6_4_12, st6_4_13, st6_4_14, st6_4_15, st6_4_16, st6_4_17, st6_4_18, st6_4_19, st6_4_20, st6_4_21, st6_4_22, st6_4_23, st6_4_24, st6_4_25, st6_4_26, st6_4_27, st6_4_28, bx, ld49, r1, hu, i_gtr, hd, hcn, i_add, w5, g1, hl2, i_eql, e1, r2, hdp, i_leq, i_geq, e2, e3, c1, hl3, e4, X_awake]
    exact nrm_flat (q2.trans c3) rfl
end Go.Proofs.Ytgnacecplaemlaa
