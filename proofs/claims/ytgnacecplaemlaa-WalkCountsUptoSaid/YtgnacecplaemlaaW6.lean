/-
  Count of a command; the three together.
-/
import Derived.Test.YtgnacecplaemlaaW5
namespace Go.Proofs.Ytgnacecplaemlaa
open AI
set_option linter.unusedSimpArgs false
theorem count27 {N : Nat} (F : ∀ M, M < N → CntFam M) {h : AH} {T : Nd} (hN : T.sz ≤ N) (hb : T.sz ≤ 1048576) (hv : T.ok h) (n : Nat) (hn : 4 * T.sz + 4 ≤ n) : X n (.func 27) [.agg T.cells] h = some (.int .i64 (T.cnt : Int), h) := by
  obtain ⟨m, rfl⟩ : ∃ m, n = m + 1 := ⟨n - 1, by omega⟩
  obtain ⟨kd, name, nt, inn, so, ops, sa, az, sw, ws, sr, rs, sm, ms, sk, kids⟩ := T
  simp only [Nd.sz] at hN hb hn
  simp only [Nd.ok] at hv
  obtain ⟨_, ⟨va1, va2⟩, ⟨vw1, vw2⟩, ⟨vr1, vr2⟩, ⟨vm1, vm2⟩, vk1, vk2⟩ := hv
  have G := F (N - 1) (by omega)
  have q1 : Quiet h (h.alloc (Nd.cells (.mk kd name nt inn so ops sa az sw ws sr rs sm ms sk kids))) := Other.alloc _ _ _
  have HB := Has.new h (Nd.cells (.mk kd name nt inn so ops sa az sw ws sr rs sm ms sk kids))
  generalize hh1 : h.alloc (Nd.cells (.mk kd name nt inn so ops sa az sw ws sr rs sm ms sk kids)) = h1 at *
  have cell : ∀ {h' : AH}, Quiet h1 h' → ∀ i v, (Nd.cells (.mk kd name nt inn so ops sa az sw ws sr rs sm ms sk kids))[i]? = some v → h'.cell? h.next i = some v := fun q i v hi => by
    have := (HB.quiet q).cell hi
    rwa [Nat.zero_add] at this
  have c9 := cell (Other.refl _ _) 9 sk rfl
  have c5 := cell (Other.refl _ _) 5 sa rfl
  have c6 := cell (Other.refl _ _) 6 sw rfl
  have e1 := G.all (h := h1) (s := sk) (l := kids) (by omega) (by omega) (okN.quiet q1 vk2) (vk1.quiet q1) m (by omega)
  have e2 := G.wds (h := h1) (s := sa) (l := az) (by omega) (by omega) (okW.quiet q1 va2) (va1.quiet q1) m (by omega)
  have e3 := G.wds (h := h1) (s := sw) (l := ws) (by omega) (by omega) (okW.quiet q1 vw2) (vw1.quiet q1) m (by omega)
  have lk := cntN_le kids
  have la := cntW_le az
  have lw := cntW_le ws
  have lr := cntR_le rs
  have lm := cntM_le ms
  have lr2 := szR_len rs
  have lm2 := szM_len ms
  have w1 : IntKind.i64.wrap (1 + (cntN kids : Int)) = ((1 + cntN kids : Nat) : Int) := wrap_eq (by omega) (by omega)
  have w2 : IntKind.i64.wrap (((1 + cntN kids : Nat) : Int) + (cntW az : Int)) = ((1 + cntN kids + cntW az : Nat) : Int) := wrap_add _ _ (by omega)
  have w3 : IntKind.i64.wrap (((1 + cntN kids + cntW az : Nat) : Int) + (cntW ws : Int)) = ((1 + cntN kids + cntW az + cntW ws : Nat) : Int) := wrap_add _ _ (by omega)
  rw [ent27]
  unfold cd27
  simp (implicitDefEqProofs := false) only [run_seq, run_cond, opsS_cons, opsS_nil, sameH_f, sameH_t, run_block, run_loop, run_exit, run_ret, run_skip, ops_cons, ops_nil, ev_tmp, pureS_some, heapS_some, heapN_some, gdS_tt, gdS_ff, gdS_tf, gdS_ft, gdS_undef, List.getD_cons_succ, List.getD_cons_zero, List.set_cons_succ, List.set_cons_zero, Option.bind_some, regR_some, seqR_normal, seqR_ret, seqR_exit, fin0_ret, fin0_normal, fin1_ret, fin1_normal, finN_ret, finN_normal, List.map_cons, List.map_nil, lenV_some, pickV_t, pickV_f, callV_func, callV_yield, extV_tup, condR_true, condR_false, blockR_normal, blockR_ret, blockR_exit, if_true, List.nil_append, List.append_nil, List.cons_append, List.getElem?_cons_zero, List.getElem?_cons_succ, loopR_normal, loopR_exit, loopR_ret, Option.map_some, ite_true, reduceIte, reg27_0, st27_0_0, st27_0_1, reg27_1, st27_1_0, st27_1_1, st27_1_2, st27_1_3, st27_1_4, st27_1_5, st27_1_6, st27_1_7, st27_1_8, st27_1_9, st27_1_10, st27_1_11, st27_1_12, reg27_2, st27_2_0, reg27_3, st27_3_0, st27_3_1, st27_3_2, st27_3_3, st27_3_4, reg27_5, st27_5_0, st27_5_1, st27_5_2, st27_5_3, st27_5_4, st27_5_5, st27_5_6, st27_5_7, st27_5_8, st27_5_9, st27_5_10, reg27_4, st27_4_0, st27_4_1, st27_4_2, reg27_6, st27_6_0, reg27_7, st27_7_0, st27_7_1, st27_7_2, st27_7_3, st27_7_4, reg27_9, st27_9_0, st27_9_1, st27_9_2, st27_9_3, st27_9_4, st27_9_5, st27_9_6, st27_9_7, st27_9_8, st27_9_9, st27_9_10, st27_9_11, st27_9_12, st27_9_13, st27_9_14, st27_9_15, st27_9_16, st27_9_17, reg27_8, st27_8_0, st27_8_1, st27_8_2, reg27_10, st27_10_0, st27_10_1, box_agg, hh1, fa49_0, fa49_1, fa49_2, fa49_3, fa49_4, fa49_5, fa49_6, fa49_7, fa49_8, fa49_9, fa60_0, fa73_0, fa73_1, fa73_2, fa73_3, fa76_0, fa76_1, fa78_0, fa78_1, fa78_2, fa78_3, fa78_4, Nat.zero_add, ld47, ld44, c9, c5, c6, e1, e2, e3, i_add, w1, w2, w3]
  generalize hr : aloop _ _ _ _ _ = r
  revert r hr
  have hlr : alen Try.prog 45 sr = some rs.length := by rw [vr1.alen u45, List.length_map]
  have hlm : alen Try.prog 46 sm = some ms.length := by rw [vm1.alen u46, List.length_map]
  refine loop_all rs.length (fun i h' fr => Quiet h1 h' ∧ fr = C27_3 (.ptr h.next 0) (.int .i64 ((1 + cntN kids + cntW az + cntW ws + cntR (rs.take i) : Nat) : Int)) (.int .i64 (i : Int))) ?_ ?_ ⟨Other.refl _ _, by rw [cl27_3]; simp [cntR]⟩ (by omega)
  · rintro i h' fr hi ⟨q, e⟩ k hk
    have hm : rs[i]? = some rs[i] := List.getElem?_eq_getElem hi
    have htk := take_next hi
    have hmem : rs[i] ∈ rs := List.getElem_mem hi
    have hx : (rs.map Rdr.cells)[i]? = some rs[i].cells := by rw [List.getElem?_map, hm]; rfl
    obtain ⟨id, off, i1, H⟩ := vr1.ix u45 z73 hx
    have hsz := szR_mem hmem
    have hok := okR_mem vr2 _ hmem
    have htl := szR_take rs (i + 1)
    have hc3 := cntR_le (rs.take (i + 1))
    have hap : cntR (rs.take (i + 1)) = cntR (rs.take i) + cntR [rs[i]] := by rw [htk, cntR_append]
    generalize rs[i] = x at *
    obtain ⟨num, op, s, ps, here⟩ := x
    simp only [Rdr.ok] at hok
    simp only [Rdr.sz] at hsz
    simp only [cntR, Nat.add_zero] at hap
    have H2 : Has h' id (off + 2) [s] := ((H.quiet (q1.trans q))).part (a := [.str num, .int .i64 op]) (p := [s]) (c := [.str here])
    have r2 := ldS H2 (n := 1) rfl
    have c7 := cell q 7 sr rfl
    have d : decide ((i : Int) < (rs.length : Int)) = true := by simp; omega
    have w := wrap_succ i (by omega)
    have b1 := bsl60 h' s
    have q2 : Quiet h' (h'.alloc [s]) := Other.alloc _ _ _
    have q3 : Quiet h (h'.alloc [s]) := (q1.trans q).trans q2
    have e4 := G.wds (h := h'.alloc [s]) (s := .sl h'.next 0 1 1 (some 1)) (l := [.mk s ps]) (by simp only [szW, Wd.sz]; omega) (by simp only [szW, Wd.sz]; omega)
      (by simp only [okW, Wd.ok]; exact ⟨⟨hok.1.quiet q3, okP.quiet q3 hok.2⟩, trivial⟩) (sl_one s (some 1)) m (by simp only [szW, Wd.sz]; omega)
    simp only [cntW, Nat.add_zero] at e4
    have w4 : IntKind.i64.wrap (((1 + cntN kids + cntW az + cntW ws + cntR (rs.take i) : Nat) : Int) + (cntP ps : Int)) = ((1 + cntN kids + cntW az + cntW ws + cntR (rs.take (i + 1)) : Nat) : Int) := wrap_eq (by omega) (by omega)
    rw [e]
    unfold C27_3 lp27_3
    simp (implicitDefEqProofs := false) only [run_seq, run_cond, opsS_cons, opsS_nil, sameH_f, sameH_t, run_block, run_loop, run_exit, run_ret, run_skip, ops_cons, ops_nil, ev_tmp, pureS_some, heapS_some, heapN_some, gdS_tt, gdS_ff, gdS_tf, gdS_ft, gdS_undef, List.getD_cons_succ, List.getD_cons_zero, List.set_cons_succ, List.set_cons_zero, Option.bind_some, regR_some, seqR_normal, seqR_ret, seqR_exit, fin0_ret, fin0_normal, fin1_ret, fin1_normal, finN_ret, finN_normal, List.map_cons, List.map_nil, lenV_some, pickV_t, pickV_f, callV_func, callV_yield, extV_tup, condR_true, condR_false, blockR_normal, blockR_ret, blockR_exit, if_true, List.nil_append, List.append_nil, List.cons_append, List.getElem?_cons_zero, List.getElem?_cons_succ, loopR_normal, loopR_exit, loopR_ret, Option.map_some, ite_true, reduceIte, reg27_0, st27_0_0, st27_0_1, reg27_1, st27_1_0, st27_1_1, st27_1_2, st27_1_3, st27_1_4, st27_1_5, st27_1_6, st27_1_7, st27_1_8, st27_1_9, st27_1_10, st27_1_11, st27_1_12, reg27_2, st27_2_0, reg27_3, st27_3_0, st27_3_1, st27_3_2, st27_3_3, st27_3_4, reg27_5, st27_5_0, st27_5_1, st27_5_2, st27_5_3, st27_5_4, st27_5_5, st27_5_6, st27_5_7, st27_5_8, st27_5_9, st27_5_10, reg27_4, st27_4_0, st27_4_1, st27_4_2, reg27_6, st27_6_0, reg27_7, st27_7_0, st27_7_1, st27_7_2, st27_7_3, st27_7_4, reg27_9, st27_9_0, st27_9_1, st27_9_2, st27_9_3, st27_9_4, st27_9_5, st27_9_6, st27_9_7, st27_9_8, st27_9_9, st27_9_10, st27_9_11, st27_9_12, st27_9_13, st27_9_14, st27_9_15, st27_9_16, st27_9_17, reg27_8, st27_8_0, st27_8_1, st27_8_2, reg27_10, st27_10_0, st27_10_1, fa49_0, fa49_1, fa49_2, fa49_3, fa49_4, fa49_5, fa49_6, fa49_7, fa49_8, fa49_9, fa60_0, fa73_0, fa73_1, fa73_2, fa73_3, fa76_0, fa76_1, fa78_0, fa78_1, fa78_2, fa78_3, fa78_4, Nat.zero_add, ld45, c7, hlr, i_lss, d, i1, ld60, r2, b1, e4, i_add, w, w4]
    exact hk _ _ ⟨q.trans q2, by rw [cl27_3]⟩
  · rintro h' fr ⟨q, e⟩ k
    have c7 := cell q 7 sr rfl
    have d : decide ((rs.length : Int) < (rs.length : Int)) = false := by simp
    rw [e, List.take_length]
    unfold C27_3 lp27_3
    simp (implicitDefEqProofs := false) only [run_seq, run_cond, opsS_cons, opsS_nil, sameH_f, sameH_t, run_block, run_loop, run_exit, run_ret, run_skip, ops_cons, ops_nil, ev_tmp, pureS_some, heapS_some, heapN_some, gdS_tt, gdS_ff, gdS_tf, gdS_ft, gdS_undef, List.getD_cons_succ, List.getD_cons_zero, List.set_cons_succ, List.set_cons_zero, Option.bind_some, regR_some, seqR_normal, seqR_ret, seqR_exit, fin0_ret, fin0_normal, fin1_ret, fin1_normal, finN_ret, finN_normal, List.map_cons, List.map_nil, lenV_some, pickV_t, pickV_f, callV_func, callV_yield, extV_tup, condR_true, condR_false, blockR_normal, blockR_ret, blockR_exit, if_true, List.nil_append, List.append_nil, List.cons_append, List.getElem?_cons_zero, List.getElem?_cons_succ, loopR_normal, loopR_exit, loopR_ret, Option.map_some, ite_true, reduceIte, reg27_0, st27_0_0, st27_0_1, reg27_1, st27_1_0, st27_1_1, st27_1_2, st27_1_3, st27_1_4, st27_1_5, st27_1_6, st27_1_7, st27_1_8, st27_1_9, st27_1_10, st27_1_11, st27_1_12, reg27_2, st27_2_0, reg27_3, st27_3_0, st27_3_1, st27_3_2, st27_3_3, st27_3_4, reg27_5, st27_5_0, st27_5_1, st27_5_2, st27_5_3, st27_5_4, st27_5_5, st27_5_6, st27_5_7, st27_5_8, st27_5_9, st27_5_10, reg27_4, st27_4_0, st27_4_1, st27_4_2, reg27_6, st27_6_0, reg27_7, st27_7_0, st27_7_1, st27_7_2, st27_7_3, st27_7_4, reg27_9, st27_9_0, st27_9_1, st27_9_2, st27_9_3, st27_9_4, st27_9_5, st27_9_6, st27_9_7, st27_9_8, st27_9_9, st27_9_10, st27_9_11, st27_9_12, st27_9_13, st27_9_14, st27_9_15, st27_9_16, st27_9_17, reg27_8, st27_8_0, st27_8_1, st27_8_2, reg27_10, st27_10_0, st27_10_1, fa49_0, fa49_1, fa49_2, fa49_3, fa49_4, fa49_5, fa49_6, fa49_7, fa49_8, fa49_9, fa60_0, fa73_0, fa73_1, fa73_2, fa73_3, fa76_0, fa76_1, fa78_0, fa78_1, fa78_2, fa78_3, fa78_4, Nat.zero_add, ld45, c7, hlr, i_lss, d]
    generalize hr : aloop _ _ _ _ _ = r
    revert r hr
    refine loop_all ms.length (fun i h'' fr => h'' = h' ∧ fr = C27_7 (.ptr h.next 0) (.int .i64 ((1 + cntN kids + cntW az + cntW ws + cntR rs + cntM (ms.take i) : Nat) : Int)) (.int .i64 (i : Int))) ?_ ?_ ⟨rfl, by rw [cl27_7]; simp [cntM]⟩ (by omega)
    · rintro i h'' fr hi ⟨rfl, e⟩ k2 hk2
      have hm : ms[i]? = some ms[i] := List.getElem?_eq_getElem hi
      have htk := take_next hi
      have hmem : ms[i] ∈ ms := List.getElem_mem hi
      have hx : (ms.map Am.cells)[i]? = some ms[i].cells := by rw [List.getElem?_map, hm]; rfl
      obtain ⟨id, off, i1, H⟩ := vm1.ix u46 z76 hx
      have hsz := szM_mem hmem
      have hok := okM_mem vm2 _ hmem
      have htl := szM_take ms (i + 1)
      have hc3 := cntM_le (ms.take (i + 1))
      have hap : cntM (ms.take (i + 1)) = cntM (ms.take i) + cntM [ms[i]] := by rw [htk, cntM_append]
      generalize ms[i] = x at *
      obtain ⟨s, pats, body⟩ := x
      simp only [Am.ok] at hok
      simp only [Am.sz] at hsz
      simp only [cntM, Nat.add_zero] at hap
      have q3 := q1.trans q
      have H0 := H.quiet q3
      have c0 : h''.cell? id (off + 0) = some s := H0.cell (i := 0) rfl
      have H1 : Has h'' id (off + 1) body.cells := by
        have := Has.part (a := [s]) (p := body.cells) (c := []) (by simpa [Am.cells] using H0)
        exact this
      have r2 := ldS H1 body.cells_len
      have c8 := cell q 8 sm rfl
      have d : decide ((i : Int) < (ms.length : Int)) = true := by simp; omega
      have w := wrap_succ i (by omega)
      have e4 := G.wds (h := h'') (s := s) (l := pats) (by omega) (by omega) (okW.quiet q3 hok.2.1) (hok.1.quiet q3) m (by omega)
      have e5 := G.one (h := h'') (T := body) (by omega) (by omega) (hok.2.2.quiet q3) m (by omega)
      have w4 : IntKind.i64.wrap (((1 + cntN kids + cntW az + cntW ws + cntR rs + cntM (ms.take i) : Nat) : Int) + (cntW pats : Int)) = ((1 + cntN kids + cntW az + cntW ws + cntR rs + cntM (ms.take i) + cntW pats : Nat) : Int) := wrap_add _ _ (by omega)
      have w5 : IntKind.i64.wrap (((1 + cntN kids + cntW az + cntW ws + cntR rs + cntM (ms.take i) + cntW pats : Nat) : Int) + (body.cnt : Int)) = ((1 + cntN kids + cntW az + cntW ws + cntR rs + cntM (ms.take (i + 1)) : Nat) : Int) := wrap_eq (by omega) (by omega)
      rw [e]
      unfold C27_7 lp27_7
      simp (implicitDefEqProofs := false) only [run_seq, run_cond, opsS_cons, opsS_nil, sameH_f, sameH_t, run_block, run_loop, run_exit, run_ret, run_skip, ops_cons, ops_nil, ev_tmp, pureS_some, heapS_some, heapN_some, gdS_tt, gdS_ff, gdS_tf, gdS_ft, gdS_undef, List.getD_cons_succ, List.getD_cons_zero, List.set_cons_succ, List.set_cons_zero, Option.bind_some, regR_some, seqR_normal, seqR_ret, seqR_exit, fin0_ret, fin0_normal, fin1_ret, fin1_normal, finN_ret, finN_normal, List.map_cons, List.map_nil, lenV_some, pickV_t, pickV_f, callV_func, callV_yield, extV_tup, condR_true, condR_false, blockR_normal, blockR_ret, blockR_exit, if_true, List.nil_append, List.append_nil, List.cons_append, List.getElem?_cons_zero, List.getElem?_cons_succ, loopR_normal, loopR_exit, loopR_ret, Option.map_some, ite_true, reduceIte, reg27_0, st27_0_0, st27_0_1, reg27_1, st27_1_0, st27_1_1, st27_1_2, st27_1_3, st27_1_4, st27_1_5, st27_1_6, st27_1_7, st27_1_8, st27_1_9, st27_1_10, st27_1_11, st27_1_12, reg27_2, st27_2_0, reg27_3, st27_3_0, st27_3_1, st27_3_2, st27_3_3, st27_3_4, reg27_5, st27_5_0, st27_5_1, st27_5_2, st27_5_3, st27_5_4, st27_5_5, st27_5_6, st27_5_7, st27_5_8, st27_5_9, st27_5_10, reg27_4, st27_4_0, st27_4_1, st27_4_2, reg27_6, st27_6_0, reg27_7, st27_7_0, st27_7_1, st27_7_2, st27_7_3, st27_7_4, reg27_9, st27_9_0, st27_9_1, st27_9_2, st27_9_3, st27_9_4, st27_9_5, st27_9_6, st27_9_7, st27_9_8, st27_9_9, st27_9_10, st27_9_11, st27_9_12, st27_9_13, st27_9_14, st27_9_15, st27_9_16, st27_9_17, reg27_8, st27_8_0, st27_8_1, st27_8_2, reg27_10, st27_10_0, st27_10_1, fa49_0, fa49_1, fa49_2, fa49_3, fa49_4, fa49_5, fa49_6, fa49_7, fa49_8, fa49_9, fa60_0, fa73_0, fa73_1, fa73_2, fa73_3, fa76_0, fa76_1, fa78_0, fa78_1, fa78_2, fa78_3, fa78_4, Nat.zero_add, ld46, c8, hlm, i_lss, d, i1, ld44, c0, ld49, r2, e4, e5, i_add, w, w4, w5]
      exact hk2 _ _ ⟨rfl, by rw [cl27_7]⟩
    · rintro h'' fr ⟨rfl, e⟩ k2
      have c8 := cell q 8 sm rfl
      have d : decide ((ms.length : Int) < (ms.length : Int)) = false := by simp
      rw [e, List.take_length]
      unfold C27_7 lp27_7
      simp (implicitDefEqProofs := false) only [run_seq, run_cond, opsS_cons, opsS_nil, sameH_f, sameH_t, run_block, run_loop, run_exit, run_ret, run_skip, ops_cons, ops_nil, ev_tmp, pureS_some, heapS_some, heapN_some, gdS_tt, gdS_ff, gdS_tf, gdS_ft, gdS_undef, List.getD_cons_succ, List.getD_cons_zero, List.set_cons_succ, List.set_cons_zero, Option.bind_some, regR_some, seqR_normal, seqR_ret, seqR_exit, fin0_ret, fin0_normal, fin1_ret, fin1_normal, finN_ret, finN_normal, List.map_cons, List.map_nil, lenV_some, pickV_t, pickV_f, callV_func, callV_yield, extV_tup, condR_true, condR_false, blockR_normal, blockR_ret, blockR_exit, if_true, List.nil_append, List.append_nil, List.cons_append, List.getElem?_cons_zero, List.getElem?_cons_succ, loopR_normal, loopR_exit, loopR_ret, Option.map_some, ite_true, reduceIte, reg27_0, st27_0_0, st27_0_1, reg27_1, st27_1_0, st27_1_1, st27_1_2, st27_1_3, st27_1_4, st27_1_5, st27_1_6, st27_1_7, st27_1_8, st27_1_9, st27_1_10, st27_1_11, st27_1_12, reg27_2, st27_2_0, reg27_3, st27_3_0, st27_3_1, st27_3_2, st27_3_3, st27_3_4, reg27_5, st27_5_0, st27_5_1, st27_5_2, st27_5_3, st27_5_4, st27_5_5, st27_5_6, st27_5_7, st27_5_8, st27_5_9, st27_5_10, reg27_4, st27_4_0, st27_4_1, st27_4_2, reg27_6, st27_6_0, reg27_7, st27_7_0, st27_7_1, st27_7_2, st27_7_3, st27_7_4, reg27_9, st27_9_0, st27_9_1, st27_9_2, st27_9_3, st27_9_4, st27_9_5, st27_9_6, st27_9_7, st27_9_8, st27_9_9, st27_9_10, st27_9_11, st27_9_12, st27_9_13, st27_9_14, st27_9_15, st27_9_16, st27_9_17, reg27_8, st27_8_0, st27_8_1, st27_8_2, reg27_10, st27_10_0, st27_10_1, fa49_0, fa49_1, fa49_2, fa49_3, fa49_4, fa49_5, fa49_6, fa49_7, fa49_8, fa49_9, fa60_0, fa73_0, fa73_1, fa73_2, fa73_3, fa76_0, fa76_1, fa78_0, fa78_1, fa78_2, fa78_3, fa78_4, Nat.zero_add, ld46, c8, hlm, i_lss, d]
      simp only [Nd.cnt]
      exact nrm_flat (q1.trans q) rfl
theorem count_fam : ∀ N, CntFam N := by
  intro N
  induction N using Nat.strongRecOn
  rename_i N ih
  have one : ∀ {h : AH} {T : Nd}, T.sz ≤ N → T.sz ≤ 1048576 → T.ok h → ∀ n, 4 * T.sz + 4 ≤ n → X n (.func 27) [.agg T.cells] h = some (.int .i64 (T.cnt : Int), h) :=
    fun h1 h2 h3 n hn => count27 ih h1 h2 h3 n hn
  have all : ∀ {h : AH} {s : AV} {l : List Nd}, szN l ≤ N → szN l ≤ 1048576 → okN h l → Sl h s 10 (l.map Nd.cells) → ∀ n, 4 * szN l + 5 ≤ n → X n (.func 49) [s] h = some (.int .i64 (cntN l : Int), h) :=
    fun h1 h2 h3 h4 n hn => count49 one h1 h2 h3 h4 n hn
  exact ⟨one, all, fun h1 h2 h3 h4 n hn => count50 all h1 h2 h3 h4 n hn⟩
theorem count_ok {h : AH} {T : Nd} (hb : T.sz ≤ 1048576) (hv : T.ok h) (n : Nat) (hn : 4 * T.sz + 4 ≤ n) : X n (.func 27) [.agg T.cells] h = some (.int .i64 (T.cnt : Int), h) :=
  (count_fam T.sz).one (Nat.le_refl _) hb hv n hn
end Go.Proofs.Ytgnacecplaemlaa
