/-
  walk.below: what stands below a command is handed on, one after the other.
-/
import Derived.Test.YtgnacecplaemlaaW13
namespace Go.Proofs.Ytgnacecplaemlaa
open AI
set_option linter.unusedSimpArgs false
theorem flatMap_split {α β : Type} {l : List α} (f : α → List β) {i : Nat} (hi : i < l.length) : l.flatMap f = (l.take i).flatMap f ++ (f l[i] ++ (l.drop (i + 1)).flatMap f) := by
  have : l = l.take i ++ l[i] :: l.drop (i + 1) := by rw [List.getElem_cons_drop, List.take_append_drop]
  conv => lhs; rw [this]
  rw [List.flatMap_append, List.flatMap_cons]
theorem flatMap_next {α β : Type} {l : List α} (f : α → List β) {i : Nat} (hi : i < l.length) : (l.take (i + 1)).flatMap f = (l.take i).flatMap f ++ f l[i] := by
  rw [take_next hi, List.flatMap_append, List.flatMap_cons, List.flatMap_nil, List.append_nil]
theorem under69 {hB : AH} {T : Nd} (hb : T.sz ≤ 1048576) (hv : T.ok hB) {J Jx : List Nd → (Nat → Prop) → AH → Prop} (I : Inv hB J) {m0 : Nat} {yv : AV} (Y : Yields m0 hB yv T.under J Jx)
    {F : Nat → Prop} {h : AH} (hj : J [] F h) (q : Quiet hB h) {b : Nat} (HT : Has h b 0 T.cells) (hF : ¬ F b) (n : Nat) (hn : m0 + 1 ≤ n) (hn2 : 4 * T.sz + 16 ≤ n) :
    ∃ h' F', X n (.func 69) [yv, .ptr b 0] h = some (.tup [], h') ∧ St F F' h h' ∧ (J T.under F' h' ∨ ∃ pre, Jx pre F' h') := by
  obtain ⟨m, rfl⟩ : ∃ m, n = m + 1 := ⟨n - 1, by omega⟩
  have howns := T.own_sz
  have hownl := szW_len T.own
  have hownk := Nd.own_ok hv
  have hFlt : ∀ j, F j → j < h.next := fun j hf => I.lt _ _ _ j hj hf
  have hFge : ∀ j, F j → hB.next ≤ j := fun j hf => I.ge _ _ _ j hj hf
  have r0 := ldS HT (n := 10) T.cells_len
  obtain ⟨s2, h2, g1, g2, g3, g4⟩ := own57 hb (hv.quiet q) m (by omega)
  have hl1 : alen Try.prog 44 s2 = some T.own.length := by rw [g2.alen u44, List.length_map]
  have q2 : Quiet hB h2 := q.trans g3
  have hs2 : ∀ id off len es c, s2 = .sl id off len es c → ¬ F id := fun id off len es c e hf => by
    have := g4 id off len es c e
    have := hFlt id hf
    omega
  have tot : ∀ {F' h'}, St F F' h2 h' → St F F' h h' := fun s => (St.quiet F g3).trans s
  have bas : ∀ {F' h'}, St F F' h2 h' → Quiet hB h' := fun s => s.base q2 hFge
  rw [ent69]
  unfold cd69
  simp (implicitDefEqProofs := false) only [run_seq, run_cond, opsS_cons, opsS_nil, sameH_f, sameH_t, run_block, run_loop, run_exit, run_ret, run_skip, ops_cons, ops_nil, ev_tmp, pureS_some, heapS_some, heapN_some, gdS_tt, gdS_ff, gdS_tf, gdS_ft, gdS_undef, List.getD_cons_succ, List.getD_cons_zero, List.set_cons_succ, List.set_cons_zero, Option.bind_some, regR_some, seqR_normal, seqR_ret, seqR_exit, fin0_ret, fin0_normal, fin1_ret, fin1_normal, finN_ret, finN_normal, List.map_cons, List.map_nil, lenV_some, pickV_t, pickV_f, callV_func, callV_yield, extV_tup, condR_true, condR_false, blockR_normal, blockR_ret, blockR_exit, if_true, List.nil_append, List.append_nil, List.cons_append, List.getElem?_cons_zero, List.getElem?_cons_succ, loopR_normal, loopR_exit, loopR_ret, Option.map_some, ite_true, reduceIte, reg69_0, st69_0_0, st69_0_1, st69_0_2, st69_0_3, reg69_1, st69_1_0, reg69_2, st69_2_0, st69_2_1, st69_2_2, st69_2_3, reg69_3, st69_3_0, st69_3_1, st69_3_2, st69_3_3, reg69_4, st69_4_0, reg69_5, st69_5_0, st69_5_1, st69_5_2, reg69_6, st69_6_0, st69_6_1, st69_6_2, reg69_7, st69_7_0, reg69_8, st69_8_0, st69_8_1, st69_8_2, st69_8_3, reg69_9, st69_9_0, st69_9_1, st69_9_2, st69_9_3, reg69_10, st69_10_0, st69_10_1, reg69_11, st69_11_0, st69_11_1, reg69_12, st69_12_0, st69_12_1, reg69_13, st69_13_0, st69_13_1, st69_13_2, st69_13_3, reg69_14, st69_14_0, reg69_15, st69_15_0, st69_15_1, st69_15_2, st69_15_3, reg69_16, st69_16_0, st69_16_1, st69_16_2, st69_16_3, st69_16_4, reg69_17, st69_17_0, st69_17_1, reg69_18, st69_18_0, st69_18_1, st69_18_2, st69_18_3, reg69_19, st69_19_0, reg69_20, st69_20_0, st69_20_1, st69_20_2, st69_20_3, reg69_21, st69_21_0, st69_21_1, st69_21_2, st69_21_3, reg69_22, st69_22_0, st69_22_1, ld49, r0, g1, hl1]
  generalize hr : aloop _ _ _ _ _ = r
  revert r hr
  refine loop_all T.own.length (fun i h' fr => ∃ F', J ((T.own.take i).flatMap Wd.cmds) F' h' ∧ St F F' h2 h' ∧ fr = C69_1 yv (.ptr b 0) s2 (.int .i64 (T.own.length : Int)) (.int .i64 (i : Int))) ?_ ?_ ⟨F, by simpa using I.quiet hj g3, St.refl _ _, by rw [cl69_1]; rfl⟩ (by omega)
  · rintro i h1 fr hi ⟨F1, j1, st1, e⟩ k hk
    have hx : (T.own.map Wd.cells)[i]? = some T.own[i].cells := by rw [List.getElem?_map, List.getElem?_eq_getElem hi]; rfl
    obtain ⟨id, off, i1, H⟩ := (g2.keep st1.oth hs2).ix u44 z60 hx
    have hok := okW_mem hownk _ (List.getElem_mem hi)
    have hsz := szW_mem (List.getElem_mem hi)
    have hsp := flatMap_split Wd.cmds hi
    have hne := flatMap_next Wd.cmds hi
    generalize T.own[i] = w at *
    obtain ⟨s, ps⟩ := w
    simp only [Wd.ok] at hok
    simp only [Wd.sz] at hsz
    simp only [Wd.cells] at H
    have qb1 := bas st1
    have r1 := ldS H (n := 1) rfl
    obtain ⟨h3, f1, f2, f3, _⟩ := fill h1 [.nilSl] [s] rfl
    have st := stV_agg (t := 60) (n := 1) (l := [s]) z60 rfl (by simp only [atoms, hok.1.atom, Bool.and_self]) h1.next 0 (h1.alloc [.nilSl])
    rw [f1] at st
    simp only [Option.map_some] at st
    have r2 := ldS f2.has (n := 1) rfl
    have qb3 : Quiet hB h3 := qb1.trans f3
    obtain ⟨s3, h4, p1, p2, p3, p4⟩ := cmds70 (by omega) (okP.quiet qb3 hok.2) (hok.1.quiet qb3) m (by omega)
    have hl2 : alen Try.prog 89 s3 = some (cmds ps).length := by rw [p2.alen u89, List.length_map]
    have hcl := cmds_len ps
    have hF1 : ∀ j, F1 j → j < h1.next := fun j hf => I.lt _ _ _ j j1 hf
    have hs3 : ∀ id off len es c, s3 = .sl id off len es c → ¬ F1 id := fun id off len es c e hf => by
      have := p4 id off len es c e
      have := hF1 id hf
      have := f3.next
      omega
    have q14 : Quiet h1 h4 := f3.trans p3
    have st4 : St F F1 h2 h4 := st1.trans (St.quiet F1 q14)
    have d : decide ((i : Int) < (T.own.length : Int)) = true := by simp; omega
    have w := wrap_succ i (by omega)
    rw [e]
    unfold C69_1 lp69_1
    simp (implicitDefEqProofs := false) only [run_seq, run_cond, opsS_cons, opsS_nil, sameH_f, sameH_t, run_block, run_loop, run_exit, run_ret, run_skip, ops_cons, ops_nil, ev_tmp, pureS_some, heapS_some, heapN_some, gdS_tt, gdS_ff, gdS_tf, gdS_ft, gdS_undef, List.getD_cons_succ, List.getD_cons_zero, List.set_cons_succ, List.set_cons_zero, Option.bind_some, regR_some, seqR_normal, seqR_ret, seqR_exit, fin0_ret, fin0_normal, fin1_ret, fin1_normal, finN_ret, finN_normal, List.map_cons, List.map_nil, lenV_some, pickV_t, pickV_f, callV_func, callV_yield, extV_tup, condR_true, condR_false, blockR_normal, blockR_ret, blockR_exit, if_true, List.nil_append, List.append_nil, List.cons_append, List.getElem?_cons_zero, List.getElem?_cons_succ, loopR_normal, loopR_exit, loopR_ret, Option.map_some, ite_true, reduceIte, reg69_0, st69_0_0, st69_0_1, st69_0_2, st69_0_3, reg69_1, st69_1_0, reg69_2, st69_2_0, st69_2_1, st69_2_2, st69_2_3, reg69_3, st69_3_0, st69_3_1, st69_3_2, st69_3_3, reg69_4, st69_4_0, reg69_5, st69_5_0, st69_5_1, st69_5_2, reg69_6, st69_6_0, st69_6_1, st69_6_2, reg69_7, st69_7_0, reg69_8, st69_8_0, st69_8_1, st69_8_2, st69_8_3, reg69_9, st69_9_0, st69_9_1, st69_9_2, st69_9_3, reg69_10, st69_10_0, st69_10_1, reg69_11, st69_11_0, st69_11_1, reg69_12, st69_12_0, st69_12_1, reg69_13, st69_13_0, st69_13_1, st69_13_2, st69_13_3, reg69_14, st69_14_0, reg69_15, st69_15_0, st69_15_1, st69_15_2, st69_15_3, reg69_16, st69_16_0, st69_16_1, st69_16_2, st69_16_3, st69_16_4, reg69_17, st69_17_0, st69_17_1, reg69_18, st69_18_0, st69_18_1, st69_18_2, st69_18_3, reg69_19, st69_19_0, reg69_20, st69_20_0, st69_20_1, st69_20_2, st69_20_3, reg69_21, st69_21_0, st69_21_1, st69_21_2, st69_21_3, reg69_22, st69_22_0, st69_22_1, i_lss, d, i1, ld60, r1, new60, st, r2, p1, hl2]
    generalize hr : aloop _ _ _ _ _ = r
    revert r hr
    refine loop_all (cmds ps).length (fun j h' fr => ∃ F', J ((T.own.take i).flatMap Wd.cmds ++ ((cmds ps).take j).flatMap (·.2)) F' h' ∧ St F F' h2 h' ∧ St F1 F' h4 h' ∧ fr = C69_4 yv (.ptr b 0) s2 (.int .i64 (T.own.length : Int)) (.int .i64 (i : Int)) s3 (.int .i64 ((cmds ps).length : Int)) (.int .i64 (j : Int))) ?_ ?_
      ⟨F1, by simpa using I.quiet j1 q14, st4, St.refl _ _, by rw [cl69_4]; rfl⟩ (by omega)
    · rintro j h5 fr hj2 ⟨F2, j2, st2, st2', e⟩ k2 hk2
      have hx2 : ((cmds ps).map fun c => [c.1])[j]? = some [(cmds ps)[j].1] := by rw [List.getElem?_map, List.getElem?_eq_getElem hj2]; rfl
      obtain ⟨id2, off2, i2, H2⟩ := (p2.keep st2'.oth hs3).ix u89 z47 hx2
      have hck := cmds_ok hok.2 _ (List.getElem_mem hj2)
      have hsp2 := flatMap_split (·.2) hj2
      have hne2 := flatMap_next (·.2) hj2
      generalize (cmds ps)[j] = c at *
      obtain ⟨sc, cs⟩ := c
      dsimp only at hck hsp2 hne2 H2
      have r3 : h5.cell? id2 off2 = some sc := H2.cell (i := 0) rfl
      have hl3 : alen Try.prog 47 sc = some cs.length := by rw [hck.1.alen u47, List.length_map]
      have hcsl := szN_len cs
      have d2 : decide ((j : Int) < ((cmds ps).length : Int)) = true := by simp; omega
      have w2 := wrap_succ j (by omega)
      rw [e]
      unfold C69_4 lp69_4
      simp (implicitDefEqProofs := false) only [run_seq, run_cond, opsS_cons, opsS_nil, sameH_f, sameH_t, run_block, run_loop, run_exit, run_ret, run_skip, ops_cons, ops_nil, ev_tmp, pureS_some, heapS_some, heapN_some, gdS_tt, gdS_ff, gdS_tf, gdS_ft, gdS_undef, List.getD_cons_succ, List.getD_cons_zero, List.set_cons_succ, List.set_cons_zero, Option.bind_some, regR_some, seqR_normal, seqR_ret, seqR_exit, fin0_ret, fin0_normal, fin1_ret, fin1_normal, finN_ret, finN_normal, List.map_cons, List.map_nil, lenV_some, pickV_t, pickV_f, callV_func, callV_yield, extV_tup, condR_true, condR_false, blockR_normal, blockR_ret, blockR_exit, if_true, List.nil_append, List.append_nil, List.cons_append, List.getElem?_cons_zero, List.getElem?_cons_succ, loopR_normal, loopR_exit, loopR_ret, Option.map_some, ite_true, reduceIte, reg69_0, st69_0_0, st69_0_1, st69_0_2, st69_0_3, reg69_1, st69_1_0, reg69_2, st69_2_0, st69_2_1, st69_2_2, st69_2_3, reg69_3, st69_3_0, st69_3_1, st69_3_2, st69_3_3, reg69_4, st69_4_0, reg69_5, st69_5_0, st69_5_1, st69_5_2, reg69_6, st69_6_0, st69_6_1, st69_6_2, reg69_7, st69_7_0, reg69_8, st69_8_0, st69_8_1, st69_8_2, st69_8_3, reg69_9, st69_9_0, st69_9_1, st69_9_2, st69_9_3, reg69_10, st69_10_0, st69_10_1, reg69_11, st69_11_0, st69_11_1, reg69_12, st69_12_0, st69_12_1, reg69_13, st69_13_0, st69_13_1, st69_13_2, st69_13_3, reg69_14, st69_14_0, reg69_15, st69_15_0, st69_15_1, st69_15_2, st69_15_3, reg69_16, st69_16_0, st69_16_1, st69_16_2, st69_16_3, st69_16_4, reg69_17, st69_17_0, st69_17_1, reg69_18, st69_18_0, st69_18_1, st69_18_2, st69_18_3, reg69_19, st69_19_0, reg69_20, st69_20_0, st69_20_1, st69_20_2, st69_20_3, reg69_21, st69_21_0, st69_21_1, st69_21_2, st69_21_3, reg69_22, st69_22_0, st69_22_1, i_lss, d2, i2, ld47, r3, hl3]
      generalize hr : aloop _ _ _ _ _ = r
      revert r hr
      refine loop_all cs.length (fun l h' fr => ∃ F', J ((T.own.take i).flatMap Wd.cmds ++ ((cmds ps).take j).flatMap (·.2) ++ cs.take l) F' h' ∧ St F F' h2 h' ∧ St F1 F' h4 h' ∧ fr = C69_7 yv (.ptr b 0) s2 (.int .i64 (T.own.length : Int)) (.int .i64 (i : Int)) s3 (.int .i64 ((cmds ps).length : Int)) (.int .i64 (j : Int)) sc (.int .i64 (cs.length : Int)) (.int .i64 (l : Int))) ?_ ?_
        ⟨F2, by simpa using j2, st2, st2', by rw [cl69_7]; rfl⟩ (by omega)
      · rintro l h6 fr hl ⟨F3, j3, st3, st3', e⟩ k3 hk3
        have hx3 : (cs.map Nd.cells)[l]? = some cs[l].cells := by rw [List.getElem?_map, List.getElem?_eq_getElem hl]; rfl
        obtain ⟨id3, off3, i3, H3⟩ := hck.1.ix u47 z49 hx3
        have hxk := okN_mem hck.2.1 _ (List.getElem_mem hl)
        have hsp3 : cs = cs.take l ++ cs[l] :: cs.drop (l + 1) := by rw [List.getElem_cons_drop, List.take_append_drop]
        have hne3 := take_next hl
        have hw : ∃ post, T.under = ((T.own.take i).flatMap Wd.cmds ++ ((cmds ps).take j).flatMap (·.2) ++ cs.take l) ++ cs[l] :: post :=
          ⟨cs.drop (l + 1) ++ ((cmds ps).drop (j + 1)).flatMap (·.2) ++ (T.own.drop (i + 1)).flatMap Wd.cmds ++ T.arms.map Am.body ++ T.kids, by
            have e1 : T.under = T.own.flatMap Wd.cmds ++ T.arms.map Am.body ++ T.kids := rfl
            have e2 : Wd.cmds (.mk s ps) = (cmds ps).flatMap (·.2) := rfl
            rw [e1, hsp, e2, hsp2]
            conv => lhs; rw [hsp3]
            simp only [List.append_assoc, List.cons_append, List.nil_append]⟩
        generalize cs[l] = x at *
        have qb := bas st3
        have r4 := ldS (H3.quiet qb) (n := 10) x.cells_len
        obtain ⟨h7, f1, f2, f3, _⟩ := fill h6 [.int .i64 0, .str [], .bool false, .bool false, .nilSl, .nilSl, .nilSl, .nilSl, .nilSl, .nilSl] x.cells x.cells_len
        have sx := stV_agg (t := 49) (n := 10) (l := x.cells) z49 x.cells_len (Nd.atoms hxk) h6.next 0 (h6.alloc [.int .i64 0, .str [], .bool false, .bool false, .nilSl, .nilSl, .nilSl, .nilSl, .nilSl, .nilSl])
        rw [f1] at sx
        simp only [Option.map_some] at sx
        have r5 := ldS f2.has (n := 10) x.cells_len
        obtain ⟨post, hw⟩ := hw
        obtain ⟨bb, h8, F4, y1, y2, y3⟩ := Y _ x post hw F3 h7 (I.quiet j3 f3) (qb.trans f3) m (by omega)
        have st5 := (st3.trans (St.quiet F3 f3)).trans y2
        have st5' := (st3'.trans (St.quiet F3 f3)).trans y2
        have d3 : decide ((l : Int) < (cs.length : Int)) = true := by simp; omega
        have w3 := wrap_succ l (by omega)
        cases bb with
        | false =>
          rw [e]
          unfold C69_7 lp69_7
          simp (implicitDefEqProofs := false) only [run_seq, run_cond, opsS_cons, opsS_nil, sameH_f, sameH_t, run_block, run_loop, run_exit, run_ret, run_skip, ops_cons, ops_nil, ev_tmp, pureS_some, heapS_some, heapN_some, gdS_tt, gdS_ff, gdS_tf, gdS_ft, gdS_undef, List.getD_cons_succ, List.getD_cons_zero, List.set_cons_succ, List.set_cons_zero, Option.bind_some, regR_some, seqR_normal, seqR_ret, seqR_exit, fin0_ret, fin0_normal, fin1_ret, fin1_normal, finN_ret, finN_normal, List.map_cons, List.map_nil, lenV_some, pickV_t, pickV_f, callV_func, callV_yield, extV_tup, condR_true, condR_false, blockR_normal, blockR_ret, blockR_exit, if_true, List.nil_append, List.append_nil, List.cons_append, List.getElem?_cons_zero, List.getElem?_cons_succ, loopR_normal, loopR_exit, loopR_ret, Option.map_some, ite_true, reduceIte, reg69_0, st69_0_0, st69_0_1, st69_0_2, st69_0_3, reg69_1, st69_1_0, reg69_2, st69_2_0, st69_2_1, st69_2_2, st69_2_3, reg69_3, st69_3_0, st69_3_1, st69_3_2, st69_3_3, reg69_4, st69_4_0, reg69_5, st69_5_0, st69_5_1, st69_5_2, reg69_6, st69_6_0, st69_6_1, st69_6_2, reg69_7, st69_7_0, reg69_8, st69_8_0, st69_8_1, st69_8_2, st69_8_3, reg69_9, st69_9_0, st69_9_1, st69_9_2, st69_9_3, reg69_10, st69_10_0, st69_10_1, reg69_11, st69_11_0, st69_11_1, reg69_12, st69_12_0, st69_12_1, reg69_13, st69_13_0, st69_13_1, st69_13_2, st69_13_3, reg69_14, st69_14_0, reg69_15, st69_15_0, st69_15_1, st69_15_2, st69_15_3, reg69_16, st69_16_0, st69_16_1, st69_16_2, st69_16_3, st69_16_4, reg69_17, st69_17_0, st69_17_1, reg69_18, st69_18_0, st69_18_1, st69_18_2, st69_18_3, reg69_19, st69_19_0, reg69_20, st69_20_0, st69_20_1, st69_20_2, st69_20_3, reg69_21, st69_21_0, st69_21_1, st69_21_2, st69_21_3, reg69_22, st69_22_0, st69_22_1, i_lss, d3, i3, ld49, r4, new49, sx, r5, y1, not_b, Bool.not_false]
          exact ⟨_, F4, rfl, tot st5, .inr ⟨_, by simpa using y3⟩⟩
        | true =>
          rw [e]
          unfold C69_7 lp69_7
          simp (implicitDefEqProofs := false) only [run_seq, run_cond, opsS_cons, opsS_nil, sameH_f, sameH_t, run_block, run_loop, run_exit, run_ret, run_skip, ops_cons, ops_nil, ev_tmp, pureS_some, heapS_some, heapN_some, gdS_tt, gdS_ff, gdS_tf, gdS_ft, gdS_undef, List.getD_cons_succ, List.getD_cons_zero, List.set_cons_succ, List.set_cons_zero, Option.bind_some, regR_some, seqR_normal, seqR_ret, seqR_exit, fin0_ret, fin0_normal, fin1_ret, fin1_normal, finN_ret, finN_normal, List.map_cons, List.map_nil, lenV_some, pickV_t, pickV_f, callV_func, callV_yield, extV_tup, condR_true, condR_false, blockR_normal, blockR_ret, blockR_exit, if_true, List.nil_append, List.append_nil, List.cons_append, List.getElem?_cons_zero, List.getElem?_cons_succ, loopR_normal, loopR_exit, loopR_ret, Option.map_some, ite_true, reduceIte, reg69_0, st69_0_0, st69_0_1, st69_0_2, st69_0_3, reg69_1, st69_1_0, reg69_2, st69_2_0, st69_2_1, st69_2_2, st69_2_3, reg69_3, st69_3_0, st69_3_1, st69_3_2, st69_3_3, reg69_4, st69_4_0, reg69_5, st69_5_0, st69_5_1, st69_5_2, reg69_6, st69_6_0, st69_6_1, st69_6_2, reg69_7, st69_7_0, reg69_8, st69_8_0, st69_8_1, st69_8_2, st69_8_3, reg69_9, st69_9_0, st69_9_1, st69_9_2, st69_9_3, reg69_10, st69_10_0, st69_10_1, reg69_11, st69_11_0, st69_11_1, reg69_12, st69_12_0, st69_12_1, reg69_13, st69_13_0, st69_13_1, st69_13_2, st69_13_3, reg69_14, st69_14_0, reg69_15, st69_15_0, st69_15_1, st69_15_2, st69_15_3, reg69_16, st69_16_0, st69_16_1, st69_16_2, st69_16_3, st69_16_4, reg69_17, st69_17_0, st69_17_1, reg69_18, st69_18_0, st69_18_1, st69_18_2, st69_18_3, reg69_19, st69_19_0, reg69_20, st69_20_0, st69_20_1, st69_20_2, st69_20_3, reg69_21, st69_21_0, st69_21_1, st69_21_2, st69_21_3, reg69_22, st69_22_0, st69_22_1, i_lss, d3, i3, ld49, r4, new49, sx, r5, y1, not_b, Bool.not_true, i_add, w3]
          exact hk3 _ _ ⟨F4, by rw [hne3, ← List.append_assoc]; simpa using y3, st5, st5', by rw [cl69_7]⟩
      · rintro h6 fr ⟨F3, j3, st3, st3', e⟩ k3
        have d3 : decide ((cs.length : Int) < (cs.length : Int)) = false := by simp
        rw [e]
        unfold C69_7 lp69_7
        simp (implicitDefEqProofs := false) only [run_seq, run_cond, opsS_cons, opsS_nil, sameH_f, sameH_t, run_block, run_loop, run_exit, run_ret, run_skip, ops_cons, ops_nil, ev_tmp, pureS_some, heapS_some, heapN_some, gdS_tt, gdS_ff, gdS_tf, gdS_ft, gdS_undef, List.getD_cons_succ, List.getD_cons_zero, List.set_cons_succ, List.set_cons_zero, Option.bind_some, regR_some, seqR_normal, seqR_ret, seqR_exit, fin0_ret, fin0_normal, fin1_ret, fin1_normal, finN_ret, finN_normal, List.map_cons, List.map_nil, lenV_some, pickV_t, pickV_f, callV_func, callV_yield, extV_tup, condR_true, condR_false, blockR_normal, blockR_ret, blockR_exit, if_true, List.nil_append, List.append_nil, List.cons_append, List.getElem?_cons_zero, List.getElem?_cons_succ, loopR_normal, loopR_exit, loopR_ret, Option.map_some, ite_true, reduceIte, reg69_0, st69_0_0, st69_0_1, st69_0_2, st69_0_3, reg69_1, st69_1_0, reg69_2, st69_2_0, st69_2_1, st69_2_2, st69_2_3, reg69_3, st69_3_0, st69_3_1, st69_3_2, st69_3_3, reg69_4, st69_4_0, reg69_5, st69_5_0, st69_5_1, st69_5_2, reg69_6, st69_6_0, st69_6_1, st69_6_2, reg69_7, st69_7_0, reg69_8, st69_8_0, st69_8_1, st69_8_2, st69_8_3, reg69_9, st69_9_0, st69_9_1, st69_9_2, st69_9_3, reg69_10, st69_10_0, st69_10_1, reg69_11, st69_11_0, st69_11_1, reg69_12, st69_12_0, st69_12_1, reg69_13, st69_13_0, st69_13_1, st69_13_2, st69_13_3, reg69_14, st69_14_0, reg69_15, st69_15_0, st69_15_1, st69_15_2, st69_15_3, reg69_16, st69_16_0, st69_16_1, st69_16_2, st69_16_3, st69_16_4, reg69_17, st69_17_0, st69_17_1, reg69_18, st69_18_0, st69_18_1, st69_18_2, st69_18_3, reg69_19, st69_19_0, reg69_20, st69_20_0, st69_20_1, st69_20_2, st69_20_3, reg69_21, st69_21_0, st69_21_1, st69_21_2, st69_21_3, reg69_22, st69_22_0, st69_22_1, i_lss, d3, i_add, w2]
        exact hk2 _ _ ⟨F3, by rw [hne2, ← List.append_assoc]; simpa using j3, st3, st3', by rw [cl69_4]⟩
    · rintro h5 fr ⟨F2, j2, st2, st2', e⟩ k2
      have d2 : decide (((cmds ps).length : Int) < ((cmds ps).length : Int)) = false := by simp
      rw [e]
      unfold C69_4 lp69_4
      simp (implicitDefEqProofs := false) only [run_seq, run_cond, opsS_cons, opsS_nil, sameH_f, sameH_t, run_block, run_loop, run_exit, run_ret, run_skip, ops_cons, ops_nil, ev_tmp, pureS_some, heapS_some, heapN_some, gdS_tt, gdS_ff, gdS_tf, gdS_ft, gdS_undef, List.getD_cons_succ, List.getD_cons_zero, List.set_cons_succ, List.set_cons_zero, Option.bind_some, regR_some, seqR_normal, seqR_ret, seqR_exit, fin0_ret, fin0_normal, fin1_ret, fin1_normal, finN_ret, finN_normal, List.map_cons, List.map_nil, lenV_some, pickV_t, pickV_f, callV_func, callV_yield, extV_tup, condR_true, condR_false, blockR_normal, blockR_ret, blockR_exit, if_true, List.nil_append, List.append_nil, List.cons_append, List.getElem?_cons_zero, List.getElem?_cons_succ, loopR_normal, loopR_exit, loopR_ret, Option.map_some, ite_true, reduceIte, reg69_0, st69_0_0, st69_0_1, st69_0_2, st69_0_3, reg69_1, st69_1_0, reg69_2, st69_2_0, st69_2_1, st69_2_2, st69_2_3, reg69_3, st69_3_0, st69_3_1, st69_3_2, st69_3_3, reg69_4, st69_4_0, reg69_5, st69_5_0, st69_5_1, st69_5_2, reg69_6, st69_6_0, st69_6_1, st69_6_2, reg69_7, st69_7_0, reg69_8, st69_8_0, st69_8_1, st69_8_2, st69_8_3, reg69_9, st69_9_0, st69_9_1, st69_9_2, st69_9_3, reg69_10, st69_10_0, st69_10_1, reg69_11, st69_11_0, st69_11_1, reg69_12, st69_12_0, st69_12_1, reg69_13, st69_13_0, st69_13_1, st69_13_2, st69_13_3, reg69_14, st69_14_0, reg69_15, st69_15_0, st69_15_1, st69_15_2, st69_15_3, reg69_16, st69_16_0, st69_16_1, st69_16_2, st69_16_3, st69_16_4, reg69_17, st69_17_0, st69_17_1, reg69_18, st69_18_0, st69_18_1, st69_18_2, st69_18_3, reg69_19, st69_19_0, reg69_20, st69_20_0, st69_20_1, st69_20_2, st69_20_3, reg69_21, st69_21_0, st69_21_1, st69_21_2, st69_21_3, reg69_22, st69_22_0, st69_22_1, i_lss, d2, i_add, w]
      exact hk _ _ ⟨F2, by rw [hne]; simpa [Wd.cmds, Wd.ps] using j2, st2, by rw [cl69_1]⟩
  · rintro h1 fr ⟨F1, j1, st1, e⟩ k
    have d : decide ((T.own.length : Int) < (T.own.length : Int)) = false := by simp
    rw [List.take_length] at j1
    rw [e]
    unfold C69_1 lp69_1
    have HB : ∀ {F' h'}, St F F' h2 h' → Has h' b 0 T.cells := fun s => HT.keep (tot s).oth hF
    have hms : ∃ sm, T.cells[8]? = some sm ∧ Sl hB sm 11 (T.arms.map Am.cells) ∧ okM hB T.arms ∧ szM T.arms ≤ T.sz := by
      cases T; simp only [Nd.ok] at hv; exact ⟨_, rfl, hv.2.2.2.2.1.1, hv.2.2.2.2.1.2, by simp only [Nd.arms, Nd.sz]; omega⟩
    have hks : ∃ sk, T.cells[9]? = some sk ∧ Sl hB sk 10 (T.kids.map Nd.cells) ∧ okN hB T.kids ∧ szN T.kids ≤ T.sz := by
      cases T; simp only [Nd.ok] at hv; exact ⟨_, rfl, hv.2.2.2.2.2.1, hv.2.2.2.2.2.2, by simp only [Nd.kids, Nd.sz]; omega⟩
    obtain ⟨sm, m1, m2, m3, m4⟩ := hms
    obtain ⟨sk, k1, k2, k3, k4⟩ := hks
    have c8 : h1.cell? b 8 = some sm := by have := (HB st1).cell m1; rwa [Nat.zero_add] at this
    have hl4 : alen Try.prog 46 sm = some T.arms.length := by rw [m2.alen u46, List.length_map]
    have hml := szM_len T.arms
    have hkl := szN_len T.kids
    simp (implicitDefEqProofs := false) only [run_seq, run_cond, opsS_cons, opsS_nil, sameH_f, sameH_t, run_block, run_loop, run_exit, run_ret, run_skip, ops_cons, ops_nil, ev_tmp, pureS_some, heapS_some, heapN_some, gdS_tt, gdS_ff, gdS_tf, gdS_ft, gdS_undef, List.getD_cons_succ, List.getD_cons_zero, List.set_cons_succ, List.set_cons_zero, Option.bind_some, regR_some, seqR_normal, seqR_ret, seqR_exit, fin0_ret, fin0_normal, fin1_ret, fin1_normal, finN_ret, finN_normal, List.map_cons, List.map_nil, lenV_some, pickV_t, pickV_f, callV_func, callV_yield, extV_tup, condR_true, condR_false, blockR_normal, blockR_ret, blockR_exit, if_true, List.nil_append, List.append_nil, List.cons_append, List.getElem?_cons_zero, List.getElem?_cons_succ, loopR_normal, loopR_exit, loopR_ret, Option.map_some, ite_true, reduceIte, reg69_0, st69_0_0, st69_0_1, st69_0_2, st69_0_3, reg69_1, st69_1_0, reg69_2, st69_2_0, st69_2_1, st69_2_2, st69_2_3, reg69_3, st69_3_0, st69_3_1, st69_3_2, st69_3_3, reg69_4, st69_4_0, reg69_5, st69_5_0, st69_5_1, st69_5_2, reg69_6, st69_6_0, st69_6_1, st69_6_2, reg69_7, st69_7_0, reg69_8, st69_8_0, st69_8_1, st69_8_2, st69_8_3, reg69_9, st69_9_0, st69_9_1, st69_9_2, st69_9_3, reg69_10, st69_10_0, st69_10_1, reg69_11, st69_11_0, st69_11_1, reg69_12, st69_12_0, st69_12_1, reg69_13, st69_13_0, st69_13_1, st69_13_2, st69_13_3, reg69_14, st69_14_0, reg69_15, st69_15_0, st69_15_1, st69_15_2, st69_15_3, reg69_16, st69_16_0, st69_16_1, st69_16_2, st69_16_3, st69_16_4, reg69_17, st69_17_0, st69_17_1, reg69_18, st69_18_0, st69_18_1, st69_18_2, st69_18_3, reg69_19, st69_19_0, reg69_20, st69_20_0, st69_20_1, st69_20_2, st69_20_3, reg69_21, st69_21_0, st69_21_1, st69_21_2, st69_21_3, reg69_22, st69_22_0, st69_22_1, i_lss, d, fa49_8, Nat.zero_add, ld46, c8, hl4]
    generalize hr : aloop _ _ _ _ _ = r
    revert r hr
    refine loop_all T.arms.length (fun i h' fr => ∃ F', J (T.own.flatMap Wd.cmds ++ (T.arms.take i).map Am.body) F' h' ∧ St F F' h2 h' ∧ fr = C69_14 yv (.ptr b 0) sm (.int .i64 (T.arms.length : Int)) (.int .i64 (i : Int))) ?_ ?_ ⟨F1, by simpa using j1, st1, by rw [cl69_14]; rfl⟩ (by omega)
    · rintro l h6 fr hl ⟨F3, j3, st3, e⟩ k3 hk3
      have hx3 : (T.arms.map Am.cells)[l]? = some T.arms[l].cells := by rw [List.getElem?_map, List.getElem?_eq_getElem hl]; rfl
      obtain ⟨id3, off3, i3, H3⟩ := m2.ix u46 z76 hx3
      have hxk := okM_mem m3 _ (List.getElem_mem hl)
      have hsp3 : T.arms.map Am.body = (T.arms.take l).map Am.body ++ T.arms[l].body :: (T.arms.drop (l + 1)).map Am.body := by
        conv => lhs; rw [show T.arms = T.arms.take l ++ T.arms[l] :: T.arms.drop (l + 1) by rw [List.getElem_cons_drop, List.take_append_drop]]
        simp only [List.map_append, List.map_cons]
      have hne3 : (T.arms.take (l + 1)).map Am.body = (T.arms.take l).map Am.body ++ [T.arms[l].body] := by rw [take_next hl]; simp only [List.map_append, List.map_cons, List.map_nil]
      have hw : ∃ post, T.under = (T.own.flatMap Wd.cmds ++ (T.arms.take l).map Am.body) ++ T.arms[l].body :: post :=
        ⟨(T.arms.drop (l + 1)).map Am.body ++ T.kids, by
          have e1 : T.under = T.own.flatMap Wd.cmds ++ T.arms.map Am.body ++ T.kids := rfl
          rw [e1, hsp3]
          simp only [List.append_assoc, List.cons_append]⟩
      have hat := Am.atoms hxk
      have hcl := T.arms[l].cells_len
      generalize T.arms[l] = x at *
      obtain ⟨s, pats, body⟩ := x
      simp only [Am.body] at hw hne3
      have qb := bas st3
      have r4 := ldS (H3.quiet qb) (n := 11) hcl
      obtain ⟨h7, f1, f2, f3, _⟩ := fill h6 [.nilSl, .int .i64 0, .str [], .bool false, .bool false, .nilSl, .nilSl, .nilSl, .nilSl, .nilSl, .nilSl] (Am.cells (.mk s pats body)) hcl
      have sx := stV_agg (t := 76) (n := 11) (l := Am.cells (.mk s pats body)) z76 hcl hat h6.next 0 (h6.alloc [.nilSl, .int .i64 0, .str [], .bool false, .bool false, .nilSl, .nilSl, .nilSl, .nilSl, .nilSl, .nilSl])
      rw [f1] at sx
      simp only [Option.map_some] at sx
      have r5 : (h7.cells? h6.next 10 1).map AV.agg = some (.agg body.cells) := by
        have := ldS (Has.part (a := [s]) (p := body.cells) (c := []) (by simpa [Am.cells] using f2.has)) (n := 10) body.cells_len
        simpa using this
      obtain ⟨post, hw⟩ := hw
      obtain ⟨bb, h8, F4, y1, y2, y3⟩ := Y _ body post hw F3 h7 (I.quiet j3 f3) (qb.trans f3) m (by omega)
      have st5 := (st3.trans (St.quiet F3 f3)).trans y2
      have d3 : decide ((l : Int) < (T.arms.length : Int)) = true := by simp; omega
      have w3 := wrap_succ l (by omega)
      cases bb with
      | false =>
        rw [e]
        unfold C69_14 lp69_14
        simp (implicitDefEqProofs := false) only [run_seq, run_cond, opsS_cons, opsS_nil, sameH_f, sameH_t, run_block, run_loop, run_exit, run_ret, run_skip, ops_cons, ops_nil, ev_tmp, pureS_some, heapS_some, heapN_some, gdS_tt, gdS_ff, gdS_tf, gdS_ft, gdS_undef, List.getD_cons_succ, List.getD_cons_zero, List.set_cons_succ, List.set_cons_zero, Option.bind_some, regR_some, seqR_normal, seqR_ret, seqR_exit, fin0_ret, fin0_normal, fin1_ret, fin1_normal, finN_ret, finN_normal, List.map_cons, List.map_nil, lenV_some, pickV_t, pickV_f, callV_func, callV_yield, extV_tup, condR_true, condR_false, blockR_normal, blockR_ret, blockR_exit, if_true, List.nil_append, List.append_nil, List.cons_append, List.getElem?_cons_zero, List.getElem?_cons_succ, loopR_normal, loopR_exit, loopR_ret, Option.map_some, ite_true, reduceIte, reg69_0, st69_0_0, st69_0_1, st69_0_2, st69_0_3, reg69_1, st69_1_0, reg69_2, st69_2_0, st69_2_1, st69_2_2, st69_2_3, reg69_3, st69_3_0, st69_3_1, st69_3_2, st69_3_3, reg69_4, st69_4_0, reg69_5, st69_5_0, st69_5_1, st69_5_2, reg69_6, st69_6_0, st69_6_1, st69_6_2, reg69_7, st69_7_0, reg69_8, st69_8_0, st69_8_1, st69_8_2, st69_8_3, reg69_9, st69_9_0, st69_9_1, st69_9_2, st69_9_3, reg69_10, st69_10_0, st69_10_1, reg69_11, st69_11_0, st69_11_1, reg69_12, st69_12_0, st69_12_1, reg69_13, st69_13_0, st69_13_1, st69_13_2, st69_13_3, reg69_14, st69_14_0, reg69_15, st69_15_0, st69_15_1, st69_15_2, st69_15_3, reg69_16, st69_16_0, st69_16_1, st69_16_2, st69_16_3, st69_16_4, reg69_17, st69_17_0, st69_17_1, reg69_18, st69_18_0, st69_18_1, st69_18_2, st69_18_3, reg69_19, st69_19_0, reg69_20, st69_20_0, st69_20_1, st69_20_2, st69_20_3, reg69_21, st69_21_0, st69_21_1, st69_21_2, st69_21_3, reg69_22, st69_22_0, st69_22_1, i_lss, d3, i3, ld76, r4, new76, sx, fa76_1, Nat.zero_add, ld49, r5, y1, not_b, Bool.not_false]
        exact ⟨_, F4, rfl, tot st5, .inr ⟨_, by simpa using y3⟩⟩
      | true =>
        rw [e]
        unfold C69_14 lp69_14
        simp (implicitDefEqProofs := false) only [run_seq, run_cond, opsS_cons, opsS_nil, sameH_f, sameH_t, run_block, run_loop, run_exit, run_ret, run_skip, ops_cons, ops_nil, ev_tmp, pureS_some, heapS_some, heapN_some, gdS_tt, gdS_ff, gdS_tf, gdS_ft, gdS_undef, List.getD_cons_succ, List.getD_cons_zero, List.set_cons_succ, List.set_cons_zero, Option.bind_some, regR_some, seqR_normal, seqR_ret, seqR_exit, fin0_ret, fin0_normal, fin1_ret, fin1_normal, finN_ret, finN_normal, List.map_cons, List.map_nil, lenV_some, pickV_t, pickV_f, callV_func, callV_yield, extV_tup, condR_true, condR_false, blockR_normal, blockR_ret, blockR_exit, if_true, List.nil_append, List.append_nil, List.cons_append, List.getElem?_cons_zero, List.getElem?_cons_succ, loopR_normal, loopR_exit, loopR_ret, Option.map_some, ite_true, reduceIte, reg69_0, st69_0_0, st69_0_1, st69_0_2, st69_0_3, reg69_1, st69_1_0, reg69_2, st69_2_0, st69_2_1, st69_2_2, st69_2_3, reg69_3, st69_3_0, st69_3_1, st69_3_2, st69_3_3, reg69_4, st69_4_0, reg69_5, st69_5_0, st69_5_1, st69_5_2, reg69_6, st69_6_0, st69_6_1, st69_6_2, reg69_7, st69_7_0, reg69_8, st69_8_0, st69_8_1, st69_8_2, st69_8_3, reg69_9, st69_9_0, st69_9_1, st69_9_2, st69_9_3, reg69_10, st69_10_0, st69_10_1, reg69_11, st69_11_0, st69_11_1, reg69_12, st69_12_0, st69_12_1, reg69_13, st69_13_0, st69_13_1, st69_13_2, st69_13_3, reg69_14, st69_14_0, reg69_15, st69_15_0, st69_15_1, st69_15_2, st69_15_3, reg69_16, st69_16_0, st69_16_1, st69_16_2, st69_16_3, st69_16_4, reg69_17, st69_17_0, st69_17_1, reg69_18, st69_18_0, st69_18_1, st69_18_2, st69_18_3, reg69_19, st69_19_0, reg69_20, st69_20_0, st69_20_1, st69_20_2, st69_20_3, reg69_21, st69_21_0, st69_21_1, st69_21_2, st69_21_3, reg69_22, st69_22_0, st69_22_1, i_lss, d3, i3, ld76, r4, new76, sx, fa76_1, Nat.zero_add, ld49, r5, y1, not_b, Bool.not_true, i_add, w3]
        exact hk3 _ _ ⟨F4, by rw [hne3, ← List.append_assoc]; simpa using y3, st5, by rw [cl69_14]⟩
    · rintro h6 fr ⟨F3, j3, st3, e⟩ k3
      have d3 : decide ((T.arms.length : Int) < (T.arms.length : Int)) = false := by simp
      have c9 : h6.cell? b 9 = some sk := by have := (HB st3).cell k1; rwa [Nat.zero_add] at this
      have hl5 : alen Try.prog 47 sk = some T.kids.length := by rw [k2.alen u47, List.length_map]
      rw [List.take_length] at j3
      rw [e]
      unfold C69_14 lp69_14
      simp (implicitDefEqProofs := false) only [run_seq, run_cond, opsS_cons, opsS_nil, sameH_f, sameH_t, run_block, run_loop, run_exit, run_ret, run_skip, ops_cons, ops_nil, ev_tmp, pureS_some, heapS_some, heapN_some, gdS_tt, gdS_ff, gdS_tf, gdS_ft, gdS_undef, List.getD_cons_succ, List.getD_cons_zero, List.set_cons_succ, List.set_cons_zero, Option.bind_some, regR_some, seqR_normal, seqR_ret, seqR_exit, fin0_ret, fin0_normal, fin1_ret, fin1_normal, finN_ret, finN_normal, List.map_cons, List.map_nil, lenV_some, pickV_t, pickV_f, callV_func, callV_yield, extV_tup, condR_true, condR_false, blockR_normal, blockR_ret, blockR_exit, if_true, List.nil_append, List.append_nil, List.cons_append, List.getElem?_cons_zero, List.getElem?_cons_succ, loopR_normal, loopR_exit, loopR_ret, Option.map_some, ite_true, reduceIte, reg69_0, st69_0_0, st69_0_1, st69_0_2, st69_0_3, reg69_1, st69_1_0, reg69_2, st69_2_0, st69_2_1, st69_2_2, st69_2_3, reg69_3, st69_3_0, st69_3_1, st69_3_2, st69_3_3, reg69_4, st69_4_0, reg69_5, st69_5_0, st69_5_1, st69_5_2, reg69_6, st69_6_0, st69_6_1, st69_6_2, reg69_7, st69_7_0, reg69_8, st69_8_0, st69_8_1, st69_8_2, st69_8_3, reg69_9, st69_9_0, st69_9_1, st69_9_2, st69_9_3, reg69_10, st69_10_0, st69_10_1, reg69_11, st69_11_0, st69_11_1, reg69_12, st69_12_0, st69_12_1, reg69_13, st69_13_0, st69_13_1, st69_13_2, st69_13_3, reg69_14, st69_14_0, reg69_15, st69_15_0, st69_15_1, st69_15_2, st69_15_3, reg69_16, st69_16_0, st69_16_1, st69_16_2, st69_16_3, st69_16_4, reg69_17, st69_17_0, st69_17_1, reg69_18, st69_18_0, st69_18_1, st69_18_2, st69_18_3, reg69_19, st69_19_0, reg69_20, st69_20_0, st69_20_1, st69_20_2, st69_20_3, reg69_21, st69_21_0, st69_21_1, st69_21_2, st69_21_3, reg69_22, st69_22_0, st69_22_1, i_lss, d3, fa49_9, Nat.zero_add, ld47, c9, hl5]
      generalize hr : aloop _ _ _ _ _ = r
      revert r hr
      refine loop_all T.kids.length (fun i h' fr => ∃ F', J (T.own.flatMap Wd.cmds ++ T.arms.map Am.body ++ T.kids.take i) F' h' ∧ St F F' h2 h' ∧ fr = C69_19 yv sk (.int .i64 (T.kids.length : Int)) (.int .i64 (i : Int))) ?_ ?_ ⟨F3, by simpa using j3, st3, by rw [cl69_19]; rfl⟩ (by omega)
      · rintro l h6 fr hl ⟨F3, j3, st3, e⟩ k3 hk3
        have hx3 : (T.kids.map Nd.cells)[l]? = some T.kids[l].cells := by rw [List.getElem?_map, List.getElem?_eq_getElem hl]; rfl
        obtain ⟨id3, off3, i3, H3⟩ := k2.ix u47 z49 hx3
        have hxk := okN_mem ‹okN hB T.kids› _ (List.getElem_mem hl)
        have hsp3 : T.kids = T.kids.take l ++ T.kids[l] :: T.kids.drop (l + 1) := by rw [List.getElem_cons_drop, List.take_append_drop]
        have hne3 := take_next hl
        have hw : ∃ post, T.under = (T.own.flatMap Wd.cmds ++ T.arms.map Am.body ++ T.kids.take l) ++ T.kids[l] :: post :=
          ⟨T.kids.drop (l + 1), by
            have e1 : T.under = T.own.flatMap Wd.cmds ++ T.arms.map Am.body ++ T.kids := rfl
            rw [e1]
            conv => lhs; rw [hsp3]
            simp only [List.append_assoc]⟩
        generalize T.kids[l] = x at *
        have qb := bas st3
        have r4 := ldS (H3.quiet qb) (n := 10) x.cells_len
        obtain ⟨h7, f1, f2, f3, _⟩ := fill h6 [.int .i64 0, .str [], .bool false, .bool false, .nilSl, .nilSl, .nilSl, .nilSl, .nilSl, .nilSl] x.cells x.cells_len
        have sx := stV_agg (t := 49) (n := 10) (l := x.cells) z49 x.cells_len (Nd.atoms hxk) h6.next 0 (h6.alloc [.int .i64 0, .str [], .bool false, .bool false, .nilSl, .nilSl, .nilSl, .nilSl, .nilSl, .nilSl])
        rw [f1] at sx
        simp only [Option.map_some] at sx
        have r5 := ldS f2.has (n := 10) x.cells_len
        obtain ⟨post, hw⟩ := hw
        obtain ⟨bb, h8, F4, y1, y2, y3⟩ := Y _ x post hw F3 h7 (I.quiet j3 f3) (qb.trans f3) m (by omega)
        have st5 := (st3.trans (St.quiet F3 f3)).trans y2
        have d3 : decide ((l : Int) < (T.kids.length : Int)) = true := by simp; omega
        have w3 := wrap_succ l (by omega)
        cases bb with
        | false =>
          rw [e]
          unfold C69_19 lp69_19
          simp (implicitDefEqProofs := false) only [run_seq, run_cond, opsS_cons, opsS_nil, sameH_f, sameH_t, run_block, run_loop, run_exit, run_ret, run_skip, ops_cons, ops_nil, ev_tmp, pureS_some, heapS_some, heapN_some, gdS_tt, gdS_ff, gdS_tf, gdS_ft, gdS_undef, List.getD_cons_succ, List.getD_cons_zero, List.set_cons_succ, List.set_cons_zero, Option.bind_some, regR_some, seqR_normal, seqR_ret, seqR_exit, fin0_ret, fin0_normal, fin1_ret, fin1_normal, finN_ret, finN_normal, List.map_cons, List.map_nil, lenV_some, pickV_t, pickV_f, callV_func, callV_yield, extV_tup, condR_true, condR_false, blockR_normal, blockR_ret, blockR_exit, if_true, List.nil_append, List.append_nil, List.cons_append, List.getElem?_cons_zero, List.getElem?_cons_succ, loopR_normal, loopR_exit, loopR_ret, Option.map_some, ite_true, reduceIte, reg69_0, st69_0_0, st69_0_1, st69_0_2, st69_0_3, reg69_1, st69_1_0, reg69_2, st69_2_0, st69_2_1, st69_2_2, st69_2_3, reg69_3, st69_3_0, st69_3_1, st69_3_2, st69_3_3, reg69_4, st69_4_0, reg69_5, st69_5_0, st69_5_1, st69_5_2, reg69_6, st69_6_0, st69_6_1, st69_6_2, reg69_7, st69_7_0, reg69_8, st69_8_0, st69_8_1, st69_8_2, st69_8_3, reg69_9, st69_9_0, st69_9_1, st69_9_2, st69_9_3, reg69_10, st69_10_0, st69_10_1, reg69_11, st69_11_0, st69_11_1, reg69_12, st69_12_0, st69_12_1, reg69_13, st69_13_0, st69_13_1, st69_13_2, st69_13_3, reg69_14, st69_14_0, reg69_15, st69_15_0, st69_15_1, st69_15_2, st69_15_3, reg69_16, st69_16_0, st69_16_1, st69_16_2, st69_16_3, st69_16_4, reg69_17, st69_17_0, st69_17_1, reg69_18, st69_18_0, st69_18_1, st69_18_2, st69_18_3, reg69_19, st69_19_0, reg69_20, st69_20_0, st69_20_1, st69_20_2, st69_20_3, reg69_21, st69_21_0, st69_21_1, st69_21_2, st69_21_3, reg69_22, st69_22_0, st69_22_1, i_lss, d3, i3, ld49, r4, new49, sx, r5, y1, not_b, Bool.not_false]
          exact ⟨_, F4, rfl, tot st5, .inr ⟨_, by simpa using y3⟩⟩
        | true =>
          rw [e]
          unfold C69_19 lp69_19
          simp (implicitDefEqProofs := false) only [run_seq, run_cond, opsS_cons, opsS_nil, sameH_f, sameH_t, run_block, run_loop, run_exit, run_ret, run_skip, ops_cons, ops_nil, ev_tmp, pureS_some, heapS_some, heapN_some, gdS_tt, gdS_ff, gdS_tf, gdS_ft, gdS_undef, List.getD_cons_succ, List.getD_cons_zero, List.set_cons_succ, List.set_cons_zero, Option.bind_some, regR_some, seqR_normal, seqR_ret, seqR_exit, fin0_ret, fin0_normal, fin1_ret, fin1_normal, finN_ret, finN_normal, List.map_cons, List.map_nil, lenV_some, pickV_t, pickV_f, callV_func, callV_yield, extV_tup, condR_true, condR_false, blockR_normal, blockR_ret, blockR_exit, if_true, List.nil_append, List.append_nil, List.cons_append, List.getElem?_cons_zero, List.getElem?_cons_succ, loopR_normal, loopR_exit, loopR_ret, Option.map_some, ite_true, reduceIte, reg69_0, st69_0_0, st69_0_1, st69_0_2, st69_0_3, reg69_1, st69_1_0, reg69_2, st69_2_0, st69_2_1, st69_2_2, st69_2_3, reg69_3, st69_3_0, st69_3_1, st69_3_2, st69_3_3, reg69_4, st69_4_0, reg69_5, st69_5_0, st69_5_1, st69_5_2, reg69_6, st69_6_0, st69_6_1, st69_6_2, reg69_7, st69_7_0, reg69_8, st69_8_0, st69_8_1, st69_8_2, st69_8_3, reg69_9, st69_9_0, st69_9_1, st69_9_2, st69_9_3, reg69_10, st69_10_0, st69_10_1, reg69_11, st69_11_0, st69_11_1, reg69_12, st69_12_0, st69_12_1, reg69_13, st69_13_0, st69_13_1, st69_13_2, st69_13_3, reg69_14, st69_14_0, reg69_15, st69_15_0, st69_15_1, st69_15_2, st69_15_3, reg69_16, st69_16_0, st69_16_1, st69_16_2, st69_16_3, st69_16_4, reg69_17, st69_17_0, st69_17_1, reg69_18, st69_18_0, st69_18_1, st69_18_2, st69_18_3, reg69_19, st69_19_0, reg69_20, st69_20_0, st69_20_1, st69_20_2, st69_20_3, reg69_21, st69_21_0, st69_21_1, st69_21_2, st69_21_3, reg69_22, st69_22_0, st69_22_1, i_lss, d3, i3, ld49, r4, new49, sx, r5, y1, not_b, Bool.not_true, i_add, w3]
          exact hk3 _ _ ⟨F4, by rw [hne3, ← List.append_assoc]; simpa using y3, st5, by rw [cl69_19]⟩
      · rintro h6 fr ⟨F3, j3, st3, e⟩ k3
        have d3 : decide ((T.kids.length : Int) < (T.kids.length : Int)) = false := by simp
        rw [List.take_length] at j3
        rw [e]
        unfold C69_19 lp69_19
        simp (implicitDefEqProofs := false) only [run_seq, run_cond, opsS_cons, opsS_nil, sameH_f, sameH_t, run_block, run_loop, run_exit, run_ret, run_skip, ops_cons, ops_nil, ev_tmp, pureS_some, heapS_some, heapN_some, gdS_tt, gdS_ff, gdS_tf, gdS_ft, gdS_undef, List.getD_cons_succ, List.getD_cons_zero, List.set_cons_succ, List.set_cons_zero, Option.bind_some, regR_some, seqR_normal, seqR_ret, seqR_exit, fin0_ret, fin0_normal, fin1_ret, fin1_normal, finN_ret, finN_normal, List.map_cons, List.map_nil, lenV_some, pickV_t, pickV_f, callV_func, callV_yield, extV_tup, condR_true, condR_false, blockR_normal, blockR_ret, blockR_exit, if_true, List.nil_append, List.append_nil, List.cons_append, List.getElem?_cons_zero, List.getElem?_cons_succ, loopR_normal, loopR_exit, loopR_ret, Option.map_some, ite_true, reduceIte, reg69_0, st69_0_0, st69_0_1, st69_0_2, st69_0_3, reg69_1, st69_1_0, reg69_2, st69_2_0, st69_2_1, st69_2_2, st69_2_3, reg69_3, st69_3_0, st69_3_1, st69_3_2, st69_3_3, reg69_4, st69_4_0, reg69_5, st69_5_0, st69_5_1, st69_5_2, reg69_6, st69_6_0, st69_6_1, st69_6_2, reg69_7, st69_7_0, reg69_8, st69_8_0, st69_8_1, st69_8_2, st69_8_3, reg69_9, st69_9_0, st69_9_1, st69_9_2, st69_9_3, reg69_10, st69_10_0, st69_10_1, reg69_11, st69_11_0, st69_11_1, reg69_12, st69_12_0, st69_12_1, reg69_13, st69_13_0, st69_13_1, st69_13_2, st69_13_3, reg69_14, st69_14_0, reg69_15, st69_15_0, st69_15_1, st69_15_2, st69_15_3, reg69_16, st69_16_0, st69_16_1, st69_16_2, st69_16_3, st69_16_4, reg69_17, st69_17_0, st69_17_1, reg69_18, st69_18_0, st69_18_1, st69_18_2, st69_18_3, reg69_19, st69_19_0, reg69_20, st69_20_0, st69_20_1, st69_20_2, st69_20_3, reg69_21, st69_21_0, st69_21_1, st69_21_2, st69_21_3, reg69_22, st69_22_0, st69_22_1, i_lss, d3]
        exact ⟨_, F3, rfl, tot st3, .inl j3⟩
end Go.Proofs.Ytgnacecplaemlaa
