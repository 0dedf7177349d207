/-
  How much there is, on: words, lists of commands, a command.
-/
import Derived.Test.YtgnacecplaemlaaW7
namespace Go.Proofs.Ytgnacecplaemlaa
open AI
set_option linter.unusedSimpArgs false
structure MuchFam (N : Nat) : Prop where
  one : ∀ {h : AH} {T : Nd}, T.sz ≤ N → T.sz ≤ 1048576 → T.ok h → ∀ n, 8 * T.sz + 4 ≤ n → Num n 25 [.agg T.cells] h
  all : ∀ {h : AH} {s : AV} {l : List Nd}, szN l ≤ N → szN l ≤ 1048576 → okN h l → Sl h s 10 (l.map Nd.cells) → ∀ n, 8 * szN l + 5 ≤ n → Num n 47 [s] h
  wd : ∀ {h : AH} {w : Wd}, w.sz ≤ N → w.sz ≤ 1048576 → w.ok h → ∀ n, 8 * w.sz + 6 ≤ n → Num n 48 [.agg w.cells] h
  wds : ∀ {h : AH} {s : AV} {l : List Wd}, szW l ≤ N → szW l ≤ 1048576 → okW h l → Sl h s 1 (l.map Wd.cells) → ∀ n, 8 * szW l + 7 ≤ n → Num n 46 [s] h

theorem much47 {N : Nat} (one : ∀ {h : AH} {T : Nd}, T.sz ≤ N → T.sz ≤ 1048576 → T.ok h → ∀ n, 8 * T.sz + 4 ≤ n → Num n 25 [.agg T.cells] h)
    {h : AH} {s : AV} {l : List Nd} (hN : szN l ≤ N) (hb : szN l ≤ 1048576) (hv : okN h l) (S : Sl h s 10 (l.map Nd.cells)) (n : Nat) (hn : 8 * szN l + 5 ≤ n) : Num n 47 [s] h := by
  obtain ⟨m, rfl⟩ : ∃ m, n = m + 1 := ⟨n - 1, by omega⟩
  have hlen := szN_len l
  have hl : alen Try.prog 47 s = some l.length := by rw [S.alen u47, List.length_map]
  unfold Num
  rw [ent47]
  unfold cd47
  simp (implicitDefEqProofs := false) only [run_seq, run_cond, opsS_cons, opsS_nil, sameH_f, sameH_t, run_block, run_loop, run_exit, run_ret, run_skip, ops_cons, ops_nil, ev_tmp, pureS_some, heapS_some, heapN_some, gdS_tt, gdS_ff, gdS_tf, gdS_ft, gdS_undef, List.getD_cons_succ, List.getD_cons_zero, List.set_cons_succ, List.set_cons_zero, Option.bind_some, regR_some, seqR_normal, seqR_ret, seqR_exit, fin0_ret, fin0_normal, fin1_ret, fin1_normal, finN_ret, finN_normal, List.map_cons, List.map_nil, lenV_some, pickV_t, pickV_f, callV_func, callV_yield, extV_tup, condR_true, condR_false, blockR_normal, blockR_ret, blockR_exit, if_true, List.nil_append, List.append_nil, List.cons_append, List.getElem?_cons_zero, List.getElem?_cons_succ, loopR_normal, loopR_exit, loopR_ret, Option.map_some, ite_true, reduceIte, reg47_0, st47_0_0, reg47_1, st47_1_0, st47_1_1, st47_1_2, reg47_2, st47_2_0, reg47_3, st47_3_0, st47_3_1, st47_3_2, st47_3_3, st47_3_4, st47_3_5, st47_3_6, st47_3_7, reg47_5, st47_5_0, st47_5_1, st47_5_2, st47_5_3, st47_5_4, st47_5_5, st47_5_6, st47_5_7, reg47_4, st47_4_0, st47_4_1, st47_4_2, reg47_6, st47_6_0, st47_6_1, hl]
  generalize hr : aloop _ _ _ _ _ = r
  revert r hr
  refine loop_all l.length (fun i h' fr => ∃ z : Int, h' = h ∧ fr = C47_3 s (.int .i64 z) (.int .i64 (i : Int))) ?_ ?_ ⟨(l.length : Int), rfl, by rw [cl47_3]; rfl⟩ (by omega)
  · rintro i h' fr hi ⟨z, rfl, e⟩ k hk
    have hm : l[i]? = some l[i] := List.getElem?_eq_getElem hi
    have hmem : l[i] ∈ l := List.getElem_mem hi
    have hx : (l.map Nd.cells)[i]? = some l[i].cells := by rw [List.getElem?_map, hm]; rfl
    obtain ⟨id, off, i1, H⟩ := S.ix u47 z49 hx
    have hsz := szN_mem hmem
    have hok := okN_mem hv _ hmem
    generalize l[i] = x at *
    have d : decide ((i : Int) < (l.length : Int)) = true := by simp; omega
    have w := wrap_succ i (by omega)
    rw [e]
    by_cases hz : z ≤ 1000
    · have d2 : decide (z ≤ 1000) = true := by simp [hz]
      obtain ⟨z2, e1⟩ := one (h := h') (T := x) (by omega) (by omega) hok m (by omega)
      have r1 := ldS H x.cells_len
      unfold C47_3 lp47_3
      simp (implicitDefEqProofs := false) only [run_seq, run_cond, opsS_cons, opsS_nil, sameH_f, sameH_t, run_block, run_loop, run_exit, run_ret, run_skip, ops_cons, ops_nil, ev_tmp, pureS_some, heapS_some, heapN_some, gdS_tt, gdS_ff, gdS_tf, gdS_ft, gdS_undef, List.getD_cons_succ, List.getD_cons_zero, List.set_cons_succ, List.set_cons_zero, Option.bind_some, regR_some, seqR_normal, seqR_ret, seqR_exit, fin0_ret, fin0_normal, fin1_ret, fin1_normal, finN_ret, finN_normal, List.map_cons, List.map_nil, lenV_some, pickV_t, pickV_f, callV_func, callV_yield, extV_tup, condR_true, condR_false, blockR_normal, blockR_ret, blockR_exit, if_true, List.nil_append, List.append_nil, List.cons_append, List.getElem?_cons_zero, List.getElem?_cons_succ, loopR_normal, loopR_exit, loopR_ret, Option.map_some, ite_true, reduceIte, reg47_0, st47_0_0, reg47_1, st47_1_0, st47_1_1, st47_1_2, reg47_2, st47_2_0, reg47_3, st47_3_0, st47_3_1, st47_3_2, st47_3_3, st47_3_4, st47_3_5, st47_3_6, st47_3_7, reg47_5, st47_5_0, st47_5_1, st47_5_2, st47_5_3, st47_5_4, st47_5_5, st47_5_6, st47_5_7, reg47_4, st47_4_0, st47_4_1, st47_4_2, reg47_6, st47_6_0, st47_6_1, hl, i_lss, i_leq, d, d2, i1, ld49, r1, e1, i_add, w]
      exact hk _ _ ⟨_, rfl, by rw [cl47_3]⟩
    · have d2 : decide (z ≤ 1000) = false := by simp [hz]
      unfold C47_3 lp47_3
      simp (implicitDefEqProofs := false) only [run_seq, run_cond, opsS_cons, opsS_nil, sameH_f, sameH_t, run_block, run_loop, run_exit, run_ret, run_skip, ops_cons, ops_nil, ev_tmp, pureS_some, heapS_some, heapN_some, gdS_tt, gdS_ff, gdS_tf, gdS_ft, gdS_undef, List.getD_cons_succ, List.getD_cons_zero, List.set_cons_succ, List.set_cons_zero, Option.bind_some, regR_some, seqR_normal, seqR_ret, seqR_exit, fin0_ret, fin0_normal, fin1_ret, fin1_normal, finN_ret, finN_normal, List.map_cons, List.map_nil, lenV_some, pickV_t, pickV_f, callV_func, callV_yield, extV_tup, condR_true, condR_false, blockR_normal, blockR_ret, blockR_exit, if_true, List.nil_append, List.append_nil, List.cons_append, List.getElem?_cons_zero, List.getElem?_cons_succ, loopR_normal, loopR_exit, loopR_ret, Option.map_some, ite_true, reduceIte, reg47_0, st47_0_0, reg47_1, st47_1_0, st47_1_1, st47_1_2, reg47_2, st47_2_0, reg47_3, st47_3_0, st47_3_1, st47_3_2, st47_3_3, st47_3_4, st47_3_5, st47_3_6, st47_3_7, reg47_5, st47_5_0, st47_5_1, st47_5_2, st47_5_3, st47_5_4, st47_5_5, st47_5_6, st47_5_7, reg47_4, st47_4_0, st47_4_1, st47_4_2, reg47_6, st47_6_0, st47_6_1, hl, i_lss, i_leq, d, d2]
      exact ⟨z, nrm_flat (Other.refl _ _) rfl⟩
  · rintro h' fr ⟨z, rfl, e⟩ k
    have d : decide ((l.length : Int) < (l.length : Int)) = false := by simp
    rw [e]
    unfold C47_3 lp47_3
    simp (implicitDefEqProofs := false) only [run_seq, run_cond, opsS_cons, opsS_nil, sameH_f, sameH_t, run_block, run_loop, run_exit, run_ret, run_skip, ops_cons, ops_nil, ev_tmp, pureS_some, heapS_some, heapN_some, gdS_tt, gdS_ff, gdS_tf, gdS_ft, gdS_undef, List.getD_cons_succ, List.getD_cons_zero, List.set_cons_succ, List.set_cons_zero, Option.bind_some, regR_some, seqR_normal, seqR_ret, seqR_exit, fin0_ret, fin0_normal, fin1_ret, fin1_normal, finN_ret, finN_normal, List.map_cons, List.map_nil, lenV_some, pickV_t, pickV_f, callV_func, callV_yield, extV_tup, condR_true, condR_false, blockR_normal, blockR_ret, blockR_exit, if_true, List.nil_append, List.append_nil, List.cons_append, List.getElem?_cons_zero, List.getElem?_cons_succ, loopR_normal, loopR_exit, loopR_ret, Option.map_some, ite_true, reduceIte, reg47_0, st47_0_0, reg47_1, st47_1_0, st47_1_1, st47_1_2, reg47_2, st47_2_0, reg47_3, st47_3_0, st47_3_1, st47_3_2, st47_3_3, st47_3_4, st47_3_5, st47_3_6, st47_3_7, reg47_5, st47_5_0, st47_5_1, st47_5_2, st47_5_3, st47_5_4, st47_5_5, st47_5_6, st47_5_7, reg47_4, st47_4_0, st47_4_1, st47_4_2, reg47_6, st47_6_0, st47_6_1, hl, i_lss, d]
    exact ⟨z, nrm_flat (Other.refl _ _) rfl⟩

theorem much46 {N : Nat} (wd : ∀ {h : AH} {w : Wd}, w.sz ≤ N → w.sz ≤ 1048576 → w.ok h → ∀ n, 8 * w.sz + 6 ≤ n → Num n 48 [.agg w.cells] h)
    {h : AH} {s : AV} {l : List Wd} (hN : szW l ≤ N) (hb : szW l ≤ 1048576) (hv : okW h l) (S : Sl h s 1 (l.map Wd.cells)) (n : Nat) (hn : 8 * szW l + 7 ≤ n) : Num n 46 [s] h := by
  obtain ⟨m, rfl⟩ : ∃ m, n = m + 1 := ⟨n - 1, by omega⟩
  have hlen := szW_len l
  have hl : alen Try.prog 44 s = some l.length := by rw [S.alen u44, List.length_map]
  unfold Num
  rw [ent46]
  unfold cd46
  simp (implicitDefEqProofs := false) only [run_seq, run_cond, opsS_cons, opsS_nil, sameH_f, sameH_t, run_block, run_loop, run_exit, run_ret, run_skip, ops_cons, ops_nil, ev_tmp, pureS_some, heapS_some, heapN_some, gdS_tt, gdS_ff, gdS_tf, gdS_ft, gdS_undef, List.getD_cons_succ, List.getD_cons_zero, List.set_cons_succ, List.set_cons_zero, Option.bind_some, regR_some, seqR_normal, seqR_ret, seqR_exit, fin0_ret, fin0_normal, fin1_ret, fin1_normal, finN_ret, finN_normal, List.map_cons, List.map_nil, lenV_some, pickV_t, pickV_f, callV_func, callV_yield, extV_tup, condR_true, condR_false, blockR_normal, blockR_ret, blockR_exit, if_true, List.nil_append, List.append_nil, List.cons_append, List.getElem?_cons_zero, List.getElem?_cons_succ, loopR_normal, loopR_exit, loopR_ret, Option.map_some, ite_true, reduceIte, reg46_0, st46_0_0, reg46_1, st46_1_0, st46_1_1, st46_1_2, reg46_2, st46_2_0, reg46_3, st46_3_0, st46_3_1, st46_3_2, st46_3_3, st46_3_4, st46_3_5, st46_3_6, st46_3_7, reg46_5, st46_5_0, st46_5_1, st46_5_2, st46_5_3, st46_5_4, st46_5_5, st46_5_6, st46_5_7, reg46_4, st46_4_0, st46_4_1, st46_4_2, reg46_6, st46_6_0, st46_6_1, hl]
  generalize hr : aloop _ _ _ _ _ = r
  revert r hr
  refine loop_all l.length (fun i h' fr => ∃ z : Int, h' = h ∧ fr = C46_3 s (.int .i64 z) (.int .i64 (i : Int))) ?_ ?_ ⟨(l.length : Int), rfl, by rw [cl46_3]; rfl⟩ (by omega)
  · rintro i h' fr hi ⟨z, rfl, e⟩ k hk
    have hm : l[i]? = some l[i] := List.getElem?_eq_getElem hi
    have hmem : l[i] ∈ l := List.getElem_mem hi
    have hx : (l.map Wd.cells)[i]? = some l[i].cells := by rw [List.getElem?_map, hm]; rfl
    obtain ⟨id, off, i1, H⟩ := S.ix u44 z60 hx
    have hsz := szW_mem hmem
    have hok := okW_mem hv _ hmem
    generalize l[i] = x at *
    have d : decide ((i : Int) < (l.length : Int)) = true := by simp; omega
    have w := wrap_succ i (by omega)
    rw [e]
    by_cases hz : z ≤ 1000
    · have d2 : decide (z ≤ 1000) = true := by simp [hz]
      obtain ⟨z2, e1⟩ := wd (h := h') (w := x) (by omega) (by omega) hok m (by omega)
      have r1 := ldS H x.cells_len
      unfold C46_3 lp46_3
      simp (implicitDefEqProofs := false) only [run_seq, run_cond, opsS_cons, opsS_nil, sameH_f, sameH_t, run_block, run_loop, run_exit, run_ret, run_skip, ops_cons, ops_nil, ev_tmp, pureS_some, heapS_some, heapN_some, gdS_tt, gdS_ff, gdS_tf, gdS_ft, gdS_undef, List.getD_cons_succ, List.getD_cons_zero, List.set_cons_succ, List.set_cons_zero, Option.bind_some, regR_some, seqR_normal, seqR_ret, seqR_exit, fin0_ret, fin0_normal, fin1_ret, fin1_normal, finN_ret, finN_normal, List.map_cons, List.map_nil, lenV_some, pickV_t, pickV_f, callV_func, callV_yield, extV_tup, condR_true, condR_false, blockR_normal, blockR_ret, blockR_exit, if_true, List.nil_append, List.append_nil, List.cons_append, List.getElem?_cons_zero, List.getElem?_cons_succ, loopR_normal, loopR_exit, loopR_ret, Option.map_some, ite_true, reduceIte, reg46_0, st46_0_0, reg46_1, st46_1_0, st46_1_1, st46_1_2, reg46_2, st46_2_0, reg46_3, st46_3_0, st46_3_1, st46_3_2, st46_3_3, st46_3_4, st46_3_5, st46_3_6, st46_3_7, reg46_5, st46_5_0, st46_5_1, st46_5_2, st46_5_3, st46_5_4, st46_5_5, st46_5_6, st46_5_7, reg46_4, st46_4_0, st46_4_1, st46_4_2, reg46_6, st46_6_0, st46_6_1, hl, i_lss, i_leq, d, d2, i1, ld60, r1, e1, i_add, w]
      exact hk _ _ ⟨_, rfl, by rw [cl46_3]⟩
    · have d2 : decide (z ≤ 1000) = false := by simp [hz]
      unfold C46_3 lp46_3
      simp (implicitDefEqProofs := false) only [run_seq, run_cond, opsS_cons, opsS_nil, sameH_f, sameH_t, run_block, run_loop, run_exit, run_ret, run_skip, ops_cons, ops_nil, ev_tmp, pureS_some, heapS_some, heapN_some, gdS_tt, gdS_ff, gdS_tf, gdS_ft, gdS_undef, List.getD_cons_succ, List.getD_cons_zero, List.set_cons_succ, List.set_cons_zero, Option.bind_some, regR_some, seqR_normal, seqR_ret, seqR_exit, fin0_ret, fin0_normal, fin1_ret, fin1_normal, finN_ret, finN_normal, List.map_cons, List.map_nil, lenV_some, pickV_t, pickV_f, callV_func, callV_yield, extV_tup, condR_true, condR_false, blockR_normal, blockR_ret, blockR_exit, if_true, List.nil_append, List.append_nil, List.cons_append, List.getElem?_cons_zero, List.getElem?_cons_succ, loopR_normal, loopR_exit, loopR_ret, Option.map_some, ite_true, reduceIte, reg46_0, st46_0_0, reg46_1, st46_1_0, st46_1_1, st46_1_2, reg46_2, st46_2_0, reg46_3, st46_3_0, st46_3_1, st46_3_2, st46_3_3, st46_3_4, st46_3_5, st46_3_6, st46_3_7, reg46_5, st46_5_0, st46_5_1, st46_5_2, st46_5_3, st46_5_4, st46_5_5, st46_5_6, st46_5_7, reg46_4, st46_4_0, st46_4_1, st46_4_2, reg46_6, st46_6_0, st46_6_1, hl, i_lss, i_leq, d, d2]
      exact ⟨z, nrm_flat (Other.refl _ _) rfl⟩
  · rintro h' fr ⟨z, rfl, e⟩ k
    have d : decide ((l.length : Int) < (l.length : Int)) = false := by simp
    rw [e]
    unfold C46_3 lp46_3
    simp (implicitDefEqProofs := false) only [run_seq, run_cond, opsS_cons, opsS_nil, sameH_f, sameH_t, run_block, run_loop, run_exit, run_ret, run_skip, ops_cons, ops_nil, ev_tmp, pureS_some, heapS_some, heapN_some, gdS_tt, gdS_ff, gdS_tf, gdS_ft, gdS_undef, List.getD_cons_succ, List.getD_cons_zero, List.set_cons_succ, List.set_cons_zero, Option.bind_some, regR_some, seqR_normal, seqR_ret, seqR_exit, fin0_ret, fin0_normal, fin1_ret, fin1_normal, finN_ret, finN_normal, List.map_cons, List.map_nil, lenV_some, pickV_t, pickV_f, callV_func, callV_yield, extV_tup, condR_true, condR_false, blockR_normal, blockR_ret, blockR_exit, if_true, List.nil_append, List.append_nil, List.cons_append, List.getElem?_cons_zero, List.getElem?_cons_succ, loopR_normal, loopR_exit, loopR_ret, Option.map_some, ite_true, reduceIte, reg46_0, st46_0_0, reg46_1, st46_1_0, st46_1_1, st46_1_2, reg46_2, st46_2_0, reg46_3, st46_3_0, st46_3_1, st46_3_2, st46_3_3, st46_3_4, st46_3_5, st46_3_6, st46_3_7, reg46_5, st46_5_0, st46_5_1, st46_5_2, st46_5_3, st46_5_4, st46_5_5, st46_5_6, st46_5_7, reg46_4, st46_4_0, st46_4_1, st46_4_2, reg46_6, st46_6_0, st46_6_1, hl, i_lss, d]
    exact ⟨z, nrm_flat (Other.refl _ _) rfl⟩

theorem much48 {N : Nat} (all : ∀ {h : AH} {s : AV} {l : List Nd}, szN l ≤ N → szN l ≤ 1048576 → okN h l → Sl h s 10 (l.map Nd.cells) → ∀ n, 8 * szN l + 5 ≤ n → Num n 47 [s] h)
    {h : AH} {w : Wd} (hN : w.sz ≤ N) (hb : w.sz ≤ 1048576) (hv : w.ok h) (n : Nat) (hn : 8 * w.sz + 6 ≤ n) : Num n 48 [.agg w.cells] h := by
  obtain ⟨m, rfl⟩ : ∃ m, n = m + 1 := ⟨n - 1, by omega⟩
  obtain ⟨s, ps⟩ := w
  simp only [Wd.sz] at hN hb hn
  simp only [Wd.ok] at hv
  have q1 : Quiet h (h.alloc [s]) := Other.alloc _ _ _
  have c0 : (h.alloc [s]).cell? h.next 0 = some s := cell_alloc _ _ _
  have hv2 := okP.quiet q1 hv.2
  have hv1 := hv.1.quiet q1
  generalize hh1 : h.alloc [s] = h1 at *
  obtain ⟨z1, e1⟩ := much65 (szP ps) (h := h1) (s := s) (ps := ps) (Nat.le_refl _) (by omega) hv2 hv1 m (by omega)
  obtain ⟨L, g1, g2, s2, h2, r1, r2, r3⟩ := cmds66 (szP ps) (h := h1) (s := s) (ps := ps) (Nat.le_refl _) (by omega) hv2 hv1 m (by omega)
  have hl : alen Try.prog 89 s2 = some L.length := by rw [r2.alen u89, List.length_map]
  unfold Num
  rw [ent48]
  unfold cd48
  simp (implicitDefEqProofs := false) only [run_seq, run_cond, opsS_cons, opsS_nil, sameH_f, sameH_t, run_block, run_loop, run_exit, run_ret, run_skip, ops_cons, ops_nil, ev_tmp, pureS_some, heapS_some, heapN_some, gdS_tt, gdS_ff, gdS_tf, gdS_ft, gdS_undef, List.getD_cons_succ, List.getD_cons_zero, List.set_cons_succ, List.set_cons_zero, Option.bind_some, regR_some, seqR_normal, seqR_ret, seqR_exit, fin0_ret, fin0_normal, fin1_ret, fin1_normal, finN_ret, finN_normal, List.map_cons, List.map_nil, lenV_some, pickV_t, pickV_f, callV_func, callV_yield, extV_tup, condR_true, condR_false, blockR_normal, blockR_ret, blockR_exit, if_true, List.nil_append, List.append_nil, List.cons_append, List.getElem?_cons_zero, List.getElem?_cons_succ, loopR_normal, loopR_exit, loopR_ret, Option.map_some, ite_true, reduceIte, reg48_0, st48_0_0, st48_0_1, reg48_1, st48_1_0, st48_1_1, st48_1_2, st48_1_3, reg48_2, st48_2_0, st48_2_1, st48_2_2, st48_2_3, reg48_3, st48_3_0, reg48_4, st48_4_0, st48_4_1, st48_4_2, st48_4_3, st48_4_4, st48_4_5, st48_4_6, st48_4_7, reg48_6, st48_6_0, st48_6_1, st48_6_2, st48_6_3, st48_6_4, st48_6_5, st48_6_6, st48_6_7, reg48_5, st48_5_0, st48_5_1, st48_5_2, reg48_7, st48_7_0, st48_7_1, Wd.cells, box_agg, hh1, fa49_0, fa49_1, fa49_2, fa49_3, fa49_4, fa49_5, fa49_6, fa49_7, fa49_8, fa49_9, fa60_0, fa73_0, fa73_1, fa73_2, fa73_3, fa76_0, fa76_1, fa78_0, fa78_1, fa78_2, fa78_3, fa78_4, Nat.zero_add, ld58, c0, e1, r1]
  generalize hr : aloop _ _ _ _ _ = r
  revert r hr
  refine loop_all L.length (fun i h' fr => ∃ z : Int, h' = h2 ∧ fr = C48_4 (.int .i64 z) s2 (.int .i64 (i : Int))) ?_ ?_ ⟨z1, rfl, by rw [cl48_4]; rfl⟩ (by omega)
  · rintro i h' fr hi ⟨z, rfl, e⟩ k hk
    have hm : L[i]? = some L[i] := List.getElem?_eq_getElem hi
    have hmem : L[i] ∈ L := List.getElem_mem hi
    have hx : (L.map fun c => [c.1])[i]? = some [L[i].1] := by rw [List.getElem?_map, hm]; rfl
    obtain ⟨id, off, i1, H⟩ := r2.ix u89 z47 hx
    obtain ⟨k1, k2, k3⟩ := allc_ok hv2 _ (g1 _ hmem)
    generalize L[i] = x at *
    have d : decide ((i : Int) < (L.length : Int)) = true := by simp; omega
    have w := wrap_succ i (by omega)
    rw [e]
    by_cases hz : z ≤ 1000
    · have d2 : decide (z ≤ 1000) = true := by simp [hz]
      obtain ⟨z2, e2⟩ := all (h := h') (s := x.1) (l := x.2) (by omega) (by omega) (okN.quiet r3 k2) (k1.quiet r3) m (by omega)
      have c1 : h'.cell? id off = some x.1 := by have := H.cell (i := 0) rfl; rwa [Nat.add_zero] at this
      unfold C48_4 lp48_4
      simp (implicitDefEqProofs := false) only [run_seq, run_cond, opsS_cons, opsS_nil, sameH_f, sameH_t, run_block, run_loop, run_exit, run_ret, run_skip, ops_cons, ops_nil, ev_tmp, pureS_some, heapS_some, heapN_some, gdS_tt, gdS_ff, gdS_tf, gdS_ft, gdS_undef, List.getD_cons_succ, List.getD_cons_zero, List.set_cons_succ, List.set_cons_zero, Option.bind_some, regR_some, seqR_normal, seqR_ret, seqR_exit, fin0_ret, fin0_normal, fin1_ret, fin1_normal, finN_ret, finN_normal, List.map_cons, List.map_nil, lenV_some, pickV_t, pickV_f, callV_func, callV_yield, extV_tup, condR_true, condR_false, blockR_normal, blockR_ret, blockR_exit, if_true, List.nil_append, List.append_nil, List.cons_append, List.getElem?_cons_zero, List.getElem?_cons_succ, loopR_normal, loopR_exit, loopR_ret, Option.map_some, ite_true, reduceIte, reg48_0, st48_0_0, st48_0_1, reg48_1, st48_1_0, st48_1_1, st48_1_2, st48_1_3, reg48_2, st48_2_0, st48_2_1, st48_2_2, st48_2_3, reg48_3, st48_3_0, reg48_4, st48_4_0, st48_4_1, st48_4_2, st48_4_3, st48_4_4, st48_4_5, st48_4_6, st48_4_7, reg48_6, st48_6_0, st48_6_1, st48_6_2, st48_6_3, st48_6_4, st48_6_5, st48_6_6, st48_6_7, reg48_5, st48_5_0, st48_5_1, st48_5_2, reg48_7, st48_7_0, st48_7_1, hl, i_lss, i_leq, d, d2, i1, ld47, c1, e2, i_add, w]
      exact hk _ _ ⟨_, rfl, by rw [cl48_4]⟩
    · have d2 : decide (z ≤ 1000) = false := by simp [hz]
      unfold C48_4 lp48_4
      simp (implicitDefEqProofs := false) only [run_seq, run_cond, opsS_cons, opsS_nil, sameH_f, sameH_t, run_block, run_loop, run_exit, run_ret, run_skip, ops_cons, ops_nil, ev_tmp, pureS_some, heapS_some, heapN_some, gdS_tt, gdS_ff, gdS_tf, gdS_ft, gdS_undef, List.getD_cons_succ, List.getD_cons_zero, List.set_cons_succ, List.set_cons_zero, Option.bind_some, regR_some, seqR_normal, seqR_ret, seqR_exit, fin0_ret, fin0_normal, fin1_ret, fin1_normal, finN_ret, finN_normal, List.map_cons, List.map_nil, lenV_some, pickV_t, pickV_f, callV_func, callV_yield, extV_tup, condR_true, condR_false, blockR_normal, blockR_ret, blockR_exit, if_true, List.nil_append, List.append_nil, List.cons_append, List.getElem?_cons_zero, List.getElem?_cons_succ, loopR_normal, loopR_exit, loopR_ret, Option.map_some, ite_true, reduceIte, reg48_0, st48_0_0, st48_0_1, reg48_1, st48_1_0, st48_1_1, st48_1_2, st48_1_3, reg48_2, st48_2_0, st48_2_1, st48_2_2, st48_2_3, reg48_3, st48_3_0, reg48_4, st48_4_0, st48_4_1, st48_4_2, st48_4_3, st48_4_4, st48_4_5, st48_4_6, st48_4_7, reg48_6, st48_6_0, st48_6_1, st48_6_2, st48_6_3, st48_6_4, st48_6_5, st48_6_6, st48_6_7, reg48_5, st48_5_0, st48_5_1, st48_5_2, reg48_7, st48_7_0, st48_7_1, hl, i_lss, i_leq, d, d2]
      exact ⟨z, nrm_flat (q1.trans r3) rfl⟩
  · rintro h' fr ⟨z, rfl, e⟩ k
    have d : decide ((L.length : Int) < (L.length : Int)) = false := by simp
    rw [e]
    unfold C48_4 lp48_4
    simp (implicitDefEqProofs := false) only [run_seq, run_cond, opsS_cons, opsS_nil, sameH_f, sameH_t, run_block, run_loop, run_exit, run_ret, run_skip, ops_cons, ops_nil, ev_tmp, pureS_some, heapS_some, heapN_some, gdS_tt, gdS_ff, gdS_tf, gdS_ft, gdS_undef, List.getD_cons_succ, List.getD_cons_zero, List.set_cons_succ, List.set_cons_zero, Option.bind_some, regR_some, seqR_normal, seqR_ret, seqR_exit, fin0_ret, fin0_normal, fin1_ret, fin1_normal, finN_ret, finN_normal, List.map_cons, List.map_nil, lenV_some, pickV_t, pickV_f, callV_func, callV_yield, extV_tup, condR_true, condR_false, blockR_normal, blockR_ret, blockR_exit, if_true, List.nil_append, List.append_nil, List.cons_append, List.getElem?_cons_zero, List.getElem?_cons_succ, loopR_normal, loopR_exit, loopR_ret, Option.map_some, ite_true, reduceIte, reg48_0, st48_0_0, st48_0_1, reg48_1, st48_1_0, st48_1_1, st48_1_2, st48_1_3, reg48_2, st48_2_0, st48_2_1, st48_2_2, st48_2_3, reg48_3, st48_3_0, reg48_4, st48_4_0, st48_4_1, st48_4_2, st48_4_3, st48_4_4, st48_4_5, st48_4_6, st48_4_7, reg48_6, st48_6_0, st48_6_1, st48_6_2, st48_6_3, st48_6_4, st48_6_5, st48_6_6, st48_6_7, reg48_5, st48_5_0, st48_5_1, st48_5_2, reg48_7, st48_7_0, st48_7_1, hl, i_lss, d]
    exact ⟨z, nrm_flat (q1.trans r3) rfl⟩

theorem much25 {N : Nat} (F : ∀ M, M < N → MuchFam M) {h : AH} {T : Nd} (hN : T.sz ≤ N) (hb : T.sz ≤ 1048576) (hv : T.ok h) (n : Nat) (hn : 8 * T.sz + 4 ≤ n) : Num n 25 [.agg T.cells] h := by
  obtain ⟨m, rfl⟩ : ∃ m, n = m + 1 := ⟨n - 1, by omega⟩
  obtain ⟨kd, name, nt, inn, so, ops, sa, az, sw, ws, sr, rs, sm, ms, sk, kids⟩ := T
  simp only [Nd.sz] at hN hb hn
  simp only [Nd.ok] at hv
  obtain ⟨vo, ⟨va1, va2⟩, ⟨vw1, vw2⟩, ⟨vr1, vr2⟩, ⟨vm1, vm2⟩, vk1, vk2⟩ := hv
  have G := F (N - 1) (by omega)
  have q1 : Quiet h (h.alloc (Nd.cells (.mk kd name nt inn so ops sa az sw ws sr rs sm ms sk kids))) := Other.alloc _ _ _
  have HB := Has.new h (Nd.cells (.mk kd name nt inn so ops sa az sw ws sr rs sm ms sk kids))
  generalize hh1 : h.alloc (Nd.cells (.mk kd name nt inn so ops sa az sw ws sr rs sm ms sk kids)) = h1 at *
  have cell : ∀ {h' : AH}, Quiet h1 h' → ∀ i v, (Nd.cells (.mk kd name nt inn so ops sa az sw ws sr rs sm ms sk kids))[i]? = some v → h'.cell? h.next i = some v := fun q i v hi => by
    have := (HB.quiet q).cell hi
    rwa [Nat.zero_add] at this
  have c1 := cell (Other.refl _ _) 1 (.str name) rfl
  have c4 := cell (Other.refl _ _) 4 so rfl
  have c9 := cell (Other.refl _ _) 9 sk rfl
  have c5 := cell (Other.refl _ _) 5 sa rfl
  have c6 := cell (Other.refl _ _) 6 sw rfl
  have c7 := cell (Other.refl _ _) 7 sr rfl
  have c8 := cell (Other.refl _ _) 8 sm rfl
  have hlo : alen Try.prog 43 so = some ops.length := by rw [vo.alen u43, List.length_map]
  obtain ⟨z1, e1⟩ := G.wds (h := h1) (s := sa) (l := az) (by omega) (by omega) (okW.quiet q1 va2) (va1.quiet q1) m (by omega)
  obtain ⟨z2, e2⟩ := G.wds (h := h1) (s := sw) (l := ws) (by omega) (by omega) (okW.quiet q1 vw2) (vw1.quiet q1) m (by omega)
  obtain ⟨z3, e3⟩ := G.all (h := h1) (s := sk) (l := kids) (by omega) (by omega) (okN.quiet q1 vk2) (vk1.quiet q1) m (by omega)
  have lr2 := szR_len rs
  have lm2 := szM_len ms
  have hlr : alen Try.prog 45 sr = some rs.length := by rw [vr1.alen u45, List.length_map]
  have hlm : alen Try.prog 46 sm = some ms.length := by rw [vm1.alen u46, List.length_map]
  unfold Num
  rw [ent25]
  unfold cd25
  simp (implicitDefEqProofs := false) only [run_seq, run_cond, opsS_cons, opsS_nil, sameH_f, sameH_t, run_block, run_loop, run_exit, run_ret, run_skip, ops_cons, ops_nil, ev_tmp, pureS_some, heapS_some, heapN_some, gdS_tt, gdS_ff, gdS_tf, gdS_ft, gdS_undef, List.getD_cons_succ, List.getD_cons_zero, List.set_cons_succ, List.set_cons_zero, Option.bind_some, regR_some, seqR_normal, seqR_ret, seqR_exit, fin0_ret, fin0_normal, fin1_ret, fin1_normal, finN_ret, finN_normal, List.map_cons, List.map_nil, lenV_some, pickV_t, pickV_f, callV_func, callV_yield, extV_tup, condR_true, condR_false, blockR_normal, blockR_ret, blockR_exit, if_true, List.nil_append, List.append_nil, List.cons_append, List.getElem?_cons_zero, List.getElem?_cons_succ, loopR_normal, loopR_exit, loopR_ret, Option.map_some, ite_true, reduceIte, reg25_0, st25_0_0, st25_0_1, reg25_1, st25_1_0, st25_1_1, st25_1_2, st25_1_3, st25_1_4, st25_1_5, st25_1_6, st25_1_7, st25_1_8, st25_1_9, st25_1_10, st25_1_11, st25_1_12, st25_1_13, st25_1_14, st25_1_15, st25_1_16, st25_1_17, st25_1_18, st25_1_19, st25_1_20, st25_1_21, reg25_2, st25_2_0, reg25_3, st25_3_0, st25_3_1, st25_3_2, st25_3_3, st25_3_4, st25_3_5, st25_3_6, st25_3_7, st25_3_8, reg25_5, st25_5_0, st25_5_1, st25_5_2, st25_5_3, st25_5_4, st25_5_5, st25_5_6, st25_5_7, st25_5_8, st25_5_9, st25_5_10, st25_5_11, st25_5_12, st25_5_13, st25_5_14, st25_5_15, st25_5_16, st25_5_17, st25_5_18, st25_5_19, st25_5_20, st25_5_21, st25_5_22, st25_5_23, st25_5_24, st25_5_25, st25_5_26, st25_5_27, st25_5_28, reg25_4, st25_4_0, st25_4_1, st25_4_2, reg25_6, st25_6_0, reg25_7, st25_7_0, st25_7_1, st25_7_2, st25_7_3, st25_7_4, st25_7_5, st25_7_6, st25_7_7, st25_7_8, reg25_9, st25_9_0, st25_9_1, st25_9_2, st25_9_3, st25_9_4, st25_9_5, st25_9_6, st25_9_7, st25_9_8, st25_9_9, st25_9_10, st25_9_11, st25_9_12, st25_9_13, st25_9_14, st25_9_15, st25_9_16, st25_9_17, st25_9_18, reg25_8, st25_8_0, st25_8_1, st25_8_2, reg25_10, st25_10_0, st25_10_1, box_agg, hh1, fa49_0, fa49_1, fa49_2, fa49_3, fa49_4, fa49_5, fa49_6, fa49_7, fa49_8, fa49_9, fa60_0, fa73_0, fa73_1, fa73_2, fa73_3, fa76_0, fa76_1, fa78_0, fa78_1, fa78_2, fa78_3, fa78_4, Nat.zero_add, ld9, ld43, ld47, ld44, c1, c4, c9, c5, c6, len9, hlo, i_quo10, e1, e2, e3, i_add]
  generalize hr : aloop _ _ _ _ _ = r
  revert r hr
  -- the second loop, wherever it begins
  have second : ∀ (z : Int) (fr : List AV), aclear (HK 25) lp25_7 fr = C25_7 (.ptr h.next 0) (.int .i64 z) (.int .i64 0) → ∃ z', nrm h (fin1 (seqR (blockR 2 (aloop (arun Try.prog (HK 25) 25 (X m) m none lp25_7) (aclear (HK 25) lp25_7) m fr h1)) (arun Try.prog (HK 25) 25 (X m) m none ((Code.region 10 (rg Try.f25 10) false).seq .ret))) 2) = some (.int .i64 z', h) := by
    intro z fr0 e0
    generalize hr : aloop _ _ _ _ _ = r
    revert r hr
    refine loop_all ms.length (fun i h'' fr => ∃ z : Int, h'' = h1 ∧ fr = C25_7 (.ptr h.next 0) (.int .i64 z) (.int .i64 (i : Int))) ?_ ?_ ⟨z, rfl, e0⟩ (by omega)
    · rintro i h'' fr hi ⟨z, rfl, e⟩ k2 hk2
      have hm : ms[i]? = some ms[i] := List.getElem?_eq_getElem hi
      have hmem : ms[i] ∈ ms := List.getElem_mem hi
      have hx : (ms.map Am.cells)[i]? = some ms[i].cells := by rw [List.getElem?_map, hm]; rfl
      obtain ⟨id, off, i1, H⟩ := vm1.ix u46 z76 hx
      have hsz := szM_mem hmem
      have hok := okM_mem vm2 _ hmem
      generalize ms[i] = x at *
      obtain ⟨s, pats, body⟩ := x
      simp only [Am.ok] at hok
      simp only [Am.sz] at hsz
      have H0 := H.quiet q1
      have a0 : h''.cell? id (off + 0) = some s := H0.cell (i := 0) rfl
      have H1 : Has h'' id (off + 1) body.cells := by
        have := Has.part (a := [s]) (p := body.cells) (c := []) (by simpa [Am.cells] using H0)
        exact this
      have r2 := ldS H1 body.cells_len
      have d : decide ((i : Int) < (ms.length : Int)) = true := by simp; omega
      have w := wrap_succ i (by omega)
      rw [e]
      by_cases hz : z ≤ 1000
      · have d2 : decide (z ≤ 1000) = true := by simp [hz]
        obtain ⟨z4, e4⟩ := G.wds (h := h'') (s := s) (l := pats) (by omega) (by omega) (okW.quiet q1 hok.2.1) (hok.1.quiet q1) m (by omega)
        obtain ⟨z5, e5⟩ := G.one (h := h'') (T := body) (by omega) (by omega) (hok.2.2.quiet q1) m (by omega)
        unfold C25_7 lp25_7
        simp (implicitDefEqProofs := false) only [run_seq, run_cond, opsS_cons, opsS_nil, sameH_f, sameH_t, run_block, run_loop, run_exit, run_ret, run_skip, ops_cons, ops_nil, ev_tmp, pureS_some, heapS_some, heapN_some, gdS_tt, gdS_ff, gdS_tf, gdS_ft, gdS_undef, List.getD_cons_succ, List.getD_cons_zero, List.set_cons_succ, List.set_cons_zero, Option.bind_some, regR_some, seqR_normal, seqR_ret, seqR_exit, fin0_ret, fin0_normal, fin1_ret, fin1_normal, finN_ret, finN_normal, List.map_cons, List.map_nil, lenV_some, pickV_t, pickV_f, callV_func, callV_yield, extV_tup, condR_true, condR_false, blockR_normal, blockR_ret, blockR_exit, if_true, List.nil_append, List.append_nil, List.cons_append, List.getElem?_cons_zero, List.getElem?_cons_succ, loopR_normal, loopR_exit, loopR_ret, Option.map_some, ite_true, reduceIte, reg25_0, st25_0_0, st25_0_1, reg25_1, st25_1_0, st25_1_1, st25_1_2, st25_1_3, st25_1_4, st25_1_5, st25_1_6, st25_1_7, st25_1_8, st25_1_9, st25_1_10, st25_1_11, st25_1_12, st25_1_13, st25_1_14, st25_1_15, st25_1_16, st25_1_17, st25_1_18, st25_1_19, st25_1_20, st25_1_21, reg25_2, st25_2_0, reg25_3, st25_3_0, st25_3_1, st25_3_2, st25_3_3, st25_3_4, st25_3_5, st25_3_6, st25_3_7, st25_3_8, reg25_5, st25_5_0, st25_5_1, st25_5_2, st25_5_3, st25_5_4, st25_5_5, st25_5_6, st25_5_7, st25_5_8, st25_5_9, st25_5_10, st25_5_11, st25_5_12, st25_5_13, st25_5_14, st25_5_15, st25_5_16, st25_5_17, st25_5_18, st25_5_19, st25_5_20, st25_5_21, st25_5_22, st25_5_23, st25_5_24, st25_5_25, st25_5_26, st25_5_27, st25_5_28, reg25_4, st25_4_0, st25_4_1, st25_4_2, reg25_6, st25_6_0, reg25_7, st25_7_0, st25_7_1, st25_7_2, st25_7_3, st25_7_4, st25_7_5, st25_7_6, st25_7_7, st25_7_8, reg25_9, st25_9_0, st25_9_1, st25_9_2, st25_9_3, st25_9_4, st25_9_5, st25_9_6, st25_9_7, st25_9_8, st25_9_9, st25_9_10, st25_9_11, st25_9_12, st25_9_13, st25_9_14, st25_9_15, st25_9_16, st25_9_17, st25_9_18, reg25_8, st25_8_0, st25_8_1, st25_8_2, reg25_10, st25_10_0, st25_10_1, fa49_0, fa49_1, fa49_2, fa49_3, fa49_4, fa49_5, fa49_6, fa49_7, fa49_8, fa49_9, fa60_0, fa73_0, fa73_1, fa73_2, fa73_3, fa76_0, fa76_1, fa78_0, fa78_1, fa78_2, fa78_3, fa78_4, Nat.zero_add, ld46, c8, hlm, i_lss, i_leq, d, d2, i1, ld44, a0, ld49, r2, e4, e5, i_add, w]
        exact hk2 _ _ ⟨_, rfl, by rw [cl25_7]⟩
      · have d2 : decide (z ≤ 1000) = false := by simp [hz]
        unfold C25_7 lp25_7
        simp (implicitDefEqProofs := false) only [run_seq, run_cond, opsS_cons, opsS_nil, sameH_f, sameH_t, run_block, run_loop, run_exit, run_ret, run_skip, ops_cons, ops_nil, ev_tmp, pureS_some, heapS_some, heapN_some, gdS_tt, gdS_ff, gdS_tf, gdS_ft, gdS_undef, List.getD_cons_succ, List.getD_cons_zero, List.set_cons_succ, List.set_cons_zero, Option.bind_some, regR_some, seqR_normal, seqR_ret, seqR_exit, fin0_ret, fin0_normal, fin1_ret, fin1_normal, finN_ret, finN_normal, List.map_cons, List.map_nil, lenV_some, pickV_t, pickV_f, callV_func, callV_yield, extV_tup, condR_true, condR_false, blockR_normal, blockR_ret, blockR_exit, if_true, List.nil_append, List.append_nil, List.cons_append, List.getElem?_cons_zero, List.getElem?_cons_succ, loopR_normal, loopR_exit, loopR_ret, Option.map_some, ite_true, reduceIte, reg25_0, st25_0_0, st25_0_1, reg25_1, st25_1_0, st25_1_1, st25_1_2, st25_1_3, st25_1_4, st25_1_5, st25_1_6, st25_1_7, st25_1_8, st25_1_9, st25_1_10, st25_1_11, st25_1_12, st25_1_13, st25_1_14, st25_1_15, st25_1_16, st25_1_17, st25_1_18, st25_1_19, st25_1_20, st25_1_21, reg25_2, st25_2_0, reg25_3, st25_3_0, st25_3_1, st25_3_2, st25_3_3, st25_3_4, st25_3_5, st25_3_6, st25_3_7, st25_3_8, reg25_5, st25_5_0, st25_5_1, st25_5_2, st25_5_3, st25_5_4, st25_5_5, st25_5_6, st25_5_7, st25_5_8, st25_5_9, st25_5_10, st25_5_11, st25_5_12, st25_5_13, st25_5_14, st25_5_15, st25_5_16, st25_5_17, st25_5_18, st25_5_19, st25_5_20, st25_5_21, st25_5_22, st25_5_23, st25_5_24, st25_5_25, st25_5_26, st25_5_27, st25_5_28, reg25_4, st25_4_0, st25_4_1, st25_4_2, reg25_6, st25_6_0, reg25_7, st25_7_0, st25_7_1, st25_7_2, st25_7_3, st25_7_4, st25_7_5, st25_7_6, st25_7_7, st25_7_8, reg25_9, st25_9_0, st25_9_1, st25_9_2, st25_9_3, st25_9_4, st25_9_5, st25_9_6, st25_9_7, st25_9_8, st25_9_9, st25_9_10, st25_9_11, st25_9_12, st25_9_13, st25_9_14, st25_9_15, st25_9_16, st25_9_17, st25_9_18, reg25_8, st25_8_0, st25_8_1, st25_8_2, reg25_10, st25_10_0, st25_10_1, fa49_0, fa49_1, fa49_2, fa49_3, fa49_4, fa49_5, fa49_6, fa49_7, fa49_8, fa49_9, fa60_0, fa73_0, fa73_1, fa73_2, fa73_3, fa76_0, fa76_1, fa78_0, fa78_1, fa78_2, fa78_3, fa78_4, Nat.zero_add, ld46, c8, hlm, i_lss, i_leq, d, d2]
        exact ⟨z, nrm_flat q1 rfl⟩
    · rintro h'' fr ⟨z, rfl, e⟩ k2
      have d : decide ((ms.length : Int) < (ms.length : Int)) = false := by simp
      rw [e]
      unfold C25_7 lp25_7
      simp (implicitDefEqProofs := false) only [run_seq, run_cond, opsS_cons, opsS_nil, sameH_f, sameH_t, run_block, run_loop, run_exit, run_ret, run_skip, ops_cons, ops_nil, ev_tmp, pureS_some, heapS_some, heapN_some, gdS_tt, gdS_ff, gdS_tf, gdS_ft, gdS_undef, List.getD_cons_succ, List.getD_cons_zero, List.set_cons_succ, List.set_cons_zero, Option.bind_some, regR_some, seqR_normal, seqR_ret, seqR_exit, fin0_ret, fin0_normal, fin1_ret, fin1_normal, finN_ret, finN_normal, List.map_cons, List.map_nil, lenV_some, pickV_t, pickV_f, callV_func, callV_yield, extV_tup, condR_true, condR_false, blockR_normal, blockR_ret, blockR_exit, if_true, List.nil_append, List.append_nil, List.cons_append, List.getElem?_cons_zero, List.getElem?_cons_succ, loopR_normal, loopR_exit, loopR_ret, Option.map_some, ite_true, reduceIte, reg25_0, st25_0_0, st25_0_1, reg25_1, st25_1_0, st25_1_1, st25_1_2, st25_1_3, st25_1_4, st25_1_5, st25_1_6, st25_1_7, st25_1_8, st25_1_9, st25_1_10, st25_1_11, st25_1_12, st25_1_13, st25_1_14, st25_1_15, st25_1_16, st25_1_17, st25_1_18, st25_1_19, st25_1_20, st25_1_21, reg25_2, st25_2_0, reg25_3, st25_3_0, st25_3_1, st25_3_2, st25_3_3, st25_3_4, st25_3_5, st25_3_6, st25_3_7, st25_3_8, reg25_5, st25_5_0, st25_5_1, st25_5_2, st25_5_3, st25_5_4, st25_5_5, st25_5_6, st25_5_7, st25_5_8, st25_5_9, st25_5_10, st25_5_11, st25_5_12, st25_5_13, st25_5_14, st25_5_15, st25_5_16, st25_5_17, st25_5_18, st25_5_19, st25_5_20, st25_5_21, st25_5_22, st25_5_23, st25_5_24, st25_5_25, st25_5_26, st25_5_27, st25_5_28, reg25_4, st25_4_0, st25_4_1, st25_4_2, reg25_6, st25_6_0, reg25_7, st25_7_0, st25_7_1, st25_7_2, st25_7_3, st25_7_4, st25_7_5, st25_7_6, st25_7_7, st25_7_8, reg25_9, st25_9_0, st25_9_1, st25_9_2, st25_9_3, st25_9_4, st25_9_5, st25_9_6, st25_9_7, st25_9_8, st25_9_9, st25_9_10, st25_9_11, st25_9_12, st25_9_13, st25_9_14, st25_9_15, st25_9_16, st25_9_17, st25_9_18, reg25_8, st25_8_0, st25_8_1, st25_8_2, reg25_10, st25_10_0, st25_10_1, fa49_0, fa49_1, fa49_2, fa49_3, fa49_4, fa49_5, fa49_6, fa49_7, fa49_8, fa49_9, fa60_0, fa73_0, fa73_1, fa73_2, fa73_3, fa76_0, fa76_1, fa78_0, fa78_1, fa78_2, fa78_3, fa78_4, Nat.zero_add, ld46, c8, hlm, i_lss, d]
      exact ⟨z, nrm_flat q1 rfl⟩
  refine loop_all rs.length (fun i h' fr => ∃ z : Int, h' = h1 ∧ fr = C25_3 (.ptr h.next 0) (.int .i64 z) (.int .i64 (i : Int))) ?_ ?_ ⟨_, rfl, by rw [cl25_3]; rfl⟩ (by omega)
  · rintro i h' fr hi ⟨z, rfl, e⟩ k hk
    have hm : rs[i]? = some rs[i] := List.getElem?_eq_getElem hi
    have hmem : rs[i] ∈ rs := List.getElem_mem hi
    have hx : (rs.map Rdr.cells)[i]? = some rs[i].cells := by rw [List.getElem?_map, hm]; rfl
    obtain ⟨id, off, i1, H⟩ := vr1.ix u45 z73 hx
    have hsz := szR_mem hmem
    have hok := okR_mem vr2 _ hmem
    generalize rs[i] = x at *
    obtain ⟨num, op, s, ps, here⟩ := x
    simp only [Rdr.ok] at hok
    simp only [Rdr.sz] at hsz
    have H0 := H.quiet q1
    have a0 : h'.cell? id (off + 0) = some (.str num) := H0.cell (i := 0) rfl
    have a3 : h'.cell? id (off + 3) = some (.str here) := H0.cell (i := 3) rfl
    have H2 : Has h' id (off + 2) [s] := H0.part (a := [.str num, .int .i64 op]) (p := [s]) (c := [.str here])
    have r2 := ldS H2 (n := 1) rfl
    have d : decide ((i : Int) < (rs.length : Int)) = true := by simp; omega
    have w := wrap_succ i (by omega)
    rw [e]
    by_cases hz : z ≤ 1000
    · have d2 : decide (z ≤ 1000) = true := by simp [hz]
      obtain ⟨z4, e4⟩ := G.wd (h := h') (w := .mk s ps) (by simp only [Wd.sz]; omega) (by simp only [Wd.sz]; omega) (by simp only [Wd.ok]; exact ⟨hok.1.quiet q1, okP.quiet q1 hok.2⟩) m (by simp only [Wd.sz]; omega)
      simp only [Wd.cells] at e4
      unfold C25_3 lp25_3
      simp (implicitDefEqProofs := false) only [run_seq, run_cond, opsS_cons, opsS_nil, sameH_f, sameH_t, run_block, run_loop, run_exit, run_ret, run_skip, ops_cons, ops_nil, ev_tmp, pureS_some, heapS_some, heapN_some, gdS_tt, gdS_ff, gdS_tf, gdS_ft, gdS_undef, List.getD_cons_succ, List.getD_cons_zero, List.set_cons_succ, List.set_cons_zero, Option.bind_some, regR_some, seqR_normal, seqR_ret, seqR_exit, fin0_ret, fin0_normal, fin1_ret, fin1_normal, finN_ret, finN_normal, List.map_cons, List.map_nil, lenV_some, pickV_t, pickV_f, callV_func, callV_yield, extV_tup, condR_true, condR_false, blockR_normal, blockR_ret, blockR_exit, if_true, List.nil_append, List.append_nil, List.cons_append, List.getElem?_cons_zero, List.getElem?_cons_succ, loopR_normal, loopR_exit, loopR_ret, Option.map_some, ite_true, reduceIte, reg25_0, st25_0_0, st25_0_1, reg25_1, st25_1_0, st25_1_1, st25_1_2, st25_1_3, st25_1_4, st25_1_5, st25_1_6, st25_1_7, st25_1_8, st25_1_9, st25_1_10, st25_1_11, st25_1_12, st25_1_13, st25_1_14, st25_1_15, st25_1_16, st25_1_17, st25_1_18, st25_1_19, st25_1_20, st25_1_21, reg25_2, st25_2_0, reg25_3, st25_3_0, st25_3_1, st25_3_2, st25_3_3, st25_3_4, st25_3_5, st25_3_6, st25_3_7, st25_3_8, reg25_5, st25_5_0, st25_5_1, st25_5_2, st25_5_3, st25_5_4, st25_5_5, st25_5_6, st25_5_7, st25_5_8, st25_5_9, st25_5_10, st25_5_11, st25_5_12, st25_5_13, st25_5_14, st25_5_15, st25_5_16, st25_5_17, st25_5_18, st25_5_19, st25_5_20, st25_5_21, st25_5_22, st25_5_23, st25_5_24, st25_5_25, st25_5_26, st25_5_27, st25_5_28, reg25_4, st25_4_0, st25_4_1, st25_4_2, reg25_6, st25_6_0, reg25_7, st25_7_0, st25_7_1, st25_7_2, st25_7_3, st25_7_4, st25_7_5, st25_7_6, st25_7_7, st25_7_8, reg25_9, st25_9_0, st25_9_1, st25_9_2, st25_9_3, st25_9_4, st25_9_5, st25_9_6, st25_9_7, st25_9_8, st25_9_9, st25_9_10, st25_9_11, st25_9_12, st25_9_13, st25_9_14, st25_9_15, st25_9_16, st25_9_17, st25_9_18, reg25_8, st25_8_0, st25_8_1, st25_8_2, reg25_10, st25_10_0, st25_10_1, fa49_0, fa49_1, fa49_2, fa49_3, fa49_4, fa49_5, fa49_6, fa49_7, fa49_8, fa49_9, fa60_0, fa73_0, fa73_1, fa73_2, fa73_3, fa76_0, fa76_1, fa78_0, fa78_1, fa78_2, fa78_3, fa78_4, Nat.zero_add, ld45, c7, hlr, i_lss, i_leq, d, d2, i1, ld9, a0, a3, len9, i_quo10, ld60, r2, e4, i_add, w]
      exact hk _ _ ⟨_, rfl, by rw [cl25_3]⟩
    · have d2 : decide (z ≤ 1000) = false := by simp [hz]
      unfold C25_3 lp25_3
      simp (implicitDefEqProofs := false) only [run_seq, run_cond, opsS_cons, opsS_nil, sameH_f, sameH_t, run_block, run_loop, run_exit, run_ret, run_skip, ops_cons, ops_nil, ev_tmp, pureS_some, heapS_some, heapN_some, gdS_tt, gdS_ff, gdS_tf, gdS_ft, gdS_undef, List.getD_cons_succ, List.getD_cons_zero, List.set_cons_succ, List.set_cons_zero, Option.bind_some, regR_some, seqR_normal, seqR_ret, seqR_exit, fin0_ret, fin0_normal, fin1_ret, fin1_normal, finN_ret, finN_normal, List.map_cons, List.map_nil, lenV_some, pickV_t, pickV_f, callV_func, callV_yield, extV_tup, condR_true, condR_false, blockR_normal, blockR_ret, blockR_exit, if_true, List.nil_append, List.append_nil, List.cons_append, List.getElem?_cons_zero, List.getElem?_cons_succ, loopR_normal, loopR_exit, loopR_ret, Option.map_some, ite_true, reduceIte, reg25_0, st25_0_0, st25_0_1, reg25_1, st25_1_0, st25_1_1, st25_1_2, st25_1_3, st25_1_4, st25_1_5, st25_1_6, st25_1_7, st25_1_8, st25_1_9, st25_1_10, st25_1_11, st25_1_12, st25_1_13, st25_1_14, st25_1_15, st25_1_16, st25_1_17, st25_1_18, st25_1_19, st25_1_20, st25_1_21, reg25_2, st25_2_0, reg25_3, st25_3_0, st25_3_1, st25_3_2, st25_3_3, st25_3_4, st25_3_5, st25_3_6, st25_3_7, st25_3_8, reg25_5, st25_5_0, st25_5_1, st25_5_2, st25_5_3, st25_5_4, st25_5_5, st25_5_6, st25_5_7, st25_5_8, st25_5_9, st25_5_10, st25_5_11, st25_5_12, st25_5_13, st25_5_14, st25_5_15, st25_5_16, st25_5_17, st25_5_18, st25_5_19, st25_5_20, st25_5_21, st25_5_22, st25_5_23, st25_5_24, st25_5_25, st25_5_26, st25_5_27, st25_5_28, reg25_4, st25_4_0, st25_4_1, st25_4_2, reg25_6, st25_6_0, reg25_7, st25_7_0, st25_7_1, st25_7_2, st25_7_3, st25_7_4, st25_7_5, st25_7_6, st25_7_7, st25_7_8, reg25_9, st25_9_0, st25_9_1, st25_9_2, st25_9_3, st25_9_4, st25_9_5, st25_9_6, st25_9_7, st25_9_8, st25_9_9, st25_9_10, st25_9_11, st25_9_12, st25_9_13, st25_9_14, st25_9_15, st25_9_16, st25_9_17, st25_9_18, reg25_8, st25_8_0, st25_8_1, st25_8_2, reg25_10, st25_10_0, st25_10_1, fa49_0, fa49_1, fa49_2, fa49_3, fa49_4, fa49_5, fa49_6, fa49_7, fa49_8, fa49_9, fa60_0, fa73_0, fa73_1, fa73_2, fa73_3, fa76_0, fa76_1, fa78_0, fa78_1, fa78_2, fa78_3, fa78_4, Nat.zero_add, ld45, c7, hlr, i_lss, i_leq, d, d2]
      exact second z _ (by rw [cl25_7])
  · rintro h' fr ⟨z, rfl, e⟩ k
    have d : decide ((rs.length : Int) < (rs.length : Int)) = false := by simp
    rw [e]
    unfold C25_3 lp25_3
    simp (implicitDefEqProofs := false) only [run_seq, run_cond, opsS_cons, opsS_nil, sameH_f, sameH_t, run_block, run_loop, run_exit, run_ret, run_skip, ops_cons, ops_nil, ev_tmp, pureS_some, heapS_some, heapN_some, gdS_tt, gdS_ff, gdS_tf, gdS_ft, gdS_undef, List.getD_cons_succ, List.getD_cons_zero, List.set_cons_succ, List.set_cons_zero, Option.bind_some, regR_some, seqR_normal, seqR_ret, seqR_exit, fin0_ret, fin0_normal, fin1_ret, fin1_normal, finN_ret, finN_normal, List.map_cons, List.map_nil, lenV_some, pickV_t, pickV_f, callV_func, callV_yield, extV_tup, condR_true, condR_false, blockR_normal, blockR_ret, blockR_exit, if_true, List.nil_append, List.append_nil, List.cons_append, List.getElem?_cons_zero, List.getElem?_cons_succ, loopR_normal, loopR_exit, loopR_ret, Option.map_some, ite_true, reduceIte, reg25_0, st25_0_0, st25_0_1, reg25_1, st25_1_0, st25_1_1, st25_1_2, st25_1_3, st25_1_4, st25_1_5, st25_1_6, st25_1_7, st25_1_8, st25_1_9, st25_1_10, st25_1_11, st25_1_12, st25_1_13, st25_1_14, st25_1_15, st25_1_16, st25_1_17, st25_1_18, st25_1_19, st25_1_20, st25_1_21, reg25_2, st25_2_0, reg25_3, st25_3_0, st25_3_1, st25_3_2, st25_3_3, st25_3_4, st25_3_5, st25_3_6, st25_3_7, st25_3_8, reg25_5, st25_5_0, st25_5_1, st25_5_2, st25_5_3, st25_5_4, st25_5_5, st25_5_6, st25_5_7, st25_5_8, st25_5_9, st25_5_10, st25_5_11, st25_5_12, st25_5_13, st25_5_14, st25_5_15, st25_5_16, st25_5_17, st25_5_18, st25_5_19, st25_5_20, st25_5_21, st25_5_22, st25_5_23, st25_5_24, st25_5_25, st25_5_26, st25_5_27, st25_5_28, reg25_4, st25_4_0, st25_4_1, st25_4_2, reg25_6, st25_6_0, reg25_7, st25_7_0, st25_7_1, st25_7_2, st25_7_3, st25_7_4, st25_7_5, st25_7_6, st25_7_7, st25_7_8, reg25_9, st25_9_0, st25_9_1, st25_9_2, st25_9_3, st25_9_4, st25_9_5, st25_9_6, st25_9_7, st25_9_8, st25_9_9, st25_9_10, st25_9_11, st25_9_12, st25_9_13, st25_9_14, st25_9_15, st25_9_16, st25_9_17, st25_9_18, reg25_8, st25_8_0, st25_8_1, st25_8_2, reg25_10, st25_10_0, st25_10_1, fa49_0, fa49_1, fa49_2, fa49_3, fa49_4, fa49_5, fa49_6, fa49_7, fa49_8, fa49_9, fa60_0, fa73_0, fa73_1, fa73_2, fa73_3, fa76_0, fa76_1, fa78_0, fa78_1, fa78_2, fa78_3, fa78_4, Nat.zero_add, ld45, c7, hlr, i_lss, d]
    exact second z _ (by rw [cl25_7])
theorem much_fam : ∀ N, MuchFam N := by
  intro N
  induction N using Nat.strongRecOn
  rename_i N ih
  have one : ∀ {h : AH} {T : Nd}, T.sz ≤ N → T.sz ≤ 1048576 → T.ok h → ∀ n, 8 * T.sz + 4 ≤ n → Num n 25 [.agg T.cells] h := fun h1 h2 h3 n hn => much25 ih h1 h2 h3 n hn
  have all : ∀ {h : AH} {s : AV} {l : List Nd}, szN l ≤ N → szN l ≤ 1048576 → okN h l → Sl h s 10 (l.map Nd.cells) → ∀ n, 8 * szN l + 5 ≤ n → Num n 47 [s] h := fun h1 h2 h3 h4 n hn => much47 one h1 h2 h3 h4 n hn
  have wd : ∀ {h : AH} {w : Wd}, w.sz ≤ N → w.sz ≤ 1048576 → w.ok h → ∀ n, 8 * w.sz + 6 ≤ n → Num n 48 [.agg w.cells] h := fun h1 h2 h3 n hn => much48 all h1 h2 h3 n hn
  exact ⟨one, all, wd, fun h1 h2 h3 h4 n hn => much46 wd h1 h2 h3 h4 n hn⟩
theorem much_ok {h : AH} {T : Nd} (hb : T.sz ≤ 1048576) (hv : T.ok h) (n : Nat) (hn : 8 * T.sz + 4 ≤ n) : Num n 25 [.agg T.cells] h := (much_fam T.sz).one (Nat.le_refl _) hb hv n hn
end Go.Proofs.Ytgnacecplaemlaa
